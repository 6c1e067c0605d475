/- Contracts and plain laws that the statement rests on, part 2. Conditions: as each says. -/
import Derived.Test.YthcpkoephapecaaGreatDoorT1
set_option linter.unusedVariables false
set_option linter.unusedSimpArgs false
namespace Go.E
section
variable {P : Program} {n : Nat} {D : List Deferred} {E : bN} {M : World → Prop} {d : Option Nat} {ty : TypeId} {pos : String} {aft : Array Edge} {gd : Option (Nat × Bool)}
theorem yn {x : Operand} {T el : TypeId} {size bytes : Nat} {zero : Value} {p : Option Addr} {len cap : Nat} [TI P T (.slice el) size bytes zero] (hx : ev E x = some (.slice p len cap)) : Gives P n D E M ⟨d,.call ⟨.builtin .cap,[x].toArray,[T].toArray⟩,ty,pos,aft,gd⟩ (I cap):=Gives.mk fun a w hs _=>by
 simp [execOp,resolve,hs.ev hx,invoke,builtin,Builtin.cap_,cr (T:=T) (desc:=.slice el) (size:=size) (bytes:=bytes) (zero:=zero),goInt]
theorem abM {T el : TypeId} {x lo : Operand} {desc' : TypeDesc} {size bytes size' bytes' : Nat} {zero zero' : Value} {k : IntKind} {m : Int} {b o len cap : Nat} [TI P T (.slice el) size bytes zero] [TI P el desc' size' bytes' zero']
  (hx : ev E x = some (.slice (some ⟨b,o,none⟩) len cap)) (hl : ev E lo = some (.int k m)) (h0 : 0 ≤ m ∧ m ≤ len ∧ m < cap) :
  Gives P n D E M ⟨d,.slice T x (some lo) none none,ty,pos,aft,gd⟩ (.slice (some ⟨b,o + m.toNat * size',none⟩) (len - m.toNat) (cap - m.toNat)):=by
 obtain ⟨o',h1,h2⟩:=xn (P:=P) (n:=n) (D:=D) (M:=M) (d:=d) (ty:=ty) (pos:=pos) (aft:=aft) (gd:=gd) (T:=T) (el:=el) (desc':=desc') (size':=size') (bytes':=bytes') (zero':=zero') (size:=size) (bytes:=bytes) (zero:=zero) hx hl ⟨h0.1,h0.2.1⟩
 rw [← h1 h0.2.2];exact h2
theorem qz {S : World → Prop} {G0 : Gh} {L0 : List Own} [k : Kn S G0 L0] {b : Nat} {cs : List Value} {T0 : TypeId} {fr : Nat × Nat} (hm : Own.blk b (.cells cs.toArray T0 fr) ∈ L0) {w : World} (hw : S w) : w.shape? b = some (T0,cs.length):=by
 obtain ⟨B,G,L,_,hL,hst⟩:=k.kn w hw
 have h : w.heap[b]? = some (.cells cs.toArray T0 fr):=hst.own _ (hL _ hm)
 simp [World.shape?,h]
theorem abJ {T T' t T0 : TypeId} {x : Operand} {b s1 b1 js jb : Nat} {z1 jz : Value} {jd : TypeDesc} {G0 : Gh} {L0 : List Own} {cs : List Value} {fr : Nat × Nat} [t1 : TI P T (.pointer t) s1 b1 z1] [t2 : TI P t jd js jb jz] [Kn M G0 L0] [h : BlkI L0 b cs T0 fr]
  (hd : P.underlying T' = some .unsafePointer) (hx : ev E x = some (Pt b 0)) (hj : Nat.beq js 0 = false) (hc : cs.isEmpty = false) : Gives P n D E M ⟨d,.convert T T' x,ty,pos,aft,gd⟩ (Pt b 0):=Gives.mk fun a w hs hw=>by
 obtain ⟨j,hj1,hj2,_,_⟩:=t2.inf
 have hl : 0 < cs.length:=by cases cs with | nil=>cases hc | cons=>simp
 have:=Lib.run_to_unsafe (P:=P) w (src:=T) (dst:=T') (t:=t) (j:=j) ⟨b,0,none⟩ t1.und hd hj1 (by rw [hj2];intro e;subst e;simp at hj) (qz (S:=M) h.mem hw) hl
 simp only [execOp,hs.ev hx,Sem.run_bind,this,Result.andThen_ok,Sem.run_pure]
theorem yX {T T' t T0 : TypeId} {x : Operand} {b s1 b1 js jb : Nat} {z1 jz : Value} {jd : TypeDesc} {G0 : Gh} {L0 : List Own} {cs : List Value} {fr : Nat × Nat} [t1 : TI P T' (.pointer t) s1 b1 z1] [t2 : TI P t jd js jb jz] [Kn M G0 L0] [h : BlkI L0 b cs T0 fr]
  (hd : P.underlying T = some .unsafePointer) (hx : ev E x = some (Pt b 0)) (hl : liesAt P P.depth T0 (cs.length / P.cellsOf T0) 0 t 1 = true) : Gives P n D E M ⟨d,.convert T T' x,ty,pos,aft,gd⟩ (Pt b 0):=Gives.mk fun a w hs hw=>by
 obtain ⟨j,hj1,_,_,_⟩:=t2.inf
 have:=Lib.run_from_unsafe (P:=P) w (src:=T) (dst:=T') (u:=t) (j:=j) ⟨b,0,none⟩ hd t1.und hj1 (qz (S:=M) h.mem hw) hl
 simp only [execOp,hs.ev hx,Sem.run_bind,this,Result.andThen_ok,Sem.run_pure]
theorem aaF {T T' el : TypeId} {x y : Operand} {size bytes js jb : Nat} {zero jz : Value} {jd : TypeDesc} {p : Addr} [t1 : TI P T (.pointer el) size bytes zero] [t2 : TI P el jd js jb jz] (hx : ev E x = some (.pointer (some p))) (hy : ev E y = some (.pointer (some p))) : Gives P n D E M ⟨d,.binOp .neq T x y T',ty,pos,aft,gd⟩ (Bo false):=dG hx hy rfl fun w=>by
 obtain ⟨j,hj1,_,_,_⟩:=t2.inf
 exact Lib.run_neq_ptr_same w p t1.und hj1
theorem za {T T' el : TypeId} {x y : Operand} {s1 b1 js jb : Nat} {z1 jz : Value} {jd : TypeDesc} {b o m c : Nat} [t1 : TI P T (.slice el) s1 b1 z1] [t2 : TI P el jd js jb jz] (hx : ev E x = some (.slice (some ⟨b,o,none⟩) m c)) (hy : ev E y = some aQ) :
  Gives P n D E M ⟨d,.call ⟨.builtin .copy,[x,y].toArray,[T,T'].toArray⟩,ty,pos,aft,gd⟩ (I (0 : Nat)):=Gives.mk fun a w hs _=>by
 obtain ⟨j,hj1,_,_,_⟩:=t2.inf
 have h1:=run_copy_nil (P:=P) w T T' ty el ⟨b,o,none⟩ m c t1.und (by rw [hj1];rfl)
 have e1 : ([x,y].toArray.map a.eval) = #[.slice (some ⟨b,o,none⟩) m c,aQ]:=by simp [hs.ev hx,hs.ev hy]
 simp only [execOp,resolve,e1,Sem.run_bind,Sem.run_pure,Result.andThen_ok,invoke,builtin,h1]
 rfl
theorem aaD {T : TypeId} {x : Operand} {b o m c : Nat} (hx : ev E x = some (.slice (some ⟨b,o,none⟩) m c)) (hc : Nat.beq c 0 = false) : Gives P n D E M ⟨d,.call ⟨.builtin .unsafeSliceData,[x].toArray,[T].toArray⟩,ty,pos,aft,gd⟩ (Pt b o):=Gives.mk fun a w hs _=>by
 have h1:=Lib.run_unsafeSliceData_row (P:=P) w #[T] ty ⟨b,o,none⟩ m c (by rintro rfl;simp at hc)
 have e1 : ([x].toArray.map a.eval) = #[.slice (some ⟨b,o,none⟩) m c]:=by simp [hs.ev hx]
 simp only [execOp,resolve,e1,Sem.run_bind,Sem.run_pure,Result.andThen_ok,invoke,builtin,h1]
end
section
variable {P : Program} {n : Nat} {D : List Deferred} {E : bN} {B : Base} {G : Gh} {L : List Own} {K : Act → World → Prop} {Q : Exit → Act → World → Prop} {ty : TypeId} {pos : String} {aft : Array Edge} {gd : Option (Nat × Bool)} {d : Nat}
theorem St.freeze {w : World} {b m cap : Nat} {T : TypeId} {xs : List Value} (h : St B G (.acc (.slice (some ⟨b,0,none⟩) m cap) T 1 m xs :: L) w) (k : Nat) : St B G L (w.freeze ⟨b,0,none⟩ k):=by
 obtain ⟨h1,⟨h2,_⟩ | ⟨b',cap',rest,e,hc,hl,hb⟩⟩ : gM w _ T 1 m xs:=h.own _ List.mem_cons_self
 ·cases h2
 simp only [Value.slice.injEq,Option.some.injEq,Addr.mk.injEq,and_true,true_and] at e
 obtain ⟨rfl,rfl⟩:=e
 unfold World.freeze
 by_cases hk : k = 0
 ·rw [if_pos hk];exact h.weaken (List.sublist_cons_self _ _)
 ·rw [if_neg hk]
  have h2:=h.upd (y:=.blk b (.cells (xs ++ rest).toArray T (0,k))) (w':={ w with heap:=w.heap.modify b fun | .cells c elem (lo,hi)=>.cells c elem (if lo == hi then (0,0 + k) else (min lo 0,max hi (0 + k))) | o=>o }) (b:=b) rfl rfl (by
   show (w.heap.modify b _)[b]? = _
   rw [Array.getElem?_modify,if_pos rfl,hb]
   simp) (fun c hc=>by
    show (w.heap.modify b _)[c]? = _
    rw [Array.getElem?_modify,if_neg (fun e=>hc e.symm)]) rfl rfl rfl (by simp)
  exact h2.weaken (List.sublist_cons_self _ _)
class AccD (L : List Own) (b : Nat) (m cap : outParam Nat) (T : outParam TypeId) (sz : outParam Nat) (xs : outParam (List Value)) (L' : outParam (List Own)) : Prop where
 del : Del (.acc (.slice (some ⟨b,0,none⟩) m cap) T sz m xs) L L'
instance {b m cap : Nat} {T : TypeId} {sz : Nat} {xs : List Value} {r : List Own} : AccD (.acc (.slice (some ⟨b,0,none⟩) m cap) T sz m xs :: r) b m cap T sz xs r:=⟨.here⟩
instance {b m cap : Nat} {T : TypeId} {sz : Nat} {xs : List Value} {z : Own} {r r' : List Own} [h : AccD r b m cap T sz xs r'] : AccD (z :: r) b m cap T sz xs (z :: r'):=⟨.there h.del⟩
theorem aa8 {T T' el : TypeId} {x y : Operand} {b m cap s1 b1 s2 b2 : Nat} {z1 z2 : Value} {l : List UInt8} {L' : List Own} [t1 : TI P T (.pointer el) s1 b1 z1] [t2 : TI P el (.int .u8) s2 b2 z2] [ha : AccD L b m cap el 1 (ck l) L']
  (hc1 : P.cellsOf el = 1) (hx : ev E x = some (Pt b 0)) (hy : ev E y = some (I (m : Nat))) (hlt : Nat.blt d n = true) (hm : m ≤ 9223372036854775807)
  (k : Nx n D ((d,S l) :: E) B G L' K) : Nx n D E B G L (ow P ⟨some d,.call ⟨.builtin .unsafeString,[x,y].toArray,[T,T'].toArray⟩,ty,pos,aft,gd⟩ Q K):=Nx.mk fun a w hs hw=>by
 have hw1:=hw.perm ha.del.perm
 have hat : gM w (.slice (some ⟨b,0,none⟩) m cap) el 1 m (ck l):=hw1.own _ List.mem_cons_self
 obtain ⟨h1,⟨h2,_⟩ | ⟨b',cap',rest,e,hc,hl,hb⟩⟩:=hat
 ·cases h2
 simp only [Value.slice.injEq,Option.some.injEq,Addr.mk.injEq,and_true,true_and] at e
 obtain ⟨rfl,rfl⟩:=e
 have hlm : l.length = m:=by simpa [ck] using h1
 have e1 : ([x,y].toArray.map a.eval) = #[.pointer (some ⟨b,0,none⟩),.int .i64 (m : Nat)]:=by simp [hs.ev hx,hs.ev hy]
 unfold ow Oper.wp
 by_cases h0 : l = []
 ·subst h0
  have hm0 : m = 0:=by simpa using hlm.symm
  subst hm0
  have hr:=Lib.run_unsafeString_none (P:=P) w T T' ty (some ⟨b,0,none⟩)
  have : (execOp a.eval ⟨some d,.call ⟨.builtin .unsafeString,[x,y].toArray,[T,T'].toArray⟩,ty,pos,aft,gd⟩).run P w = .ok (.value (S [])) w:=by
   simp only [execOp,resolve,e1,Sem.run_bind,Sem.run_pure,Result.andThen_ok,invoke,builtin]
   have hr' : (Builtin.unsafeString_ [T,T'].toArray ty #[.pointer (some ⟨b,0,none⟩),.int .i64 ((0 : Nat) : Int)]).run P w = .ok (.string .empty) w:=hr
   rw [hr'];rfl
  rw [this,Oper.upon_value]
  exact k.go _ w (hs.put (by simpa using hlt)) (hw1.weaken (List.sublist_cons_self _ _))
 ·have hcell : ∀ j x,l[j]? = some x → w.cell? ((⟨b,0,none⟩ : Addr).add j) = some (.int .u8 x.toNat):=fun j x hj=>by
   have hv : (ck l)[j]? = some (.int .u8 x.toNat):=by simp [ck,hj]
   rw [mg]
   exact ((gr (S:=St B G (.acc (.slice (some ⟨b,0,none⟩) m cap) el 1 m (ck l) :: L')) (m:=m) (cap:=cap) (T:=el) (sz:=1) (xs:=ck l) List.mem_cons_self).go j _ hv).go w hw1
  have hsh : w.shape? b = some (el,(ck l ++ rest).length):=by simp [World.shape?,hb]
  have hr:=Lib.run_unsafeString_row (P:=P) w T T' ty el t1.und hc1 b _ hsh l h0 (by simp [ck]) oM hcell
  have : (execOp a.eval ⟨some d,.call ⟨.builtin .unsafeString,[x,y].toArray,[T,T'].toArray⟩,ty,pos,aft,gd⟩).run P w = .ok (.value (S l)) (w.freeze ⟨b,0,none⟩ l.length):=by
   simp only [execOp,resolve,e1,Sem.run_bind,Sem.run_pure,Result.andThen_ok,invoke,builtin]
   have hr' : (Builtin.unsafeString_ [T,T'].toArray ty #[.pointer (some ⟨b,0,none⟩),.int .i64 (m : Nat)]).run P w = .ok (S l) (w.freeze ⟨b,0,none⟩ l.length):=by rw [← hlm];exact hr
   rw [hr'];rfl
  rw [this,Oper.upon_value]
  exact k.go _ _ (hs.put (by simpa using hlt)) (hw1.freeze _)
theorem mw (l : List UInt8) : Lib.strCells ⟨l.toArray⟩ = ck l:=by simp [Lib.strCells,ck]
theorem yF {v : Value} {m : Nat} {T T2 el : TypeId} {s1 b1 s2 b2 : Nat} {z1 z2 : Value} {xs : List Value} {l : List UInt8} {w : World} {R : List Own} [h1' : TI P T (.slice el) s1 b1 z1] [h2' : TI P T2 .string s2 b2 z2] [he : TI P el (.int .u8) 1 1 (.int .u8 0)]
  (hb : m + l.length ≤ 1000000000) (hw : St B G (.acc v el 1 m xs :: R) w) :
  ∃ v' w',(Builtin.append_ #[T,T2] ty #[v,S l]).run P w = .ok v' w' ∧ St B G (.acc v' el 1 (m + l.length) (xs ++ ck l) :: R) w' ∧ (v = aQ → l = [] → v' = aQ) ∧ ((v ≠ aQ ∨ l ≠ []) → ∃ b cap,v' = .slice (some ⟨b,0,none⟩) (m + l.length) cap ∧ ((∀ p q,v ≠ .slice p q 0) ∨ l ≠ [] → 0 < cap)):=by
 obtain ⟨hxl,hacc⟩ : gM w v el 1 m xs:=hw.own _ List.mem_cons_self
 obtain ⟨ie,hi,hsz,hby,hze⟩:=he.inf
 have ht:=h1'.und
 have hu:=h2'.und
 have hss : (⟨l.toArray⟩ : ByteArray).size = l.length:=n4 l
 have hul : (ck l).length = l.length:=by simp [ck]
 have mk : ∀ nc,m + l.length ≤ nc →
   St B G (.acc (.slice (some ⟨w.heap.size,0,none⟩) (m + l.length) nc) el 1 (m + l.length) (xs ++ ck l) :: R) (w.drew.alloc (.cells (xs ++ ck l ++ cg [.int .u8 0] (nc - (m + l.length))).toArray el)):=by
  intro nc hnc
  have h2:=hw.drew.alloc (.cells (xs ++ ck l ++ cg [.int .u8 0] (nc - (m + l.length))).toArray el)
  have h3 : St B G (.blk w.drew.heap.size (.cells (xs ++ ck l ++ cg [.int .u8 0] (nc - (m + l.length))).toArray el) :: R) _:=h2.weaken (.cons_cons _ (List.sublist_cons_self _ _))
  refine h3.conv rfl ⟨by simp [hxl,hul],.inr ⟨_,nc,cg [.int .u8 0] (nc - (m + l.length)),rfl,hnc,?_,h3.own _ List.mem_cons_self⟩⟩
  simp only [List.length_append,hxl,hul,gK,List.length_cons,List.length_nil]
  omega
 have ez : (Builtin.zeroCells (Value.int .u8 0).cells) = fun k=>(cg [.int .u8 0] k).toArray:=by
  funext k;rw [← jy];rfl
 rcases hacc with ⟨rfl,rfl⟩ | ⟨b,cap,rest,rfl,hmc,hrl,hblk⟩
 ·have hx0 : xs = []:=by simpa using hxl
  subst hx0
  by_cases hk : l = []
  ·subst hk
   refine ⟨aQ,w,?_,by simpa [ck] using hw,fun _ _=>rfl,fun h=>by rcases h with h | h <;> exact absurd rfl h⟩
   have hf : (Builtin.firstCells 1 0 (S [])).run P w = .ok #[] w:=by
    have:=Lib.run_firstCells_string (P:=P) w 1 ⟨([] : List UInt8).toArray⟩
    rw [n4] at this;simpa [Lib.strCells] using this
   simp [Builtin.append_,run_underlying ht,run_underlying hu,sizeOf,typeInfo,hi,hsz,Builtin.lenOf,n4,hf]
  ·have hpos : 0 < l.length:=List.length_pos_iff.2 hk
   have hr:=run_append_nil_string (P:=P) w T T2 ty el ie (.int .u8 0) ht hu hi hze ⟨l.toArray⟩ (by rw [hss];exact hpos) (by rw [hss];omega) (by rw [hss,hby];omega)
   rw [hss] at hr
   have hg:=grownCap_ge w l.length 0 el
   have:=mk (grownCap w l.length 0 el) (by simpa using hg)
   have e1 : (⟨l.toArray⟩ : ByteArray).data.map (fun b=>Value.int .u8 b.toNat) ++ Builtin.zeroCells (Value.int .u8 0).cells (grownCap w l.length 0 el - l.length) = (ck l ++ cg [.int .u8 0] (grownCap w l.length 0 el - l.length)).toArray:=by
    rw [ez];simp [ck]
   rw [e1] at hr
   simp only [Nat.zero_add,List.nil_append] at this ⊢
   exact ⟨_,_,hr,this,fun _ h=>absurd h hk,fun _=>⟨_,_,rfl,fun _=>by omega⟩⟩
 ·by_cases hfit : m + l.length ≤ cap
  ·have hr:=Lib.run_append_room_string (P:=P) w T T2 ty el ie ht hu hi hsz b m cap (xs ++ rest).toArray hblk ⟨l.toArray⟩ (by rw [hss];exact hfit) (by rw [hss];simp only [List.size_toArray];omega)
   have hcells : (List.take m (xs ++ rest) ++ ck l ++ List.drop (m + l.length) (xs ++ rest)) = xs ++ ck l ++ rest.drop l.length:=by
    have : m = xs.length:=oM
    rw [this];simp [List.drop_append]
   rw [hss,mw] at hr
   simp only [hcells] at hr
   refine ⟨_,_,hr,hw.upd (b:=b) rfl rfl ⟨by simp [hxl,hul],.inr ⟨b,cap,rest.drop l.length,rfl,hfit,?_,setRow_heap w b _ _ el _ hblk⟩⟩ (fun c hc=>setRow_other w b c _ hc) rfl rfl rfl (by simp),fun h=>(by cases h),fun _=>⟨b,cap,rfl,fun h=>?_⟩⟩
   ·simp only [List.length_append,List.length_drop] at *;omega
   ·rcases h with h | h
    ·rcases Nat.eq_zero_or_pos cap with h0 | h0
     ·subst h0;exact absurd rfl (h _ _)
     ·exact h0
    ·have:=List.length_pos_iff.2 h;omega
  ·have hnsc:=kD (m + l.length) cap oM
   have hold : ∀ j u,xs[j]? = some u → w.cell? ((⟨b,0,none⟩ : Addr).add j) = some u:=fun j u hj=>by
    rw [mg]
    exact ((gr (S:=St B G (.acc (.slice (some ⟨b,0,none⟩) m cap) el 1 m xs :: R)) (m:=m) (cap:=cap) (T:=el) (sz:=1) (xs:=xs) List.mem_cons_self).go j u hj).go w hw
   have hr:=Lib.run_append_grow_string (P:=P) w T T2 ty el ie (.int .u8 0) ht hu hi hze ⟨b,0,none⟩ m cap xs (by rw [hsz];simpa using hxl) hold ⟨l.toArray⟩ (by rw [hss];omega) (by rw [hss];omega) (by rw [hss,hby];omega)
   rw [hss,mw,ez] at hr
   have hg:=grownCap_ge w (m + l.length) cap el
   have:=mk (grownCap w (m + l.length) cap el) hg
   simp only [List.append_toArray] at hr this ⊢
   exact ⟨_,_,hr,this,fun h=>(by cases h),fun _=>⟨_,_,rfl,fun _=>by omega⟩⟩
theorem aci {m b cap : Nat} {s x : Operand} {T T2 el : TypeId} {s1 b1 s2 b2 : Nat} {z1 z2 : Value} {xs : List Value} {l : List UInt8} {L' : List Own} [TI P T (.slice el) s1 b1 z1] [TI P T2 .string s2 b2 z2] [TI P el (.int .u8) 1 1 (.int .u8 0)] [ha : AccI L (.slice (some ⟨b,0,none⟩) m (cap + 1)) el 1 m xs L']
  (hs : ev E s = some (.slice (some ⟨b,0,none⟩) m (cap + 1))) (hx : ev E x = some (S l)) (hlt : Nat.blt d n = true) (hb : m + l.length ≤ 1000000000)
  (kk : ∀ b' cap',Nx n D ((d,.slice (some ⟨b',0,none⟩) (m + l.length) (cap' + 1)) :: E) B G (.acc (.slice (some ⟨b',0,none⟩) (m + l.length) (cap' + 1)) el 1 (m + l.length) (xs ++ ck l) :: L') K) :
  Nx n D E B G L (ow P ⟨some d,.call ⟨.builtin .append,[s,x].toArray,[T,T2].toArray⟩,ty,pos,aft,gd⟩ Q K):=Nx.mk fun a w hsat hw=>by
 obtain ⟨v',w',hr,hst,_,h2⟩:=yF (P:=P) (ty:=ty) (T:=T) (T2:=T2) (el:=el) (s1:=s1) (b1:=b1) (z1:=z1) (s2:=s2) (b2:=b2) (z2:=z2) hb (hw.perm ha.del.perm)
 obtain ⟨b',cap',rfl,h3⟩:=h2 (.inl (by simp))
 obtain ⟨c,rfl⟩ : ∃ c,cap' = c + 1:=⟨cap' - 1,by have:=h3 (.inl (by simp));omega⟩
 have hrun : (execOp a.eval ⟨some d,.call ⟨.builtin .append,[s,x].toArray,[T,T2].toArray⟩,ty,pos,aft,gd⟩).run P w = .ok (.value (.slice (some ⟨b',0,none⟩) (m + l.length) (c + 1))) w':=by
  have e1 : ([s,x].toArray.map a.eval) = #[.slice (some ⟨b,0,none⟩) m (cap + 1),S l]:=by simp [hsat.ev hs,hsat.ev hx]
  simp only [execOp,resolve,e1,Sem.run_bind,Sem.run_pure,Result.andThen_ok,invoke,builtin,hr]
 unfold ow Oper.wp
 rw [hrun,Oper.upon_value]
 exact (kk b' c).go _ w' (hsat.put (by simpa using hlt)) hst
theorem ab8 {fo x : Operand} {ag : Array TypeId} {f : FuncId} {fn : Func} {t el : TypeId} {m : Nat} {ps : Array TypeId}
  (hf : ev E fo = some (.func (.func f) #[] #[])) (hx : ev E x = some (I (m : Nat))) (hlt : Nat.blt d n = true) (hfn : P.funcs[f]? = some fn) (hname : (fn.name == "runtime.NumGoroutine") = false) (hbd : fn.body.isNone = true) (hnx : Extern.findNext fn = none) (he : Extern.find fn = some (Extern.BytealgMakeNoZero.makeNoZero ps #[t])) (ht : P.underlying t = some (.slice el)) (hm : 0 < m ∧ m ≤ 1000000000)
  (k : ∀ b cap,m ≤ cap + 1 → Nx n D ((d,.slice (some ⟨b,0,none⟩) m (cap + 1)) :: E) B G (.acc (.slice (some ⟨b,0,none⟩) 0 (cap + 1)) el 1 0 [] :: L) K) : Nx n D E B G L (ow P ⟨some d,.call ⟨.value fo,[x].toArray,ag⟩,ty,pos,aft,gd⟩ Q K):=Nx.mk fun a w hs hw=>by
 obtain ⟨cs,hr,hcs,_⟩:=Lib.run_makeNoZero (P:=P) w ps t el ht m oM
 have e1 : ([x].toArray.map a.eval) = #[.int .i64 (m : Nat)]:=by simp [hs.ev hx]
 have hrun : (execOp a.eval ⟨some d,.call ⟨.value fo,[x].toArray,ag⟩,ty,pos,aft,gd⟩).run P w = .ok (.value (.slice (some ⟨w.heap.size,0,none⟩) m cs.size)) (w.drew.drew.alloc (.cells cs el)):=by
  simp only [execOp,resolve,hs.ev hf,e1,Deferred.ofValue,Sem.run_bind,Sem.run_pure,Result.andThen_ok,invoke]
  rw [show (#[] ++ #[Value.int .i64 (m : Nat)] ++ #[] : Array Value) = #[Value.int .i64 (m : Nat)] from rfl,run_callFunc_extern hfn hname hbd hnx he,hr]
  rfl
 unfold ow Oper.wp
 rw [hrun,Oper.upon_value]
 have h1:=hw.drew.drew.alloc (.cells cs el)
 obtain ⟨c,hc⟩ : ∃ c,cs.size = c + 1:=⟨cs.size - 1,oM⟩
 have h2 : St B G (.acc (.slice (some ⟨w.heap.size,0,none⟩) 0 (c + 1)) el 1 0 [] :: L) (w.drew.drew.alloc (.cells cs el)):=h1.conv rfl ⟨rfl,.inr ⟨w.heap.size,c + 1,cs.toList,rfl,Nat.zero_le _,by simp [hc],h1.own _ List.mem_cons_self⟩⟩
 rw [hc]
 exact (k w.heap.size c oM).go _ _ (hs.put (by simpa using hlt)) h2
end
def fw (P : Program) (f : FuncId) (args : List Value) (G : Gh) (L : List Own) (R : Value → Gh → List Own → Prop) : Prop:=Fn P f args G L (fun v G' L'=>Gh.le G G' ∧ R v G' L')
section
variable {P : Program} {n : Nat} {D : List Deferred} {E : bN} {B : Base} {G : Gh} {L : List Own} {K : Act → World → Prop} {Q : Exit → Act → World → Prop}
theorem eo {fo : Operand} {l : List Operand} {ag : Array TypeId} {d : Nat} {ty : TypeId} {pos : String} {aft : Array Edge} {g : Option (Nat × Bool)} {f : FuncId} {fi ca az vs : List Value} {b : Nat} {cs : List Value} {T : TypeId} {R : List Own} {Post : Value → Gh → List Own → Prop}
  [hd : DelB L b cs T R] (hf : ev E fo = some (.func (.func f) fi.toArray ca.toArray)) (ha : evs E l = some az) (hv : fi ++ az ++ ca = vs) (hc : fw P f vs G [.blk b (.cells cs.toArray T (0,0))] Post) (hlt : Nat.blt d n = true)
  (k : ∀ v G' L',Gh.le G G' → Post v G' L' → Nx n D ((d,v) :: E) B G' (L' ++ R) K) : Nx n D E B G L (ow P ⟨some d,.call ⟨.value fo,l.toArray,ag⟩,ty,pos,aft,g⟩ Q K) :=
 abh hf ha hv hc hlt fun v G' L' h=>k v G' L' h.1 h.2
theorem bX {f : FuncId} {fn : Func} {c : Code} {args : List Value} {R : Value → Gh → List Own → Prop} (E0 : bN) (hf : P.funcs[f]? = some fn) (hok : eO P f = true) (hn : fn.ntmps = n) (hb : fn.body = some c)
  (hlen : Nat.ble args.length n = true) (hE : ix E0 (params 0 args))
  (h : ∀ B,B.G = G → B.W = cF L → Nx n [] E0 B G L (cu P (.code c) [] (bp P fn (eP B (fun v G' L'=>Gh.le G G' ∧ R v G' L'))))) : fw P f args G L R:=uF E0 hf hok hn hb hlen hE h
end
def aaf (n : Nat) (cs : List Value) : Bool:=cs.all fun v=>match v with | .string b=>Nat.ble b.size n | _=>false
section
variable {P : Program} {n : Nat} {D : List Deferred} {E : bN} {B : Base} {G : Gh} {L : List Own} {K : Act → World → Prop} {Q : Exit → Act → World → Prop}
theorem eN (m : Nat) {T T0 : TypeId} {x : Operand} {desc : TypeDesc} {size bytes : Nat} {zero : Value} {b o d : Nat} {cs : List Value} {fr : Nat × Nat} {ty : TypeId} {pos : String} {aft : Array Edge} {g : Option (Nat × Bool)} [TI P T desc size bytes zero] [h : BlkI L b cs T0 fr] (hx : ev E x = some (Pt b o)) (ha : dK desc = false) (hlt : Nat.blt d n = true) (ho : o < cs.length) (hs : aaf m cs = true)
  (k : ∀ l : List UInt8,l.length ≤ m → Nx n D ((d,S l) :: E) B G L K) : Nx n D E B G L (ow P ⟨some d,.load T x,ty,pos,aft,g⟩ Q K) :=
 yq hx ha hlt ho fun v hv=>by
  have h1:=List.all_eq_true.1 hs v hv
  split at h1
  ·rename_i b
   have e : Value.string b = S b.data.toList:=by simp [S]
   rw [e]
   exact k _ (by rw [Array.length_toList];exact Nat.le_of_ble_eq_true h1)
  ·cases h1
def k9 (m : Int) : List Value → Prop
 | []=>True
 | v :: r=>(∃ i : Int,v = I i ∧ 0 ≤ i ∧ i ≤ m) ∧ k9 m r
theorem pw {m : Int} : ∀ {cs : List Value},k9 m cs → ∀ v ∈ cs,∃ i : Int,v = I i ∧ 0 ≤ i ∧ i ≤ m
 | [],_,_,h=>absurd h (by simp)
 | w :: r,h,v,hv=>by
  rcases List.mem_cons.1 hv with rfl | hv
  ·exact h.1
  ·exact pw h.2 v hv
theorem vd {m : Int} : k9 m []:=trivial
theorem tG {m i : Int} {r : List Value} (h : 0 ≤ i ∧ i ≤ m) (h2 : k9 m r) : k9 m (I i :: r):=⟨⟨i,rfl,h.1,h.2⟩,h2⟩
theorem abj (m : Int) {T T0 : TypeId} {x : Operand} {desc : TypeDesc} {size bytes : Nat} {zero : Value} {b o d : Nat} {cs : List Value} {fr : Nat × Nat} {ty : TypeId} {pos : String} {aft : Array Edge} {g : Option (Nat × Bool)} [TI P T desc size bytes zero] [h : BlkI L b cs T0 fr] (hx : ev E x = some (Pt b o)) (ha : dK desc = false) (hlt : Nat.blt d n = true) (ho : o < cs.length) (hs : k9 m cs)
  (k : ∀ i : Int,0 ≤ i → i ≤ m → Nx n D ((d,I i) :: E) B G L K) : Nx n D E B G L (ow P ⟨some d,.load T x,ty,pos,aft,g⟩ Q K) :=
 yq hx ha hlt ho fun v hv=>by
  obtain ⟨i,rfl,h0,h1⟩:=pw hs v hv
  exact k i h0 h1
end
theorem PutsR.app {cs vs cs' : List Value} {o : Nat} (h : PutsR cs o vs cs') (rest : List Value) : PutsR (cs ++ rest) o vs (cs' ++ rest):=by
 induction h with
 | nil=>exact .nil
 | here _ ih=>exact .here ih
 | there _ ih=>exact .there ih
theorem PutsR.len {cs vs cs' : List Value} {o : Nat} (h : PutsR cs o vs cs') : cs'.length = cs.length:=by
 induction h with
 | nil=>rfl
 | here _ ih=>simp [ih]
 | there _ ih=>simp [ih]
class UpdA (b : Nat) (xs' : List Value) (L : List Own) (m cap : outParam Nat) (T0 : outParam TypeId) (sz : outParam Nat) (xs : outParam (List Value)) (L' : outParam (List Own)) : Prop where
 upd : UpdO (.acc (.slice (some ⟨b,0,none⟩) m cap) T0 sz m xs) (.acc (.slice (some ⟨b,0,none⟩) m cap) T0 sz m xs') L L'
instance {b m cap : Nat} {T0 : TypeId} {sz : Nat} {xs xs' : List Value} {r : List Own} : UpdA b xs' (.acc (.slice (some ⟨b,0,none⟩) m cap) T0 sz m xs :: r) m cap T0 sz xs (.acc (.slice (some ⟨b,0,none⟩) m cap) T0 sz m xs' :: r):=⟨.here⟩
instance {b m cap : Nat} {T0 : TypeId} {sz : Nat} {xs xs' : List Value} {z : Own} {r r' : List Own} [h : UpdA b xs' r m cap T0 sz xs r'] : UpdA b xs' (z :: r) m cap T0 sz xs (z :: r'):=⟨.there h.upd⟩
section
variable {P : Program} {n : Nat} {D : List Deferred} {E : bN} {B : Base} {G : Gh} {L : List Own} {K : Act → World → Prop} {Q : Exit → Act → World → Prop} {ty : TypeId} {pos : String} {aft : Array Edge} {gd : Option (Nat × Bool)} {dd : Nat}
theorem uz {T T0 : TypeId} {x y : Operand} {desc : TypeDesc} {size bytes sz m cap : Nat} {zero v : Value} {b o : Nat} {xs vs xs' : List Value} {L' : List Own} [TI P T desc size bytes zero] (hx : ev E x = some (Pt b o)) (hy : ev E y = some v) (hv : v.cells = vs.toArray)
  (hl : Nat.beq vs.length size = true) (hne : vs.isEmpty = false) (h1 : em vs = true) (hu : UpdO (.acc (.slice (some ⟨b,0,none⟩) m cap) T0 sz m xs) (.acc (.slice (some ⟨b,0,none⟩) m cap) T0 sz m xs') L L') (hp : PutsR xs o vs xs')
  (k : Nx n D E B G L' K) : Nx n D E B G L (ow P ⟨none,.store T x y,ty,pos,aft,gd⟩ Q K):=Nx.mk fun a w hs hw=>by
 unfold ow Oper.wp
 obtain ⟨R,hp1,hp2⟩:=hu.split
 have hw':=hw.perm hp1
 obtain ⟨hxl,⟨h,_⟩ | ⟨b',cap',rest,h,hmc,hrl,hblk⟩⟩ : gM w _ T0 sz m xs:=hw'.own _ List.mem_cons_self
 ·cases h
 simp only [Value.slice.injEq,Option.some.injEq,Addr.mk.injEq] at h
 obtain ⟨⟨rfl,_,_⟩,_,rfl⟩:=h
 have hst:=iC (P:=P) (o:=o) vs (xs ++ rest) (xs' ++ rest) 0 w hblk (by simpa using hp.app rest) h1
 rcases hst with hst | ⟨rfl,_⟩
 ·have hsz : v.cells.size = size:=by rw [hv];simpa using hl
  have : (execOp a.eval ⟨none,.store T x y,ty,pos,aft,gd⟩).run P w = .ok .skip (setBlk w b (.cells (xs' ++ rest).toArray T0 (0,0))):=by
   simp [execOp,hs.ev hx,hs.ev hy,Instr.storeAt,Instr.sureAddr,storeVar,dF (T:=T) (desc:=desc) (size:=size) (bytes:=bytes) (zero:=zero),hsz]
   rw [hv];simp [hst]
  rw [this,Oper.upon_skip]
  refine k.go _ _ hs (St.perm ?_ hp2)
  have hlt : b < w.heap.size:=(Array.getElem?_eq_some_iff.1 hblk).1
  refine hw'.upd (b:=b) rfl rfl ⟨by rw [hp.len];exact hxl,.inr ⟨b,cap,rest,rfl,hmc,by rw [List.length_append,hp.len,← List.length_append];exact hrl,?_⟩⟩ (fun c hc=>?_) rfl rfl rfl (by simp [setBlk])
  ·rw [gG,if_pos rfl,if_pos hlt]
  ·rw [gG,if_neg (Ne.symm hc)]
 ·simp at hne
theorem wH {src : Value} {k sz : Nat} {s x : Operand} {T el : TypeId} {desc : TypeDesc} {size bytes s1 b1 : Nat} {z1 zero : Value} {zs news : List Value} [TI P T (.slice el) s1 b1 z1] [TI P el desc size bytes zero]
  (hs : ev E s = some aQ) (hx : ev E x = some src) (hsrc : aP G src sz k news) (he : Nat.beq sz size = true) (h1 : em news = true)
  (hz : fg zero = some zs) (hzl : Nat.beq zs.length size = true) (hb0 : Nat.beq bytes 0 = false) (hlt : Nat.blt dd n = true) (hk : 0 < k) (hb : (2 * k + 768) * bytes ≤ 281474976710656)
  (kk : ∀ b' c',Nx n D ((dd,.slice (some ⟨b',0,none⟩) k c') :: E) B G (.acc (.slice (some ⟨b',0,none⟩) k c') el size k news :: L) K) :
  Nx n D E B G L (ow P ⟨some dd,.call ⟨.builtin .append,[s,x].toArray,[T,T].toArray⟩,ty,pos,aft,gd⟩ Q K):=by
 have:=Nat.eq_of_beq_eq_true he;subst this
 exact wG hs hx hsrc.src h1 (fK hz) hzl hb0 hb hlt fun v'=>Nx.shp (.head _) fun hsh=>by
  obtain ⟨b',c',rfl⟩:=hsh.pos oM
  exact kk b' c'
end
theorem g7 {α : Type} (f : α → List Value) (a : α) (l : List α) : aj f (a :: l) = f a ++ aj f l:=by simp [aj]
theorem rO {α : Type} (f : α → List Value) (a b : List α) : aj f (a ++ b) = aj f a ++ aj f b:=by simp [aj]
section
variable {P : Program} {n : Nat} {D : List Deferred} {E : bN} {B : Base} {G : Gh} {L : List Own} {K : Act → World → Prop} {Q : Exit → Act → World → Prop} {ty : TypeId} {pos : String} {aft : Array Edge} {gd : Option (Nat × Bool)} {dd : Nat}
theorem aba {α : Type} {f : α → List Value} {cs : List α} {c : α} {i : Nat} {T T0 : TypeId} {x y : Operand} {desc : TypeDesc} {sz bytes b o m cap : Nat} {zero : Value} {xs : List Value} {L' : List Own} [TI P T desc sz bytes zero] [RowF f sz] [hu : UpdA b (aj f (cs.set i c)) L m cap T0 sz xs L']
  (hx : ev E x = some (Pt b o)) (hy : ev E y = some (Ag (f c))) (h1 : em (f c) = true) (hxs : xs = aj f cs) (hs0 : Nat.blt 0 sz = true) (ho : o = i * sz) (hi : i < cs.length)
  (k : Nx n D E B G L' K) : Nx n D E B G L (ow P ⟨none,.store T x y,ty,pos,aft,gd⟩ Q K):=by
 have hl : (f c).length = sz:=RowF.len c
 have hs0 : 0 < sz:=by simpa using hs0
 have hne : f c ≠ []:=fun h=>by rw [h] at hl;simp at hl;omega
 refine uz (vs:=f c) hx hy rfl (by rw [hl];simp) (by cases hfc : f c with | nil=>exact absurd hfc hne | cons=>rfl) h1 hu.upd ?_ k
 subst hxs
 have e1 : cs = cs.take i ++ cs[i] :: cs.drop (i + 1):=by rw [List.getElem_cons_drop,List.take_append_drop]
 have e2 : cs.set i c = cs.take i ++ c :: cs.drop (i + 1):=by rw [List.set_eq_take_append_cons_drop,if_pos hi]
 have hlen:=cH (f:=f) (cs.take i)
 rw [List.length_take,Nat.min_eq_left oM] at hlen
 have e3 : aj f cs = aj f (cs.take i) ++ (f cs[i] ++ aj f (cs.drop (i + 1))):=by rw [← g7,← rO,← e1]
 rw [e2,ho,← hlen,e3,rO,g7]
 exact j8 (aj f (cs.take i)) (by rw [hl];exact RowF.len _) hne
end
def k3 (o cap m sz : Nat) : Nat:=if cap = m then o else o + m * sz
section
variable {P : Program} {n : Nat} {D : List Deferred} {E : bN} {M : World → Prop} {d : Option Nat} {ty : TypeId} {pos : String} {aft : Array Edge} {gd : Option (Nat × Bool)}
theorem nz {T el : TypeId} {x lo : Operand} {desc' : TypeDesc} {size bytes size' bytes' : Nat} {zero zero' : Value} {k : IntKind} {m : Int} {b o len cap : Nat} [TI P T (.slice el) size bytes zero] [TI P el desc' size' bytes' zero']
  (hx : ev E x = some (.slice (some ⟨b,o,none⟩) len cap)) (hl : ev E lo = some (.int k m)) (h0 : 0 ≤ m ∧ m ≤ len) :
  Gives P n D E M ⟨d,.slice T x (some lo) none none,ty,pos,aft,gd⟩ (.slice (some ⟨b,k3 o cap m.toNat size',none⟩) (len - m.toNat) (cap - m.toNat)):=Gives.mk fun a w hs _=>by
 simp only [execOp,hs.ev hx,Option.map_some,Option.map_none,hs.ev hl,Instr.sliceAt,Instr.slice,Sem.run_bind,cr (desc:=.slice el) (size:=size) (bytes:=bytes) (zero:=zero),Result.andThen_ok,Instr.sliceBounds,Sem.run_pure,
  dL (P:=P) (m:=m) (y:=len) h0,dF (desc:=desc') (size:=size') (bytes:=bytes') (zero:=zero')]
 unfold k3
 by_cases hc : cap = m.toNat
 ·simp [hc]
 ·rw [if_neg hc,if_neg hc]
  by_cases hz : m.toNat * size' = 0 <;> simp [Addr.add,hz]
end
theorem aP.cutAt {G : Gh} {b o len cap sz m : Nat} {xs : List Value} (h : aP G (.slice (some ⟨b,o,none⟩) len cap) sz len xs) (hm : m ≤ len) : aP G (.slice (some ⟨b,k3 o cap m sz,none⟩) (len - m) (cap - m)) sz (len - m) (xs.drop (m * sz)):=by
 obtain ⟨h1,⟨h2,_⟩ | ⟨b',o',cap',e,hc,hs⟩⟩:=h
 ·cases h2
 simp only [Value.slice.injEq,Option.some.injEq,Addr.mk.injEq] at e
 obtain ⟨⟨rfl,rfl,_⟩,_,rfl⟩:=e
 refine ⟨by rw [List.length_drop,h1,Nat.sub_mul],.inr ⟨b,_,_,rfl,oM,?_⟩⟩
 obtain ⟨cs,h3,h4⟩:=hs
 refine ⟨cs,h3,fun i v hv=>?_⟩
 rw [List.getElem?_drop] at hv
 unfold k3
 split
 ·rename_i hcm
  have h5:=(List.getElem?_eq_some_iff.1 hv).1
  have h6 : len = m:=oM
  rw [h1,h6] at h5
  omega
 ·have:=h4 _ v hv
  rwa [← Nat.add_assoc] at this
def bpD (P : Program) (fn : Func) (R : Ending → World → Prop) : Exit → Act → World → Prop
 | .normal,a,w | .ret,a,w=>Leaves P fn a.tmps R a.defers .returning w
 | .outgrown,_,w=>R .outgrown w
 | _,_,_=>False
instance {P : Program} {fn : Func} {R : Ending → World → Prop} : PQ (bpD P fn R):=⟨fun _ _ _ _ _ h=>h⟩
structure FnD (P : Program) (f : FuncId) (args : List Value) (G : Gh) (L : List Own) (Post : Value → Gh → List Own → Prop) : Prop where
 ok : eO P f = true
 go : ∀ w,St ⟨w,G,cF L⟩ G L w → CallsD P f args.toArray .returning w fun e u w'=>u = .returning ∧ eP ⟨w,G,cF L⟩ Post e w'
section
variable {P : Program} {n : Nat} {D : List Deferred} {E : bN} {B : Base} {G : Gh} {L : List Own} {K : Act → World → Prop} {Q : Exit → Act → World → Prop}
end
attribute [irreducible] bpD
section
variable {P : Program} {n : Nat} {D : List Deferred} {E : bN} {B : Base} {G : Gh} {L : List Own} {K : Act → World → Prop} {Q : Exit → Act → World → Prop} {ty : TypeId} {pos : String} {aft : Array Edge} {gd : Option (Nat × Bool)}
theorem dP {T T0 : TypeId} {x y : Operand} {desc : TypeDesc} {size bytes sz m cap : Nat} {zero v : Value} {b o : Nat} {xs ys zs vs : List Value} {L' : List Own} [TI P T desc size bytes zero] [AccB L b m cap T0 sz xs] (hx : ev E x = some (Pt b o)) (hy : ev E y = some v) (hv : v.cells = vs.toArray)
  (hl : Nat.beq vs.length size = true) (hne : vs.isEmpty = false) (h1 : em vs = true) (hxs : xs = ys ++ zs) (hz : Nat.beq zs.length vs.length = true) (hu : UpdA b (ys ++ vs) L m cap T0 sz xs L') (ho : o = ys.length)
  (k : Nx n D E B G L' K) : Nx n D E B G L (ow P ⟨none,.store T x y,ty,pos,aft,gd⟩ Q K):=by
 refine uz hx hy hv hl hne h1 hu.upd ?_ k
 subst hxs ho
 have:=j8 ys (vs:=vs) (z:=zs) (r:=[]) (Nat.eq_of_beq_eq_true hz) (by intro h;rw [h] at hne;cases hne)
 simpa using this
end
section
variable {P : Program} {n : Nat} {D : List Deferred} {E : bN} {B : Base} {G : Gh} {L : List Own} {K : Act → World → Prop} {Q : Exit → Act → World → Prop} {ty : TypeId} {pos : String} {aft : Array Edge}
theorem fF {fo : Operand} {l : List Operand} {ag : Array TypeId} {d : Nat} {g : Option (Nat × Bool)} {f : FuncId} {fi ca az vs : List Value} {xs : List Value} {el : TypeId} {u : Value} {sz m : Nat} {R : List Own} {Post : Value → List Own → Prop}
  [ha2 : AccI L u el sz m xs R] (hf : ev E fo = some (.func (.func f) fi.toArray ca.toArray)) (ha : evs E l = some az) (hv : fi ++ az ++ ca = vs) (hc : dA P f vs G [.acc u el sz m xs] Post) (hlt : Nat.blt d n = true)
  (k : ∀ v L',Post v L' → Nx n D ((d,v) :: E) B G (L' ++ R) K) : Nx n D E B G L (ow P ⟨some d,.call ⟨.value fo,l.toArray,ag⟩,ty,pos,aft,g⟩ Q K) :=
 i6 (Lp:=[.acc u el sz m xs]) hf ha hv hc ha2.del.perm hlt fun v G' L' h=>by obtain ⟨rfl,h⟩:=h;exact k v L' h
end
open Go.Proofs
abbrev bF : Value:=.bool false
abbrev u0 : Value:=.int .u8 0
instance ti2 : TI Tryz.prog 2 (.int .i64) 1 8 (.int .i64 0):=TI.mk' kR kR kR
instance ti3 : TI Tryz.prog 3 (.int .i64) 1 8 (.int .i64 0):=TI.mk' kR kR kR
instance ti4 : TI Tryz.prog 4 .bool 1 1 (.bool false):=TI.mk' kR kR kR
instance ti5 : TI Tryz.prog 5 (.int .u8) 1 1 (.int .u8 0):=TI.mk' kR kR kR
instance ti6 : TI Tryz.prog 6 (.int .u8) 1 1 (.int .u8 0):=TI.mk' kR kR kR
instance ti7 : TI Tryz.prog 7 (.struct (cx Tryz.prog 7)) 4 24 (Ag [(.int .i64 0),(.int .i64 0),(.bool false),(.int .u8 0)]):=TI.mk' kR kR kR
instance ti8 : TI Tryz.prog 8 (.struct (cx Tryz.prog 8)) 4 24 (Ag [(.int .i64 0),(.int .i64 0),(.bool false),(.int .u8 0)]):=TI.mk' kR kR kR
instance ti9 : TI Tryz.prog 9 .string 1 16 (S []):=TI.mk' kR kR kR
instance ti12 : TI Tryz.prog 12 (.int .u64) 1 8 (.int .u64 0):=TI.mk' kR kR kR
instance ti13 : TI Tryz.prog 13 (.struct (cx Tryz.prog 13)) 2 24 (Ag [(S []),(.int .u64 0)]):=TI.mk' kR kR kR
instance ti14 : TI Tryz.prog 14 (.struct (cx Tryz.prog 14)) 2 24 (Ag [(S []),(.int .u64 0)]):=TI.mk' kR kR kR
instance ti17 : TI Tryz.prog 17 (.pointer 239) 1 8 (.pointer none):=TI.mk' kR kR kR
instance ti18 : TI Tryz.prog 18 (.struct (cx Tryz.prog 18)) 1 8 (Ag [(.pointer none)]):=TI.mk' kR kR kR
instance ti19 : TI Tryz.prog 19 (.struct (cx Tryz.prog 19)) 1 8 (Ag [(.pointer none)]):=TI.mk' kR kR kR
instance ti24 : TI Tryz.prog 24 (.slice 48) 1 24 aQ:=TI.mk' kR kR kR
instance ti33 : TI Tryz.prog 33 (.slice 5) 1 24 aQ:=TI.mk' kR kR kR
instance ti44 : TI Tryz.prog 44 (.struct (cx Tryz.prog 44)) 2 32 (Ag [(S []),(S [])]):=TI.mk' kR kR kR
instance ti45 : TI Tryz.prog 45 (.struct (cx Tryz.prog 45)) 2 32 (Ag [(S []),(S [])]):=TI.mk' kR kR kR
instance ti48 : TI Tryz.prog 48 (.struct (cx Tryz.prog 48)) 2 32 (Ag [(S []),(S [])]):=TI.mk' kR kR kR
instance ti55 : TI Tryz.prog 55 (.slice 155) 1 24 aQ:=TI.mk' kR kR kR
instance ti56 : TI Tryz.prog 56 (.pointer 86) 1 8 (.pointer none):=TI.mk' kR kR kR
instance ti60 : TI Tryz.prog 60 (.slice 3) 1 24 aQ:=TI.mk' kR kR kR
instance ti63 : TI Tryz.prog 63 (.pointer 120) 1 8 (.pointer none):=TI.mk' kR kR kR
instance ti64 : TI Tryz.prog 64 (.struct (cx Tryz.prog 64)) 3 48 (Ag [(S []),(S []),(S [])]):=TI.mk' kR kR kR
instance ti65 : TI Tryz.prog 65 (.struct (cx Tryz.prog 65)) 3 48 (Ag [(S []),(S []),(S [])]):=TI.mk' kR kR kR
instance ti66 : TI Tryz.prog 66 (.slice 68) 1 24 aQ:=TI.mk' kR kR kR
instance ti67 : TI Tryz.prog 67 (.struct (cx Tryz.prog 67)) 4 56 (Ag [(.int .u8 0),(S []),(.int .i64 0),aQ]):=TI.mk' kR kR kR
instance ti68 : TI Tryz.prog 68 (.struct (cx Tryz.prog 68)) 4 56 (Ag [(.int .u8 0),(S []),(.int .i64 0),aQ]):=TI.mk' kR kR kR
instance ti73 : TI Tryz.prog 73 (.pointer 130) 1 8 (.pointer none):=TI.mk' kR kR kR
instance ti80 : TI Tryz.prog 80 (.slice 9) 1 24 aQ:=TI.mk' kR kR kR
instance ti84 : TI Tryz.prog 84 (.slice 56) 1 24 aQ:=TI.mk' kR kR kR
instance ti85 : TI Tryz.prog 85 (.struct (cx Tryz.prog 85)) 4 80 (Ag [(S []),(S []),aQ,aQ]):=TI.mk' kR kR kR
instance ti86 : TI Tryz.prog 86 (.struct (cx Tryz.prog 86)) 4 80 (Ag [(S []),(S []),aQ,aQ]):=TI.mk' kR kR kR
instance ti89 : TI Tryz.prog 89 (.struct (cx Tryz.prog 89)) 1 24 (Ag [aQ]):=TI.mk' kR kR kR
instance ti90 : TI Tryz.prog 90 (.struct (cx Tryz.prog 90)) 1 24 (Ag [aQ]):=TI.mk' kR kR kR
instance ti113 : TI Tryz.prog 113 (.struct (cx Tryz.prog 113)) 6 88 (Ag [(.int .i64 0),(S []),(S []),(S []),(S []),(S [])]):=TI.mk' kR kR kR
instance ti114 : TI Tryz.prog 114 (.struct (cx Tryz.prog 114)) 6 88 (Ag [(.int .i64 0),(S []),(S []),(S []),(S []),(S [])]):=TI.mk' kR kR kR
instance ti115 : TI Tryz.prog 115 (.pointer 114) 1 8 (.pointer none):=TI.mk' kR kR kR
instance ti116 : TI Tryz.prog 116 (.pointer 124) 1 8 (.pointer none):=TI.mk' kR kR kR
instance ti117 : TI Tryz.prog 117 (.slice 116) 1 24 aQ:=TI.mk' kR kR kR
instance ti118 : TI Tryz.prog 118 (.map 9 116) 1 8 (.map none):=TI.mk' kR kR kR
instance ti119 : TI Tryz.prog 119 (.struct (cx Tryz.prog 119)) 2 32 (Ag [aQ,(.map none)]):=TI.mk' kR kR kR
instance ti120 : TI Tryz.prog 120 (.struct (cx Tryz.prog 120)) 2 32 (Ag [aQ,(.map none)]):=TI.mk' kR kR kR
instance ti122 : TI Tryz.prog 122 (.slice 114) 1 24 aQ:=TI.mk' kR kR kR
instance ti123 : TI Tryz.prog 123 (.struct (cx Tryz.prog 123)) 4 64 (Ag [(.int .u8 0),(S []),aQ,(S [])]):=TI.mk' kR kR kR
instance ti124 : TI Tryz.prog 124 (.struct (cx Tryz.prog 124)) 4 64 (Ag [(.int .u8 0),(S []),aQ,(S [])]):=TI.mk' kR kR kR
instance ti129 : TI Tryz.prog 129 (.struct (cx Tryz.prog 129)) 2 32 (Ag [aQ,(.int .i64 0)]):=TI.mk' kR kR kR
instance ti130 : TI Tryz.prog 130 (.struct (cx Tryz.prog 130)) 2 32 (Ag [aQ,(.int .i64 0)]):=TI.mk' kR kR kR
instance ti136 : TI Tryz.prog 136 (.struct (cx Tryz.prog 136)) 4 56 (Ag [(.int .i64 0),(S []),(S []),(S [])]):=TI.mk' kR kR kR
instance ti137 : TI Tryz.prog 137 (.struct (cx Tryz.prog 137)) 4 56 (Ag [(.int .i64 0),(S []),(S []),(S [])]):=TI.mk' kR kR kR
instance ti144 : TI Tryz.prog 144 (.pointer 146) 1 8 (.pointer none):=TI.mk' kR kR kR
instance ti145 : TI Tryz.prog 145 (.struct (cx Tryz.prog 145)) 3 32 (Ag [(.pointer none),(S []),(.bool false)]):=TI.mk' kR kR kR
instance ti146 : TI Tryz.prog 146 (.struct (cx Tryz.prog 146)) 3 32 (Ag [(.pointer none),(S []),(.bool false)]):=TI.mk' kR kR kR
instance ti153 : TI Tryz.prog 153 (.slice 137) 1 24 aQ:=TI.mk' kR kR kR
instance ti154 : TI Tryz.prog 154 (.struct (cx Tryz.prog 154)) 3 48 (Ag [(.int .u8 0),(S []),aQ]):=TI.mk' kR kR kR
instance ti155 : TI Tryz.prog 155 (.struct (cx Tryz.prog 155)) 3 48 (Ag [(.int .u8 0),(S []),aQ]):=TI.mk' kR kR kR
instance ti167 : TI Tryz.prog 167 (.pointer 169) 1 8 (.pointer none):=TI.mk' kR kR kR
instance ti168 : TI Tryz.prog 168 (.struct (cx Tryz.prog 168)) 2 32 (Ag [(.pointer none),aQ]):=TI.mk' kR kR kR
instance ti169 : TI Tryz.prog 169 (.struct (cx Tryz.prog 169)) 2 32 (Ag [(.pointer none),aQ]):=TI.mk' kR kR kR
instance ti192 : TI Tryz.prog 192 (.pointer 5) 1 8 (.pointer none):=TI.mk' kR kR kR
instance ti205 : TI Tryz.prog 205 (.array 256 4) 256 256 (Ag [bF,bF,bF,bF,bF,bF,bF,bF,bF,bF,bF,bF,bF,bF,bF,bF,bF,bF,bF,bF,bF,bF,bF,bF,bF,bF,bF,bF,bF,bF,bF,bF,bF,bF,bF,bF,bF,bF,bF,bF,bF,bF,bF,bF,bF,bF,bF,bF,bF,bF,bF,bF,bF,bF,bF,bF,bF,bF,bF,bF,bF,bF,bF,bF,bF,bF,bF,bF,bF,bF,bF,bF,bF,bF,bF,bF,bF,bF,bF,bF,bF,bF,bF,bF,bF,bF,bF,bF,bF,bF,bF,bF,bF,bF,bF,bF,bF,bF,bF,bF,bF,bF,bF,bF,bF,bF,bF,bF,bF,bF,bF,bF,bF,bF,bF,bF,bF,bF,bF,bF,bF,bF,bF,bF,bF,bF,bF,bF,bF,bF,bF,bF,bF,bF,bF,bF,bF,bF,bF,bF,bF,bF,bF,bF,bF,bF,bF,bF,bF,bF,bF,bF,bF,bF,bF,bF,bF,bF,bF,bF,bF,bF,bF,bF,bF,bF,bF,bF,bF,bF,bF,bF,bF,bF,bF,bF,bF,bF,bF,bF,bF,bF,bF,bF,bF,bF,bF,bF,bF,bF,bF,bF,bF,bF,bF,bF,bF,bF,bF,bF,bF,bF,bF,bF,bF,bF,bF,bF,bF,bF,bF,bF,bF,bF,bF,bF,bF,bF,bF,bF,bF,bF,bF,bF,bF,bF,bF,bF,bF,bF,bF,bF,bF,bF,bF,bF,bF,bF,bF,bF,bF,bF,bF,bF,bF,bF,bF,bF,bF,bF,bF,bF,bF,bF,bF,(.bool false)]):=TI.mk' kR kR kR
instance ti209 : TI Tryz.prog 209 (.pointer 205) 1 8 (.pointer none):=TI.mk' kR kR kR
instance ti221 : TI Tryz.prog 221 (.struct (cx Tryz.prog 221)) 2 2 (Ag [(.int .u8 0),(.int .u8 0)]):=TI.mk' kR kR kR
instance ti222 : TI Tryz.prog 222 (.struct (cx Tryz.prog 222)) 2 2 (Ag [(.int .u8 0),(.int .u8 0)]):=TI.mk' kR kR kR
instance ti228 : TI Tryz.prog 228 (.struct (cx Tryz.prog 228)) 4 40 (Ag [(.pointer none),(.pointer none),(.pointer none),(S [])]):=TI.mk' kR kR kR
instance ti229 : TI Tryz.prog 229 (.struct (cx Tryz.prog 229)) 4 40 (Ag [(.pointer none),(.pointer none),(.pointer none),(S [])]):=TI.mk' kR kR kR
instance fa7_0 : FA Tryz.prog 7 0 0:=FA.mk' kR ti2 rfl
instance fv7_0 : FV Tryz.prog 7 0 false 0 1:=FV.mk' kR ti2 rfl
instance fa7_1 : FA Tryz.prog 7 1 1:=FA.mk' kR ti3 rfl
instance fv7_1 : FV Tryz.prog 7 1 false 1 1:=FV.mk' kR ti3 rfl
instance fa7_2 : FA Tryz.prog 7 2 2:=FA.mk' kR ti4 rfl
instance fv7_2 : FV Tryz.prog 7 2 false 2 1:=FV.mk' kR ti4 rfl
instance fa7_3 : FA Tryz.prog 7 3 3:=FA.mk' kR ti6 rfl
instance fv7_3 : FV Tryz.prog 7 3 false 3 1:=FV.mk' kR ti6 rfl
instance fa8_0 : FA Tryz.prog 8 0 0:=FA.mk' kR ti2 rfl
instance fv8_0 : FV Tryz.prog 8 0 false 0 1:=FV.mk' kR ti2 rfl
instance fa8_1 : FA Tryz.prog 8 1 1:=FA.mk' kR ti3 rfl
instance fv8_1 : FV Tryz.prog 8 1 false 1 1:=FV.mk' kR ti3 rfl
instance fa8_2 : FA Tryz.prog 8 2 2:=FA.mk' kR ti4 rfl
instance fv8_2 : FV Tryz.prog 8 2 false 2 1:=FV.mk' kR ti4 rfl
instance fa8_3 : FA Tryz.prog 8 3 3:=FA.mk' kR ti6 rfl
instance fv8_3 : FV Tryz.prog 8 3 false 3 1:=FV.mk' kR ti6 rfl
instance fa13_0 : FA Tryz.prog 13 0 0:=FA.mk' kR ti9 rfl
instance fv13_0 : FV Tryz.prog 13 0 false 0 1:=FV.mk' kR ti9 rfl
instance fa13_1 : FA Tryz.prog 13 1 1:=FA.mk' kR ti12 rfl
instance fv13_1 : FV Tryz.prog 13 1 false 1 1:=FV.mk' kR ti12 rfl
instance fa14_0 : FA Tryz.prog 14 0 0:=FA.mk' kR ti9 rfl
instance fv14_0 : FV Tryz.prog 14 0 false 0 1:=FV.mk' kR ti9 rfl
instance fa14_1 : FA Tryz.prog 14 1 1:=FA.mk' kR ti12 rfl
instance fv14_1 : FV Tryz.prog 14 1 false 1 1:=FV.mk' kR ti12 rfl
instance fa18_0 : FA Tryz.prog 18 0 0:=FA.mk' kR ti17 rfl
instance fv18_0 : FV Tryz.prog 18 0 false 0 1:=FV.mk' kR ti17 rfl
instance fa19_0 : FA Tryz.prog 19 0 0:=FA.mk' kR ti17 rfl
instance fv19_0 : FV Tryz.prog 19 0 false 0 1:=FV.mk' kR ti17 rfl
instance fa44_0 : FA Tryz.prog 44 0 0:=FA.mk' kR ti9 rfl
instance fv44_0 : FV Tryz.prog 44 0 false 0 1:=FV.mk' kR ti9 rfl
instance fa44_1 : FA Tryz.prog 44 1 1:=FA.mk' kR ti9 rfl
instance fv44_1 : FV Tryz.prog 44 1 false 1 1:=FV.mk' kR ti9 rfl
instance fa45_0 : FA Tryz.prog 45 0 0:=FA.mk' kR ti9 rfl
instance fv45_0 : FV Tryz.prog 45 0 false 0 1:=FV.mk' kR ti9 rfl
instance fa45_1 : FA Tryz.prog 45 1 1:=FA.mk' kR ti9 rfl
instance fv45_1 : FV Tryz.prog 45 1 false 1 1:=FV.mk' kR ti9 rfl
instance fa48_0 : FA Tryz.prog 48 0 0:=FA.mk' kR ti9 rfl
instance fv48_0 : FV Tryz.prog 48 0 false 0 1:=FV.mk' kR ti9 rfl
instance fa48_1 : FA Tryz.prog 48 1 1:=FA.mk' kR ti9 rfl
instance fv48_1 : FV Tryz.prog 48 1 false 1 1:=FV.mk' kR ti9 rfl
instance : BT Tryz.prog 48 [(0,1),(1,1)] [(S []),(S [])]:=BT.mk' [(9,0,1),(9,1,1)] rfl kR kR rfl
instance fa64_0 : FA Tryz.prog 64 0 0:=FA.mk' kR ti9 rfl
instance fv64_0 : FV Tryz.prog 64 0 false 0 1:=FV.mk' kR ti9 rfl
instance fa64_1 : FA Tryz.prog 64 1 1:=FA.mk' kR ti9 rfl
instance fv64_1 : FV Tryz.prog 64 1 false 1 1:=FV.mk' kR ti9 rfl
instance fa64_2 : FA Tryz.prog 64 2 2:=FA.mk' kR ti9 rfl
instance fv64_2 : FV Tryz.prog 64 2 false 2 1:=FV.mk' kR ti9 rfl
instance fa65_0 : FA Tryz.prog 65 0 0:=FA.mk' kR ti9 rfl
instance fv65_0 : FV Tryz.prog 65 0 false 0 1:=FV.mk' kR ti9 rfl
instance fa65_1 : FA Tryz.prog 65 1 1:=FA.mk' kR ti9 rfl
instance fv65_1 : FV Tryz.prog 65 1 false 1 1:=FV.mk' kR ti9 rfl
instance fa65_2 : FA Tryz.prog 65 2 2:=FA.mk' kR ti9 rfl
instance fv65_2 : FV Tryz.prog 65 2 false 2 1:=FV.mk' kR ti9 rfl
instance : BT Tryz.prog 65 [(0,1),(1,1),(2,1)] [(S []),(S []),(S [])]:=BT.mk' [(9,0,1),(9,1,1),(9,2,1)] rfl kR kR rfl
instance fa67_0 : FA Tryz.prog 67 0 0:=FA.mk' kR ti5 rfl
instance fv67_0 : FV Tryz.prog 67 0 false 0 1:=FV.mk' kR ti5 rfl
instance fa67_1 : FA Tryz.prog 67 1 1:=FA.mk' kR ti9 rfl
instance fv67_1 : FV Tryz.prog 67 1 false 1 1:=FV.mk' kR ti9 rfl
instance fa67_2 : FA Tryz.prog 67 2 2:=FA.mk' kR ti3 rfl
instance fv67_2 : FV Tryz.prog 67 2 false 2 1:=FV.mk' kR ti3 rfl
instance fa67_3 : FA Tryz.prog 67 3 3:=FA.mk' kR ti66 rfl
instance fv67_3 : FV Tryz.prog 67 3 false 3 1:=FV.mk' kR ti66 rfl
instance fa68_0 : FA Tryz.prog 68 0 0:=FA.mk' kR ti5 rfl
instance fv68_0 : FV Tryz.prog 68 0 false 0 1:=FV.mk' kR ti5 rfl
instance fa68_1 : FA Tryz.prog 68 1 1:=FA.mk' kR ti9 rfl
instance fv68_1 : FV Tryz.prog 68 1 false 1 1:=FV.mk' kR ti9 rfl
instance fa68_2 : FA Tryz.prog 68 2 2:=FA.mk' kR ti3 rfl
instance fv68_2 : FV Tryz.prog 68 2 false 2 1:=FV.mk' kR ti3 rfl
instance fa68_3 : FA Tryz.prog 68 3 3:=FA.mk' kR ti66 rfl
instance fv68_3 : FV Tryz.prog 68 3 false 3 1:=FV.mk' kR ti66 rfl
instance : BT Tryz.prog 68 [(0,1),(1,1),(2,1),(3,1)] [(.int .u8 0),(S []),(.int .i64 0),aQ]:=BT.mk' [(5,0,1),(9,1,1),(3,2,1),(66,3,1)] rfl kR kR rfl
instance fa85_0 : FA Tryz.prog 85 0 0:=FA.mk' kR ti9 rfl
instance fv85_0 : FV Tryz.prog 85 0 false 0 1:=FV.mk' kR ti9 rfl
instance fa85_1 : FA Tryz.prog 85 1 1:=FA.mk' kR ti9 rfl
instance fv85_1 : FV Tryz.prog 85 1 false 1 1:=FV.mk' kR ti9 rfl
instance fa85_2 : FA Tryz.prog 85 2 2:=FA.mk' kR ti60 rfl
instance fv85_2 : FV Tryz.prog 85 2 false 2 1:=FV.mk' kR ti60 rfl
instance fa85_3 : FA Tryz.prog 85 3 3:=FA.mk' kR ti84 rfl
instance fv85_3 : FV Tryz.prog 85 3 false 3 1:=FV.mk' kR ti84 rfl
instance fa86_0 : FA Tryz.prog 86 0 0:=FA.mk' kR ti9 rfl
instance fv86_0 : FV Tryz.prog 86 0 false 0 1:=FV.mk' kR ti9 rfl
instance fa86_1 : FA Tryz.prog 86 1 1:=FA.mk' kR ti9 rfl
instance fv86_1 : FV Tryz.prog 86 1 false 1 1:=FV.mk' kR ti9 rfl
instance fa86_2 : FA Tryz.prog 86 2 2:=FA.mk' kR ti60 rfl
instance fv86_2 : FV Tryz.prog 86 2 false 2 1:=FV.mk' kR ti60 rfl
instance fa86_3 : FA Tryz.prog 86 3 3:=FA.mk' kR ti84 rfl
instance fv86_3 : FV Tryz.prog 86 3 false 3 1:=FV.mk' kR ti84 rfl
instance : BT Tryz.prog 86 [(0,1),(1,1),(2,1),(3,1)] [(S []),(S []),aQ,aQ]:=BT.mk' [(9,0,1),(9,1,1),(60,2,1),(84,3,1)] rfl kR kR rfl
instance fa89_0 : FA Tryz.prog 89 0 0:=FA.mk' kR ti55 rfl
instance fv89_0 : FV Tryz.prog 89 0 false 0 1:=FV.mk' kR ti55 rfl
instance fa90_0 : FA Tryz.prog 90 0 0:=FA.mk' kR ti55 rfl
instance fv90_0 : FV Tryz.prog 90 0 false 0 1:=FV.mk' kR ti55 rfl
instance : BT Tryz.prog 90 [(0,1)] [aQ]:=BT.mk' [(55,0,1)] rfl kR kR rfl
instance fa113_0 : FA Tryz.prog 113 0 0:=FA.mk' kR ti3 rfl
instance fv113_0 : FV Tryz.prog 113 0 false 0 1:=FV.mk' kR ti3 rfl
instance fa113_1 : FA Tryz.prog 113 1 1:=FA.mk' kR ti9 rfl
instance fv113_1 : FV Tryz.prog 113 1 false 1 1:=FV.mk' kR ti9 rfl
instance fa113_2 : FA Tryz.prog 113 2 2:=FA.mk' kR ti65 rfl
instance fv113_2 : FV Tryz.prog 113 2 true 2 3:=FV.mk' kR ti65 rfl
instance fa113_3 : FA Tryz.prog 113 3 5:=FA.mk' kR ti9 rfl
instance fv113_3 : FV Tryz.prog 113 3 false 5 1:=FV.mk' kR ti9 rfl
instance fa114_0 : FA Tryz.prog 114 0 0:=FA.mk' kR ti3 rfl
instance fv114_0 : FV Tryz.prog 114 0 false 0 1:=FV.mk' kR ti3 rfl
instance fa114_1 : FA Tryz.prog 114 1 1:=FA.mk' kR ti9 rfl
instance fv114_1 : FV Tryz.prog 114 1 false 1 1:=FV.mk' kR ti9 rfl
instance fa114_2 : FA Tryz.prog 114 2 2:=FA.mk' kR ti65 rfl
instance fv114_2 : FV Tryz.prog 114 2 true 2 3:=FV.mk' kR ti65 rfl
instance fa114_3 : FA Tryz.prog 114 3 5:=FA.mk' kR ti9 rfl
instance fv114_3 : FV Tryz.prog 114 3 false 5 1:=FV.mk' kR ti9 rfl
instance : BT Tryz.prog 114 [(0,1),(1,1),(2,3),(5,1)] [(.int .i64 0),(S []),(S []),(S []),(S []),(S [])]:=BT.mk' [(3,0,1),(9,1,1),(65,2,3),(9,5,1)] rfl kR kR rfl
instance fa119_0 : FA Tryz.prog 119 0 0:=FA.mk' kR ti117 rfl
instance fv119_0 : FV Tryz.prog 119 0 false 0 1:=FV.mk' kR ti117 rfl
instance fa119_1 : FA Tryz.prog 119 1 1:=FA.mk' kR ti118 rfl
instance fv119_1 : FV Tryz.prog 119 1 false 1 1:=FV.mk' kR ti118 rfl
instance fa120_0 : FA Tryz.prog 120 0 0:=FA.mk' kR ti117 rfl
instance fv120_0 : FV Tryz.prog 120 0 false 0 1:=FV.mk' kR ti117 rfl
instance fa120_1 : FA Tryz.prog 120 1 1:=FA.mk' kR ti118 rfl
instance fv120_1 : FV Tryz.prog 120 1 false 1 1:=FV.mk' kR ti118 rfl
instance : BT Tryz.prog 120 [(0,1),(1,1)] [aQ,(.map none)]:=BT.mk' [(117,0,1),(118,1,1)] rfl kR kR rfl
instance fa123_0 : FA Tryz.prog 123 0 0:=FA.mk' kR ti5 rfl
instance fv123_0 : FV Tryz.prog 123 0 false 0 1:=FV.mk' kR ti5 rfl
instance fa123_1 : FA Tryz.prog 123 1 1:=FA.mk' kR ti9 rfl
instance fv123_1 : FV Tryz.prog 123 1 false 1 1:=FV.mk' kR ti9 rfl
instance fa123_2 : FA Tryz.prog 123 2 2:=FA.mk' kR ti122 rfl
instance fv123_2 : FV Tryz.prog 123 2 false 2 1:=FV.mk' kR ti122 rfl
instance fa123_3 : FA Tryz.prog 123 3 3:=FA.mk' kR ti9 rfl
instance fv123_3 : FV Tryz.prog 123 3 false 3 1:=FV.mk' kR ti9 rfl
instance fa124_0 : FA Tryz.prog 124 0 0:=FA.mk' kR ti5 rfl
instance fv124_0 : FV Tryz.prog 124 0 false 0 1:=FV.mk' kR ti5 rfl
instance fa124_1 : FA Tryz.prog 124 1 1:=FA.mk' kR ti9 rfl
instance fv124_1 : FV Tryz.prog 124 1 false 1 1:=FV.mk' kR ti9 rfl
instance fa124_2 : FA Tryz.prog 124 2 2:=FA.mk' kR ti122 rfl
instance fv124_2 : FV Tryz.prog 124 2 false 2 1:=FV.mk' kR ti122 rfl
instance fa124_3 : FA Tryz.prog 124 3 3:=FA.mk' kR ti9 rfl
instance fv124_3 : FV Tryz.prog 124 3 false 3 1:=FV.mk' kR ti9 rfl
instance : BT Tryz.prog 124 [(0,1),(1,1),(2,1),(3,1)] [(.int .u8 0),(S []),aQ,(S [])]:=BT.mk' [(5,0,1),(9,1,1),(122,2,1),(9,3,1)] rfl kR kR rfl
instance fa129_0 : FA Tryz.prog 129 0 0:=FA.mk' kR ti33 rfl
instance fv129_0 : FV Tryz.prog 129 0 false 0 1:=FV.mk' kR ti33 rfl
instance fa129_1 : FA Tryz.prog 129 1 1:=FA.mk' kR ti3 rfl
instance fv129_1 : FV Tryz.prog 129 1 false 1 1:=FV.mk' kR ti3 rfl
instance fa130_0 : FA Tryz.prog 130 0 0:=FA.mk' kR ti33 rfl
instance fv130_0 : FV Tryz.prog 130 0 false 0 1:=FV.mk' kR ti33 rfl
instance fa130_1 : FA Tryz.prog 130 1 1:=FA.mk' kR ti3 rfl
instance fv130_1 : FV Tryz.prog 130 1 false 1 1:=FV.mk' kR ti3 rfl
instance : BT Tryz.prog 130 [(0,1),(1,1)] [aQ,(.int .i64 0)]:=BT.mk' [(33,0,1),(3,1,1)] rfl kR kR rfl
instance fa136_0 : FA Tryz.prog 136 0 0:=FA.mk' kR ti3 rfl
instance fv136_0 : FV Tryz.prog 136 0 false 0 1:=FV.mk' kR ti3 rfl
instance fa136_1 : FA Tryz.prog 136 1 1:=FA.mk' kR ti9 rfl
instance fv136_1 : FV Tryz.prog 136 1 false 1 1:=FV.mk' kR ti9 rfl
instance fa136_2 : FA Tryz.prog 136 2 2:=FA.mk' kR ti9 rfl
instance fv136_2 : FV Tryz.prog 136 2 false 2 1:=FV.mk' kR ti9 rfl
instance fa136_3 : FA Tryz.prog 136 3 3:=FA.mk' kR ti9 rfl
instance fv136_3 : FV Tryz.prog 136 3 false 3 1:=FV.mk' kR ti9 rfl
instance fa137_0 : FA Tryz.prog 137 0 0:=FA.mk' kR ti3 rfl
instance fv137_0 : FV Tryz.prog 137 0 false 0 1:=FV.mk' kR ti3 rfl
instance fa137_1 : FA Tryz.prog 137 1 1:=FA.mk' kR ti9 rfl
instance fv137_1 : FV Tryz.prog 137 1 false 1 1:=FV.mk' kR ti9 rfl
instance fa137_2 : FA Tryz.prog 137 2 2:=FA.mk' kR ti9 rfl
instance fv137_2 : FV Tryz.prog 137 2 false 2 1:=FV.mk' kR ti9 rfl
instance fa137_3 : FA Tryz.prog 137 3 3:=FA.mk' kR ti9 rfl
instance fv137_3 : FV Tryz.prog 137 3 false 3 1:=FV.mk' kR ti9 rfl
instance : BT Tryz.prog 137 [(0,1),(1,1),(2,1),(3,1)] [(.int .i64 0),(S []),(S []),(S [])]:=BT.mk' [(3,0,1),(9,1,1),(9,2,1),(9,3,1)] rfl kR kR rfl
instance fa145_0 : FA Tryz.prog 145 0 0:=FA.mk' kR ti63 rfl
instance fv145_0 : FV Tryz.prog 145 0 false 0 1:=FV.mk' kR ti63 rfl
instance fa145_1 : FA Tryz.prog 145 1 1:=FA.mk' kR ti9 rfl
instance fv145_1 : FV Tryz.prog 145 1 false 1 1:=FV.mk' kR ti9 rfl
instance fa145_2 : FA Tryz.prog 145 2 2:=FA.mk' kR ti4 rfl
instance fv145_2 : FV Tryz.prog 145 2 false 2 1:=FV.mk' kR ti4 rfl
instance fa146_0 : FA Tryz.prog 146 0 0:=FA.mk' kR ti63 rfl
instance fv146_0 : FV Tryz.prog 146 0 false 0 1:=FV.mk' kR ti63 rfl
instance fa146_1 : FA Tryz.prog 146 1 1:=FA.mk' kR ti9 rfl
instance fv146_1 : FV Tryz.prog 146 1 false 1 1:=FV.mk' kR ti9 rfl
instance fa146_2 : FA Tryz.prog 146 2 2:=FA.mk' kR ti4 rfl
instance fv146_2 : FV Tryz.prog 146 2 false 2 1:=FV.mk' kR ti4 rfl
instance : BT Tryz.prog 146 [(0,1),(1,1),(2,1)] [(.pointer none),(S []),(.bool false)]:=BT.mk' [(63,0,1),(9,1,1),(4,2,1)] rfl kR kR rfl
instance fa154_0 : FA Tryz.prog 154 0 0:=FA.mk' kR ti5 rfl
instance fv154_0 : FV Tryz.prog 154 0 false 0 1:=FV.mk' kR ti5 rfl
instance fa154_1 : FA Tryz.prog 154 1 1:=FA.mk' kR ti9 rfl
instance fv154_1 : FV Tryz.prog 154 1 false 1 1:=FV.mk' kR ti9 rfl
instance fa154_2 : FA Tryz.prog 154 2 2:=FA.mk' kR ti153 rfl
instance fv154_2 : FV Tryz.prog 154 2 false 2 1:=FV.mk' kR ti153 rfl
instance fa155_0 : FA Tryz.prog 155 0 0:=FA.mk' kR ti5 rfl
instance fv155_0 : FV Tryz.prog 155 0 false 0 1:=FV.mk' kR ti5 rfl
instance fa155_1 : FA Tryz.prog 155 1 1:=FA.mk' kR ti9 rfl
instance fv155_1 : FV Tryz.prog 155 1 false 1 1:=FV.mk' kR ti9 rfl
instance fa155_2 : FA Tryz.prog 155 2 2:=FA.mk' kR ti153 rfl
instance fv155_2 : FV Tryz.prog 155 2 false 2 1:=FV.mk' kR ti153 rfl
instance : BT Tryz.prog 155 [(0,1),(1,1),(2,1)] [(.int .u8 0),(S []),aQ]:=BT.mk' [(5,0,1),(9,1,1),(153,2,1)] rfl kR kR rfl
instance fa168_0 : FA Tryz.prog 168 0 0:=FA.mk' kR ti167 rfl
instance fv168_0 : FV Tryz.prog 168 0 false 0 1:=FV.mk' kR ti167 rfl
instance fa168_1 : FA Tryz.prog 168 1 1:=FA.mk' kR ti33 rfl
instance fv168_1 : FV Tryz.prog 168 1 false 1 1:=FV.mk' kR ti33 rfl
instance fa169_0 : FA Tryz.prog 169 0 0:=FA.mk' kR ti167 rfl
instance fv169_0 : FV Tryz.prog 169 0 false 0 1:=FV.mk' kR ti167 rfl
instance fa169_1 : FA Tryz.prog 169 1 1:=FA.mk' kR ti33 rfl
instance fv169_1 : FV Tryz.prog 169 1 false 1 1:=FV.mk' kR ti33 rfl
instance : BT Tryz.prog 169 [(0,1),(1,1)] [(.pointer none),aQ]:=BT.mk' [(167,0,1),(33,1,1)] rfl kR kR rfl
instance fa221_0 : FA Tryz.prog 221 0 0:=FA.mk' kR ti5 rfl
instance fv221_0 : FV Tryz.prog 221 0 false 0 1:=FV.mk' kR ti5 rfl
instance fa221_1 : FA Tryz.prog 221 1 1:=FA.mk' kR ti5 rfl
instance fv221_1 : FV Tryz.prog 221 1 false 1 1:=FV.mk' kR ti5 rfl
instance fa222_0 : FA Tryz.prog 222 0 0:=FA.mk' kR ti5 rfl
instance fv222_0 : FV Tryz.prog 222 0 false 0 1:=FV.mk' kR ti5 rfl
instance fa222_1 : FA Tryz.prog 222 1 1:=FA.mk' kR ti5 rfl
instance fv222_1 : FV Tryz.prog 222 1 false 1 1:=FV.mk' kR ti5 rfl
instance fa228_0 : FA Tryz.prog 228 0 0:=FA.mk' kR ti17 rfl
instance fv228_0 : FV Tryz.prog 228 0 false 0 1:=FV.mk' kR ti17 rfl
instance fa228_1 : FA Tryz.prog 228 1 1:=FA.mk' kR ti17 rfl
instance fv228_1 : FV Tryz.prog 228 1 false 1 1:=FV.mk' kR ti17 rfl
instance fa228_2 : FA Tryz.prog 228 2 2:=FA.mk' kR ti17 rfl
instance fv228_2 : FV Tryz.prog 228 2 false 2 1:=FV.mk' kR ti17 rfl
instance fa228_3 : FA Tryz.prog 228 3 3:=FA.mk' kR ti9 rfl
instance fv228_3 : FV Tryz.prog 228 3 false 3 1:=FV.mk' kR ti9 rfl
instance fa229_0 : FA Tryz.prog 229 0 0:=FA.mk' kR ti17 rfl
instance fv229_0 : FV Tryz.prog 229 0 false 0 1:=FV.mk' kR ti17 rfl
instance fa229_1 : FA Tryz.prog 229 1 1:=FA.mk' kR ti17 rfl
instance fv229_1 : FV Tryz.prog 229 1 false 1 1:=FV.mk' kR ti17 rfl
instance fa229_2 : FA Tryz.prog 229 2 2:=FA.mk' kR ti17 rfl
instance fv229_2 : FV Tryz.prog 229 2 false 2 1:=FV.mk' kR ti17 rfl
instance fa229_3 : FA Tryz.prog 229 3 3:=FA.mk' kR ti9 rfl
instance fv229_3 : FV Tryz.prog 229 3 false 3 1:=FV.mk' kR ti9 rfl
def tb : Tbl:=⟨12,41410478080743382724608535173662152714706653833022319330975145342795872,16,3584,822758555762525479990127527964774279562757477151008868310155264,[(7,[(false,0,1),(false,1,1),(false,2,1),(false,3,1)]),(8,[(false,0,1),(false,1,1),(false,2,1),(false,3,1)]),(13,[(false,0,1),(false,1,1)]),(14,[(false,0,1),(false,1,1)]),(18,[(false,0,1)]),(19,[(false,0,1)]),(44,[(false,0,1),(false,1,1)]),(45,[(false,0,1),(false,1,1)]),(48,[(false,0,1),(false,1,1)]),(64,[(false,0,1),(false,1,1),(false,2,1)]),(65,[(false,0,1),(false,1,1),(false,2,1)]),(67,[(false,0,1),(false,1,1),(false,2,1),(false,3,1)]),(68,[(false,0,1),(false,1,1),(false,2,1),(false,3,1)]),(85,[(false,0,1),(false,1,1),(false,2,1),(false,3,1)]),(86,[(false,0,1),(false,1,1),(false,2,1),(false,3,1)]),(89,[(false,0,1)]),(90,[(false,0,1)]),(113,[(false,0,1),(false,1,1),(true,2,3),(false,5,1)]),(114,[(false,0,1),(false,1,1),(true,2,3),(false,5,1)]),(119,[(false,0,1),(false,1,1)]),(120,[(false,0,1),(false,1,1)]),(123,[(false,0,1),(false,1,1),(false,2,1),(false,3,1)]),(124,[(false,0,1),(false,1,1),(false,2,1),(false,3,1)]),(129,[(false,0,1),(false,1,1)]),(130,[(false,0,1),(false,1,1)]),(136,[(false,0,1),(false,1,1),(false,2,1),(false,3,1)]),(137,[(false,0,1),(false,1,1),(false,2,1),(false,3,1)]),(145,[(false,0,1),(false,1,1),(false,2,1)]),(146,[(false,0,1),(false,1,1),(false,2,1)]),(154,[(false,0,1),(false,1,1),(false,2,1)]),(155,[(false,0,1),(false,1,1),(false,2,1)]),(168,[(false,0,1),(false,1,1)]),(169,[(false,0,1),(false,1,1)]),(221,[(false,0,1),(false,1,1)]),(222,[(false,0,1),(false,1,1)]),(228,[(false,0,1),(false,1,1),(false,2,1),(false,3,1)]),(229,[(false,0,1),(false,1,1),(false,2,1),(false,3,1)])]⟩
theorem acD : vi Tryz.prog tb.fl:=⟨⟨⟨fv7_0,fa7_0⟩,⟨fv7_1,fa7_1⟩,⟨fv7_2,fa7_2⟩,⟨fv7_3,fa7_3⟩,trivial⟩,⟨⟨fv8_0,fa8_0⟩,⟨fv8_1,fa8_1⟩,⟨fv8_2,fa8_2⟩,⟨fv8_3,fa8_3⟩,trivial⟩,⟨⟨fv13_0,fa13_0⟩,⟨fv13_1,fa13_1⟩,trivial⟩,⟨⟨fv14_0,fa14_0⟩,⟨fv14_1,fa14_1⟩,trivial⟩,⟨⟨fv18_0,fa18_0⟩,trivial⟩,⟨⟨fv19_0,fa19_0⟩,trivial⟩,⟨⟨fv44_0,fa44_0⟩,⟨fv44_1,fa44_1⟩,trivial⟩,⟨⟨fv45_0,fa45_0⟩,⟨fv45_1,fa45_1⟩,trivial⟩,⟨⟨fv48_0,fa48_0⟩,⟨fv48_1,fa48_1⟩,trivial⟩,⟨⟨fv64_0,fa64_0⟩,⟨fv64_1,fa64_1⟩,⟨fv64_2,fa64_2⟩,trivial⟩,⟨⟨fv65_0,fa65_0⟩,⟨fv65_1,fa65_1⟩,⟨fv65_2,fa65_2⟩,trivial⟩,⟨⟨fv67_0,fa67_0⟩,⟨fv67_1,fa67_1⟩,⟨fv67_2,fa67_2⟩,⟨fv67_3,fa67_3⟩,trivial⟩,⟨⟨fv68_0,fa68_0⟩,⟨fv68_1,fa68_1⟩,⟨fv68_2,fa68_2⟩,⟨fv68_3,fa68_3⟩,trivial⟩,⟨⟨fv85_0,fa85_0⟩,⟨fv85_1,fa85_1⟩,⟨fv85_2,fa85_2⟩,⟨fv85_3,fa85_3⟩,trivial⟩,⟨⟨fv86_0,fa86_0⟩,⟨fv86_1,fa86_1⟩,⟨fv86_2,fa86_2⟩,⟨fv86_3,fa86_3⟩,trivial⟩,⟨⟨fv89_0,fa89_0⟩,trivial⟩,⟨⟨fv90_0,fa90_0⟩,trivial⟩,⟨⟨fv113_0,fa113_0⟩,⟨fv113_1,fa113_1⟩,⟨fv113_2,fa113_2⟩,⟨fv113_3,fa113_3⟩,trivial⟩,⟨⟨fv114_0,fa114_0⟩,⟨fv114_1,fa114_1⟩,⟨fv114_2,fa114_2⟩,⟨fv114_3,fa114_3⟩,trivial⟩,⟨⟨fv119_0,fa119_0⟩,⟨fv119_1,fa119_1⟩,trivial⟩,⟨⟨fv120_0,fa120_0⟩,⟨fv120_1,fa120_1⟩,trivial⟩,⟨⟨fv123_0,fa123_0⟩,⟨fv123_1,fa123_1⟩,⟨fv123_2,fa123_2⟩,⟨fv123_3,fa123_3⟩,trivial⟩,⟨⟨fv124_0,fa124_0⟩,⟨fv124_1,fa124_1⟩,⟨fv124_2,fa124_2⟩,⟨fv124_3,fa124_3⟩,trivial⟩,⟨⟨fv129_0,fa129_0⟩,⟨fv129_1,fa129_1⟩,trivial⟩,⟨⟨fv130_0,fa130_0⟩,⟨fv130_1,fa130_1⟩,trivial⟩,⟨⟨fv136_0,fa136_0⟩,⟨fv136_1,fa136_1⟩,⟨fv136_2,fa136_2⟩,⟨fv136_3,fa136_3⟩,trivial⟩,⟨⟨fv137_0,fa137_0⟩,⟨fv137_1,fa137_1⟩,⟨fv137_2,fa137_2⟩,⟨fv137_3,fa137_3⟩,trivial⟩,⟨⟨fv145_0,fa145_0⟩,⟨fv145_1,fa145_1⟩,⟨fv145_2,fa145_2⟩,trivial⟩,⟨⟨fv146_0,fa146_0⟩,⟨fv146_1,fa146_1⟩,⟨fv146_2,fa146_2⟩,trivial⟩,⟨⟨fv154_0,fa154_0⟩,⟨fv154_1,fa154_1⟩,⟨fv154_2,fa154_2⟩,trivial⟩,⟨⟨fv155_0,fa155_0⟩,⟨fv155_1,fa155_1⟩,⟨fv155_2,fa155_2⟩,trivial⟩,⟨⟨fv168_0,fa168_0⟩,⟨fv168_1,fa168_1⟩,trivial⟩,⟨⟨fv169_0,fa169_0⟩,⟨fv169_1,fa169_1⟩,trivial⟩,⟨⟨fv221_0,fa221_0⟩,⟨fv221_1,fa221_1⟩,trivial⟩,⟨⟨fv222_0,fa222_0⟩,⟨fv222_1,fa222_1⟩,trivial⟩,⟨⟨fv228_0,fa228_0⟩,⟨fv228_1,fa228_1⟩,⟨fv228_2,fa228_2⟩,⟨fv228_3,fa228_3⟩,trivial⟩,⟨⟨fv229_0,fa229_0⟩,⟨fv229_1,fa229_1⟩,⟨fv229_2,fa229_2⟩,⟨fv229_3,fa229_3⟩,trivial⟩,trivial⟩
instance : Tab Tryz.prog tb:=Tab.mk' 240 kR kR kR kR kR acD
theorem al : Tryz.prog.follows .mixedOrders = true:=by kernel_rfl
section
variable {n : Nat} {D : List Deferred} {E : bN} {B : Base} {G : Gh} {L : List Own} {k : List Fr} {Q : Exit → Act → World → Prop} {K : Act → World → Prop}
theorem jT [PQ Q] {ops : List Oper} {G0 : Gh} {L0 : List Own} (fuel : Nat) (is : List Nat) {E' : bN} {p' : List Prop} {fuel' : Nat} {listed : Array Bool} (listed' : Array Bool) (hn : Nx n D E' B G L (xA Tryz.prog ops.toArray Q (cy B G0 L0) fuel listed'))
    (hf : Nat.beq (fuel + is.length) fuel' = true:=by exact rfl) (h : iM tb n ops is E [] = some (E',p'):=by exact rfl) (hsel : Region.noSelect ops.toArray = true:=by kernel_rfl) (hb : mq ops.toArray is listed listed' = true:=by kernel_rfl)
    (hG : Gh.le G0 G:=by first | exact Gh.le.refl _ | assumption) (hL : L0.Sublist L:=by repeat (first | exact List.Sublist.refl _ | exact List.nil_sublist _ | apply List.Sublist.cons_cons | apply List.Sublist.cons)) (hp : iL p':=by exact trivial) : Nx n D E B G L (xA Tryz.prog ops.toArray Q (cy B G0 L0) fuel' listed):=uL is listed' hsel hb hf h hG hL hp hn
theorem jU [PQ Q] {ops : List Oper} {G0 : Gh} {L0 : List Own} (fuel : Nat) (is : List Nat) {E' : bN} {p' : List Prop} {fuel' : Nat} {listed : Array Bool} (listed' : Array Bool) (hp : iL p') (hn : Nx n D E' B G L (xA Tryz.prog ops.toArray Q (cy B G0 L0) fuel listed'))
    (hf : Nat.beq (fuel + is.length) fuel' = true:=by exact rfl) (h : iM tb n ops is E [] = some (E',p'):=by exact rfl) (hsel : Region.noSelect ops.toArray = true:=by kernel_rfl) (hb : mq ops.toArray is listed listed' = true:=by kernel_rfl)
    (hG : Gh.le G0 G:=by first | exact Gh.le.refl _ | assumption) (hL : L0.Sublist L:=by repeat (first | exact List.Sublist.refl _ | exact List.nil_sublist _ | apply List.Sublist.cons_cons | apply List.Sublist.cons)) : Nx n D E B G L (xA Tryz.prog ops.toArray Q (cy B G0 L0) fuel' listed):=uL is listed' hsel hb hf h hG hL hp hn
theorem jN {ops : List Oper} {G0 : Gh} {L0 : List Own} {fuel : Nat} {listed : Array Bool} (listed' : Array Bool) [PQ Q] (i : Nat) {o : Oper} {d : Nat} (hi : ops.toArray[i]? = some o)
    (k : Nx n D ((d,undef) :: E) B G L (xA Tryz.prog ops.toArray Q (cy B G0 L0) fuel listed')) (hb : nI ops.toArray listed i listed' = true:=by kernel_rfl) (hgu : sy E ops o = some false:=by exact rfl) (hG : Gh.le G0 G:=by first | exact Gh.le.refl _ | assumption) (hL : L0.Sublist L:=by repeat (first | exact List.Sublist.refl _ | exact List.nil_sublist _ | apply List.Sublist.cons_cons | apply List.Sublist.cons)) (hd : o.dst = some d:=by exact rfl) (hlt : Nat.blt d n = true:=by exact rfl) :
    Nx n D E B G L (xA Tryz.prog ops.toArray Q (cy B G0 L0) (fuel + 1) listed):=xQ listed' i hi hb hgu hG hL hd hlt k
theorem jG {ops : List Oper} {G0 : Gh} {L0 : List Own} {fuel : Nat} {listed : Array Bool} (listed' : Array Bool) [PQ Q] (i : Nat) {o : Oper} {d : Nat} {v : Value} (hi : ops.toArray[i]? = some o) (hg : Gives Tryz.prog n D E (cy B G0 L0) o v)
    (k : Nx n D ((d,v) :: E) B G L (xA Tryz.prog ops.toArray Q (cy B G0 L0) fuel listed')) (hb : nI ops.toArray listed i listed' = true:=by kernel_rfl) (hgu : sy E ops o = some true:=by exact rfl) (hG : Gh.le G0 G:=by first | exact Gh.le.refl _ | assumption) (hL : L0.Sublist L:=by repeat (first | exact List.Sublist.refl _ | exact List.nil_sublist _ | apply List.Sublist.cons_cons | apply List.Sublist.cons)) (hd : o.dst = some d:=by exact rfl) (hlt : Nat.blt d n = true:=by exact rfl) :
    Nx n D E B G L (xA Tryz.prog ops.toArray Q (cy B G0 L0) (fuel + 1) listed):=uM listed' i hi hb hgu hG hL hg hd hlt k
theorem jV {o : Oper} {d : Nat} {v : Value} (hg : Gives Tryz.prog n D E (St B G L) o v) (k : Nx n D ((d,v) :: E) B G L K) (hd : o.dst = some d:=by exact rfl) (hlt : Nat.blt d n = true:=by exact rfl) : Nx n D E B G L (ow Tryz.prog o Q K):=i8 hg hd hlt k
theorem jR {E' : bN} {c c' : Cu} {k k' : List Fr} {p' : List Prop} (hn : Nx n D E' B G L (cu Tryz.prog c' k' Q)) (h : rN tb n 400 E c k = some ⟨E',c',k',p'⟩:=by exact rfl) (hp : iL p':=by exact trivial) : Nx n D E B G L (cu Tryz.prog c k Q):=run 400 h hp hn
theorem jM {E' : bN} {c c' : Cu} {k k' : List Fr} {p' : List Prop} (hn : Nx n D E' B G L (cu Tryz.prog c' k' Q)) (h : rN tb n 400 E c k = some ⟨E',c',k',p'⟩:=by exact rfl) (hp : iL p':=by (repeat' (first | exact trivial | apply And.intro | omega));done) : Nx n D E B G L (cu Tryz.prog c k Q):=run 400 h hp hn
theorem jE {f : FuncId} {fn : Func} {c : Code} {args : List Value} {R : Value → Prop} (E0 : bN) (hf : Tryz.prog.funcs[f]? = some fn) (hn : fn.ntmps = n)
    (h : ∀ B,B.W = [] → Nx n [] E0 B G [] (cu Tryz.prog (.code c) [] (bp Tryz.prog fn (eP B (fun v G' L'=>G' = G ∧ L' = [] ∧ R v))))) (hb : fn.body = some c:=by exact rfl) (hok : eO Tryz.prog f = true:=by kernel_rfl) (hlen : Nat.ble args.length n = true:=by exact rfl) (hE : ix E0 (params 0 args):=by repeat' constructor) : a9 Tryz.prog f args G R:=yN E0 hf hok hn hb hlen hE h
theorem jB {f : FuncId} {fn : Func} {c : Code} {args : List Value} {Post : Value → Gh → List Own → Prop} (E0 : bN) (hf : Tryz.prog.funcs[f]? = some fn) (hn : fn.ntmps = n)
    (h : ∀ B,BOk B → B.G = G → B.W = cF L → Nx n [] E0 B G L (cu Tryz.prog (.code c) [] (bp Tryz.prog fn (eP B Post)))) (hb : fn.body = some c:=by exact rfl) (hok : eO Tryz.prog f = true:=by kernel_rfl) (hlen : Nat.ble args.length n = true:=by exact rfl) (hE : ix E0 (params 0 args):=by repeat' constructor) : Fn Tryz.prog f args G L Post:=zY E0 hf hok hn hb hlen hE h
theorem jH {f : FuncId} {fn : Func} {c : Code} {args : List Value} {R : Value → List Own → Prop} (E0 : bN) (hf : Tryz.prog.funcs[f]? = some fn) (hn : fn.ntmps = n)
    (h : ∀ B,B.G = G → B.W = cF L → Nx n [] E0 B G L (cu Tryz.prog (.code c) [] (bp Tryz.prog fn (eP B (fun v G' L'=>G' = G ∧ R v L'))))) (hb : fn.body = some c:=by exact rfl) (hok : eO Tryz.prog f = true:=by kernel_rfl) (hlen : Nat.ble args.length n = true:=by exact rfl) (hE : ix E0 (params 0 args):=by repeat' constructor) : dA Tryz.prog f args G L R:=yZ E0 hf hok hn hb hlen hE h
theorem jK {ops : Array Oper} {G0 : Gh} {L0 : List Own} {fuel : Nat} {listed : Array Bool} (listed' : Array Bool) (h : Nx n D E B G L (xA Tryz.prog ops Q (cy B G0 L0) fuel listed')) (hG : Gh.le G0 G:=by first | exact Gh.le.refl _ | assumption) (hL : L0.Sublist L:=by repeat (first | exact List.Sublist.refl _ | exact List.nil_sublist _ | apply List.Sublist.cons_cons | apply List.Sublist.cons)) (hl : (listed == listed') = true:=by kernel_rfl) : Nx n D E B G L (xK Tryz.prog ops Q (cy B G0 L0) fuel listed):=acB hG hL hl h
theorem jS {ops : Array Oper} {G0 : Gh} {L0 : List Own} {fuel : Nat} {listed : Array Bool} (listed' : Array Bool) (h : Nx n D E B G L (xA Tryz.prog ops Q (cy B G L) fuel listed')) (hG : Gh.le G0 G:=by first | exact Gh.le.refl _ | assumption) (hL : L0.Sublist L:=by repeat (first | exact List.Sublist.refl _ | exact List.nil_sublist _ | apply List.Sublist.cons_cons | apply List.Sublist.cons)) (hl : (listed == listed') = true:=by kernel_rfl) : Nx n D E B G L (xK Tryz.prog ops Q (cy B G0 L0) fuel listed):=acA hG hL hl h
theorem jA {ops : List Oper} {S : World → Prop} {fuel : Nat} {listed : Array Bool} (i : Nat) {o : Oper} (hi : ops.toArray[i]? = some o) (h : Nx n D E B G L (ow Tryz.prog o Q (xK Tryz.prog ops.toArray Q S fuel (listed.setIfInBounds i true)))) (hr : Region.ready .any ops.toArray listed = [i]:=by kernel_rfl) (hgu : sy E ops o = some true:=by exact rfl) : Nx n D E B G L (xA Tryz.prog ops.toArray Q S (fuel + 1) listed) :=
  b8 [i] hr (by simp) ⟨aO hi hgu h,trivial⟩
theorem jZ {fn : Func} {rs : List ResultVar} {vs : List Value} {v : Value} {L' : List Own} {Post : Value → Gh → List Own → Prop} (hr : fn.results = rs.toArray) (h : kY Tryz.prog (St B G L) E rs vs) (hv : gx vs = v) (hP : Post v G L')
    (hL : L'.Sublist L:=by exact List.nil_sublist _) : Nx n [] E B G L (cu Tryz.prog (.exit .ret) [] (bp Tryz.prog fn (eP B Post))):=aW hr h hv hL hP
theorem jX {E' : bN} {c c' : Cu} {k k' : List Fr} {p' : List Prop} (hn : Nx n D E' B G L (cu Tryz.prog c' k' Q)) (h : rN tb n 400 E c k = some ⟨E',c',k',p'⟩:=by exact rfl) (hp : iL p':=by (repeat' (first | exact trivial | apply And.intro | omega | assumption | (simp only [List.length_append,List.length_cons,List.length_nil,Int.toNat_natCast];omega) | (simp only [List.length_append,List.length_cons,List.length_nil,List.length_take,List.length_drop];omega) | (with_reducible exact (ry _ _).1) | (with_reducible exact (ry _ _).2)));done) : Nx n D E B G L (cu Tryz.prog c k Q):=run 400 h hp hn
theorem jW [PQ Q] {ops : List Oper} {G0 : Gh} {L0 : List Own} (fuel : Nat) (is : List Nat) {E' : bN} {p' : List Prop} {fuel' : Nat} {listed : Array Bool} (listed' : Array Bool) (hn : Nx n D E' B G L (xA Tryz.prog ops.toArray Q (cy B G0 L0) fuel listed'))
    (hf : Nat.beq (fuel + is.length) fuel' = true:=by exact rfl) (h : iM tb n ops is E [] = some (E',p'):=by exact rfl) (hsel : Region.noSelect ops.toArray = true:=by kernel_rfl) (hb : mq ops.toArray is listed listed' = true:=by kernel_rfl)
    (hG : Gh.le G0 G:=by first | exact Gh.le.refl _ | assumption) (hL : L0.Sublist L:=by repeat (first | exact List.Sublist.refl _ | exact List.nil_sublist _ | apply List.Sublist.cons_cons | apply List.Sublist.cons)) (hp : iL p':=by (repeat' (first | exact trivial | apply And.intro | omega | assumption | (simp only [List.length_append,List.length_cons,List.length_nil,Int.toNat_natCast];omega) | (simp only [List.length_append,List.length_cons,List.length_nil,List.length_take,List.length_drop];omega) | (with_reducible exact (ry _ _).1) | (with_reducible exact (ry _ _).2)));done) : Nx n D E B G L (xA Tryz.prog ops.toArray Q (cy B G0 L0) fuel' listed):=uL is listed' hsel hb hf h hG hL hp hn
section
variable {d : Nat} {ty : TypeId} {pos : String} {aft : Array Edge} {gd : Option (Nat × Bool)} {K2 : Act → World → Prop}
theorem aD {T T0 : TypeId} {x : Operand} {desc : TypeDesc} {size bytes : Nat} {zero : Value} {b o : Nat} {v : Value} {cs : List Value} {fr : Nat × Nat} [TI Tryz.prog T desc size bytes zero] [BlkI L b cs T0 fr] (hx : ev E x = some (Pt b o)) (k : Nx n D ((d,v) :: E) B G L K)
    (ha : dK desc = false:=by exact rfl) (hc : cs[o]? = some v:=by exact rfl) (hlt : Nat.blt d n = true:=by exact rfl) : Nx n D E B G L (ow Tryz.prog ⟨some d,.load T x,ty,pos,aft,gd⟩ Q K):=i8 (aT hx ha hc) rfl hlt k
theorem bK {T T0 : TypeId} {x : Operand} {desc : TypeDesc} {size bytes : Nat} {zero : Value} {b o : Nat} {vs : List Value} {cs : List Value} {fr : Nat × Nat} [TI Tryz.prog T desc size bytes zero] [BlkI L b cs T0 fr] (hx : ev E x = some (Pt b o)) (k : Nx n D ((d,Ag vs) :: E) B G L K)
    (ha : dK desc = true:=by exact rfl) (hc : np cs o size = some vs:=by exact rfl) (hl : Nat.beq vs.length size = true:=by exact rfl) (hlt : Nat.blt d n = true:=by exact rfl) : Nx n D E B G L (ow Tryz.prog ⟨some d,.load T x,ty,pos,aft,gd⟩ Q K):=i8 (bM hx ha hc hl) rfl hlt k
theorem aN {c x y : Operand} {b : Bool} {v : Value} (hc : ev E c = some (.bool b)) (k : Nx n D ((d,v) :: E) B G L K) (hx : ev E x = some v:=by exact rfl) (hb : b = true:=by exact rfl) (hlt : Nat.blt d n = true:=by exact rfl) : Nx n D E B G L (ow Tryz.prog ⟨some d,.pick c x y,ty,pos,aft,gd⟩ Q K):=i8 (bL hc hx hb) rfl hlt k
theorem aC {c x y : Operand} {b : Bool} {v : Value} (hc : ev E c = some (.bool b)) (k : Nx n D ((d,v) :: E) B G L K) (hy : ev E y = some v:=by exact rfl) (hb : b = false:=by exact rfl) (hlt : Nat.blt d n = true:=by exact rfl) : Nx n D E B G L (ow Tryz.prog ⟨some d,.pick c x y,ty,pos,aft,gd⟩ Q K):=i8 (bi hc hy hb) rfl hlt k
theorem jC {T T0 : TypeId} {x y : Operand} {desc : TypeDesc} {size bytes : Nat} {zero : Value} {b o : Nat} {cs vs cs' : List Value} {fr : Nat × Nat} {L' : List Own} [TI Tryz.prog T desc size bytes zero] [BlkI L b cs T0 fr] [hu : UpdI b cs' L cs T0 L'] (hx : ev E x = some (Pt b o)) (hy : ev E y = some (Ag vs)) (hp : gS cs o vs = some cs') (k : Nx n D E B G L' K)
    (hl : Nat.beq vs.length size = true:=by exact rfl) (hne : vs.isEmpty = false:=by exact rfl) (h1 : em vs = true:=by exact rfl) : Nx n D E B G L (ow Tryz.prog ⟨none,.store T x y,ty,pos,aft,gd⟩ Q K):=ab0 hx hy hl hne h1 hp k
theorem jD {T T0 : TypeId} {x y : Operand} {desc : TypeDesc} {bytes : Nat} {zero v : Value} {b o : Nat} {cs cs' : List Value} {fr : Nat × Nat} {L' : List Own} [TI Tryz.prog T desc 1 bytes zero] [BlkI L b cs T0 fr] [hu : UpdI b cs' L cs T0 L'] (hx : ev E x = some (Pt b o)) (hy : ev E y = some v) (hp : gS cs o [v] = some cs') (k : Nx n D E B G L' K) (h1 : v.oneCell' = true:=by exact rfl) : Nx n D E B G L (ow Tryz.prog ⟨none,.store T x y,ty,pos,aft,gd⟩ Q K):=ab1 hx hy h1 hp k
end
theorem jY {fn : Func} {rs : List ResultVar} {vs : List Value} {R : Value → Prop} (hP : R (gx vs)) (hr : fn.results = rs.toArray:=by exact rfl) (h : kY Tryz.prog (St B G L) E rs vs:=by repeat' (first | exact trivial | refine ⟨rfl,?_⟩)) : Nx n [] E B G L (cu Tryz.prog (.exit .ret) [] (bp Tryz.prog fn (eP B (fun v G' L'=>G' = G ∧ L' = [] ∧ R v)))):=aW hr h rfl (List.nil_sublist _) ⟨rfl,rfl,hP⟩
theorem jo {a l : List Oper} {i : Nat} {pm : List Nat} {o : Oper} (h : Nx n D E B G L (ow Tryz.prog o (kk Tryz.prog k Q) (cu Tryz.prog (.ops a l (i + 1) pm) k Q))) (hg : nX E a pm o = some true:=by exact rfl) : Nx n D E B G L (cu Tryz.prog (.ops a (o :: l) i pm) k Q):=va hg h
section
variable {d : Nat} {ty : TypeId} {pos : String} {aft : Array Edge} {gd : Option (Nat × Bool)}
theorem jF {T el : TypeId} {len : Nat} {ps : List (Nat × Operand)} {qs : List (Nat × List Value)} {desc : TypeDesc} {size bytes size' bytes' : Nat} {zero zero' : Value} {zs cs : List Value} [TI Tryz.prog T (.slice el) size' bytes' zero'] [TI Tryz.prog el desc size bytes zero] (k : ∀ b,Nx n D ((d,.slice (some ⟨b,0,none⟩) len len) :: E) B G (.blk b (.cells cs.toArray el (0,0)) :: L) K) (hz : fg zero = some zs:=by exact rfl)
    (hsz : Nat.beq zs.length size = true:=by exact rfl) (he : qZ E ps = some qs:=by exact rfl) (hf : pD (jl (pR size) (cg zs len) qs) = some cs:=by exact rfl) (hsm : Nat.ble (len * size) 16777216 = true:=by exact rfl) (hlt : Nat.blt d n = true:=by exact rfl) : Nx n D E B G L (ow Tryz.prog ⟨some d,.buildSlice T len ps.toArray,ty,pos,aft,gd⟩ Q K):=ace hz hsz hsm hlt he hf k
theorem jL {T : TypeId} {desc : TypeDesc} {size bytes : Nat} {zero : Value} {cs : List Value} [TI Tryz.prog T desc size bytes zero] (k : ∀ b,Nx n D ((d,Pt b 0) :: E) B G (.blk b (.cells cs.toArray T (0,0)) :: L) K) (hz : fg zero = some cs:=by exact rfl) (hlt : Nat.blt d n = true:=by exact rfl) : Nx n D E B G L (ow Tryz.prog ⟨some d,.alloc T,ty,pos,aft,gd⟩ Q K):=acO hz hlt k
theorem jO {T : TypeId} {x : Operand} {v : Value} {cs : List Value} (k : ∀ b,Nx n D ((d,Pt b 0) :: E) B G (.blk b (.cells cs.toArray T (0,0)) :: L) K) (hx : ev E x = some v:=by exact rfl) (hz : fg v = some cs:=by exact rfl) (hlt : Nat.blt d n = true:=by exact rfl) : Nx n D E B G L (ow Tryz.prog ⟨some d,.box T x,ty,pos,aft,gd⟩ Q K):=acN hx hz hlt k
end
theorem jQ {ops : Array Oper} {S : World → Prop} {fuel : Nat} {listed : Array Bool} (h : Nx n D E B G L (cu Tryz.prog (.exit .normal) k Q)) (hr : Region.ready .any ops listed = []:=by kernel_rfl) : Nx n D E B G L (xA Tryz.prog ops (kk Tryz.prog k Q) S fuel listed):=z5 hr (acL h)
theorem zA {α : Type _} {a : α} {l m : List α} : a :: l ++ m = a :: (l ++ m):=rfl
theorem fA {α : Type _} {l : List α} : [] ++ l = l:=rfl
end
set_option maxRecDepth 20000
set_option maxHeartbeats 2000000
def num (n : Nat) : List UInt8:=if h : n < 128 then [u8 n] else u8 (128 + n % 128 : Nat) :: num (n / 128)
termination_by n
decreasing_by omega
def aaq (n : Int) : List UInt8:=num n.toNat
def aad (n : Int) : List UInt8 → Int
 | []=>n
 | c :: l=>aad ((n * 31 + (c.toNat : Int)) % 9973) l
def acH (l : List UInt8) : Int:=aad 1 l
theorem ld {l : List UInt8} {i : Nat} (h : i < l.length) : ∃ c : UInt8,l.drop i = c :: l.drop (i + 1) ∧ bt l i = c.toNat:=by
 refine ⟨l[i],(List.getElem_cons_drop (h:=h)).symm,?_⟩
 simp [bt,List.getD,List.getElem?_eq_getElem h]
def frame (s : List UInt8) : List UInt8:=[u8 126] ++ aaq s.length ++ s ++ aaq (acH s)
variable {G : Gh}
theorem abk {n lo hi : Int} : a9 Tryz.prog 152 [I n,I lo,I hi] G (· = Bo (decide (lo ≤ n) && decide (n ≤ hi))):=by
 refine jE [(0,_),(1,_),(2,_)] Tryz.func152 Tryz.ntmps152 fun B hB=>?_
 repeat' (first | refine jR ?_ | (refine jo ?_;first | refine aN rfl ?_ | refine aC rfl ?_) | refine eQ rfl rfl (fun _=>?_) (fun _=>?_))
 all_goals refine jY (vs:=[_]) ?_
 all_goals (rw [aU];simp [*])
def pZ (xs : List (List UInt8)) : List Value:=xs.map fun x=>S x
theorem qy (xs : List (List UInt8)) (x : List UInt8) : pZ (xs ++ [x]) = pZ xs ++ [S x]:=by simp [pZ]
abbrev uP : TypeId:=9
theorem be {α : Type} [Inhabited α] {a : List α} {i : Nat} (h : i < a.length) : ab a i ∈ a:=by rw [aA h];exact List.getElem_mem h
theorem nx {α : Type} [Inhabited α] {a : List α} {x : α} (h : x ∈ a) : ∃ i,i < a.length ∧ ab a i = x:=by
 obtain ⟨i,hi,e⟩:=List.mem_iff_getElem.1 h
 exact ⟨i,hi,by rw [aA hi,e]⟩
theorem pu (p s : List UInt8) : p.isPrefixOf s = decide (p.length ≤ s.length ∧ s.take p.length = p):=by
 by_cases h : p <+: s
 ·have h1:=List.isPrefixOf_iff_prefix.2 h
  rw [h1];obtain ⟨r,rfl⟩:=h;simp
 ·have h1 : p.isPrefixOf s = false:=by
   cases hb : p.isPrefixOf s with
   | false=>rfl
   | true=>exact absurd (List.isPrefixOf_iff_prefix.1 hb) h
  rw [h1];symm;refine decide_eq_false fun ⟨_,h3⟩=>h ?_
  rw [← h3];exact List.take_prefix _ _
theorem iu {s p : List UInt8} : a9 Tryz.prog 115 [S s,S p] G (· = Bo (p.isPrefixOf s)):=by
 rw [pu]
 refine jE [(0,_),(1,_)] Tryz.func115 Tryz.ntmps115 fun B hB=>?_
 repeat' (first | refine jM ?_ | (refine jo ?_;first | refine aN rfl ?_ | refine aC rfl ?_) | refine eQ rfl rfl (fun _=>?_) (fun _=>?_))
 all_goals refine jY (vs:=[_]) ?_
 all_goals (rw [aU];simp;omega)
theorem iS {s p : List UInt8} : a9 Tryz.prog 81 [S s,S p] G (· = Bo (p.isPrefixOf s)):=by
 refine jE [(0,_),(1,_)] Tryz.func81 Tryz.ntmps81 fun B hB=>?_
 repeat' (first | refine jR ?_ | (refine jo ?_;refine ae rfl rfl rfl iu rfl ?_))
 all_goals refine jY (vs:=[_]) ?_
 all_goals rfl
def kG (c : UInt8) : Bool:=decide (97 ≤ c.toNat ∧ c.toNat ≤ 122)
def cK (s : List UInt8) : Bool:=s.all kG && decide (1 ≤ s.length ∧ s.length ≤ 3)
def eR : List UInt8 → Bool
 | []=>false
 | c :: r=>if c.toNat = 91 ∨ c.toNat = 63 then eR r
  else if c.toNat = 64 then decide (((bt (c :: r) r.length : Nat) : Int) = 59) && cK (r.take (r.length - 1))
  else decide (r = []) && (decide (c.toNat = 110) || decide (c.toNat = 116) || decide (c.toNat = 102))
def bW (s : List UInt8) : Bool:=decide (s.length ≤ 12) && eR s
def bR : List UInt8 → List UInt8
 | []=>[]
 | c :: r=>if c.toNat = 91 ∨ c.toNat = 63 then bR r else c :: r
theorem uk {s : List UInt8} {i : Nat} (h : i < s.length) (h2 : ¬ (97 ≤ bt s i ∧ bt s i ≤ 122)) : cK s = false:=by
 have e : bt s i = (s[i]).toNat:=by simp [bt,List.getD,List.getElem?_eq_getElem h]
 have : s.all kG = false:=by
  rw [List.all_eq_false]
  exact ⟨s[i],List.getElem_mem h,by rw [e] at h2;simpa [kG] using h2⟩
 rw [cK,this,Bool.false_and]
theorem xi {s : List UInt8} (h : ∀ i,i < s.length → 97 ≤ bt s i ∧ bt s i ≤ 122) : cK s = decide (1 ≤ s.length ∧ s.length ≤ 3):=by
 have : s.all kG = true:=by
  rw [List.all_eq_true]
  intro c hc
  obtain ⟨i,hi,rfl⟩:=List.mem_iff_getElem.1 hc
  have e : bt s i = (s[i]).toNat:=by simp [bt,List.getD,List.getElem?_eq_getElem hi]
  have:=h i hi
  rw [e] at this
  simpa [kG] using this
 rw [cK,this,Bool.true_and]
def rf (n : Nat) : List UInt8:=if h : n < 10 then [u8 (48 + n : Nat)] else rf (n / 10) ++ [u8 (48 + n % 10 : Nat)]
termination_by n
decreasing_by omega
def bE (n : Int) : List UInt8:=rf n.toNat
theorem d4 {n : Int} (h : n < 10) (h0 : 0 ≤ n) : bE n = [u8 (48 + n)]:=by
 unfold bE;rw [rf,dif_pos oM];congr 1;congr 1;omega
theorem jv {n : Int} (h : ¬ n < 10) : bE n = bE (n / 10) ++ [u8 (48 + n % 10)]:=by
 unfold bE;rw [rf,dif_neg oM]
 have e1 : n.toNat / 10 = (n / 10).toNat:=oM
 have e2 : ((48 + n.toNat % 10 : Nat) : Int) = 48 + n % 10:=oM
 rw [e1,e2]
theorem uv (n : Nat) : ∀ k,n < 10 ^ (k + 1) → (rf n).length ≤ k + 1:=by
 intro k
 induction k generalizing n with
 | zero=>intro h;rw [rf,dif_pos (by simpa using h)];simp
 | succ k ih =>
  intro h
  by_cases h1 : n < 10
  ·rw [rf,dif_pos h1];simp
  ·rw [rf,dif_neg h1]
   have:=ih (n / 10) (Nat.div_lt_of_lt_mul (by rw [Nat.pow_succ] at h;omega))
   simp;omega
theorem gV {n : Int} (h : n ≤ 9223372036854775807) : (bE n).length ≤ 19:=uv _ 18 oM
theorem gt {s : List UInt8} (h : s.length ≤ 9000000000000000000) : a9 Tryz.prog 134 [S s] G (· = Bo (cK s)):=by
 refine jE [(0,_)] Tryz.func134 Tryz.ntmps134 fun B hB=>?_
 repeat' (refine jR ?_)
 refine aV (ι:=Nat) (fun i=>i ≤ s.length ∧ ∀ k,k < i → 97 ≤ bt s k ∧ bt s k ≤ 122) (fun i=>[(0,S s),(3,I i)]) (fun _=>G) (fun i=>[]) (fun i=>s.length - i) 0 ?_ tU rfl a8 (fun i Hi=>?_)
 ·exact ⟨oM,fun k hk=>absurd hk oM⟩
 by_cases hi : i < s.length
 ·repeat' (first | refine jM ?_ | (refine jo ?_;first | refine aN rfl ?_ | refine aC rfl ?_) | refine eQ rfl rfl (fun _=>?_) (fun _=>?_) | (refine ac rfl (by first | rfl | (refine decide_eq_true ?_;(omega))) ?_) | refine er rfl (fun _=>?_) (fun _=>?_))
  ·rename_i hc
   refine jY (vs:=[_]) ?_
   have hc : ((bt s i : Nat) : Int) < 97:=hc
   rw [aU,uk hi oM]
  ·rename_i _ hc
   refine jY (vs:=[_]) ?_
   have hc : (122 : Int) < ((bt s i : Nat) : Int):=hc
   rw [aU,uk hi oM]
  ·rename_i h1 h2
   have h1 : ¬ ((bt s i : Nat) : Int) < 97:=h1
   have h2 : ¬ (122 : Int) < ((bt s i : Nat) : Int):=h2
   refine bj (i + 1) ⟨oM,fun k hk=>?_⟩ oM tU rfl a8
   rcases Nat.lt_or_ge k i with h3 | h3
   ·exact Hi.2 k h3
   ·have : k = i:=oM
    subst this;omega
 ·repeat' (first | refine jR ?_ | (refine jo ?_;refine ae rfl rfl rfl abk rfl ?_) | refine ad rfl (aG oM) ?_)
  refine jY (vs:=[_]) ?_
  rw [aU,xi fun k hk=>Hi.2 k oM]
  refine congrArg Bo ?_
  rw [Bool.decide_and]
  exact congr (congrArg and (decide_eq_decide.2 oM)) (decide_eq_decide.2 oM)
theorem mf (c : UInt8) (r : List UInt8) : bt (c :: r) 0 = c.toNat:=by simp [bt,List.getD]
theorem zO {c : UInt8} {r : List UInt8} (h : r ≠ []) (hl : r.length ≤ 1000000) : a9 Tryz.prog 97 [S (c :: r)] G (· = Tu [S (if c.toNat = 64 then r.take (r.length - 1) else []),Bo (decide (c.toNat = 64))]):=by
 have hp:=List.length_pos_iff.2 h
 have e0:=mf c r
 refine jE [(0,_)] Tryz.func97 Tryz.ntmps97 fun B hB=>?_
 repeat' (first | refine jX ?_ | refine er rfl (fun _=>?_) (fun _=>?_))
 ·rename_i hc
  refine jY (vs:=[_,_]) ?_
  have hc : ((bt (c :: r) 0 : Nat) : Int) ≠ 64:=hc
  have hc : ¬ c.toNat = 64:=oM
  rw [gj,if_neg hc,decide_eq_false hc]
 ·rename_i hc
  refine jY (vs:=[_,_]) ?_
  have hc : ¬ ((bt (c :: r) 0 : Nat) : Int) ≠ 64:=hc
  have hc : c.toNat = 64:=oM
  have e : ((((c :: r).length : Nat) : Int) - 1).toNat = (r.length - 1) + 1:=by simp only [List.length_cons];omega
  rw [gj,if_pos hc,decide_eq_true hc,e,List.take_succ_cons];rfl
theorem nh {s : List UInt8} : a9 Tryz.prog 96 [S s] G (· = Bo (bW s)):=by
 induction s with
 | nil =>
  refine jE [(0,_)] Tryz.func96 Tryz.ntmps96 fun B hB=>?_
  repeat' (first | refine jR ?_ | (refine jo ?_;refine aC rfl ?_) | refine ar rfl rfl rfl ?_ | refine ac rfl rfl ?_)
  all_goals refine jY (vs:=[_]) ?_
  all_goals rfl
 | cons c r ih =>
  have e0 : bt (c :: r) (Int.toNat 0) = c.toNat:=mf c r
  by_cases hl : (c :: r).length ≤ 12
  ·have hl2 : r.length ≤ 12:=by simp at hl;omega
   rw [bW,decide_eq_true hl,Bool.true_and,eR]
   rw [bW,decide_eq_true hl2,Bool.true_and] at ih
   have hcons : (c :: r).length = r.length + 1:=rfl
   by_cases h1 : c.toNat = 91
   ·rw [if_pos (.inl h1)]
    refine jE [(0,_)] Tryz.func96 Tryz.ntmps96 fun B hB=>?_
    repeat' (first | refine jM ?_ | (refine jo ?_;first | refine aC rfl ?_ | refine ae rfl rfl rfl ih rfl ?_) | refine ar rfl rfl (aG oM) ?_ | refine ac rfl (ay oM) ?_ | refine ad rfl rfl ?_)
    refine jY (vs:=[_]) ?_
    rfl
   by_cases h2 : c.toNat = 63
   ·rw [if_pos (.inr h2)]
    refine jE [(0,_)] Tryz.func96 Tryz.ntmps96 fun B hB=>?_
    repeat' (first | refine jM ?_ | (refine jo ?_;first | refine aC rfl ?_ | refine ae rfl rfl rfl ih rfl ?_) | refine ar rfl rfl (aG oM) ?_ | refine ac rfl (ay oM) ?_ | (refine ad rfl (by first | rfl | (refine decide_eq_false ?_;(omega))) ?_))
    refine jY (vs:=[_]) ?_
    rfl
   rw [if_neg oM]
   by_cases h3 : c.toNat = 64
   ·rw [if_pos h3]
    have h5 : ((((c :: r).length : Nat) : Int) - 1).toNat = r.length:=oM
    by_cases h4 : ((bt (c :: r) r.length : Nat) : Int) = 59
    ·have h6 : ((bt (c :: r) ((((c :: r).length : Nat) : Int) - 1).toNat : Nat) : Int) = 59:=by rw [h5];exact h4
     have hp : 0 < r.length:=by
      rcases Nat.eq_zero_or_pos r.length with h0 | h0
      ·have : r = []:=List.length_eq_zero_iff.1 h0
       subst this
       have : ((bt [c] (Int.toNat 0) : Nat) : Int) = 59:=h4
       omega
      ·exact h0
     have e1 : ((((c :: r).length : Nat) : Int) - 1).toNat = (r.length - 1) + 1:=oM
     refine jE [(0,_)] Tryz.func96 Tryz.ntmps96 fun B hB=>?_
     repeat' (first | refine jM ?_ | (refine jo ?_;first | refine aN rfl ?_ | refine aC rfl ?_ | (refine ae rfl rfl rfl (gt ?_) rfl ?_;(focus ((simp;omega);done)))) | refine aH rfl rfl (ay ‹_›) ?_ | refine ar rfl rfl (aG oM) ?_ | refine ac rfl (ay oM) ?_ | (refine ad rfl (by first | rfl | (refine decide_eq_false ?_;(omega))) ?_))
     refine jY (vs:=[_]) ?_
     rw [aU,decide_eq_true h4,Bool.true_and,e1,List.take_succ_cons];rfl
    ·have h6 : ¬ ((bt (c :: r) ((((c :: r).length : Nat) : Int) - 1).toNat : Nat) : Int) = 59:=by rw [h5];exact h4
     refine jE [(0,_)] Tryz.func96 Tryz.ntmps96 fun B hB=>?_
     repeat' (first | refine jM ?_ | (refine jo ?_;refine aC rfl ?_) | (refine ar rfl rfl (by refine decide_eq_false ?_;first | assumption | omega) ?_) | refine ac rfl (ay oM) ?_ | (refine ad rfl (by first | rfl | (refine decide_eq_false ?_;(omega))) ?_))
     refine jY (vs:=[_]) ?_
     rw [aU,decide_eq_false h4,Bool.false_and]
   ·rw [if_neg h3]
    have n1 : ∀ x : UInt8,(c :: r = [x]) = (c.toNat = x.toNat ∧ r = []):=fun x=>by
     rw [List.cons.injEq];exact propext ⟨fun h=>⟨by rw [h.1],h.2⟩,fun h=>⟨UInt8.toNat_inj.1 h.1,h.2⟩⟩
    refine jE [(0,_)] Tryz.func96 Tryz.ntmps96 fun B hB=>?_
    repeat' (first | refine jM ?_ | (refine jo ?_;first | refine aN rfl ?_ | refine aC rfl ?_) | refine aH rfl rfl rfl ?_ | refine ar rfl rfl (aG oM) ?_ | refine eQ rfl rfl (fun _=>?_) (fun _=>?_) | (refine ad rfl (by first | rfl | (refine decide_eq_false ?_;(omega))) ?_))
    all_goals refine jY (vs:=[_]) ?_
    all_goals rw [aU]
    ·rename_i h;rw [n1] at h;rw [decide_eq_true h.2,decide_eq_true (p:=c.toNat = 110) h.1];rfl
    ·rename_i h;rw [n1] at h;rw [decide_eq_true h.2,decide_eq_true (p:=c.toNat = 116) h.1];simp
    ·rename_i ha hb
     refine congrArg Bo ?_
     rw [n1] at ha hb
     simp only [n1]
     by_cases hr : r = []
     ·have hx : ¬ c.toNat = 110:=fun h=>ha ⟨h,hr⟩
      have hy : ¬ c.toNat = 116:=fun h=>hb ⟨h,hr⟩
      simp [hr,hx,hy]
     ·simp [hr]
  ·rw [bW,decide_eq_false hl,Bool.false_and]
   refine jE [(0,_)] Tryz.func96 Tryz.ntmps96 fun B hB=>?_
   repeat' (first | refine jR ?_ | (refine jo ?_;refine aN rfl ?_) | refine aH rfl rfl (ay oM) ?_ | refine ac rfl rfl ?_)
   all_goals refine jY (vs:=[_]) ?_
   all_goals rfl
theorem s0 {s : List UInt8} (h : eR s = true) : a9 Tryz.prog 98 [S s] G (· = S (bR s)):=by
 refine jE [(0,_)] Tryz.func98 Tryz.ntmps98 fun B hB=>?_
 repeat' (refine jR ?_)
 refine aV (ι:=List UInt8) (fun t=>eR t = true ∧ bR t = bR s) (fun t=>[(0,S t)]) (fun _=>G) (fun t=>[]) (fun t=>t.length) s ?_ tU rfl a8 (fun t Ht=>?_)
 ·exact ⟨h,rfl⟩
 match t,Ht with
 | c :: r,Ht =>
  have e0 : bt (c :: r) (Int.toNat 0) = c.toNat:=mf c r
  have hcons : (c :: r).length = r.length + 1:=rfl
  by_cases h1 : c.toNat = 91 ∨ c.toNat = 63
  ·have hk : eR r = true:=by have:=Ht.1;rw [eR,if_pos h1] at this;exact this
   have hc : bR r = bR s:=by rw [← Ht.2,bR,if_pos h1]
   rcases h1 with h1 | h1
   all_goals repeat' (first | refine jM ?_ | (refine jo ?_;first | refine aN rfl ?_ | refine aC rfl ?_) | refine aH rfl rfl (ay oM) ?_ | refine ar rfl rfl (aG oM) ?_ | (refine ac rfl (by first | rfl | (refine decide_eq_true ?_;(omega))) ?_))
   all_goals exact bj r ⟨hk,hc⟩ oM tU rfl a8
  ·repeat' (first | refine jM ?_ | (refine jo ?_;refine aC rfl ?_) | refine ar rfl rfl (aG oM) ?_ | refine ad rfl (aG oM) ?_)
   refine jY (vs:=[_]) ?_
   rw [aU,← Ht.2,bR,if_neg h1]
theorem xH : ∀ (k : Nat) {n : Int},n.toNat ≤ k → 0 ≤ n ∧ n ≤ 9223372036854775807 → a9 Tryz.prog 101 [I n] G (· = S (bE n)):=by
 intro k
 induction k with
 | zero =>
  intro n hk hn
  have h1 : n < 10:=oM
  refine jE [(0,_)] Tryz.func101 Tryz.ntmps101 fun B hB=>?_
  repeat' (first | refine jM ?_ | (refine jo ?_;first | refine jF fun _=>?_ | refine jV (im rfl rfl (by (repeat (first | exact BL.nil | apply BL.cons));done)) ?_) | refine ac rfl (ay ‹_›) ?_ | refine ad rfl (aG oM) ?_)
  refine jY (vs:=[_]) ?_
  rw [aU,d4 h1 hn.1]
 | succ k ih =>
  intro n hk hn
  have hl:=gV (n:=n / 10) oM
  by_cases h1 : n < 10
  ·refine jE [(0,_)] Tryz.func101 Tryz.ntmps101 fun B hB=>?_
   repeat' (first | refine jM ?_ | (refine jo ?_;first | refine jF fun _=>?_ | refine jV (im rfl rfl (by (repeat (first | exact BL.nil | apply BL.cons));done)) ?_) | refine ac rfl (ay ‹_›) ?_ | refine ad rfl (aG oM) ?_)
   refine jY (vs:=[_]) ?_
   rw [aU,d4 h1 hn.1]
  ·refine jE [(0,_)] Tryz.func101 Tryz.ntmps101 fun B hB=>?_
   repeat' (first | refine jR ?_ | (refine ad rfl (by refine decide_eq_false ?_;first | assumption | omega) ?_) | (refine am (an (id:=7) _ (fun _ h=>h) al ?_);refine jW 5 [0,1,3,4,5,6] (aa 11 123) ?_;refine b8 [2,7] kR dC ⟨?_,?_,trivial⟩;(focus (refine aO rfl rfl ?_;((refine ae rfl rfl rfl (ih ?_ ?_) rfl ?_;(focus omega);focus omega));refine jS (aa 11 127) ?_;refine jA 7 rfl ?_;(refine jF fun _=>?_);refine jS (aa 11 255) ?_;((refine jG (aa 11 511) 8 rfl (im rfl rfl (by (repeat (first | exact BL.nil | apply BL.cons));done)) ?_));refine jW 0 [9,10] (aa 11 2047) ?_;refine jQ ?_));rotate_left 1;(focus (refine aO rfl rfl ?_;(refine jF fun _=>?_);refine jS (aa 11 251) ?_;((refine jG (aa 11 507) 8 rfl (im rfl rfl (by (repeat (first | exact BL.nil | apply BL.cons));done)) ?_));refine jA 2 rfl ?_;((refine ae rfl rfl rfl (ih ?_ ?_) rfl ?_;(focus omega);focus omega));refine jS (aa 11 511) ?_;refine jW 0 [9,10] (aa 11 2047) ?_;refine jQ ?_));rotate_left 1))
   all_goals refine jY (vs:=[_]) ?_
   all_goals rw [aU,jv (n:=n) h1]
theorem dn {n : Int} (hn : 0 ≤ n ∧ n ≤ 9223372036854775807) : a9 Tryz.prog 101 [I n] G (· = S (bE n)):=xH n.toNat (Nat.le_refl _) hn
def gv (s : List UInt8) : List UInt8:=if s = [110] then [48] else if s = [116] then [39,39] else if s = [102] then [110,111] else []
theorem rk {s : List UInt8} : a9 Tryz.prog 144 [S s] G (· = S (gv s)):=by
 refine jE [(0,_)] Tryz.func144 Tryz.ntmps144 fun B hB=>?_
 repeat' (first | refine jR ?_ | refine er rfl (fun _=>?_) (fun _=>?_))
 all_goals refine jY (vs:=[_]) ?_
 all_goals (rw [aU,gv];simp [*])
def je (x : Nat) : Prop:=x = 32 ∨ (48 ≤ x ∧ x ≤ 57) ∨ (97 ≤ x ∧ x ≤ 122)
instance (x : Nat) : Decidable (je x):=inferInstanceAs (Decidable (_ ∨ _))
def TxP (s : List UInt8) : Prop:=(2 ≤ s.length ∧ s.length ≤ 14) ∧ bt s 0 = 39 ∧ bt s (s.length - 1) = 39 ∧ ∀ i,i < s.length - 1 → i = 0 ∨ je (bt s i)
instance (s : List UInt8) : Decidable (TxP s):=inferInstanceAs (Decidable (_ ∧ _ ∧ _ ∧ _))
def dQ (s : List UInt8) : Bool:=decide (TxP s)
theorem gW {s : List UInt8} (h : s.length ≤ 100000000) : a9 Tryz.prog 120 [S s] G (· = Bo (dQ s)):=by
 by_cases h1 : 2 ≤ s.length ∧ s.length ≤ 14
 case neg =>
  have e : dQ s = false:=decide_eq_false fun x=>h1 x.1
  rw [e]
  refine jE [(0,_)] Tryz.func120 Tryz.ntmps120 fun B hB=>?_
  repeat' (first | refine jR ?_ | (refine jo ?_;first | refine aN rfl ?_ | refine aC rfl ?_) | (refine aH rfl rfl (by first | rfl | (refine decide_eq_true ?_;(omega))) ?_) | refine eQ rfl rfl (fun _=>?_) (fun _=>?_) | refine ac rfl rfl ?_)
  all_goals refine jY (vs:=[_]) ?_
  all_goals rfl
 by_cases h2 : bt s 0 = 39
 case neg =>
  have e : dQ s = false:=decide_eq_false fun x=>h2 x.2.1
  have h3 : ¬ bt s (Int.toNat 0) = 39:=h2
  rw [e]
  refine jE [(0,_)] Tryz.func120 Tryz.ntmps120 fun B hB=>?_
  repeat' (first | refine jM ?_ | (refine jo ?_;first | refine aN rfl ?_ | refine aC rfl ?_) | refine aH rfl rfl (ay oM) ?_ | refine ar rfl rfl (aG oM) ?_ | refine ac rfl rfl ?_)
  all_goals refine jY (vs:=[_]) ?_
  all_goals rfl
 have h3 : bt s (Int.toNat 0) = 39:=h2
 have h4 : (((s.length : Nat) : Int) - 1).toNat = s.length - 1:=oM
 by_cases h5 : bt s (s.length - 1) = 39
 case neg =>
  have e : dQ s = false:=decide_eq_false fun x=>h5 x.2.2.1
  have h6 : ¬ bt s (((s.length : Nat) : Int) - 1).toNat = 39:=by rw [h4];exact h5
  rw [e]
  refine jE [(0,_)] Tryz.func120 Tryz.ntmps120 fun B hB=>?_
  repeat' (first | refine jM ?_ | (refine jo ?_;refine aC rfl ?_) | refine ar rfl rfl (aG oM) ?_ | refine ac rfl (ay oM) ?_)
  all_goals refine jY (vs:=[_]) ?_
  all_goals rfl
 have h6 : bt s (((s.length : Nat) : Int) - 1).toNat = 39:=by rw [h4];exact h5
 refine jE [(0,_)] Tryz.func120 Tryz.ntmps120 fun B hB=>?_
 repeat' (first | refine jM ?_ | (refine jo ?_;refine aC rfl ?_) | refine ar rfl rfl (aG oM) ?_ | refine ad rfl (aG oM) ?_)
 refine aV (ι:=Nat) (fun i=>(1 ≤ i ∧ i ≤ s.length - 1) ∧ ∀ k,k < i → k = 0 ∨ je (bt s k)) (fun i=>[(0,S s),(3,I i)]) (fun _=>G) (fun i=>[]) (fun i=>s.length - i) 1 ?_ tU rfl a8 (fun i Hi=>?_)
 ·exact ⟨⟨Nat.le_refl _,oM⟩,fun k hk=>.inl oM⟩
 by_cases hi : i < s.length - 1
 ·by_cases ht : je (bt s i)
  ·have ht2 : je (bt s ((i : Int).toNat)):=ht
   unfold je at ht2
   repeat' (first | refine jM ?_ | (refine jo ?_;first | refine aN rfl ?_ | refine aC rfl ?_) | (refine ar rfl rfl (by first | rfl | (refine decide_eq_false ?_;(omega))) ?_) | refine eQ rfl rfl (fun _=>?_) (fun _=>?_) | refine ac rfl (ay oM) ?_ | (refine ad rfl (by first | rfl | (refine decide_eq_false ?_;(omega))) ?_))
   all_goals refine bj (i + 1) ⟨⟨oM,oM⟩,fun k hk=>?_⟩ oM tU rfl a8
   all_goals (rcases Nat.lt_or_ge k i with h7 | h7;· exact Hi.2 k h7)
   all_goals (have : k = i:=by omega)
   all_goals (subst this;exact .inr ht)
  ·have ht2 : ¬ je (bt s ((i : Int).toNat)):=ht
   unfold je at ht2
   have e : dQ s = false:=decide_eq_false fun x=>(x.2.2.2 i hi).elim (fun h8=>by omega) ht
   rw [e]
   repeat' (first | refine jM ?_ | (refine jo ?_;first | refine aN rfl ?_ | refine aC rfl ?_) | (refine aH rfl rfl (by first | rfl | (refine decide_eq_true ?_;(omega))) ?_) | refine eQ rfl rfl (fun _=>?_) (fun _=>?_) | (refine ac rfl (by first | rfl | (refine decide_eq_true ?_;(omega))) ?_))
   all_goals refine jY (vs:=[_]) ?_
   all_goals rfl
 ·have e : dQ s = true:=decide_eq_true ⟨h1,h2,h5,fun k hk=>Hi.2 k oM⟩
  rw [e]
  repeat' (first | refine jM ?_ | refine ad rfl (aG oM) ?_)
  refine jY (vs:=[_]) ?_
  rfl
def d8 (k : Nat) (acc : List UInt8) : List UInt8 → List (List UInt8)
 | []=>[acc]
 | c :: r=>if c.toNat = k then acc :: d8 k [] r else d8 k (acc ++ [c]) r
def aY (k : Nat) (s : List UInt8) : List (List UInt8):=d8 k [] s
theorem uD {s : List UInt8} {k : Nat} (h : s.length ≤ 100000000) : dA Tryz.prog 65 [S s,U8 k] G [] (fun v L'=>L' = [.acc v uP 1 (aY k s).length (pZ (aY k s))] ∧ uK v (aY k s).length):=by
 refine jH [(0,_),(1,_)] Tryz.func65 Tryz.ntmps65 fun B hB hW=>?_
 repeat' (first | refine jR ?_ | (refine jo ?_;refine jF fun _=>?_))
 rename_i x
 refine Nx.blkAcc (m:=0) (sz:=1) .here rfl ?_
 refine aV (ι:=Value × List (List UInt8) × Nat × Nat) (fun i=>(i.2.2.1 ≤ i.2.2.2 ∧ i.2.2.2 ≤ s.length ∧ i.2.1.length ≤ i.2.2.2) ∧ i.2.1 ++ d8 k ((s.take i.2.2.2).drop i.2.2.1) (s.drop i.2.2.2) = aY k s) (fun i=>[(0,S s),(1,U8 k),(5,i.1),(6,I i.2.2.1),(7,I i.2.2.2)]) (fun _=>G) (fun i=>[.acc i.1 uP 1 i.2.1.length (pZ i.2.1)]) (fun i=>s.length - i.2.2.2) (.slice (some ⟨x,0,none⟩) 0 0,[],0,0) ?_ tU rfl a8 (fun i Hi=>?_)
 ·exact ⟨⟨Nat.le_refl _,Nat.zero_le _,Nat.zero_le _⟩,rfl⟩
 obtain ⟨u,xs,fr,i⟩:=i
 dsimp only at Hi ⊢
 by_cases hi : i < s.length
 ·obtain ⟨c,hc1,hc2⟩:=ld hi
  have hn : s.drop i ≠ []:=by rw [hc1];simp
  have ht : (s.take (i + 1)).drop fr = (s.take i).drop fr ++ [c]:=by
   have e : s[i] = c:=by have:=List.getElem_cons_drop (h:=hi);rw [hc1] at this;exact (List.cons.inj this).1
   rw [List.take_succ_eq_append_getElem hi,e,List.drop_append_of_le_length (by simp;omega)]
  have hcut:=Hi.2
  rw [hc1,d8] at hcut
  by_cases hk : c.toNat = k
  ·have hk2 : bt s i = k:=oM
   rw [if_pos hk] at hcut
   repeat' (first | refine jM ?_ | (refine jo ?_;first | refine jF fun _=>?_ | refine vx rfl rfl rfl rfl rfl rfl rfl rfl oM fun _=>?_) | (refine ac rfl ?_ ?_;(focus ((first | (refine decide_eq_true ?_;(omega)) | (simp [*];done));done))))
   refine bj (_,xs ++ [(s.take i).drop fr],i + 1,i + 1) ⟨⟨by dsimp only;omega,by dsimp only;omega,by simp;omega⟩,?_⟩ (by dsimp only;omega) tU rfl (by dsimp only;simp only [qy,List.length_append,List.length_cons,List.length_nil,Nat.zero_add];repeat (first | exact List.nil_sublist _ | apply List.Sublist.cons_cons))
   have e0 : (s.take (i + 1)).drop (i + 1) = []:=by simp
   dsimp only;rw [e0,← hcut];simp
  ·have hk2 : ¬ bt s i = k:=oM
   rw [if_neg hk] at hcut
   repeat' (first | refine jM ?_ | refine ac rfl (ay oM) ?_ | (refine ad rfl ?_ ?_;(focus ((simp;omega);done))))
   refine bj (u,xs,fr,i + 1) ⟨⟨by dsimp only;omega,by dsimp only;omega,by dsimp only;omega⟩,?_⟩ (by dsimp only;omega) tU rfl a8
   dsimp only;rw [ht];exact hcut
 ·have e : aY k s = xs ++ [s.drop fr]:=by
   have ei : i = s.length:=oM
   rw [← Hi.2,ei,List.take_length,List.drop_length];rfl
  repeat' (first | refine jM ?_ | (refine jo ?_;first | refine jF fun _=>?_ | refine vx rfl rfl rfl rfl rfl rfl rfl rfl oM fun _=>?_) | refine ad rfl (aG oM) ?_)
  refine Nx.shp (.head _) fun hsh=>aW (vs:=[_]) rfl ⟨rfl,trivial⟩ rfl (List.Sublist.cons_cons _ (List.nil_sublist _)) ⟨rfl,?_,?_⟩
  ·rw [e,qy,List.length_append];rfl
  ·rw [e,List.length_append];exact hsh
def dc (n : Int) : List UInt8 → Option Int
 | []=>some n
 | c :: r=>if 48 ≤ c.toNat ∧ c.toNat ≤ 57 then dc (10 * n + ((c.toNat : Int) - 48)) r else none
def aK (s : List UInt8) (top : Int) : Option Int :=
 if s.length ≤ 6 then
  match dc 0 s with
  | some n=>if s = bE n ∧ n ≤ top then some n else none
  | none=>none
 else none
theorem xd (i : Nat) (hi : i ≤ 5) : (10 : Int) ^ (i + 1) = 10 * 10 ^ i ∧ (10 : Int) ^ i ≤ 100000 ∧ (0 : Int) < 10 ^ i:=by
 refine ⟨by rw [Int.pow_succ,Int.mul_comm],?_⟩
 rcases (show i = 0 ∨ i = 1 ∨ i = 2 ∨ i = 3 ∨ i = 4 ∨ i = 5 by omega) with rfl | rfl | rfl | rfl | rfl | rfl <;> decide
theorem hY {s : List UInt8} {top : Int} (h : s.length ≤ 100000000) : a9 Tryz.prog 66 [S s,I top] G (fun v=>∃ n,v = Tu [I n,Bo (aK s top).isSome] ∧ (∀ m,aK s top = some m → n = m)):=by
 refine jE [(0,_),(1,_)] Tryz.func66 Tryz.ntmps66 fun B hB=>?_
 repeat' (refine jR ?_)
 refine aV (ι:=Nat × Int) (fun i=>(i.1 ≤ s.length ∧ i.1 ≤ 6) ∧ (0 ≤ i.2 ∧ i.2 + 1 ≤ 10 ^ i.1) ∧ dc i.2 (s.drop i.1) = dc 0 s) (fun i=>[(0,S s),(1,I top),(6,I i.2),(7,I i.1)]) (fun _=>G) (fun i=>[]) (fun i=>s.length - i.1) (0,0) ?_ tU rfl a8 (fun i Hi=>?_)
 ·exact ⟨⟨by dsimp only;omega,by dsimp only;omega⟩,⟨by dsimp only;omega,by dsimp only;decide⟩,rfl⟩
 obtain ⟨i,n⟩:=i
 dsimp only at Hi ⊢
 by_cases hi : i < s.length
 ·obtain ⟨c,hc1,hc2⟩:=ld hi
  have hc3 : bt s ((i : Int).toNat) = c.toNat:=hc2
  have hd:=Hi.2.2
  rw [hc1,dc] at hd
  by_cases h5 : i ≤ 5
  ·have hp:=xd i h5
   by_cases hdig : 48 ≤ c.toNat ∧ c.toNat ≤ 57
   ·rw [if_pos hdig] at hd
    repeat' (first | refine jM ?_ | (refine jo ?_;refine aC rfl ?_) | refine ar rfl rfl (aG oM) ?_ | refine ac rfl (ay oM) ?_ | refine ad rfl (aG oM) ?_)
    refine bj (i + 1,10 * n + ((c.toNat : Int) - 48)) ⟨⟨by dsimp only;omega,by dsimp only;omega⟩,⟨by dsimp only;omega,by dsimp only;rw [hp.1];omega⟩,hd⟩ (by dsimp only;omega) ?_ rfl a8
    rw [← hc2];repeat (first | exact trivial | refine ⟨rfl,?_⟩)
   ·rw [if_neg hdig] at hd
    have hno : aK s top = none:=by unfold aK;rw [← hd];split <;> rfl
    repeat' (first | refine jM ?_ | (refine jo ?_;first | refine aN rfl ?_ | refine aC rfl ?_) | (refine aH rfl rfl (by first | rfl | (refine decide_eq_true ?_;(omega))) ?_) | refine eQ rfl rfl (fun _=>?_) (fun _=>?_) | (refine ac rfl (by first | rfl | (refine decide_eq_true ?_;(omega))) ?_))
    all_goals refine jY (vs:=[_,_]) ?_
    all_goals exact ⟨_,by rw [hno];rfl,fun m hm=>by rw [hno] at hm;cases hm⟩
  ·have hno : aK s top = none:=by unfold aK;rw [if_neg oM]
   have e6 : i = 6:=oM
   subst e6
   repeat' (first | refine jM ?_ | (refine jo ?_;first | refine aN rfl ?_ | refine aC rfl ?_) | refine aH rfl rfl rfl ?_ | refine eQ rfl rfl (fun _=>?_) (fun _=>?_) | (refine ac rfl (by first | rfl | (refine decide_eq_true ?_;(omega))) ?_))
   all_goals refine jY (vs:=[_,_]) ?_
   all_goals exact ⟨_,by rw [hno];rfl,fun m hm=>by rw [hno] at hm;cases hm⟩
 ·have ei : i = s.length:=oM
  have hd:=Hi.2.2
  rw [ei,List.drop_length,dc] at hd
  have hp : n ≤ 9223372036854775807:=by
   rcases Nat.lt_or_ge i 6 with h1 | h1
   ·have:=xd i oM;omega
   ·have e6 : i = 6:=oM
    subst e6
    have:=Hi.2.1.2
    have e : (10 : Int) ^ 6 = 1000000:=by decide
    omega
  have hno : aK s top = if s = bE n ∧ n ≤ top then some n else none:=by unfold aK;rw [if_pos oM,← hd]
  repeat' (first | refine jR ?_ | (refine jo ?_;first | refine aN rfl ?_ | refine aC rfl ?_ | refine ae rfl rfl rfl (dn oM) rfl ?_) | refine eQ rfl rfl (fun _=>?_) (fun _=>?_) | refine ad rfl (aG oM) ?_)
  ·rename_i hs
   refine jY (vs:=[_,_]) ?_
   refine ⟨n,?_,fun m hm=>?_⟩
   ·rw [hno,gj]
    by_cases ht : n ≤ top
    ·rw [if_pos ⟨hs,ht⟩,decide_eq_true ht];rfl
    ·rw [if_neg (fun h=>ht h.2),decide_eq_false ht];rfl
   ·rw [hno] at hm
    split at hm
    ·exact Option.some.inj hm
    ·cases hm
  ·rename_i hs
   refine jY (vs:=[_,_]) ?_
   refine ⟨n,by rw [hno,if_neg (fun h=>hs h.1)];rfl,fun m hm=>?_⟩
   rw [hno,if_neg (fun h=>hs h.1)] at hm;cases hm
def bZ (k s : List UInt8) : Bool :=
 if k = [110] then (aK s 999999).isSome && decide (s ≠ [48])
 else if k = [116] then dQ s && decide (s ≠ [39,39])
 else if k = [102] then decide (s = [121,101,115])
 else false
theorem wB {k s : List UInt8} (h : s.length ≤ 100000000) : a9 Tryz.prog 169 [S k,S s] G (· = Bo (bZ k s)):=by
 by_cases h1 : k = [110]
 ·have e : bZ k s = ((aK s 999999).isSome && decide (s ≠ [48])):=by rw [bZ,if_pos h1]
  rw [e]
  refine jE [(0,_),(1,_)] Tryz.func169 Tryz.ntmps169 fun B hB=>?_
  repeat' (first | refine jR ?_ | (refine jo ?_;first | refine aN rfl ?_ | refine aC rfl ?_ | (refine eh rfl rfl rfl (hY oM) rfl ?_;rintro _ ⟨n,rfl,hnum⟩)) | refine mW rfl rfl (fun _=>?_) (fun _=>?_) | refine ac rfl (ay ‹_›) ?_)
  all_goals refine jY (vs:=[_]) ?_
  all_goals (rw [aU];simp [*])
 by_cases h2 : k = [116]
 ·have e : bZ k s = (dQ s && decide (s ≠ [39,39])):=by rw [bZ,if_neg h1,if_pos h2]
  rw [e]
  refine jE [(0,_),(1,_)] Tryz.func169 Tryz.ntmps169 fun B hB=>?_
  repeat' (first | refine jR ?_ | (refine jo ?_;first | refine aN rfl ?_ | refine aC rfl ?_ | refine ae rfl rfl rfl (gW ‹_›) rfl ?_) | refine eQ rfl rfl (fun _=>?_) (fun _=>?_) | refine ac rfl (ay ‹_›) ?_ | refine ad rfl (aG ‹_›) ?_)
  all_goals refine jY (vs:=[_]) ?_
  all_goals (rw [aU];simp [*,dQ])
 by_cases h3 : k = [102]
 ·have e : bZ k s = decide (s = [121,101,115]):=by rw [bZ,if_neg h1,if_neg h2,if_pos h3]
  rw [e]
  refine jE [(0,_),(1,_)] Tryz.func169 Tryz.ntmps169 fun B hB=>?_
  repeat' (first | refine jR ?_ | refine ac rfl (ay ‹_›) ?_ | refine ad rfl (aG ‹_›) ?_)
  all_goals refine jY (vs:=[_]) ?_
  all_goals rfl
 ·have e : bZ k s = false:=by rw [bZ,if_neg h1,if_neg h2,if_neg h3]
  rw [e]
  refine jE [(0,_),(1,_)] Tryz.func169 Tryz.ntmps169 fun B hB=>?_
  repeat' (first | refine jR ?_ | refine ad rfl (aG ‹_›) ?_)
  all_goals refine jY (vs:=[_]) ?_
  all_goals rfl
structure Fld where
 tag : Int
 name : List UInt8
 kind : List UInt8
 stand : List UInt8
deriving Inhabited
def gU (f : Fld) : List Value:=[I f.tag,S f.name,S f.kind,S f.stand]
instance : RowF gU 4:=⟨fun _=>rfl⟩
def cj (s : List UInt8) (k : Nat) : Option Fld :=
 match aY 58 s with
 | [a,b]=>if k = 69 then
   match aK a 200 with
   | some n=>if 1 ≤ n ∧ cK b = true then some ⟨n,b,[],[]⟩ else none
   | none=>none
  else none
 | [a,b,c]=>if k = 69 then none else
   match aK a 200 with
   | some n=>if 1 ≤ n ∧ cK b = true then
     match aY 61 c with
     | [d]=>if bW d = true then some ⟨n,b,d,[]⟩ else none
     | [d,e]=>if k = 82 ∧ bZ d e = true then some ⟨n,b,d,e⟩ else none
     | _=>none
    else none
   | none=>none
 | _=>none
theorem oE {k : Nat} : ∀ {s acc : List UInt8} {x : List UInt8},x ∈ d8 k acc s → x.length ≤ acc.length + s.length
 | [],acc,x,h=>by simp [d8] at h;subst h;simp
 | c :: r,acc,x,h=>by
  unfold d8 at h
  split at h
  ·rcases List.mem_cons.1 h with rfl | h
   ·simp
   ·have:=oE h;simp at this ⊢;omega
  ·have:=oE h;simp at this ⊢;omega
theorem c5 {k : Nat} {s x : List UInt8} (h : x ∈ aY k s) : x.length ≤ s.length:=by have:=oE h;simpa using this
theorem oH {k : Nat} : ∀ {s acc : List UInt8},0 < (d8 k acc s).length
 | [],acc=>by simp [d8]
 | c :: r,acc=>by
  unfold d8
  split
  ·simp
  ·exact oH
theorem d7 {k : Nat} {s : List UInt8} : 0 < (aY k s).length:=oH
theorem ja {k : Nat} : ∀ {s acc : List UInt8},(d8 k acc s).length ≤ s.length + 1
 | [],acc=>by simp [d8]
 | c :: r,acc=>by
  unfold d8
  split
  ·have:=ja (k:=k) (s:=r) (acc:=[]);simp;omega
  ·have:=ja (k:=k) (s:=r) (acc:=acc ++ [c]);simp;omega
theorem hO {k : Nat} {s : List UInt8} : (aY k s).length ≤ s.length + 1:=ja
def aF (k : Nat) : List UInt8 → List UInt8 × List UInt8 × Bool
 | []=>([],[],false)
 | c :: r=>if c.toNat = k then ([],r,true) else (c :: (aF k r).1,(aF k r).2.1,(aF k r).2.2)
theorem ep (c : UInt8) (r : List UInt8) (i : Nat) : bt (c :: r) (i + 1) = bt r i:=by simp [bt,List.getD]
theorem bh (c : UInt8) (r : List UInt8) : bt (c :: r) 0 = c.toNat:=by simp [bt,List.getD]
theorem ql {k : Nat} : ∀ {s : List UInt8},(∀ j,j < s.length → bt s j ≠ k) → aF k s = (s,[],false)
 | [],_=>rfl
 | c :: r,h=>by
  have h0:=h 0 (by simp)
  rw [bh] at h0
  have ih:=ql (k:=k) (s:=r) fun j hj=>by have:=h (j + 1) (by simpa using hj);rwa [ep] at this
  rw [aF,if_neg h0,ih]
theorem nB {k : Nat} : ∀ {s : List UInt8} {i : Nat},i < s.length → (∀ j,j < i → bt s j ≠ k) → bt s i = k → aF k s = (s.take i,s.drop (i + 1),true)
 | [],i,h,_,_=>by simp at h
 | c :: r,0,_,_,h=>by rw [bh] at h;rw [aF,if_pos h];rfl
 | c :: r,i + 1,hl,h,hi=>by
  have h0:=h 0 oM
  rw [bh] at h0
  rw [ep] at hi
  have ih:=nB (k:=k) (s:=r) (i:=i) (by simpa using hl) (fun j hj=>by have:=h (j + 1) oM;rwa [ep] at this) hi
  rw [aF,if_neg h0,ih];rfl
structure Ty where
 sort : Nat
 name : List UInt8
 fields : List Fld
deriving Inhabited
def fresh (f : Fld) (fs : List Fld) : Bool:=fs.all fun g=>decide (g.tag < f.tag ∧ g.name ≠ f.name)
def c9 (k : Nat) : List (List UInt8) → List Fld → Option (List Fld)
 | [],fs=>some fs
 | x :: xs,fs=>match cj x k with
  | none=>none
  | some f=>if fresh f fs = true then c9 k xs (fs ++ [f]) else none
def eB (k : Nat) : Prop:=k = 82 ∨ k = 85 ∨ k = 69
instance (k : Nat) : Decidable (eB k):=inferInstanceAs (Decidable (_ ∨ _ ∨ _))
def di : List UInt8 → Option Ty
 | []=>none
 | c :: r=>match aF 61 r with
  | (name,rest,true)=>if cK name = true ∧ eB c.toNat then
    if rest = [] then (if c.toNat = 82 then some ⟨82,name,[]⟩ else none)
    else match c9 c.toNat (aY 44 rest) [] with
     | some fs=>if fs.length ≤ 8 then some ⟨c.toNat,name,fs⟩ else none
     | none=>none
   else none
  | _=>none
def ce : List UInt8 → Option (List UInt8)
 | []=>none
 | c :: r=>if c.toNat = 64 then some (r.take (r.length - 1)) else none
def io (ts : List Ty) (name : List UInt8) : Option Ty:=ts.find? fun t=>decide (t.name = name)
def aZ (ts : List Ty) (k : List UInt8) : Option Ty:=(ce k).bind (io ts)
def eG (t : Ty) : List UInt8:=(t.fields.headD default).kind
def cd (ts : List Ty) : Nat → Ty → Bool
 | 0,_=>false
 | n + 1,t=>if t.sort ≠ 85 then true else match aZ ts (eG t) with
  | none=>true
  | some u=>cd ts n u
def eU (ts : List Ty) (k : List UInt8) : Bool:=match ce (bR k) with
 | none=>true
 | some n=>(io ts n).isSome
def lk (ts : List Ty) (i : Nat) : Prop:=∀ k,k < i → (ab ts k).name ≠ (ab ts i).name
def iK (ts : List Ty) (t : Ty) : Prop:=t.sort = 69 ∨ ∀ j,j < t.fields.length → eU ts (ab t.fields j).kind = true
def i7 (ts : List Ty) : Prop:=(∀ i,i < ts.length → lk ts i ∧ iK ts (ab ts i)) ∧ ∀ i,i < ts.length → cd ts (ts.length + 1) (ab ts i) = true
instance (ts : List Ty) (i : Nat) : Decidable (lk ts i):=inferInstanceAs (Decidable (∀ k,k < i → _))
instance (ts : List Ty) (t : Ty) : Decidable (iK ts t):=inferInstanceAs (Decidable (_ ∨ ∀ j,j < t.fields.length → _))
instance (ts : List Ty) : Decidable (i7 ts):=inferInstanceAs (Decidable ((∀ i,i < ts.length → _) ∧ ∀ i,i < ts.length → _))
def cA : List (List UInt8) → Option (List Ty)
 | []=>some []
 | x :: xs=>match di x with
  | none=>none
  | some t=>(cA xs).map (t :: ·)
def a7 (s : List UInt8) : Option (List Ty) :=
 if s.length ≤ 400 ∧ (aY 10 s).length ≤ 9 ∧ (aY 10 s).getLastD [] = [] then
  match cA (aY 10 s).dropLast with
  | some ts=>if i7 ts then some ts else none
  | none=>none
 else none
structure FldW (k : Nat) (f : Fld) : Prop where
 tag : 1 ≤ f.tag ∧ f.tag ≤ 200
 name : cK f.name = true
 kind : k ≠ 69 → bW f.kind = true
 enm : k = 69 → f.kind = [] ∧ f.stand = []
 stand : f.stand ≠ [] → k = 82 ∧ bZ f.kind f.stand = true
theorem dW {s : List UInt8} {top n : Int} (h : aK s top = some n) : n ≤ top ∧ s = bE n ∧ s.length ≤ 6:=by
 unfold aK at h
 split at h
 ·split at h
  ·split at h
   ·rename_i h1 _ _ _ h2;simp only [Option.some.injEq] at h;subst h;exact ⟨h2.2,h2.1,h1⟩
   ·cases h
  ·cases h
 ·cases h
theorem mA {k s : List UInt8} (h : bZ k s = true) : bW k = true:=by
 unfold bZ at h
 split at h
 ·subst_vars;decide
 ·split at h
  ·subst_vars;decide
  ·split at h
   ·subst_vars;decide
   ·cases h
theorem zi {s : List UInt8} {k : Nat} {f : Fld} (h : cj s k = some f) : FldW k f:=by
 unfold cj at h
 split at h
 ·split at h
  ·rename_i hk
   split at h
   ·rename_i n hn
    split at h
    ·rename_i hg
     simp only [Option.some.injEq] at h;subst h
     exact ⟨⟨hg.1,(dW hn).1⟩,hg.2,fun h=>absurd hk h,fun _=>⟨rfl,rfl⟩,fun h=>absurd rfl h⟩
    ·cases h
   ·cases h
  ·cases h
 ·split at h
  ·cases h
  ·rename_i hk
   split at h
   ·rename_i n hn
    split at h
    ·rename_i hg
     split at h
     ·split at h
      ·rename_i hd
       simp only [Option.some.injEq] at h;subst h
       exact ⟨⟨hg.1,(dW hn).1⟩,hg.2,fun _=>hd,fun h=>absurd h hk,fun h=>absurd rfl h⟩
      ·cases h
     ·split at h
      ·rename_i hd
       simp only [Option.some.injEq] at h;subst h
       exact ⟨⟨hg.1,(dW hn).1⟩,hg.2,fun _=>mA hd.2,fun h=>absurd h hk,fun _=>hd⟩
      ·cases h
     ·cases h
    ·cases h
   ·cases h
 ·cases h
structure TyW (t : Ty) : Prop where
 sort : eB t.sort
 name : cK t.name = true
 ne : t.sort ≠ 82 → t.fields ≠ []
 len : t.fields.length ≤ 8
 fld : ∀ f ∈ t.fields,FldW t.sort f
 asc : t.fields.Pairwise fun g f=>g.tag < f.tag ∧ g.name ≠ f.name
theorem pA {k : Nat} : ∀ {xs : List (List UInt8)} {fs gs : List Fld},c9 k xs fs = some gs → (∀ f ∈ fs,FldW k f) → fs.Pairwise (fun g f=>g.tag < f.tag ∧ g.name ≠ f.name) →
  (∀ f ∈ gs,FldW k f) ∧ gs.Pairwise (fun g f=>g.tag < f.tag ∧ g.name ≠ f.name) ∧ gs.length = fs.length + xs.length
 | [],fs,gs,h,h1,h2=>by
  simp only [c9,Option.some.injEq] at h;subst h;exact ⟨h1,h2,by simp⟩
 | x :: xs,fs,gs,h,h1,h2=>by
  unfold c9 at h
  split at h
  ·cases h
  ·rename_i f hf
   split at h
   ·rename_i hfr
    simp only [fresh,List.all_eq_true,decide_eq_true_eq] at hfr
    have:=pA h (fun g hg=>by
     rcases List.mem_append.1 hg with hg | hg
     ·exact h1 g hg
     ·simp only [List.mem_singleton] at hg;subst hg;exact zi hf) (List.pairwise_append.2 ⟨h2,by simp,fun a ha b hb=>by
      simp only [List.mem_singleton] at hb;subst hb;exact hfr a ha⟩)
    refine ⟨this.1,this.2.1,?_⟩
    rw [this.2.2];simp;omega
   ·cases h
theorem z7 {s : List UInt8} {t : Ty} (h : di s = some t) : TyW t:=by
 unfold di at h
 split at h
 ·cases h
 ·split at h
  ·split at h
   ·rename_i hn
    split at h
    ·split at h
     ·simp only [Option.some.injEq] at h;subst h
      exact ⟨.inl rfl,hn.1,fun h=>absurd rfl h,by simp,by simp,by simp⟩
     ·cases h
    ·split at h
     ·rename_i fs hfs
      split at h
      ·rename_i hl
       simp only [Option.some.injEq] at h;subst h
       have hw:=pA hfs (by simp) (by simp)
       refine ⟨hn.2,hn.1,fun _ h0=>?_,hl,hw.1,hw.2.1⟩
       have:=hw.2.2
       dsimp only at h0
       rw [h0] at this
       have:=d7 (k:=44) (s:=‹List UInt8›)
       simp at *;omega
      ·cases h
     ·cases h
   ·cases h
  ·cases h
theorem iU : ∀ {xs : List (List UInt8)} {ts : List Ty},cA xs = some ts → (∀ t ∈ ts,TyW t) ∧ ts.length = xs.length
 | [],ts,h=>by simp only [cA,Option.some.injEq] at h;subst h;simp
 | x :: xs,ts,h=>by
  unfold cA at h
  split at h
  ·cases h
  ·rename_i t ht
   cases hr : cA xs with
   | none=>rw [hr] at h;cases h
   | some us =>
    rw [hr] at h
    simp only [Option.map_some,Option.some.injEq] at h;subst h
    have:=iU hr
    exact ⟨fun u hu=>by rcases List.mem_cons.1 hu with rfl | hu;exact z7 ht;exact this.1 u hu,by simp [this.2]⟩
structure SchW (ts : List Ty) : Prop where
 ty : ∀ t ∈ ts,TyW t
 len : ts.length ≤ 8
 valid : i7 ts
theorem dE {s : List UInt8} {ts : List Ty} (h : a7 s = some ts) : SchW ts:=by
 unfold a7 at h
 split at h
 ·rename_i hc
  split at h
  ·rename_i us hus
   split at h
   ·rename_i hv
    simp only [Option.some.injEq] at h;subst h
    have:=iU hus
    exact ⟨this.1,by rw [this.2,List.length_dropLast];omega,hv⟩
   ·cases h
  ·cases h
 ·cases h
def aB (ts : List Ty) (k : List UInt8) : Bool:=bW k && eU ts k
theorem v5 {ts : List Ty} {n : List UInt8} {t : Ty} (h : io ts n = some t) : t ∈ ts:=List.mem_of_find?_eq_some h
theorem bn {ts : List Ty} {k : List UInt8} {t : Ty} (h : aZ ts k = some t) : t ∈ ts:=by
 unfold aZ at h
 cases hr : ce k with
 | none=>rw [hr] at h;cases h
 | some n=>rw [hr] at h;exact v5 h
theorem lW (ts : List Ty) : ∀ (k : Nat) (t : Ty),cd ts k t = true → cd ts (k + 1) t = true
 | 0,t,h=>by cases h
 | k + 1,t,h=>by
  unfold cd at h ⊢
  split
  ·rfl
  ·rename_i hs
   rw [if_neg hs] at h
   cases hr : aZ ts (eG t) with
   | none=>rfl
   | some u=>rw [hr] at h;exact lW ts k u h
def fk (ts : List Ty) (k : Nat) : Prop:=∀ t ∈ ts,cd ts (k + 1) t = cd ts k t
theorem nM {ts : List Ty} {k : Nat} (h : fk ts k) : fk ts (k + 1):=by
 intro t ht
 rw [cd,cd]
 split
 ·rfl
 ·cases hr : aZ ts (eG t) with
  | none=>rfl
  | some u=>exact h u (bn hr)
theorem oY {ts : List Ty} {k : Nat} (h : fk ts k) : ∀ (m : Nat) (t : Ty),t ∈ ts → cd ts (k + m) t = cd ts k t:=by
 have hs : ∀ m,fk ts (k + m):=fun m=>by
  induction m with
  | zero=>exact h
  | succ m ih=>exact nM ih
 intro m t ht
 induction m with
 | zero=>rfl
 | succ m ih=>rw [← ih];exact hs m t ht
theorem sP {α : Type} {p q : α → Bool} : ∀ {l : List α},(∀ x ∈ l,p x = true → q x = true) → (∃ x ∈ l,q x = true ∧ p x = false) → l.countP p < l.countP q
 | [],_,h=>by obtain ⟨x,hx,_⟩:=h;cases hx
 | a :: l,h1,h2=>by
  have hle : ∀ l : List α,(∀ x ∈ l,p x = true → q x = true) → l.countP p ≤ l.countP q:=fun l h=>List.countP_mono_left h
  rw [List.countP_cons,List.countP_cons]
  have h3:=hle l fun x hx=>h1 x (List.mem_cons_of_mem _ hx)
  obtain ⟨x,hx,h4,h5⟩:=h2
  rcases List.mem_cons.1 hx with rfl | hx
  ·simp [h4,h5];omega
  ·have h6:=sP (fun x hx=>h1 x (List.mem_cons_of_mem _ hx)) ⟨x,hx,h4,h5⟩
   by_cases hp : p a = true
   ·simp [hp,h1 a (List.mem_cons_self ..) hp];exact h6
   ·simp [hp];split <;> omega
theorem nG {ts : List Ty} {k : Nat} (h : ¬ fk ts k) : ts.countP (cd ts k) < ts.countP (cd ts (k + 1)):=by
 refine sP (fun x _=>lW ts k x) ?_
 unfold fk at h
 simp only [Classical.not_forall] at h
 obtain ⟨t,ht,hne⟩:=h
 refine ⟨t,ht,?_⟩
 cases h1 : cd ts k t with
 | false =>
  refine ⟨?_,rfl⟩
  cases h2 : cd ts (k + 1) t with
  | false=>rw [h1,h2] at hne;exact absurd rfl hne
  | true=>rfl
 | true=>rw [lW ts k t h1,h1] at hne;exact absurd rfl hne
theorem vM (ts : List Ty) (k : Nat) : fk ts k ∨ k + 1 ≤ ts.countP (cd ts (k + 1)):=by
 induction k with
 | zero =>
  by_cases h : fk ts 0
  ·exact .inl h
  ·have:=nG h;exact .inr oM
 | succ k ih =>
  by_cases h : fk ts (k + 1)
  ·exact .inl h
  ·have:=nG h
   rcases ih with h3 | h3
   ·exact absurd (nM h3) h
   ·exact .inr oM
theorem zk {ts : List Ty} {t : Ty} (hl : ts.length ≤ 8) (ht : t ∈ ts) : cd ts 9 t = cd ts (ts.length + 1) t:=by
 have hs : fk ts ts.length:=by
  rcases vM ts ts.length with h | h
  ·exact h
  ·have:=List.countP_le_length (p:=cd ts (ts.length + 1)) (l:=ts)
   omega
 have h1:=oY hs (9 - ts.length) t ht
 have h2:=oY hs 1 t ht
 rw [show ts.length + (9 - ts.length) = 9 by omega] at h1
 rw [h1,h2]
def f6 (k : Nat) (s : List UInt8) : Int:=if (aF k s).2.2 = true then ((aF k s).1.length : Int) else -1
theorem hX {k : Nat} : ∀ {s a b : List UInt8},aF k s = (a,b,true) → ∃ c : UInt8,c.toNat = k ∧ s = a ++ c :: b
 | [],a,b,h=>by simp [aF] at h
 | c :: r,a,b,h=>by
  unfold aF at h
  split at h
  ·rename_i hc
   simp only [Prod.mk.injEq,and_true] at h
   obtain ⟨rfl,rfl⟩:=h
   exact ⟨c,hc,rfl⟩
  ·simp only [Prod.mk.injEq] at h
   obtain ⟨rfl,h2,h3⟩:=h
   obtain ⟨d,hd,hr⟩:=hX (k:=k) (s:=r) (a:=(aF k r).1) (b:=b) (by rw [← h2,← h3])
   exact ⟨d,hd,by rw [List.cons_append,← hr]⟩
theorem fI {k : Nat} : ∀ {s : List UInt8},(aF k s).2.2 = false → aF k s = (s,[],false)
 | [],h=>rfl
 | c :: r,h=>by
  unfold aF at h ⊢
  split at h
  ·cases h
  ·rename_i hc
   rw [if_neg hc,fI (s:=r) h]
theorem kp {k : Nat} {s : List UInt8} : (aF k s).1.length ≤ s.length ∧ (aF k s).2.1.length ≤ s.length:=by
 cases h : (aF k s).2.2 with
 | false=>rw [fI h];simp
 | true =>
  obtain ⟨c,_,e⟩:=hX (k:=k) (s:=s) (a:=(aF k s).1) (b:=(aF k s).2.1) (by rw [← h])
  have:=congrArg List.length e
  simp at this
  omega
theorem qb (s : List UInt8) (c : UInt8) : Lib.indexByte s c = f6 c.toNat s:=by
 induction s with
 | nil=>rfl
 | cons b r ih =>
  unfold Lib.indexByte
  by_cases hb : b = c
  ·subst hb;simp [f6,aF]
  ·have hb2 : ¬ b.toNat = c.toNat:=fun h=>hb (UInt8.toNat_inj.1 h)
   have hb3 : (b == c) = false:=by simpa using hb
   rw [hb3,ih]
   unfold f6
   rw [aF,if_neg hb2]
   dsimp only
   cases (aF c.toNat r).2.2 <;> simp
theorem tj {s : List UInt8} {c : UInt8} : a9 Tryz.prog 177 [S s,U8 c.toNat] G (· = I (f6 c.toNat s)):=by
 have hx : ∀ w,(callFunc 184 [S s,U8 c.toNat].toArray).run Tryz.prog w = .ok (.value (I (f6 c.toNat s))) w:=fun w=>by
  rw [run_callFunc_extern Tryz.func184 kR kR kR (e:=Extern.BytealgIndexByte.indexByte) kR]
  have:=Lib.run_indexByteString (P:=Tryz.prog) ⟨s.toArray⟩ (c.toNat : Int) w
  rw [this]
  simp only [Result.andThen]
  rw [qb]
  simp
 refine jE [(0,_),(1,_)] Tryz.func177 Tryz.ntmps177 fun B hB=>?_
 repeat' (refine jR ?_)
 refine va rfl (i8 (oz rfl rfl rfl hx) rfl rfl ?_)
 repeat' (refine jR ?_)
 refine jY (vs:=[_]) ?_
 rfl
theorem vT (c : UInt8) : f6 c.toNat [c] = 0:=by simp [f6,aF]
theorem th {s : List UInt8} {c : UInt8} : a9 Tryz.prog 167 [S s,S [c]] G (· = I (f6 c.toNat s)):=by
 have e0 : ((bt [c] (Int.toNat 0) : Nat) : Int) = c.toNat:=by rw [show Int.toNat 0 = 0 from rfl,bh]
 by_cases hs : [c] = s
 ·subst hs
  rw [vT]
  refine jE [(0,_),(1,_)] Tryz.func167 Tryz.ntmps167 fun B hB=>?_
  repeat' (first | refine jR ?_ | (refine jo ?_;refine aC rfl ?_) | refine ar rfl rfl rfl ?_ | refine ac rfl (ay rfl) ?_)
  all_goals refine jY (vs:=[_]) ?_
  all_goals rfl
 ·have cx_ib : a9 Tryz.prog 177 [S s,U8 (bt [c] (Int.toNat 0))] G (· = I (f6 c.toNat s)):=by rw [show (bt [c] (Int.toNat 0)) = c.toNat from bh c []];exact tj
  refine jE [(0,_),(1,_)] Tryz.func167 Tryz.ntmps167 fun B hB=>?_
  repeat' (first | refine jX ?_ | (refine jo ?_;first | refine aC rfl ?_ | refine ae rfl rfl rfl cx_ib rfl ?_) | refine ar rfl rfl rfl ?_ | refine ac rfl rfl ?_ | refine ad rfl (aG ‹_›) ?_)
  all_goals refine jY (vs:=[_]) ?_
  all_goals rfl
theorem uI {s : List UInt8} {c : UInt8} : a9 Tryz.prog 147 [S s,S [c]] G (· = I (f6 c.toNat s)):=by
 refine jE [(0,_),(1,_)] Tryz.func147 Tryz.ntmps147 fun B hB=>?_
 repeat' (first | refine jR ?_ | (refine jo ?_;refine ae rfl rfl rfl th rfl ?_))
 refine jY (vs:=[_]) ?_
 rfl
theorem px (k : Nat) (s : List UInt8) : (f6 k s = -1 ∧ aF k s = (s,[],false)) ∨ ∃ i : Nat,f6 k s = i ∧ i < s.length ∧ aF k s = (s.take i,s.drop (i + 1),true):=by
 cases h : (aF k s).2.2 with
 | false=>exact .inl ⟨by simp [f6,h],fI h⟩
 | true =>
  obtain ⟨c,_,e⟩:=hX (k:=k) (s:=s) (a:=(aF k s).1) (b:=(aF k s).2.1) (by rw [← h])
  have h5 : aF k s = ((aF k s).1,(aF k s).2.1,true):=by rw [← h]
  have h6 : f6 k s = ((aF k s).1.length : Int):=by simp [f6,h]
  generalize (aF k s).1 = a at *
  generalize (aF k s).2.1 = b at *
  refine .inr ⟨a.length,h6,?_,?_⟩
  ·have:=congrArg List.length e
   simp at this
   omega
  ·rw [h5,e];simp
theorem abq {s : List UInt8} {c : UInt8} (h : s.length ≤ 9000000000000000000) : a9 Tryz.prog 153 [S s,S [c]] G (· = Tu [S (aF c.toNat s).1,S (aF c.toNat s).2.1,Bo (aF c.toNat s).2.2]):=by
 have hix:=th (G:=G) (s:=s) (c:=c)
 rcases px c.toNat s with ⟨h1,h2⟩ | ⟨i,h1,h3,h2⟩
 ·rw [h2]
  have cx_ix : a9 Tryz.prog 167 [S s,S [c]] G (· = I (-1)):=by rwa [h1] at hix
  refine jE [(0,_),(1,_)] Tryz.func153 Tryz.ntmps153 fun B hB=>?_
  repeat' (first | refine jR ?_ | (refine jo ?_;refine ae rfl rfl rfl cx_ix rfl ?_) | refine ad rfl rfl ?_)
  all_goals refine jY (vs:=[_,_,_]) ?_
  all_goals rfl
 ·rw [h2]
  have cx_ix : a9 Tryz.prog 167 [S s,S [c]] G (· = I (i : Int)):=by rwa [h1] at hix
  have e2 : ((i : Int) + (([c] : List UInt8).length : Nat)).toNat = i + 1:=by simp only [List.length_cons,List.length_nil];omega
  refine jE [(0,_),(1,_)] Tryz.func153 Tryz.ntmps153 fun B hB=>?_
  repeat' (first | refine jR ?_ | (refine jo ?_;refine ae rfl rfl rfl cx_ix rfl ?_) | refine ac rfl rfl ?_ | (refine am (an (id:=3) _ (fun _ h=>h) al ?_);refine jW 0 [0,1,2,3,4,5,6,7,8,9,10,11] (aa 12 4095) ?_;refine jQ ?_))
  all_goals refine jY (vs:=[_,_,_]) ?_
  all_goals (rfl)
theorem pP {s : List UInt8} {c : UInt8} (h : s.length ≤ 9000000000000000000) : a9 Tryz.prog 135 [S s,S [c]] G (· = Tu [S (aF c.toNat s).1,S (aF c.toNat s).2.1,Bo (aF c.toNat s).2.2]):=by
 refine jE [(0,_),(1,_)] Tryz.func135 Tryz.ntmps135 fun B hB=>?_
 repeat' (first | refine jR ?_ | (refine jo ?_;refine ae rfl rfl rfl (abq oM) rfl ?_))
 all_goals refine jY (vs:=[_,_,_]) ?_
 all_goals rfl
theorem vz {s : List UInt8} {c : UInt8} : a9 Tryz.prog 154 [S s,S [c]] G (· = Bo (decide (0 ≤ f6 c.toNat s))):=by
 refine jE [(0,_),(1,_)] Tryz.func154 Tryz.ntmps154 fun B hB=>?_
 repeat' (first | refine jR ?_ | (refine jo ?_;refine ae rfl rfl rfl uI rfl ?_))
 all_goals refine jY (vs:=[_]) ?_
 all_goals rfl
def fu (k : Nat) (s : List UInt8) : Prop:=∀ c ∈ s,c.toNat ≠ k
def aL (c : UInt8) : List (List UInt8) → List UInt8
 | []=>[]
 | [x]=>x
 | x :: y :: r=>x ++ c :: aL c (y :: r)
theorem lR (c : UInt8) (x : List UInt8) {xs : List (List UInt8)} (h : xs ≠ []) : aL c (x :: xs) = x ++ c :: aL c xs:=by
 cases xs with
 | nil=>exact absurd rfl h
 | cons y r=>rfl
theorem kJ {c : UInt8} : ∀ {s acc : List UInt8},fu c.toNat acc → aL c (d8 c.toNat acc s) = acc ++ s ∧ ∀ x ∈ d8 c.toNat acc s,fu c.toNat x
 | [],acc,h=>by simp [d8,aL];exact h
 | d :: r,acc,h=>by
  unfold d8
  split
  ·rename_i hd
   have hd : d = c:=UInt8.toNat_inj.1 hd
   subst hd
   have ih:=kJ (c:=d) (s:=r) (acc:=[]) (by intro x hx;cases hx)
   have hp : d8 d.toNat [] r ≠ []:=fun e=>by have:=oH (k:=d.toNat) (s:=r) (acc:=[]);rw [e] at this;simp at this
   refine ⟨by rw [lR d acc hp,ih.1];rfl,fun x hx=>?_⟩
   rcases List.mem_cons.1 hx with rfl | hx
   ·exact h
   ·exact ih.2 x hx
  ·rename_i hd
   have ih:=kJ (c:=c) (s:=r) (acc:=acc ++ [d]) (by
    intro x hx
    rcases List.mem_append.1 hx with hx | hx
    ·exact h x hx
    ·simp only [List.mem_singleton] at hx;subst hx;exact hd)
   exact ⟨by rw [ih.1];simp,ih.2⟩
theorem lY (c : UInt8) (s : List UInt8) : aL c (aY c.toNat s) = s:=by have:=(kJ (c:=c) (s:=s) (acc:=[]) (by intro x hx;cases hx)).1;simpa [aY] using this
theorem zn {c : UInt8} {s x : List UInt8} (h : x ∈ aY c.toNat s) : fu c.toNat x:=(kJ (c:=c) (s:=s) (acc:=[]) (by intro x hx;cases hx)).2 x h
theorem oG {k : Nat} : ∀ {s acc t : List UInt8},fu k s → d8 k acc (s ++ t) = d8 k (acc ++ s) t
 | [],acc,t,_=>by simp
 | d :: r,acc,t,h=>by
  rw [List.cons_append,d8,if_neg (h d (by simp)),oG (fun c hc=>h c (by simp [hc]))];simp
theorem pC {k : Nat} {s : List UInt8} (h : fu k s) : aY k s = [s]:=by
 have:=oG (k:=k) (s:=s) (acc:=[]) (t:=[]) h
 simpa [aY,d8] using this
theorem qk {k : Nat} {s t : List UInt8} {c : UInt8} (h : fu k s) (hc : c.toNat = k) : aY k (s ++ c :: t) = s :: aY k t:=by
 unfold aY
 rw [oG h,d8,if_pos hc];rfl
theorem lP {c : UInt8} : ∀ {xs : List (List UInt8)},xs ≠ [] → (∀ x ∈ xs,fu c.toNat x) → aY c.toNat (aL c xs) = xs
 | [],h,_=>absurd rfl h
 | [x],_,h=>pC (h x (by simp))
 | x :: y :: r,_,h=>by
  rw [aL,qk (h x (by simp)) rfl,lP (by simp) fun z hz=>h z (by simp at hz ⊢;exact .inr hz)]
theorem xx {k : Nat} {s t : List UInt8} {c : UInt8} (h : fu k s) (hc : c.toNat = k) : aF k (s ++ c :: t) = (s,t,true):=by
 induction s with
 | nil=>rw [List.nil_append,aF,if_pos hc]
 | cons d r ih=>rw [List.cons_append,aF,if_neg (h d (by simp)),ih fun x hx=>h x (by simp [hx])]
theorem sO {k : Nat} {s : List UInt8} (h : fu k s) : aF k s = (s,[],false):=by
 induction s with
 | nil=>rfl
 | cons d r ih=>rw [aF,if_neg (h d (by simp)),ih fun x hx=>h x (by simp [hx])]
theorem oI {k : Nat} : ∀ {s : List UInt8},fu k (aF k s).1
 | []=>by intro c hc;cases hc
 | d :: r=>by
  unfold aF
  split
  ·intro c hc;cases hc
  ·rename_i hd
   intro c hc
   rcases List.mem_cons.1 hc with rfl | hc
   ·exact hd
   ·exact oI c hc
theorem km {k : Nat} (s : List UInt8) : aY k s = if (aF k s).2.2 = true then (aF k s).1 :: aY k (aF k s).2.1 else [s]:=by
 cases h : (aF k s).2.2 with
 | false =>
  rw [if_neg (by simp)]
  have h1:=fI h
  refine pC ?_
  have:=oI (k:=k) (s:=s)
  rwa [h1] at this
 | true =>
  rw [if_pos rfl]
  obtain ⟨c,hc,e⟩:=hX (k:=k) (s:=s) (a:=(aF k s).1) (b:=(aF k s).2.1) (by rw [← h])
  conv=>{ lhs;rw [e] }
  exact qk oI hc
theorem lS {s : List UInt8} {k : Nat} (h : cK s = true) (hk : k < 97) : fu k s:=by
 intro c hc
 simp only [cK,Bool.and_eq_true,List.all_eq_true] at h
 have:=h.1 c hc
 simp only [kG,decide_eq_true_eq] at this
 omega
theorem sK {n m : Int} : ∀ {s : List UInt8},dc n s = some m → ∀ c ∈ s,48 ≤ c.toNat ∧ c.toNat ≤ 57
 | [],_,c,hc=>by cases hc
 | d :: r,h,c,hc=>by
  unfold dc at h
  split at h
  ·rename_i hd
   rcases List.mem_cons.1 hc with rfl | hc
   ·exact hd
   ·exact sK h c hc
  ·cases h
theorem qM {s : List UInt8} {top n : Int} (h : aK s top = some n) : ∀ c ∈ s,48 ≤ c.toNat ∧ c.toNat ≤ 57:=by
 unfold aK at h
 split at h
 ·split at h
  ·rename_i hd;exact sK hd
  ·cases h
 ·cases h
theorem mR {s : List UInt8} {top n : Int} {k : Nat} (h : aK s top = some n) (hk : 57 < k) : fu k s:=fun c hc=>by
 have:=qM h c hc;omega
theorem vS {s : List UInt8} (h : dQ s = true) {c : UInt8} (hc : c ∈ s) : c.toNat = 39 ∨ je c.toNat:=by
 unfold dQ at h
 simp only [decide_eq_true_eq] at h
 obtain ⟨h1,h2,h3,h4⟩:=h
 obtain ⟨i,hi,rfl⟩:=List.mem_iff_getElem.1 hc
 have e : bt s i = (s[i]).toNat:=by simp [bt,List.getD,List.getElem?_eq_getElem hi]
 rw [← e]
 rcases Nat.lt_or_ge i (s.length - 1) with h5 | h5
 ·rcases h4 i h5 with h6 | h6
  ·subst h6;exact .inl h2
  ·exact .inr h6
 ·have : i = s.length - 1:=oM
  subst this;exact .inl h3
theorem nL {d v : List UInt8} {k : Nat} (h : bZ d v = true) (hk : k = 58 ∨ k = 61) : fu k v:=by
 intro c hc
 unfold bZ at h
 split at h
 ·simp only [Bool.and_eq_true] at h
  obtain ⟨n,hn⟩:=Option.isSome_iff_exists.1 h.1
  have:=qM hn c hc;omega
 ·split at h
  ·simp only [Bool.and_eq_true] at h
   have:=vS h.1 hc
   unfold je at this;omega
  ·split at h
   ·simp only [decide_eq_true_eq] at h
    subst h
    simp only [List.mem_cons,List.not_mem_nil,or_false] at hc
    rcases hc with rfl | rfl | rfl <;> (rcases hk with rfl | rfl <;> decide)
   ·cases h
theorem l3 : ∀ s : List UInt8,(bR s).length ≤ s.length
 | []=>Nat.le_refl _
 | c :: r=>by
  unfold bR
  split
  ·have:=l3 r;simp;omega
  ·exact Nat.le_refl _
def sg (s : List UInt8) : List UInt8:=s.take (s.length - (bR s).length)
def pQ : List UInt8 → List UInt8
 | []=>[]
 | c :: r=>if c.toNat = 64 then [64] else c :: r
def bs (s : List UInt8) : List UInt8:=pQ (bR s)
def nm (s : List UInt8) : List UInt8:=(ce (bR s)).getD []
theorem uj {k : Nat} (hk : k = 58 ∨ k = 61) : ∀ {s : List UInt8},eR s = true → fu k s
 | [],h=>by cases h
 | c :: r,h=>by
  unfold eR at h
  split at h
  ·rename_i hc
   intro d hd
   rcases List.mem_cons.1 hd with rfl | hd
   ·omega
   ·exact uj hk h d hd
  ·split at h
   ·rename_i hc
    simp only [Bool.and_eq_true,decide_eq_true_eq] at h
    intro d hd
    rcases List.mem_cons.1 hd with rfl | hd
    ·omega
    ·obtain ⟨i,hi,rfl⟩:=List.mem_iff_getElem.1 hd
     rcases Nat.lt_or_ge i (r.length - 1) with h5 | h5
     ·refine lS h.2 oM _ ?_
      exact List.mem_iff_getElem.2 ⟨i,by simp;omega,by simp⟩
     ·have h1 : bt (c :: r) r.length = 59:=oM
      have e : i = r.length - 1:=oM
      obtain ⟨m,hm⟩ : ∃ m,r.length = m + 1:=⟨r.length - 1,oM⟩
      rw [hm,ep] at h1
      have : bt r m = (r[m]'oM).toNat:=by simp [bt,List.getD,List.getElem?_eq_getElem (show m < r.length by omega)]
      have e2 : i = m:=oM
      subst e2
      omega
   ·simp only [Bool.and_eq_true,Bool.or_eq_true,decide_eq_true_eq] at h
    intro d hd
    obtain ⟨rfl,h⟩:=h
    simp only [List.mem_singleton] at hd
    subst hd;omega
theorem ij {k : Nat} (hk : k = 58 ∨ k = 61) {s : List UInt8} (h : bW s = true) : fu k s:=by
 unfold bW at h;simp only [Bool.and_eq_true] at h;exact uj hk h.2
def m2 (s : List UInt8) (k : Nat) : Option Fld :=
 match aY 58 (aF 61 s).1 with
 | [a,b]=>if k = 69 ∧ (aF 61 s).2.2 = false then
   match aK a 200 with
   | some n=>if 1 ≤ n ∧ cK b = true then some ⟨n,b,[],[]⟩ else none
   | none=>none
  else none
 | [a,b,c]=>if k = 69 then none else
   match aK a 200 with
   | some n=>if (1 ≤ n ∧ cK b = true) ∧ bW c = true ∧ ((aF 61 s).2.2 = true → k = 82 ∧ bZ c (aF 61 s).2.1 = true) then some ⟨n,b,c,(aF 61 s).2.1⟩ else none
   | none=>none
 | _=>none
theorem gy {k : Nat} {a b : List UInt8} : fu k (a ++ b) ↔ fu k a ∧ fu k b:=by
 constructor
 ·intro h;exact ⟨fun c hc=>h c (by simp [hc]),fun c hc=>h c (by simp [hc])⟩
 ·intro h c hc
  rcases List.mem_append.1 hc with hc | hc
  ·exact h.1 c hc
  ·exact h.2 c hc
theorem iF {k : Nat} {c : UInt8} {b : List UInt8} : fu k (c :: b) ↔ c.toNat ≠ k ∧ fu k b:=by
 constructor
 ·intro h;exact ⟨h c (by simp),fun d hd=>h d (by simp [hd])⟩
 ·intro h d hd
  rcases List.mem_cons.1 hd with rfl | hd
  ·exact h.1
  ·exact h.2 d hd
theorem vo {s : List UInt8} {xs : List (List UInt8)} (h : aY 58 s = xs) : s = aL 58 xs ∧ ∀ x ∈ xs,fu 58 x:=by
 subst h
 exact ⟨(lY 58 s).symm,fun x hx=>zn (c:=58) hx⟩
theorem qd (s : List UInt8) (k : Nat) : m2 s k = cj s k:=by
 apply Option.ext
 intro f
 constructor
 ·intro h
  unfold m2 at h
  split at h
  ·rename_i a b e
   split at h
   ·rename_i hk
    have hs:=fI hk.2
    rw [hs] at e
    unfold cj
    rw [e]
    simp only [hk.1,if_true]
    exact h
   ·cases h
  ·rename_i a b c e
   split at h
   ·cases h
   ·rename_i hk
    split at h
    ·rename_i n hn
     split at h
     ·rename_i hg
      simp only [Option.some.injEq] at h;subst h
      cases ht : (aF 61 s).2.2 with
      | false =>
       have hs:=fI ht
       rw [hs] at e ⊢
       have hc61 : aY 61 c = [c]:=pC (ij (.inr rfl) hg.2.1)
       unfold cj
       rw [e]
       simp [hk,hn,hg.1.1,hg.1.2,hc61,hg.2.1]
      | true =>
       have hst:=hg.2.2 ht
       obtain ⟨d,hd,es⟩:=hX (k:=61) (s:=s) (a:=(aF 61 s).1) (b:=(aF 61 s).2.1) (by rw [← ht])
       generalize (aF 61 s).1 = hd1 at *
       generalize (aF 61 s).2.1 = v at *
       have hd : d = 61:=UInt8.toNat_inj.1 hd
       subst hd
       obtain ⟨e1,e2⟩:=vo e
       have e3 : s = aL 58 [a,b,c ++ 61 :: v]:=by rw [es,e1];simp [aL]
       have e4 : aY 58 s = [a,b,c ++ 61 :: v]:=by
        rw [e3]
        refine lP (c:=58) (by simp) fun x hx=>?_
        simp only [List.mem_cons,List.not_mem_nil,or_false] at hx
        rcases hx with rfl | rfl | rfl
        ·exact e2 _ (by simp)
        ·exact e2 _ (by simp)
        ·exact gy.2 ⟨e2 _ (by simp),iF.2 ⟨by decide,nL hst.2 (.inl rfl)⟩⟩
       have e5 : aY 61 (c ++ 61 :: v) = [c,v]:=by
        rw [qk (k:=61) (ij (.inr rfl) hg.2.1) rfl,pC (nL hst.2 (.inr rfl))]
       unfold cj
       rw [e4]
       simp [hk,hn,hg.1.1,hg.1.2,e5,hst.1,hst.2]
     ·cases h
    ·cases h
  ·cases h
 ·intro h
  unfold cj at h
  split at h
  ·rename_i a b e
   split at h
   ·rename_i hk
    split at h
    ·rename_i n hn
     split at h
     ·rename_i hg
      obtain ⟨e1,e2⟩:=vo e
      have hno : fu 61 s:=by rw [e1];simp only [aL];exact gy.2 ⟨mR hn oM,iF.2 ⟨by decide,lS hg.2 oM⟩⟩
      unfold m2
      rw [sO hno,e]
      simp only [hk,hn,hg,and_self,if_true]
      exact h
     ·cases h
    ·cases h
   ·cases h
  ·rename_i a b c e
   split at h
   ·cases h
   ·rename_i hk
    split at h
    ·rename_i n hn
     split at h
     ·rename_i hg
      obtain ⟨e1,e2⟩:=vo e
      split at h
      ·rename_i d e3
       split at h
       ·rename_i hd
        simp only [Option.some.injEq] at h;subst h
        have e4 : c = d:=by have:=lY 61 c;rw [show (61 : UInt8).toNat = 61 from rfl,e3] at this;exact this.symm
        subst e4
        have hno : fu 61 s:=by rw [e1];simp only [aL];exact gy.2 ⟨mR hn oM,iF.2 ⟨by decide,gy.2 ⟨lS hg.2 oM,iF.2 ⟨by decide,ij (.inr rfl) hd⟩⟩⟩⟩
        unfold m2
        rw [sO hno,e]
        simp [hk,hn,hg.1,hg.2,hd]
       ·cases h
      ·rename_i d v e3
       split at h
       ·rename_i hd
        simp only [Option.some.injEq] at h;subst h
        have e4 : c = d ++ 61 :: v:=by have:=lY 61 c;rw [show (61 : UInt8).toNat = 61 from rfl,e3] at this;exact this.symm
        subst e4
        have hkd:=mA hd.2
        have es : s = aL 58 [a,b,d] ++ 61 :: v:=by rw [e1];simp [aL]
        have hno : fu 61 (aL 58 [a,b,d]):=by simp only [aL];exact gy.2 ⟨mR hn oM,iF.2 ⟨by decide,gy.2 ⟨lS hg.2 oM,iF.2 ⟨by decide,ij (.inr rfl) hkd⟩⟩⟩⟩
        have e5 : aY 58 (aL 58 [a,b,d]) = [a,b,d]:=by
         refine lP (c:=58) (by simp) fun x hx=>?_
         simp only [List.mem_cons,List.not_mem_nil,or_false] at hx
         rcases hx with rfl | rfl | rfl
         ·exact e2 _ (by simp)
         ·exact e2 _ (by simp)
         ·exact ij (.inl rfl) hkd
        unfold m2
        rw [es,xx (k:=61) hno rfl,e5]
        simp [hn,hg.1,hg.2,hkd,hd.1,hd.2]
       ·cases h
      ·cases h
     ·cases h
    ·cases h
  ·cases h
def tag0 (t : Ty) : Int:=(t.fields.headD default).tag
def bS (ts : List Ty) : Nat → List UInt8 → List UInt8
 | 0,_=>[]
 | _ + 1,[]=>[]
 | n + 1,c :: r=>if c.toNat = 91 then [91,93] else if c.toNat = 63 then [45] else
   match aZ ts (c :: r) with
   | none=>gv (c :: r)
   | some t=>if t.sort = 82 then [123,125] else if t.sort = 69 then 35 :: bE (tag0 t) else 60 :: (bE (tag0 t) ++ 61 :: (bS ts n (eG t) ++ [62]))
def oX (ts : List Ty) (k : List UInt8) : List UInt8:=bS ts (ts.length + 2) k
def bQ (ts : List Ty) (f : Fld) : List UInt8:=if f.stand = [] then oX ts f.kind else f.stand
def ci (fs : List Fld) (tag : Int) : Option Fld:=fs.find? fun f=>decide (f.tag = tag)
structure AskW (ts us : List Ty) (m : List Pr) : Prop where
 nd : m.Nodup
 mem : ∀ p ∈ m,(∃ t ∈ ts,t.name = p.1) ∧ ∃ u ∈ us,u.name = p.2
theorem AskW.nil {ts us : List Ty} : AskW ts us []:=⟨List.nodup_nil,by simp⟩
theorem se {α : Type} [DecidableEq α] : ∀ {l l' : List α},l.Nodup → (∀ x ∈ l,x ∈ l') → l.length ≤ l'.length
 | [],_,_,_=>Nat.zero_le _
 | a :: l,l',hn,hs=>by
  rw [List.nodup_cons] at hn
  have ha:=hs a (.head _)
  have:=se (l:=l) (l':=l'.erase a) hn.2 fun x hx=>by
   have hx':=hs x (.tail _ hx)
   exact (List.mem_erase_of_ne (fun e=>hn.1 (by rw [← e];exact hx))).2 hx'
  rw [List.length_erase_of_mem ha] at this
  have hp : 0 < l'.length:=List.length_pos_of_mem ha
  simp only [List.length_cons];omega
theorem AskW.len {ts us : List Ty} {m : List Pr} (h : AskW ts us m) : m.length ≤ ts.length * us.length:=by
 have h1 : m.length ≤ (ts.flatMap fun t=>us.map fun u=>(t.name,u.name)).length:=se h.nd fun p hp=>by
  obtain ⟨⟨t,ht,e1⟩,u,hu,e2⟩:=h.mem p hp
  exact List.mem_flatMap.2 ⟨t,ht,List.mem_map.2 ⟨u,hu,by rw [e1,e2]⟩⟩
 have h2 : ∀ ts : List Ty,(ts.flatMap fun t=>us.map fun u=>(t.name,u.name)).length = ts.length * us.length:=fun ts=>by
  induction ts with
  | nil=>simp
  | cons t ts ih=>rw [List.flatMap_cons,List.length_append,ih,List.length_map,List.length_cons,Nat.succ_mul,Nat.add_comm]
 rw [h2] at h1;exact h1
theorem mV {ts : List Ty} {k : List UInt8} (h : aB ts k = true) (hr : (ce (bR k)).isSome = true) : ∃ t,aZ ts (bR k) = some t:=by
 unfold aB eU at h
 unfold aZ
 cases hc : ce (bR k) with
 | none=>rw [hc] at hr;cases hr
 | some n =>
  rw [hc] at h
  simp only [Bool.and_eq_true] at h
  obtain ⟨_,h⟩:=h
  exact Option.isSome_iff_exists.1 h
inductive V where
 | nd (what : Nat) (text : List UInt8) (tag : Int) (kids : List V)
instance : Inhabited V:=⟨.nd 0 [] 0 []⟩
def V.what : V → Nat | .nd w _ _ _=>w
def V.text : V → List UInt8 | .nd _ x _ _=>x
def V.tag : V → Int | .nd _ _ t _=>t
def V.kids : V → List V | .nd _ _ _ ks=>ks
def cO (w : Nat) (x : List UInt8) (t : Int) (e : Bool) (j : List UInt8) : List UInt8 :=
 if w = 116 then 39 :: (x ++ [39]) else if w = 91 then 91 :: (j ++ [93]) else if w = 63 then (if e = true then [45] else 43 :: j)
 else if w = 61 then bE t ++ 61 :: j else if w = 82 then 123 :: (j ++ [125]) else if w = 85 then 60 :: (bE t ++ 61 :: (j ++ [62])) else if w = 69 then 35 :: bE t else x
mutual
def V.out : V → List UInt8
 | .nd w x t ks=>cO w x t ks.isEmpty (aL 44 (V.outs ks))
def V.outs : List V → List (List UInt8)
 | []=>[]
 | v :: r=>V.out v :: V.outs r
end
mutual
def V.deep : V → Nat
 | .nd w _ _ ks=>if w = 61 then V.deeps ks else V.deeps ks + 1
def V.deeps : List V → Nat
 | []=>0
 | v :: r=>max (V.deep v) (V.deeps r)
end
def cP (w : Nat) (e : Bool) : Bool:=(decide (w = 110) || decide (w = 116) || decide (w = 102) || decide (w = 69)) || (decide (w = 63) && e)
mutual
def V.size : V → Nat
 | .nd w _ _ ks=>if cP w ks.isEmpty = true then 1 else V.sizes ks
def V.sizes : List V → Nat
 | []=>0
 | v :: r=>V.size v + V.sizes r
end
theorem V.outs_map : ∀ ks : List V,V.outs ks = ks.map V.out
 | []=>rfl
 | v :: r=>by rw [V.outs,V.outs_map r];rfl
def bm (c : UInt8) : Bool:=decide (48 ≤ c.toNat ∧ c.toNat ≤ 57)
def cE (top : Int) (s : List UInt8) : Option (Int × List UInt8):=(aK (s.takeWhile bm) top).map fun n=>(n,s.dropWhile bm)
def bH (f : List UInt8 → Option (V × List UInt8)) : Nat → List UInt8 → List V → Option (List V × List UInt8)
 | 0,_,_=>none
 | m + 1,s,acc=>match f s with
  | none=>none
  | some (v,r)=>match r with
   | []=>none
   | c :: r'=>if c.toNat = 44 then bH f m r' (acc ++ [v]) else if c.toNat = 93 then some (acc ++ [v],r') else none
def aX (f : List UInt8 → List UInt8 → Option (V × List UInt8)) (t : Ty) (s : List UInt8) : Option ((Fld × V) × List UInt8) :=
 match cE 200 s with
 | none=>none
 | some (n,r)=>match ci t.fields n with
  | none=>none
  | some d=>match r with
   | []=>none
   | c :: r'=>if c.toNat = 61 then (f d.kind r').map fun x=>((d,x.1),x.2) else none
def b9 (ts : List Ty) (f : List UInt8 → List UInt8 → Option (V × List UInt8)) (t : Ty) : Nat → Int → List UInt8 → List V → Option (List V × List UInt8)
 | 0,_,_,_=>none
 | m + 1,last,s,acc=>match aX f t s with
  | none=>none
  | some ((d,v),r)=>if d.tag ≤ last ∨ v.out = bQ ts d then none else match r with
   | []=>none
   | c :: r'=>if c.toNat = 44 then b9 ts f t m d.tag r' (acc ++ [.nd 61 [] d.tag [v]]) else if c.toNat = 125 then some (acc ++ [.nd 61 [] d.tag [v]],r') else none
def bA (ts : List Ty) (f : List UInt8 → List UInt8 → Option (V × List UInt8)) (t : Ty) : List UInt8 → Option (V × List UInt8)
 | []=>none
 | c :: s=>if t.sort = 82 then
   (if c.toNat = 123 then (match s with
    | []=>none
    | c' :: r=>if c'.toNat = 125 then some (.nd 82 [] 0 [],r) else (b9 ts f t (s.length + 1) 0 s []).map fun x=>(.nd 82 [] 0 x.1,x.2)) else none)
  else if t.sort = 69 then
   (if c.toNat = 35 then (match cE 200 s with
    | none=>none
    | some (n,r)=>if (ci t.fields n).isSome = true then some (.nd 69 [] n [],r) else none) else none)
  else if c.toNat = 60 then (match aX f t s with
    | none=>none
    | some ((d,v),r)=>match r with
     | []=>none
     | c' :: r'=>if c'.toNat = 62 then some (.nd 85 [] d.tag [v],r') else none)
   else none
def dw : List UInt8 → Option (V × List UInt8)
 | []=>none
 | c :: s=>if c.toNat = 39 then (match aF 39 s with
   | (x,r,true)=>if dQ (39 :: (x ++ [39])) = true then some (.nd 116 x 0 [],r) else none
   | _=>none) else none
def eC (s : List UInt8) : Option (V × List UInt8) :=
 if [121,101,115].isPrefixOf s = true then some (.nd 102 [121,101,115] 0 [],s.drop 3) else if [110,111].isPrefixOf s = true then some (.nd 102 [110,111] 0 [],s.drop 2) else none
def fq (ts : List Ty) (f : List UInt8 → List UInt8 → Option (V × List UInt8)) : List UInt8 → List UInt8 → Option (V × List UInt8)
 | [],_=>none
 | c :: k,s =>
  if c.toNat = 91 then (match s with
   | []=>none
   | d :: s'=>if d.toNat = 91 then (match s' with
     | []=>none
     | e :: r=>if e.toNat = 93 then some (.nd 91 [] 0 [],r) else (bH (f k) 20 s' []).map fun x=>(.nd 91 [] 0 x.1,x.2)) else none)
  else if c.toNat = 63 then (match s with
   | []=>none
   | d :: s'=>if d.toNat = 45 then some (.nd 63 [] 0 [],s') else if d.toNat = 43 then (f k s').map fun x=>(.nd 63 [] 0 [x.1],x.2) else none)
  else match aZ ts (c :: k) with
   | some t=>bA ts f t s
   | none=>if c.toNat = 110 then (cE 999999 s).map fun x=>(.nd 110 (bE x.1) 0 [],x.2) else if c.toNat = 116 then dw s else if c.toNat = 102 then eC s else none
def rd (ts : List Ty) : Nat → List UInt8 → List UInt8 → Option (V × List UInt8)
 | 0,_,_=>none
 | n + 1,k,s=>fq ts (rd ts n) k s
def cb (ts : List Ty) (k s : List UInt8) : Option V:=if s.length ≤ 400 then (match rd ts 12 k s with
 | some (v,[])=>some v
 | _=>none) else none
theorem mJ {f g : List UInt8 → Option (V × List UInt8)} (h : ∀ s x,f s = some x → g s = some x) : ∀ (m : Nat) (s : List UInt8) (acc : List V) {x : List V × List UInt8},bH f m s acc = some x → bH g m s acc = some x
 | 0,_,_,_,e=>by cases e
 | m + 1,s,acc,x,e=>by
  unfold bH at e ⊢
  cases hf : f s with
  | none=>rw [hf] at e;cases e
  | some y =>
   rw [hf] at e
   rw [h s y hf]
   obtain ⟨v,r⟩:=y
   cases r with
   | nil=>exact e
   | cons c r =>
    dsimp only at e ⊢
    split at e
    ·rename_i hc;rw [if_pos hc];exact mJ h m r _ e
    ·rename_i hc;rw [if_neg hc];exact e
theorem mK {f g : List UInt8 → List UInt8 → Option (V × List UInt8)} (h : ∀ k s x,f k s = some x → g k s = some x) (t : Ty) (s : List UInt8) {x : (Fld × V) × List UInt8} (e : aX f t s = some x) : aX g t s = some x:=by
 unfold aX at e ⊢
 cases hn : cE 200 s with
 | none=>rw [hn] at e;cases e
 | some y =>
  rw [hn] at e
  obtain ⟨n,r⟩:=y
  dsimp only at e ⊢
  cases hd : ci t.fields n with
  | none=>rw [hd] at e;cases e
  | some d =>
   rw [hd] at e
   cases r with
   | nil=>cases e
   | cons c r' =>
    dsimp only at e ⊢
    by_cases hc : c.toNat = 61
    ·rw [if_pos hc] at e ⊢
     cases hf : f d.kind r' with
     | none=>rw [hf] at e;cases e
     | some y=>rw [hf] at e;rw [h _ _ y hf];exact e
    ·rw [if_neg hc] at e;cases e
theorem nT {ts : List Ty} {f g : List UInt8 → List UInt8 → Option (V × List UInt8)} (h : ∀ k s x,f k s = some x → g k s = some x) (t : Ty) : ∀ (m : Nat) (last : Int) (s : List UInt8) (acc : List V) {x : List V × List UInt8},b9 ts f t m last s acc = some x → b9 ts g t m last s acc = some x
 | 0,_,_,_,_,e=>by cases e
 | m + 1,last,s,acc,x,e=>by
  unfold b9 at e ⊢
  cases hf : aX f t s with
  | none=>rw [hf] at e;cases e
  | some y =>
   rw [hf] at e
   rw [mK h t s hf]
   obtain ⟨⟨d,v⟩,r⟩:=y
   dsimp only at e ⊢
   split at e
   ·cases e
   ·rename_i hd
    rw [if_neg hd]
    cases r with
    | nil=>exact e
    | cons c r =>
     dsimp only at e ⊢
     split at e
     ·rename_i hc;rw [if_pos hc];exact nT h t m _ r _ e
     ·rename_i hc;rw [if_neg hc];exact e
theorem rQ {ts : List Ty} {f g : List UInt8 → List UInt8 → Option (V × List UInt8)} (h : ∀ k s x,f k s = some x → g k s = some x) (t : Ty) : ∀ (s : List UInt8) {x : V × List UInt8},bA ts f t s = some x → bA ts g t s = some x
 | [],_,e=>by cases e
 | c :: s,x,e=>by
  unfold bA at e ⊢
  dsimp only at e ⊢
  by_cases h82 : t.sort = 82
  ·rw [if_pos h82] at e ⊢
   by_cases hc : c.toNat = 123
   ·rw [if_pos hc] at e ⊢
    cases s with
    | nil=>exact e
    | cons c' r =>
     dsimp only at e ⊢
     by_cases hc' : c'.toNat = 125
     ·rw [if_pos hc'] at e ⊢;exact e
     ·rw [if_neg hc'] at e ⊢
      cases hf : b9 ts f t ((c' :: r).length + 1) 0 (c' :: r) [] with
      | none=>rw [hf] at e;cases e
      | some y=>rw [hf] at e;rw [nT h t _ _ _ _ hf];exact e
   ·rw [if_neg hc] at e;cases e
  ·rw [if_neg h82] at e ⊢
   by_cases h69 : t.sort = 69
   ·rw [if_pos h69] at e ⊢;exact e
   ·rw [if_neg h69] at e ⊢
    by_cases hc : c.toNat = 60
    ·rw [if_pos hc] at e ⊢
     cases hf : aX f t s with
     | none=>rw [hf] at e;cases e
     | some y=>rw [hf] at e;rw [mK h t s hf];exact e
    ·rw [if_neg hc] at e;cases e
theorem w8 {ts : List Ty} {f g : List UInt8 → List UInt8 → Option (V × List UInt8)} (ih : ∀ k s x,f k s = some x → g k s = some x) : ∀ (k s : List UInt8) {x : V × List UInt8},fq ts f k s = some x → fq ts g k s = some x
 | [],_,_,e=>by cases e
 | c :: k,s,x,e=>by
  unfold fq at e ⊢
  dsimp only at e ⊢
  by_cases h91 : c.toNat = 91
  ·rw [if_pos h91] at e ⊢
   cases s with
   | nil=>exact e
   | cons d s' =>
    dsimp only at e ⊢
    by_cases hd : d.toNat = 91
    ·rw [if_pos hd] at e ⊢
     cases s' with
     | nil=>exact e
     | cons e' r =>
      dsimp only at e ⊢
      by_cases he : e'.toNat = 93
      ·rw [if_pos he] at e ⊢;exact e
      ·rw [if_neg he] at e ⊢
       cases hf : bH (f k) 20 (e' :: r) [] with
       | none=>rw [hf] at e;cases e
       | some y=>rw [hf] at e;rw [mJ (ih k) _ _ _ hf];exact e
    ·rw [if_neg hd] at e;cases e
  ·rw [if_neg h91] at e ⊢
   by_cases h63 : c.toNat = 63
   ·rw [if_pos h63] at e ⊢
    cases s with
    | nil=>exact e
    | cons d s' =>
     dsimp only at e ⊢
     by_cases hd : d.toNat = 45
     ·rw [if_pos hd] at e ⊢;exact e
     ·rw [if_neg hd] at e ⊢
      by_cases hd2 : d.toNat = 43
      ·rw [if_pos hd2] at e ⊢
       cases hf : f k s' with
       | none=>rw [hf] at e;cases e
       | some y=>rw [hf] at e;rw [ih k s' y hf];exact e
      ·rw [if_neg hd2] at e;cases e
   ·rw [if_neg h63] at e ⊢
    cases hr : aZ ts (c :: k) with
    | none=>rw [hr] at e;exact e
    | some t=>rw [hr] at e;exact rQ ih t s e
theorem t3 {ts : List Ty} : ∀ (n : Nat) (k s : List UInt8) {x : V × List UInt8},rd ts n k s = some x → rd ts (n + 1) k s = some x
 | 0,_,_,_,e=>by cases e
 | n + 1,k,s,_,e=>w8 (fun k s _ e=>t3 n k s e) k s e
theorem xY {ts : List Ty} {n m : Nat} (h : n ≤ m) {k s : List UInt8} {x : V × List UInt8} (e : rd ts n k s = some x) : rd ts m k s = some x:=by
  induction m with
  | zero => have : n = 0 := oM
            subst this;exact e
  | succ m ih =>
    by_cases hn : n = m + 1
    · subst hn;exact e
    · exact t3 m k s (ih oM)
theorem V.deep_mem : ∀ {ks : List V} {v : V},v ∈ ks → V.deep v ≤ V.deeps ks
 | [],_,h=>by cases h
 | u :: ks,v,h=>by
  rw [V.deeps]
  rcases List.mem_cons.1 h with rfl | h
  ·exact Nat.le_max_left _ _
  ·exact Nat.le_trans (V.deep_mem h) (Nat.le_max_right _ _)
theorem V.deeps_le : ∀ {ks : List V} {n : Nat},(∀ v ∈ ks,V.deep v ≤ n) → V.deeps ks ≤ n
 | [],_,_=>by rw [V.deeps];exact Nat.zero_le _
 | u :: ks,n,h=>by
  rw [V.deeps]
  exact Nat.max_le.2 ⟨h u (.head _),V.deeps_le fun v hv=>h v (.tail _ hv)⟩
theorem dZ {w : Nat} {x : List UInt8} {t : Int} {ks : List V} (h : ¬ w = 61) : V.deep (.nd w x t ks) = V.deeps ks + 1:=by rw [V.deep,if_neg h]
theorem kl {t : Int} {v : V} : V.deep (.nd 61 [] t [v]) = V.deep v:=by rw [V.deep,if_pos rfl,V.deeps,V.deeps,Nat.max_zero]
theorem iP {f : List UInt8 → Option (V × List UInt8)} {p : V → Prop} (h : ∀ s x,f s = some x → p x.1) : ∀ (m : Nat) (s : List UInt8) (acc : List V) {x : List V × List UInt8},bH f m s acc = some x → (∀ v ∈ acc,p v) → ∀ v ∈ x.1,p v
 | 0,_,_,_,e,_=>by cases e
 | m + 1,s,acc,x,e,ha=>by
  unfold bH at e
  cases hf : f s with
  | none=>rw [hf] at e;cases e
  | some y =>
   rw [hf] at e
   have hy:=h s y hf
   obtain ⟨v,r⟩:=y
   have ha' : ∀ u ∈ acc ++ [v],p u:=fun u hu=>by
    rcases List.mem_append.1 hu with hu | hu
    ·exact ha u hu
    ·simp only [List.mem_singleton] at hu;subst hu;exact hy
   cases r with
   | nil=>cases e
   | cons c r =>
    dsimp only at e
    split at e
    ·exact iP h m r _ e ha'
    ·split at e
     ·simp only [Option.some.injEq] at e;subst e;exact ha'
     ·cases e
theorem nS {f g : List UInt8 → Option (V × List UInt8)} : ∀ (m : Nat) (s : List UInt8) (acc : List V) {x : List V × List UInt8},bH f m s acc = some x → (∀ s y,f s = some y → y.1 ∈ x.1 → g s = some y) → bH g m s acc = some x ∧ ∀ v ∈ acc,v ∈ x.1
 | 0,_,_,_,e,_=>by cases e
 | m + 1,s,acc,x,e,h=>by
  unfold bH at e ⊢
  cases hf : f s with
  | none=>rw [hf] at e;cases e
  | some y =>
   rw [hf] at e
   have hy:=h s y hf
   obtain ⟨v,r⟩:=y
   cases r with
   | nil=>cases e
   | cons c r =>
    dsimp only at e hy
    split at e
    ·rename_i hc
     obtain ⟨h1,h2⟩:=nS m r _ e h
     rw [hy (h2 v (by simp))]
     dsimp only
     rw [if_pos hc]
     exact ⟨h1,fun u hu=>h2 u (List.mem_append_left _ hu)⟩
    ·rename_i hc
     split at e
     ·rename_i hc2
      simp only [Option.some.injEq] at e;subst e
      rw [hy (by simp)]
      dsimp only
      rw [if_neg hc,if_pos hc2]
      exact ⟨rfl,fun u hu=>List.mem_append_left _ hu⟩
     ·cases e
theorem fU {f : List UInt8 → List UInt8 → Option (V × List UInt8)} {t : Ty} {s : List UInt8} {x : (Fld × V) × List UInt8} (e : aX f t s = some x) : x.1.1 ∈ t.fields ∧ ∃ s',f x.1.1.kind s' = some (x.1.2,x.2):=by
 unfold aX at e
 cases hn : cE 200 s with
 | none=>rw [hn] at e;cases e
 | some y =>
  rw [hn] at e
  obtain ⟨n,r⟩:=y
  dsimp only at e
  cases hd : ci t.fields n with
  | none=>rw [hd] at e;cases e
  | some d =>
   rw [hd] at e
   cases r with
   | nil=>cases e
   | cons c r' =>
    dsimp only at e
    by_cases hc : c.toNat = 61
    ·rw [if_pos hc] at e
     cases hf : f d.kind r' with
     | none=>rw [hf] at e;cases e
     | some y =>
      rw [hf] at e
      simp only [Option.map_some,Option.some.injEq] at e
      subst e
      exact ⟨List.mem_of_find?_eq_some hd,r',hf⟩
    ·rw [if_neg hc] at e;cases e
theorem kS {f g : List UInt8 → List UInt8 → Option (V × List UInt8)} {t : Ty} {s : List UInt8} {x : (Fld × V) × List UInt8} (e : aX f t s = some x) (h : ∀ k s y,f k s = some y → y.1 = x.1.2 → g k s = some y) : aX g t s = some x:=by
 unfold aX at e ⊢
 cases hn : cE 200 s with
 | none=>rw [hn] at e;cases e
 | some y =>
  rw [hn] at e
  obtain ⟨n,r⟩:=y
  dsimp only at e ⊢
  cases hd : ci t.fields n with
  | none=>rw [hd] at e;cases e
  | some d =>
   rw [hd] at e
   cases r with
   | nil=>cases e
   | cons c r' =>
    dsimp only at e ⊢
    by_cases hc : c.toNat = 61
    ·rw [if_pos hc] at e ⊢
     cases hf : f d.kind r' with
     | none=>rw [hf] at e;cases e
     | some y =>
      rw [hf] at e
      simp only [Option.map_some,Option.some.injEq] at e
      subst e
      rw [h _ _ _ hf rfl];rfl
    ·rw [if_neg hc] at e;cases e
theorem ph {ts : List Ty} {f : List UInt8 → List UInt8 → Option (V × List UInt8)} {t : Ty} {p : V → Prop} (h : ∀ k s x,f k s = some x → ∀ n,p (.nd 61 [] n [x.1])) : ∀ (m : Nat) (last : Int) (s : List UInt8) (acc : List V) {x : List V × List UInt8},b9 ts f t m last s acc = some x → (∀ v ∈ acc,p v) → ∀ v ∈ x.1,p v
 | 0,_,_,_,_,e,_=>by cases e
 | m + 1,last,s,acc,x,e,ha=>by
  unfold b9 at e
  cases hf : aX f t s with
  | none=>rw [hf] at e;cases e
  | some y =>
   rw [hf] at e
   obtain ⟨_,s',hs'⟩:=fU hf
   have hy:=h _ s' _ hs'
   obtain ⟨⟨d,v⟩,r⟩:=y
   dsimp only at e hy
   have ha' : ∀ u ∈ acc ++ [V.nd 61 [] d.tag [v]],p u:=fun u hu=>by
    rcases List.mem_append.1 hu with hu | hu
    ·exact ha u hu
    ·simp only [List.mem_singleton] at hu;subst hu;exact hy d.tag
   split at e
   ·cases e
   ·cases r with
    | nil=>cases e
    | cons c r =>
     dsimp only at e
     split at e
     ·exact ph h m _ r _ e ha'
     ·split at e
      ·simp only [Option.some.injEq] at e;subst e;exact ha'
      ·cases e
theorem pg {ts : List Ty} {f g : List UInt8 → List UInt8 → Option (V × List UInt8)} {t : Ty} : ∀ (m : Nat) (last : Int) (s : List UInt8) (acc : List V) {x : List V × List UInt8},b9 ts f t m last s acc = some x → (∀ k s y,f k s = some y → (∃ n,V.nd 61 [] n [y.1] ∈ x.1) → g k s = some y) → b9 ts g t m last s acc = some x ∧ ∀ v ∈ acc,v ∈ x.1
 | 0,_,_,_,_,e,_=>by cases e
 | m + 1,last,s,acc,x,e,h=>by
  unfold b9 at e ⊢
  cases hf : aX f t s with
  | none=>rw [hf] at e;cases e
  | some y =>
   rw [hf] at e
   obtain ⟨⟨d,v⟩,r⟩:=y
   dsimp only at e
   split at e
   ·cases e
   ·rename_i hd
    cases r with
    | nil=>cases e
    | cons c r =>
     dsimp only at e
     split at e
     ·rename_i hc
      obtain ⟨h1,h2⟩:=pg m _ r _ e h
      have hg:=kS (g:=g) hf (fun k s y hy e2=>h k s y hy ⟨d.tag,by rw [e2];exact h2 _ (by simp)⟩)
      rw [hg]
      dsimp only
      rw [if_neg hd,if_pos hc]
      exact ⟨h1,fun u hu=>h2 u (List.mem_append_left _ hu)⟩
     ·rename_i hc
      split at e
      ·rename_i hc2
       simp only [Option.some.injEq] at e;subst e
       have hg:=kS (g:=g) hf (fun k s y hy e2=>h k s y hy ⟨d.tag,by rw [e2];simp⟩)
       rw [hg]
       dsimp only
       rw [if_neg hd,if_neg hc,if_pos hc2]
       exact ⟨rfl,fun u hu=>List.mem_append_left _ hu⟩
      ·cases e
theorem t5 {ts : List Ty} {f g : List UInt8 → List UInt8 → Option (V × List UInt8)} : ∀ (k s : List UInt8) {x : V × List UInt8},fq ts f k s = some x → ∃ w tx tg ks,x.1 = .nd w tx tg ks ∧ ¬ w = 61 ∧ ((∀ k s y,f k s = some y → V.deep y.1 ≤ V.deeps ks → g k s = some y) → fq ts g k s = some x) ∧ ∀ n,(∀ k s y,f k s = some y → V.deep y.1 ≤ n) → V.deeps ks ≤ n
 | [],_,_,e=>by cases e
 | c :: k,s,x,e=>by
  unfold fq at e ⊢
  dsimp only at e ⊢
  have leaf : ∀ {w : Nat} {tx : List UInt8} {tg : Int} {q : Prop},x.1 = .nd w tx tg [] → ¬ w = 61 → q → ∃ w tx tg ks,x.1 = .nd w tx tg ks ∧ ¬ w = 61 ∧ ((∀ k s y,f k s = some y → V.deep y.1 ≤ V.deeps ks → g k s = some y) → q) ∧ ∀ n,(∀ k s y,f k s = some y → V.deep y.1 ≤ n) → V.deeps ks ≤ n :=
   fun h1 h2 h3=>⟨_,_,_,[],h1,h2,fun _=>h3,fun n _=>by rw [V.deeps];exact Nat.zero_le n⟩
  by_cases h91 : c.toNat = 91
  ·simp only [if_pos h91] at e ⊢
   cases s with
   | nil=>cases e
   | cons d s' =>
    dsimp only at e ⊢
    by_cases hd : d.toNat = 91
    ·simp only [if_pos hd] at e ⊢
     cases s' with
     | nil=>cases e
     | cons e' r =>
      dsimp only at e ⊢
      by_cases he : e'.toNat = 93
      ·simp only [if_pos he] at e ⊢
       have e2:=e
       simp only [Option.some.injEq] at e2;subst e2
       exact leaf rfl dC rfl
      ·simp only [if_neg he] at e ⊢
       cases hf : bH (f k) 20 (e' :: r) [] with
       | none=>rw [hf] at e;cases e
       | some y =>
        rw [hf] at e
        simp only [Option.map_some,Option.some.injEq] at e;subst e
        refine ⟨91,[],0,y.1,rfl,by decide,fun h=>?_,fun n h=>?_⟩
        ·rw [(nS (g:=g k) _ _ _ hf fun s u hu hm=>h k s u hu (V.deep_mem hm)).1];rfl
        ·exact V.deeps_le fun v hv=>iP (p:=fun v=>V.deep v ≤ n) (fun s u hu=>h k s u hu) _ _ _ hf (by simp) v hv
    ·simp only [if_neg hd] at e;cases e
  ·simp only [if_neg h91] at e ⊢
   by_cases h63 : c.toNat = 63
   ·simp only [if_pos h63] at e ⊢
    cases s with
    | nil=>cases e
    | cons d s' =>
     dsimp only at e ⊢
     by_cases hd : d.toNat = 45
     ·simp only [if_pos hd] at e ⊢
      have e2:=e
      simp only [Option.some.injEq] at e2;subst e2
      exact leaf rfl dC rfl
     ·simp only [if_neg hd] at e ⊢
      by_cases hd2 : d.toNat = 43
      ·simp only [if_pos hd2] at e ⊢
       cases hf : f k s' with
       | none=>rw [hf] at e;cases e
       | some y =>
        rw [hf] at e
        simp only [Option.map_some,Option.some.injEq] at e;subst e
        refine ⟨63,[],0,[y.1],rfl,by decide,fun h=>?_,fun n h=>?_⟩
        ·rw [h k s' y hf (V.deep_mem (by simp))];rfl
        ·exact V.deeps_le fun v hv=>by simp only [List.mem_singleton] at hv;subst hv;exact h k s' y hf
      ·simp only [if_neg hd2] at e;cases e
   ·simp only [if_neg h63] at e ⊢
    cases hr : aZ ts (c :: k) with
    | none =>
     rw [hr] at e
     dsimp only at e ⊢
     by_cases h1 : c.toNat = 110
     ·simp only [if_pos h1] at e ⊢
      cases hn : cE 999999 s with
      | none=>rw [hn] at e;cases e
      | some y =>
       rw [hn] at e
       have e2:=e
       simp only [Option.map_some,Option.some.injEq] at e2;subst e2
       exact leaf rfl dC rfl
     ·simp only [if_neg h1] at e ⊢
      by_cases h2 : c.toNat = 116
      ·simp only [if_pos h2] at e ⊢
       refine leaf (w:=116) (tx:=x.1.text) (tg:=0) ?_ dC e
       unfold dw at e
       split at e
       ·cases e
       ·split at e
        ·split at e
         ·split at e
          ·simp only [Option.some.injEq] at e;subst e;rfl
          ·cases e
         ·cases e
        ·cases e
      ·simp only [if_neg h2] at e ⊢
       by_cases h3 : c.toNat = 102
       ·simp only [if_pos h3] at e ⊢
        refine leaf (w:=102) (tx:=x.1.text) (tg:=0) ?_ dC e
        unfold eC at e
        split at e
        ·simp only [Option.some.injEq] at e;subst e;rfl
        ·split at e
         ·simp only [Option.some.injEq] at e;subst e;rfl
         ·cases e
       ·simp only [if_neg h3] at e;cases e
    | some t =>
     rw [hr] at e
     dsimp only at e ⊢
     unfold bA at e ⊢
     cases s with
     | nil=>cases e
     | cons d s =>
      dsimp only at e ⊢
      by_cases h82 : t.sort = 82
      ·simp only [if_pos h82] at e ⊢
       by_cases hd : d.toNat = 123
       ·simp only [if_pos hd] at e ⊢
        cases s with
        | nil=>cases e
        | cons d' r =>
         dsimp only at e ⊢
         by_cases hd' : d'.toNat = 125
         ·simp only [if_pos hd'] at e ⊢
          have e2:=e
          simp only [Option.some.injEq] at e2;subst e2
          exact leaf rfl dC rfl
         ·simp only [if_neg hd'] at e ⊢
          cases hf : b9 ts f t ((d' :: r).length + 1) 0 (d' :: r) [] with
          | none=>rw [hf] at e;cases e
          | some y =>
           rw [hf] at e
           simp only [Option.map_some,Option.some.injEq] at e;subst e
           refine ⟨82,[],0,y.1,rfl,by decide,fun h=>?_,fun n h=>?_⟩
           ·rw [(pg (g:=g) _ _ _ _ hf fun k s u hu hm=>h k s u hu (by obtain ⟨n,hm⟩:=hm;have:=V.deep_mem hm;rwa [kl] at this)).1];rfl
           ·exact V.deeps_le fun v hv=>ph (p:=fun v=>V.deep v ≤ n) (fun k s u hu m=>by rw [kl];exact h k s u hu) _ _ _ _ hf (by simp) v hv
       ·simp only [if_neg hd] at e;cases e
      ·simp only [if_neg h82] at e ⊢
       by_cases h69 : t.sort = 69
       ·simp only [if_pos h69] at e ⊢
        refine leaf (w:=69) (tx:=[]) (tg:=x.1.tag) ?_ dC e
        split at e
        ·split at e
         ·cases e
         ·split at e
          ·simp only [Option.some.injEq] at e;subst e;rfl
          ·cases e
        ·cases e
       ·simp only [if_neg h69] at e ⊢
        by_cases hd : d.toNat = 60
        ·simp only [if_pos hd] at e ⊢
         cases hf : aX f t s with
         | none=>rw [hf] at e;cases e
         | some y =>
          rw [hf] at e
          obtain ⟨⟨fd,v⟩,r⟩:=y
          cases r with
          | nil=>cases e
          | cons c' r =>
           dsimp only at e
           by_cases hc' : c'.toNat = 62
           ·simp only [if_pos hc',Option.some.injEq] at e;subst e
            refine ⟨85,[],fd.tag,[v],rfl,by decide,fun h=>?_,fun n h=>?_⟩
            ·rw [kS (g:=g) hf fun k s u hu e2=>h k s u hu (by rw [e2];exact V.deep_mem (by simp))]
             dsimp only
             rw [if_pos hc']
            ·obtain ⟨_,s',hs'⟩:=fU hf
             exact V.deeps_le fun u hu=>by simp only [List.mem_singleton] at hu;subst hu;exact h _ _ _ hs'
           ·simp only [if_neg hc'] at e;cases e
        ·simp only [if_neg hd] at e;cases e
theorem jj {ts : List Ty} : ∀ (n : Nat) (k s : List UInt8) (x : V × List UInt8),rd ts n k s = some x → V.deep x.1 ≤ n
 | 0,_,_,_,e=>by cases e
 | n + 1,k,s,x,e=>by
  obtain ⟨w,tx,tg,ks,h1,h2,_,h4⟩:=t5 (g:=rd ts n) k s e
  rw [h1,dZ h2]
  have:=h4 n fun k s y hy=>jj n k s y hy
  omega
theorem xZ {ts : List Ty} : ∀ (n m : Nat) (k s : List UInt8) (x : V × List UInt8),rd ts n k s = some x → V.deep x.1 ≤ m → rd ts m k s = some x
 | 0,_,_,_,_,e,_=>by cases e
 | n + 1,m,k,s,x,e,hm=>by
  obtain ⟨w,tx,tg,ks,h1,h2,h3,_⟩:=t5 (g:=rd ts (m - 1)) k s e
  rw [h1,dZ h2] at hm
  obtain ⟨m,rfl⟩ : ∃ j,m = j + 1:=⟨m - 1,oM⟩
  exact h3 fun k s y hy hd=>xZ n m k s y hy oM
theorem bV {c : UInt8} {n : Nat} (h : c.toNat = n) (hn : n < 256) : c = UInt8.ofNat n:=by
 apply UInt8.toNat_inj.1;rw [h,UInt8.toNat_ofNat'];omega
theorem kA {top : Int} {s r : List UInt8} {n : Int} (h : cE top s = some (n,r)) : s = bE n ++ r:=by
 unfold cE at h
 cases hn : aK (s.takeWhile bm) top with
 | none=>rw [hn] at h;cases h
 | some q =>
  rw [hn] at h
  simp only [Option.map_some,Option.some.injEq,Prod.mk.injEq] at h
  obtain ⟨rfl,rfl⟩:=h
  rw [← (dW hn).2.1,List.takeWhile_append_dropWhile]
theorem nR {f : List UInt8 → Option (V × List UInt8)} (h : ∀ s y,f s = some y → s = y.1.out ++ y.2) : ∀ (m : Nat) (s : List UInt8) (acc : List V) {x : List V × List UInt8},bH f m s acc = some x → ∃ vs,vs ≠ [] ∧ x.1 = acc ++ vs ∧ s = aL 44 (vs.map V.out) ++ 93 :: x.2
 | 0,_,_,_,e=>by cases e
 | m + 1,s,acc,x,e=>by
  unfold bH at e
  cases hf : f s with
  | none=>rw [hf] at e;cases e
  | some y =>
   rw [hf] at e
   have hy:=h s y hf
   obtain ⟨v,r⟩:=y
   cases r with
   | nil=>cases e
   | cons c r =>
    dsimp only at e hy
    split at e
    ·rename_i hc
     obtain ⟨vs,h1,h2,h3⟩:=nR h m r _ e
     have hc2:=bV hc dC
     refine ⟨v :: vs,by simp,by rw [h2];simp,?_⟩
     rw [hy,h3,List.map_cons,lR _ _ (by simpa using h1),hc2]
     simp
    ·split at e
     ·rename_i hc2
      have hc3:=bV hc2 dC
      simp only [Option.some.injEq] at e;subst e
      exact ⟨[v],by simp,rfl,by rw [hy,hc3];rfl⟩
     ·cases e
theorem fV {t : Int} {v : V} : V.out (.nd 61 [] t [v]) = bE t ++ 61 :: v.out:=by
 rw [V.out,V.outs,V.outs];simp [cO,aL]
theorem nV {f : List UInt8 → List UInt8 → Option (V × List UInt8)} (h : ∀ k s y,f k s = some y → s = y.1.out ++ y.2) {t : Ty} {s : List UInt8} {x : (Fld × V) × List UInt8} (e : aX f t s = some x) : s = bE x.1.1.tag ++ 61 :: (x.1.2.out ++ x.2):=by
 unfold aX at e
 cases hn : cE 200 s with
 | none=>rw [hn] at e;cases e
 | some y =>
  rw [hn] at e
  obtain ⟨n,r⟩:=y
  have h1:=kA hn
  dsimp only at e
  cases hd : ci t.fields n with
  | none=>rw [hd] at e;cases e
  | some d =>
   rw [hd] at e
   have h2 : d.tag = n:=by have:=List.find?_some hd;simpa using this
   cases r with
   | nil=>cases e
   | cons c r' =>
    dsimp only at e
    by_cases hc : c.toNat = 61
    ·rw [if_pos hc] at e
     cases hf : f d.kind r' with
     | none=>rw [hf] at e;cases e
     | some y =>
      rw [hf] at e
      simp only [Option.map_some,Option.some.injEq] at e
      subst e
      have h3:=h _ _ _ hf
      dsimp only
      rw [h1,h2,h3,bV hc dC];rfl
    ·rw [if_neg hc] at e;cases e
theorem pe {ts : List Ty} {f : List UInt8 → List UInt8 → Option (V × List UInt8)} (h : ∀ k s y,f k s = some y → s = y.1.out ++ y.2) {t : Ty} : ∀ (m : Nat) (last : Int) (s : List UInt8) (acc : List V) {x : List V × List UInt8},b9 ts f t m last s acc = some x → ∃ vs,vs ≠ [] ∧ x.1 = acc ++ vs ∧ s = aL 44 (vs.map V.out) ++ 125 :: x.2
 | 0,_,_,_,_,e=>by cases e
 | m + 1,last,s,acc,x,e=>by
  unfold b9 at e
  cases hf : aX f t s with
  | none=>rw [hf] at e;cases e
  | some y =>
   rw [hf] at e
   have hy:=nV h hf
   obtain ⟨⟨d,v⟩,r⟩:=y
   dsimp only at e hy
   split at e
   ·cases e
   ·cases r with
    | nil=>cases e
    | cons c r =>
     dsimp only at e
     split at e
     ·rename_i hc
      obtain ⟨vs,h1,h2,h3⟩:=pe h m _ r _ e
      have hc2:=bV hc dC
      refine ⟨V.nd 61 [] d.tag [v] :: vs,by simp,by rw [h2];simp,?_⟩
      rw [hy,h3,List.map_cons,lR _ _ (by simpa using h1),hc2,fV]
      simp
     ·split at e
      ·rename_i hc2
       have hc3:=bV hc2 dC
       simp only [Option.some.injEq] at e;subst e
       exact ⟨[V.nd 61 [] d.tag [v]],by simp,rfl,by rw [hy,hc3];simp [aL,fV]⟩
      ·cases e
theorem rg {k : Nat} {c : UInt8} (hc : c.toNat = k) : ∀ {s x r : List UInt8},aF k s = (x,r,true) → s = x ++ c :: r
 | [],_,_,h=>by cases h
 | d :: s,x,r,h=>by
  unfold aF at h
  split at h
  ·rename_i hd
   simp only [Prod.mk.injEq,and_true] at h
   obtain ⟨rfl,rfl⟩:=h
   have : d = c:=UInt8.toNat_inj.1 (by rw [hd,hc])
   rw [this];rfl
  ·simp only [Prod.mk.injEq] at h
   obtain ⟨h1,h2,h3⟩:=h
   have ih:=rg hc (s:=s) (x:=(aF k s).1) (r:=(aF k s).2.1) (by rw [← h3])
   rw [← h1,← h2,List.cons_append,← ih]
theorem p7 {p s : List UInt8} (h : p.isPrefixOf s = true) : s = p ++ s.drop p.length:=by
 rw [List.isPrefixOf_iff_prefix] at h
 obtain ⟨t,rfl⟩:=h
 simp
theorem nP {s : List UInt8} {x : V × List UInt8} (e : dw s = some x) : s = x.1.out ++ x.2:=by
 unfold dw at e
 cases s with
 | nil=>cases e
 | cons c s =>
  dsimp only at e
  by_cases hc : c.toNat = 39
  ·rw [if_pos hc] at e
   rcases hq : aF 39 s with ⟨y,r,b⟩
   rw [hq] at e
   cases b with
   | false=>cases e
   | true =>
    dsimp only at e
    split at e
    ·simp only [Option.some.injEq] at e;subst e
     have h1:=rg (c:=39) rfl hq
     rw [h1,bV hc dC]
     simp [V.out,cO]
    ·cases e
  ·rw [if_neg hc] at e;cases e
theorem pi {s : List UInt8} {x : V × List UInt8} (e : eC s = some x) : s = x.1.out ++ x.2:=by
 unfold eC at e
 split at e
 ·rename_i h
  simp only [Option.some.injEq] at e;subst e
  have:=p7 h
  simpa [V.out,cO] using this
 ·split at e
  ·rename_i h
   simp only [Option.some.injEq] at e;subst e
   have:=p7 h
   simpa [V.out,cO] using this
  ·cases e
theorem ou {ks : List V} {r : List UInt8} : V.out (.nd 91 [] 0 ks) ++ r = 91 :: (aL 44 (ks.map V.out) ++ 93 :: r):=by
 rw [V.out,V.outs_map];simp [cO]
theorem p8 {ks : List V} {r : List UInt8} : V.out (.nd 82 [] 0 ks) ++ r = 123 :: (aL 44 (ks.map V.out) ++ 125 :: r):=by
 rw [V.out,V.outs_map];simp [cO]
theorem ue {v : V} {r : List UInt8} : V.out (.nd 63 [] 0 [v]) ++ r = 43 :: (v.out ++ r):=by
 rw [V.out,V.outs_map];simp [cO,aL]
theorem nw {v : V} {n : Int} {r : List UInt8} : V.out (.nd 85 [] n [v]) ++ r = 60 :: (bE n ++ 61 :: (v.out ++ 62 :: r)):=by
 rw [V.out,V.outs_map];simp [cO,aL]
theorem yH {ts : List Ty} {f : List UInt8 → List UInt8 → Option (V × List UInt8)} (h : ∀ k s y,f k s = some y → s = y.1.out ++ y.2) : ∀ (k s : List UInt8) {x : V × List UInt8},fq ts f k s = some x → s = x.1.out ++ x.2
 | [],_,_,e=>by cases e
 | c :: k,s,x,e=>by
  unfold fq at e
  dsimp only at e
  by_cases h91 : c.toNat = 91
  ·simp only [if_pos h91] at e
   cases s with
   | nil=>cases e
   | cons d s' =>
    dsimp only at e
    by_cases hd : d.toNat = 91
    ·simp only [if_pos hd] at e
     cases s' with
     | nil=>cases e
     | cons e' r =>
      dsimp only at e
      by_cases he : e'.toNat = 93
      ·simp only [if_pos he,Option.some.injEq] at e;subst e
       rw [ou,bV hd dC,bV he dC];rfl
      ·simp only [if_neg he] at e
       cases hf : bH (f k) 20 (e' :: r) [] with
       | none=>rw [hf] at e;cases e
       | some y =>
        rw [hf] at e
        simp only [Option.map_some,Option.some.injEq] at e;subst e
        obtain ⟨vs,_,h2,h3⟩:=nR (h k) _ _ _ hf
        rw [ou,h2,h3,bV hd dC];rfl
    ·simp only [if_neg hd] at e;cases e
  ·simp only [if_neg h91] at e
   by_cases h63 : c.toNat = 63
   ·simp only [if_pos h63] at e
    cases s with
    | nil=>cases e
    | cons d s' =>
     dsimp only at e
     by_cases hd : d.toNat = 45
     ·simp only [if_pos hd,Option.some.injEq] at e;subst e
      rw [bV hd dC];simp [V.out,cO]
     ·simp only [if_neg hd] at e
      by_cases hd2 : d.toNat = 43
      ·simp only [if_pos hd2] at e
       cases hf : f k s' with
       | none=>rw [hf] at e;cases e
       | some y =>
        rw [hf] at e
        simp only [Option.map_some,Option.some.injEq] at e;subst e
        rw [ue,← h k s' y hf,bV hd2 dC];rfl
      ·simp only [if_neg hd2] at e;cases e
   ·simp only [if_neg h63] at e
    cases hr : aZ ts (c :: k) with
    | none =>
     rw [hr] at e
     dsimp only at e
     by_cases h1 : c.toNat = 110
     ·simp only [if_pos h1] at e
      cases hn : cE 999999 s with
      | none=>rw [hn] at e;cases e
      | some y =>
       rw [hn] at e
       simp only [Option.map_some,Option.some.injEq] at e;subst e
       rw [kA hn];simp [V.out,cO]
     ·simp only [if_neg h1] at e
      by_cases h2 : c.toNat = 116
      ·simp only [if_pos h2] at e;exact nP e
      ·simp only [if_neg h2] at e
       by_cases h3 : c.toNat = 102
       ·simp only [if_pos h3] at e;exact pi e
       ·simp only [if_neg h3] at e;cases e
    | some t =>
     rw [hr] at e
     dsimp only at e
     unfold bA at e
     cases s with
     | nil=>cases e
     | cons d s =>
      dsimp only at e
      by_cases h82 : t.sort = 82
      ·simp only [if_pos h82] at e
       by_cases hd : d.toNat = 123
       ·simp only [if_pos hd] at e
        cases s with
        | nil=>cases e
        | cons d' r =>
         dsimp only at e
         by_cases hd' : d'.toNat = 125
         ·simp only [if_pos hd',Option.some.injEq] at e;subst e
          rw [p8,bV hd dC,bV hd' dC];rfl
         ·simp only [if_neg hd'] at e
          cases hf : b9 ts f t ((d' :: r).length + 1) 0 (d' :: r) [] with
          | none=>rw [hf] at e;cases e
          | some y =>
           rw [hf] at e
           simp only [Option.map_some,Option.some.injEq] at e;subst e
           obtain ⟨vs,_,h2,h3⟩:=pe h _ _ _ _ hf
           rw [p8,h2,h3,bV hd dC];rfl
       ·simp only [if_neg hd] at e;cases e
      ·simp only [if_neg h82] at e
       by_cases h69 : t.sort = 69
       ·simp only [if_pos h69] at e
        by_cases hd : d.toNat = 35
        ·simp only [if_pos hd] at e
         cases hn : cE 200 s with
         | none=>rw [hn] at e;cases e
         | some y =>
          rw [hn] at e
          obtain ⟨n,r⟩:=y
          dsimp only at e
          split at e
          ·simp only [Option.some.injEq] at e;subst e
           rw [kA hn,bV hd dC];simp [V.out,cO]
          ·cases e
        ·simp only [if_neg hd] at e;cases e
       ·simp only [if_neg h69] at e
        by_cases hd : d.toNat = 60
        ·simp only [if_pos hd] at e
         cases hf : aX f t s with
         | none=>rw [hf] at e;cases e
         | some y =>
          rw [hf] at e
          have h3:=nV h hf
          obtain ⟨⟨fd,v⟩,r⟩:=y
          cases r with
          | nil=>cases e
          | cons c' r =>
           dsimp only at e h3
           by_cases hc' : c'.toNat = 62
           ·simp only [if_pos hc',Option.some.injEq] at e;subst e
            rw [nw,h3,bV hd dC,bV hc' dC];rfl
           ·simp only [if_neg hc'] at e;cases e
        ·simp only [if_neg hd] at e;cases e
theorem o7 {ts : List Ty} : ∀ (n : Nat) (k s : List UInt8) (x : V × List UInt8),rd ts n k s = some x → s = x.1.out ++ x.2
 | 0,_,_,_,e=>by cases e
 | n + 1,k,s,x,e=>yH (fun k s y hy=>o7 n k s y hy) k s e
theorem fG {ts : List Ty} {k s : List UInt8} {v : V} (h : cb ts k s = some v) : v.out = s ∧ s.length ≤ 400 ∧ V.deep v ≤ 12:=by
 unfold cb at h
 split at h
 ·rename_i hl
  split at h
  ·rename_i w hw
   simp only [Option.some.injEq] at h;subst h
   have h1:=o7 _ _ _ _ hw
   have h2:=jj _ _ _ _ hw
   simp only [List.append_nil] at h1
   exact ⟨h1.symm,hl,h2⟩
  ·cases h
 ·cases h
inductive RdK (ts : List Ty) (f : List UInt8 → List UInt8 → Option (V × List UInt8)) : List UInt8 → List UInt8 → V → List UInt8 → Prop
 | lst0 (k r : List UInt8) : RdK ts f (91 :: k) (91 :: 93 :: r) (.nd 91 [] 0 []) r
 | lst (k s r : List UInt8) (vs : List V) : bH (f k) 20 s [] = some (vs,r) → RdK ts f (91 :: k) (91 :: s) (.nd 91 [] 0 vs) r
 | non (k r : List UInt8) : RdK ts f (63 :: k) (45 :: r) (.nd 63 [] 0 []) r
 | opt (k s r : List UInt8) (v : V) : f k s = some (v,r) → RdK ts f (63 :: k) (43 :: s) (.nd 63 [] 0 [v]) r
 | num (k s r : List UInt8) (n : Int) : aZ ts (110 :: k) = none → cE 999999 s = some (n,r) → RdK ts f (110 :: k) s (.nd 110 (bE n) 0 []) r
 | txt (k s r : List UInt8) (v : V) : aZ ts (116 :: k) = none → dw s = some (v,r) → RdK ts f (116 :: k) s v r
 | flg (k s r : List UInt8) (v : V) : aZ ts (102 :: k) = none → eC s = some (v,r) → RdK ts f (102 :: k) s v r
 | recd0 (k r : List UInt8) (t : Ty) : aZ ts k = some t → t.sort = 82 → RdK ts f k (123 :: 125 :: r) (.nd 82 [] 0 []) r
 | recd (k s r : List UInt8) (t : Ty) (vs : List V) : aZ ts k = some t → t.sort = 82 → b9 ts f t (s.length + 1) 0 s [] = some (vs,r) → RdK ts f k (123 :: s) (.nd 82 [] 0 vs) r
 | enm (k s r : List UInt8) (t : Ty) (n : Int) : aZ ts k = some t → t.sort = 69 → cE 200 s = some (n,r) → (ci t.fields n).isSome = true → RdK ts f k (35 :: s) (.nd 69 [] n []) r
 | uni (k s r : List UInt8) (t : Ty) (d : Fld) (v : V) : aZ ts k = some t → t.sort ≠ 82 → t.sort ≠ 69 → aX f t s = some ((d,v),62 :: r) → RdK ts f k (60 :: s) (.nd 85 [] d.tag [v]) r
theorem p6 {ts : List Ty} {f : List UInt8 → List UInt8 → Option (V × List UInt8)} : ∀ (k s : List UInt8) {x : V × List UInt8},fq ts f k s = some x → RdK ts f k s x.1 x.2
 | [],_,_,e=>by cases e
 | c :: k,s,x,e=>by
  unfold fq at e
  dsimp only at e
  by_cases h91 : c.toNat = 91
  ·simp only [if_pos h91] at e
   obtain rfl:=bV h91 dC
   cases s with
   | nil=>cases e
   | cons d s' =>
    dsimp only at e
    by_cases hd : d.toNat = 91
    ·simp only [if_pos hd] at e
     obtain rfl:=bV hd dC
     cases s' with
     | nil=>cases e
     | cons e' r =>
      dsimp only at e
      by_cases he : e'.toNat = 93
      ·simp only [if_pos he,Option.some.injEq] at e;subst e
       obtain rfl:=bV he dC
       exact .lst0 _ _
      ·simp only [if_neg he] at e
       cases hf : bH (f k) 20 (e' :: r) [] with
       | none=>rw [hf] at e;cases e
       | some y =>
        rw [hf] at e
        simp only [Option.map_some,Option.some.injEq] at e;subst e
        exact .lst _ _ _ _ hf
    ·simp only [if_neg hd] at e;cases e
  ·simp only [if_neg h91] at e
   by_cases h63 : c.toNat = 63
   ·simp only [if_pos h63] at e
    obtain rfl:=bV h63 dC
    cases s with
    | nil=>cases e
    | cons d s' =>
     dsimp only at e
     by_cases hd : d.toNat = 45
     ·simp only [if_pos hd,Option.some.injEq] at e;subst e
      obtain rfl:=bV hd dC
      exact .non _ _
     ·simp only [if_neg hd] at e
      by_cases hd2 : d.toNat = 43
      ·simp only [if_pos hd2] at e
       obtain rfl:=bV hd2 dC
       cases hf : f k s' with
       | none=>rw [hf] at e;cases e
       | some y =>
        rw [hf] at e
        simp only [Option.map_some,Option.some.injEq] at e;subst e
        exact .opt _ _ _ _ hf
      ·simp only [if_neg hd2] at e;cases e
   ·simp only [if_neg h63] at e
    cases hr : aZ ts (c :: k) with
    | none =>
     rw [hr] at e
     dsimp only at e
     by_cases h1 : c.toNat = 110
     ·simp only [if_pos h1] at e
      obtain rfl:=bV h1 dC
      cases hn : cE 999999 s with
      | none=>rw [hn] at e;cases e
      | some y =>
       rw [hn] at e
       simp only [Option.map_some,Option.some.injEq] at e;subst e
       exact .num _ _ _ _ hr hn
     ·simp only [if_neg h1] at e
      by_cases h2 : c.toNat = 116
      ·simp only [if_pos h2] at e
       obtain rfl:=bV h2 dC
       exact .txt _ _ _ _ hr e
      ·simp only [if_neg h2] at e
       by_cases h3 : c.toNat = 102
       ·simp only [if_pos h3] at e
        obtain rfl:=bV h3 dC
        exact .flg _ _ _ _ hr e
       ·simp only [if_neg h3] at e;cases e
    | some t =>
     rw [hr] at e
     dsimp only at e
     unfold bA at e
     cases s with
     | nil=>cases e
     | cons d s =>
      dsimp only at e
      by_cases h82 : t.sort = 82
      ·simp only [if_pos h82] at e
       by_cases hd : d.toNat = 123
       ·simp only [if_pos hd] at e
        obtain rfl:=bV hd dC
        cases s with
        | nil=>cases e
        | cons d' r =>
         dsimp only at e
         by_cases hd' : d'.toNat = 125
         ·simp only [if_pos hd',Option.some.injEq] at e;subst e
          obtain rfl:=bV hd' dC
          exact .recd0 _ _ t hr h82
         ·simp only [if_neg hd'] at e
          cases hf : b9 ts f t ((d' :: r).length + 1) 0 (d' :: r) [] with
          | none=>rw [hf] at e;cases e
          | some y =>
           rw [hf] at e
           simp only [Option.map_some,Option.some.injEq] at e;subst e
           exact .recd _ _ _ t _ hr h82 hf
       ·simp only [if_neg hd] at e;cases e
      ·simp only [if_neg h82] at e
       by_cases h69 : t.sort = 69
       ·simp only [if_pos h69] at e
        by_cases hd : d.toNat = 35
        ·simp only [if_pos hd] at e
         obtain rfl:=bV hd dC
         cases hn : cE 200 s with
         | none=>rw [hn] at e;cases e
         | some y =>
          rw [hn] at e
          obtain ⟨n,r⟩:=y
          dsimp only at e
          split at e
          ·rename_i hs
           simp only [Option.some.injEq] at e;subst e
           exact .enm _ _ _ t _ hr h69 hn hs
          ·cases e
        ·simp only [if_neg hd] at e;cases e
       ·simp only [if_neg h69] at e
        by_cases hd : d.toNat = 60
        ·simp only [if_pos hd] at e
         obtain rfl:=bV hd dC
         cases hf : aX f t s with
         | none=>rw [hf] at e;cases e
         | some y =>
          rw [hf] at e
          obtain ⟨⟨fd,v⟩,r⟩:=y
          cases r with
          | nil=>cases e
          | cons c' r =>
           dsimp only at e
           by_cases hc' : c'.toNat = 62
           ·simp only [if_pos hc',Option.some.injEq] at e;subst e
            obtain rfl:=bV hc' dC
            exact .uni _ _ _ t _ _ hr h82 h69 hf
           ·simp only [if_neg hc'] at e;cases e
        ·simp only [if_neg hd] at e;cases e
mutual
def V.tot : V → Nat
 | .nd _ x _ ks=>20 + x.length + V.tots ks
def V.tots : List V → Nat
 | []=>0
 | v :: r=>V.tot v + V.tots r
end
theorem dT : ∀ (a b : List V),V.tots (a ++ b) = V.tots a + V.tots b
 | [],b=>by simp [V.tots]
 | v :: a,b=>by simp only [List.cons_append,V.tots,dT a b];omega
theorem gY (v : V) : 20 ≤ v.tot:=by obtain ⟨w,x,t,ks⟩:=v;rw [V.tot];omega
theorem n9 : ∀ {ks : List V} {v : V},v ∈ ks → V.tot v ≤ V.tots ks
 | u :: ks,v,h=>by
  rw [V.tots]
  rcases List.mem_cons.1 h with rfl | h
  ·omega
  ·have:=n9 h;omega
theorem c7 : ∀ (ks : List V),20 * ks.length ≤ V.tots ks
 | []=>by simp [V.tots]
 | u :: ks=>by rw [V.tots,List.length_cons];have:=c7 ks;have:=gY u;omega
theorem gp (n : Int) : 1 ≤ (bE n).length:=by
 by_cases h : n < 10
 ·by_cases h0 : 0 ≤ n
  ·rw [d4 h h0];simp
  ·have : n.toNat = (0 : Int).toNat:=oM
   have e : bE n = bE 0:=by unfold bE;rw [this]
   rw [e,d4 dC dC];simp
 ·rw [jv h];simp
theorem mH {top : Int} {s r : List UInt8} {n : Int} (h : cE top s = some (n,r)) : (bE n).length + r.length = s.length ∧ 1 ≤ (bE n).length:=by
 have:=kA h
 exact ⟨by rw [this];simp,gp n⟩
theorem nQ {f : List UInt8 → Option (V × List UInt8)} (h : ∀ s y,f s = some y → y.1.tot + 100 * y.2.length ≤ 100 * s.length) : ∀ (m : Nat) (s : List UInt8) (acc : List V) {x : List V × List UInt8},bH f m s acc = some x → V.tots x.1 + 100 * (x.2.length + 1) ≤ V.tots acc + 100 * s.length
 | 0,_,_,_,e=>by cases e
 | m + 1,s,acc,x,e=>by
  unfold bH at e
  cases hf : f s with
  | none=>rw [hf] at e;cases e
  | some y =>
   rw [hf] at e
   have hy:=h s y hf
   obtain ⟨v,r⟩:=y
   cases r with
   | nil=>cases e
   | cons c r =>
    dsimp only at e hy
    have e2 : V.tots (acc ++ [v]) = V.tots acc + v.tot:=by simp [dT,V.tots]
    rw [List.length_cons] at hy
    split at e
    ·have:=nQ h m r _ e
     omega
    ·split at e
     ·simp only [Option.some.injEq] at e;subst e
      dsimp only;omega
     ·cases e
theorem nU {f : List UInt8 → List UInt8 → Option (V × List UInt8)} (h : ∀ k s y,f k s = some y → y.1.tot + 100 * y.2.length ≤ 100 * s.length) {t : Ty} {s : List UInt8} {x : (Fld × V) × List UInt8} (e : aX f t s = some x) : x.1.2.tot + 100 * x.2.length + 200 ≤ 100 * s.length:=by
 unfold aX at e
 cases hn : cE 200 s with
 | none=>rw [hn] at e;cases e
 | some y =>
  rw [hn] at e
  obtain ⟨n,r⟩:=y
  obtain ⟨h1,h2⟩:=mH hn
  dsimp only at e
  cases hd : ci t.fields n with
  | none=>rw [hd] at e;cases e
  | some d =>
   rw [hd] at e
   cases r with
   | nil=>cases e
   | cons c r' =>
    dsimp only at e
    rw [List.length_cons] at h1
    by_cases hc : c.toNat = 61
    ·rw [if_pos hc] at e
     cases hf : f d.kind r' with
     | none=>rw [hf] at e;cases e
     | some y =>
      rw [hf] at e
      simp only [Option.map_some,Option.some.injEq] at e
      subst e
      have h3:=h _ _ _ hf
      dsimp only
      omega
    ·rw [if_neg hc] at e;cases e
theorem pd {ts : List Ty} {f : List UInt8 → List UInt8 → Option (V × List UInt8)} (h : ∀ k s y,f k s = some y → y.1.tot + 100 * y.2.length ≤ 100 * s.length) {t : Ty} : ∀ (m : Nat) (last : Int) (s : List UInt8) (acc : List V) {x : List V × List UInt8},b9 ts f t m last s acc = some x → V.tots x.1 + 100 * (x.2.length + 1) ≤ V.tots acc + 100 * s.length
 | 0,_,_,_,_,e=>by cases e
 | m + 1,last,s,acc,x,e=>by
  unfold b9 at e
  cases hf : aX f t s with
  | none=>rw [hf] at e;cases e
  | some y =>
   rw [hf] at e
   have hy:=nU h hf
   obtain ⟨⟨d,v⟩,r⟩:=y
   dsimp only at e hy
   split at e
   ·cases e
   ·cases r with
    | nil=>cases e
    | cons c r =>
     dsimp only at e
     have e2 : V.tots (acc ++ [V.nd 61 [] d.tag [v]]) = V.tots acc + (20 + v.tot):=by simp [dT,V.tots,V.tot]
     rw [List.length_cons] at hy
     split at e
     ·have:=pd h m _ r _ e
      omega
     ·split at e
      ·simp only [Option.some.injEq] at e;subst e
       dsimp only;omega
      ·cases e
theorem gi {ts : List Ty} : ∀ (n : Nat) (k s : List UInt8) (x : V × List UInt8),rd ts n k s = some x → x.1.tot + 100 * x.2.length ≤ 100 * s.length
 | 0,_,_,_,e=>by cases e
 | n + 1,k,s,x,e=>by
  have ih : ∀ k s y,rd ts n k s = some y → y.1.tot + 100 * y.2.length ≤ 100 * s.length:=fun k s y hy=>gi n k s y hy
  have h:=p6 k s (x:=x) e
  obtain ⟨v,r⟩:=x
  dsimp only at h ⊢
  cases h with
  | lst0=>simp only [V.tot,V.tots,List.length_cons,List.length_nil];omega
  | lst k s r vs h =>
   have:=nQ (ih k) _ _ _ h
   simp only [V.tot,V.tots,List.length_cons,List.length_nil] at this ⊢;omega
  | non=>simp only [V.tot,V.tots,List.length_cons,List.length_nil];omega
  | opt k s r v h =>
   have:=ih _ _ _ h
   simp only [V.tot,V.tots,List.length_cons,List.length_nil] at this ⊢;omega
  | num k s r n _ h =>
   have:=mH h
   simp only [V.tot,V.tots];omega
  | txt k s r v _ h =>
   have e1:=nP h
   have h2 : v.out.length = 2 + v.text.length ∧ v.tot = 20 + v.text.length:=by
    unfold dw at h
    split at h
    ·cases h
    ·split at h
     ·split at h
      ·split at h
       ·simp only [Option.some.injEq,Prod.mk.injEq] at h
        obtain ⟨rfl,_⟩:=h
        simp [V.out,cO,V.text,V.tot,V.tots];omega
       ·cases h
      ·cases h
     ·cases h
   rw [e1]
   simp only [List.length_append]
   omega
  | flg k s r v _ h =>
   have e1:=pi h
   have h2 : 2 ≤ v.out.length ∧ v.tot ≤ 23:=by
    unfold eC at h
    split at h
    ·simp only [Option.some.injEq,Prod.mk.injEq] at h
     obtain ⟨rfl,_⟩:=h
     simp [V.out,cO,V.tot,V.tots]
    ·split at h
     ·simp only [Option.some.injEq,Prod.mk.injEq] at h
      obtain ⟨rfl,_⟩:=h
      simp [V.out,cO,V.tot,V.tots]
     ·cases h
   rw [e1]
   simp only [List.length_append]
   omega
  | recd0=>simp only [V.tot,V.tots,List.length_cons,List.length_nil];omega
  | recd k s r t vs _ _ h =>
   have:=pd ih _ _ _ _ h
   simp only [V.tot,V.tots,List.length_cons,List.length_nil] at this ⊢;omega
  | enm k s r t n _ _ h _ =>
   have:=mH h
   simp only [V.tot,V.tots,List.length_cons,List.length_nil];omega
  | uni k s r t d v _ _ _ h =>
   have:=nU ih h
   simp only [V.tot,V.tots,List.length_cons,List.length_nil] at this ⊢;omega
abbrev gQ : TypeId:=169
abbrev lx : TypeId:=5
theorem abg {n : Nat} {D : List Deferred} {E : bN} {B : Base} {L : List Own} {K : Act → World → Prop} {Q : Exit → Act → World → Prop} {ty : TypeId} {pos : String} {aft : Array Edge} {gd : Option (Nat × Bool)} {d : Nat} {fo x : Operand} {ag : Array TypeId} {m : Nat}
  (hf : ev E fo = some (.func (.func 163) #[] #[])) (hx : ev E x = some (I (m : Nat))) (hlt : Nat.blt d n = true) (hm : 0 < m ∧ m ≤ 1000000000)
  (k : ∀ b cap,m ≤ cap + 1 → Nx n D ((d,.slice (some ⟨b,0,none⟩) m (cap + 1)) :: E) B G (.acc (.slice (some ⟨b,0,none⟩) 0 (cap + 1)) lx 1 0 [] :: L) K) : Nx n D E B G L (ow Tryz.prog ⟨some d,.call ⟨.value fo,[x].toArray,ag⟩,ty,pos,aft,gd⟩ Q K) :=
 ab8 (ps:=#[3]) hf hx hlt Tryz.func163 kR kR kR kR (TI.und (T:=33)) hm k
theorem acd {b : Nat} {v : Value} : dA Tryz.prog 142 [Pt b 0] G [.blk b (.cells (List.toArray [.pointer none,v]) gQ (0,0))] (fun r L'=>L' = [.blk b (.cells (List.toArray [Pt b 0,v]) gQ (0,0))]):=by
 have hx : ∀ w,(callFunc 162 [Pt b 0].toArray).run Tryz.prog w = .ok (.value (Pt b 0)) w:=fun w=>by
  rw [run_callFunc_extern Tryz.func162 kR kR kR (e:=Extern.AbiNoEscape.same) kR]
  rw [Lib.run_noEscape];rfl
 refine jH [(0,_)] Tryz.func142 Tryz.ntmps142 fun B hB hW=>?_
 repeat' (first | refine jR ?_ | (refine jo ?_;first | refine aD rfl ?_ | refine jV (cY rfl rfl) ?_ | refine jV (abJ kR rfl rfl rfl) ?_) | refine ac rfl rfl ?_)
 refine va rfl (i8 (oz rfl rfl rfl hx) rfl rfl ?_)
 repeat' (first | refine jR ?_ | (refine jo ?_;first | refine jV (yX kR rfl kR) ?_ | refine jD rfl rfl rfl ?_))
 exact kX (vs:=[]) rfl trivial rfl a8 ⟨rfl,rfl⟩
theorem acb {b : Nat} {v : Value} : dA Tryz.prog 142 [Pt b 0] G [.blk b (.cells (List.toArray [Pt b 0,v]) gQ (0,0))] (fun r L'=>L' = [.blk b (.cells (List.toArray [Pt b 0,v]) gQ (0,0))]):=by
 refine jH [(0,_)] Tryz.func142 Tryz.ntmps142 fun B hB hW=>?_
 repeat' (first | refine jR ?_ | (refine jo ?_;first | refine aD rfl ?_ | refine jV (cY rfl rfl) ?_ | refine jV (aaF rfl rfl) ?_) | refine ad rfl rfl ?_)
 exact kX (vs:=[]) rfl trivial rfl a8 ⟨rfl,rfl⟩
theorem zR {b m : Nat} (hm : 0 < m ∧ m ≤ 1000000000) : dA Tryz.prog 143 [Pt b 0,I (m : Nat)] G [.blk b (.cells (List.toArray [Pt b 0,aQ]) gQ (0,0))] (fun r L'=>∃ b2 c2,L' = [.acc (.slice (some ⟨b2,0,none⟩) 0 (c2 + 1)) lx 1 0 [],.blk b (.cells (List.toArray [Pt b 0,.slice (some ⟨b2,0,none⟩) 0 (c2 + 1)]) gQ (0,0))]):=by
 refine jH [(0,_),(1,_)] Tryz.func143 Tryz.ntmps143 fun B hB hW=>?_
 repeat' (first | refine jR ?_ | (refine jo ?_;first | refine aD rfl ?_ | refine jV (za rfl rfl) ?_ | refine jD rfl rfl rfl ?_) | (refine am (an (id:=0) _ (fun _ h=>h) al ?_);refine jT 9 [0,1,2,6,9,10,11] (aa 16 3655) ?_;(refine jG (aa 16 3663) 3 rfl (aT rfl rfl rfl) ?_);(refine jG (aa 16 3679) 4 rfl (yn rfl) ?_);refine jW 5 [5,7] (aa 16 3839) ?_;(refine jG (aa 16 7935) 12 rfl (aT rfl rfl rfl) ?_);(refine jG (aa 16 16127) 13 rfl (af rfl) ?_);refine jA 8 rfl ?_;(refine abg rfl rfl rfl oM (fun _ _ _=>?_));refine jS (aa 16 16383) ?_;(refine jG (aa 16 32767) 14 rfl (pz rfl rfl oM) ?_);refine jT 0 [15] (aa 16 65535) ?_;refine jQ ?_))
 exact kX (vs:=[]) rfl trivial rfl (List.Sublist.refl _) ⟨rfl,_,_,rfl⟩
theorem zV {b m : Nat} (hm : 0 < m ∧ m ≤ 1000000000) : dA Tryz.prog 108 [Pt b 0,I (m : Nat)] G [.blk b (.cells (List.toArray [.pointer none,aQ]) gQ (0,0))] (fun r L'=>∃ b2 c2,L' = [.acc (.slice (some ⟨b2,0,none⟩) 0 (c2 + 1)) lx 1 0 [],.blk b (.cells (List.toArray [Pt b 0,.slice (some ⟨b2,0,none⟩) 0 (c2 + 1)]) gQ (0,0))]):=by
 refine jH [(0,_),(1,_)] Tryz.func108 Tryz.ntmps108 fun B hB hW=>?_
 repeat' (first | refine jR ?_ | (refine jo ?_;first | (refine aI rfl rfl rfl acd rfl ?_;rintro _ _ rfl;dsimp only [zA,fA]) | (refine aI rfl rfl rfl (zR oM) rfl ?_;rintro _ _ ⟨b2,c2,hb2,rfl⟩;dsimp only [zA,fA])) | refine ac rfl (ay oM) ?_ | refine ad rfl rfl ?_ | (refine am (an (id:=3) _ (fun _ h=>h) al ?_);refine jT 6 [0,1,2,5,6,7,11] (aa 13 2279) ?_;(refine jG (aa 13 2287) 3 rfl (aT rfl rfl rfl) ?_);(refine jG (aa 13 2303) 4 rfl (yn rfl) ?_);(refine jG (aa 13 2559) 8 rfl (aT rfl rfl rfl) ?_);(refine jG (aa 13 3071) 9 rfl (af rfl) ?_);refine jW 0 [10,12] (aa 13 8191) ?_;refine jQ ?_))
 exact kX (vs:=[]) rfl trivial rfl (List.Sublist.refl _) ⟨rfl,_,_,rfl⟩
theorem wm {b b1 c1 m : Nat} {xs : List Value} {l : List UInt8} (hm : m + l.length ≤ 1000000000) : dA Tryz.prog 109 [Pt b 0,S l] G [.blk b (.cells (List.toArray [Pt b 0,.slice (some ⟨b1,0,none⟩) m (c1 + 1)]) gQ (0,0)),.acc (.slice (some ⟨b1,0,none⟩) m (c1 + 1)) lx 1 m xs]
  (fun r L'=>∃ b2 c2,r = Tu [I l.length,.nilIface] ∧ L' = [.acc (.slice (some ⟨b2,0,none⟩) (m + l.length) (c2 + 1)) lx 1 (m + l.length) (xs ++ ck l),.blk b (.cells (List.toArray [Pt b 0,.slice (some ⟨b2,0,none⟩) (m + l.length) (c2 + 1)]) gQ (0,0))]):=by
 refine jH [(0,_),(1,_)] Tryz.func109 Tryz.ntmps109 fun B hB hW=>?_
 repeat' (first | refine jR ?_ | (refine jo ?_;first | refine aD rfl ?_ | refine aci rfl rfl rfl oM fun _ _=>?_ | refine jD rfl rfl rfl ?_ | (refine aI rfl rfl rfl acb rfl ?_;rintro _ _ rfl;dsimp only [zA,fA])))
 exact aW (vs:=[_,_]) rfl ⟨rfl,rfl,trivial⟩ rfl (List.Sublist.refl _) ⟨rfl,_,_,rfl,rfl⟩
theorem abo {b b1 c1 m : Nat} {l : List UInt8} (hm : m ≤ 1000000000) : dA Tryz.prog 110 [Pt b 0] G [.blk b (.cells (List.toArray [Pt b 0,.slice (some ⟨b1,0,none⟩) m (c1 + 1)]) gQ (0,0)),.acc (.slice (some ⟨b1,0,none⟩) m (c1 + 1)) lx 1 m (ck l)]
  (fun r L'=>r = S l ∧ L' = []):=by
 refine jH [(0,_)] Tryz.func110 Tryz.ntmps110 fun B hB hW=>?_
 repeat' (refine jR ?_)
 (refine am (an (id:=1) [.blk b (.cells (List.toArray [Pt b 0,.slice (some ⟨b1,0,none⟩) m (c1 + 1)]) gQ (0,0))] (by intro y hy;simp only [List.mem_cons,List.not_mem_nil,or_false] at hy ⊢;simp [hy]) al ?_);refine jW 6 [0,1,2,5,6,7] (aa 12 231) ?_;(refine jG (aa 12 239) 3 rfl (aT rfl rfl rfl) ?_);(refine jG (aa 12 255) 4 rfl (aaD rfl rfl) ?_);(refine jG (aa 12 511) 8 rfl (aT rfl rfl rfl) ?_);(refine jG (aa 12 1023) 9 rfl (af rfl) ?_);refine jA 10 rfl ?_;(refine aa8 kR rfl rfl rfl oM ?_);refine jS (aa 12 2047) ?_;refine jT 0 [11] (aa 12 4095) ?_;refine jQ ?_)
 repeat' (refine jR ?_)
 refine jZ (vs:=[_]) rfl ⟨rfl,trivial⟩ rfl ⟨rfl,rfl,?_⟩
 rfl
def du (xs : List (List UInt8)) : Nat:=(xs.map List.length).sum
theorem u7 (xs : List (List UInt8)) (x : List UInt8) : du (xs ++ [x]) = du xs + x.length:=by simp [du]
theorem e7 : ∀ (xs : List (List UInt8)) (i : Nat),du (xs.take i) ≤ du xs
 | [],i=>by simp [du]
 | x :: xs,0=>by simp [du]
 | x :: xs,i + 1=>by
  have:=e7 xs i
  simp only [du,List.take_succ_cons,List.map_cons,List.sum_cons] at this ⊢;omega
theorem lQ (c : UInt8) (y : List UInt8) : ∀ (xs : List (List UInt8)),xs ≠ [] → aL c (xs ++ [y]) = aL c xs ++ c :: y
 | [],h=>absurd rfl h
 | [x],_=>by simp [aL]
 | x :: z :: r,_=>by
  have:=lQ c y (z :: r) (by simp)
  simp only [List.cons_append,aL] at this ⊢
  rw [this];simp
theorem gk (c : UInt8) : ∀ (xs : List (List UInt8)),(aL c xs).length ≤ du xs + xs.length
 | []=>by simp [aL]
 | [x]=>by simp [aL,du]
 | x :: z :: r=>by
  have:=gk c (z :: r)
  simp only [aL,du,List.map_cons,List.sum_cons,List.length_append,List.length_cons] at this ⊢;omega
theorem Nx.cast {n : Nat} {D : List Deferred} {E : bN} {B : Base} {L L' : List Own} {K : Act → World → Prop} (e : L = L') (h : Nx n D E B G L' K) : Nx n D E B G L K:=by subst e;exact h
theorem aP.cap {G : Gh} {p : Option Addr} {c sz m : Nat} {xs : List Value} (h : aP G (.slice p m c) sz m xs) : m ≤ c:=by
 obtain ⟨_,⟨h1,h2⟩ | ⟨b,o,cap,e,h1,_⟩⟩:=h
 ·omega
 ·simp only [Value.slice.injEq,true_and] at e;omega
theorem b7.tailS {G : Gh} {b o : Nat} {xs : List (List UInt8)} (h : b7 G b o (aj cm xs)) : b7 G b (o + 1) (aj cm (xs.drop 1)):=by
 cases xs with
 | nil=>obtain ⟨cs,h1,_⟩:=h;exact ⟨cs,h1,fun i v hv=>by simp [aj] at hv⟩
 | cons x r =>
  obtain ⟨cs,h1,h2⟩:=h
  refine ⟨cs,h1,fun i v hv=>?_⟩
  have:=h2 (i + 1) v (by simpa [aj,cm] using hv)
  rw [show o + 1 + i = o + (i + 1) by omega];exact this
theorem qN (xs : List (List UInt8)) (i : Nat) : ab (xs.drop 1) i = ab xs (i + 1):=by
 cases xs with
 | nil=>simp [ab]
 | cons x r=>simp [ab,List.getD]
theorem mT {xs : List (List UInt8)} {i : Nat} (h : i < xs.length) : du (xs.take (i + 1)) = du (xs.take i) + (ab xs i).length:=by
 rw [cD h,u7]
theorem abp {v : Value} {xs : List (List UInt8)} {c : UInt8} (hs : aP G v 1 xs.length (aj cm xs)) (hl : du xs + xs.length ≤ 100000000) : a9 Tryz.prog 75 [v,S [c]] G (· = S (aL c xs)):=by
 by_cases h0 : xs = []
 ·subst h0
  refine jE [(0,_),(1,_)] Tryz.func75 Tryz.ntmps75 fun B hB=>?_
  repeat' (first | refine jR ?_ | (refine jo ?_;refine jV (fD rfl aS) ?_) | refine ac rfl rfl ?_)
  refine jY (vs:=[_]) ?_
  rfl
 have hpos:=List.length_pos_iff.2 h0
 obtain ⟨bv,ov,cv,rfl,hsv⟩:=hs.expl oM
 by_cases h1 : xs.length = 1
 ·obtain ⟨x,rfl⟩:=List.length_eq_one_iff.1 h1
  refine jE [(0,_),(1,_)] Tryz.func75 Tryz.ntmps75 fun B hB=>?_
  repeat' (first | refine jR ?_ | (refine jo ?_;first | refine jV (af rfl) ?_ | refine jV (ak rfl rfl oM) ?_ | refine jV (ah rfl rfl aS rfl rfl) ?_) | refine ac rfl rfl ?_ | refine ad rfl rfl ?_)
  refine jY (vs:=[_]) ?_
  rfl
 have hcap:=hs.cap
 have hq : ¬ (9223372036854775807 / ((xs.length : Int) - 1) ≤ ((([c] : List UInt8).length : Nat) : Int)):=by
  have : (2 : Int) ≤ 9223372036854775807 / ((xs.length : Int) - 1):=Int.le_ediv_of_mul_le oM oM
  have e : ((([c] : List UInt8).length : Nat) : Int) = 1:=rfl
  omega
 have e1 : ((([c] : List UInt8).length : Nat) : Int) * ((xs.length : Int) - 1) = (xs.length : Int) - 1:=by
  have e : ((([c] : List UInt8).length : Nat) : Int) = 1:=rfl
  rw [e];omega
 have p1 : ((([c] : List UInt8).length : Nat) : Int) * ((xs.length : Int) - 1) ≤ 9223372036854775807:=by rw [e1];omega
 have p2 : -9223372036854775808 ≤ ((([c] : List UInt8).length : Nat) : Int) * ((xs.length : Int) - 1):=by rw [e1];omega
 have p3 : 0 + ((([c] : List UInt8).length : Nat) : Int) * ((xs.length : Int) - 1) ≤ 9223372036854775807:=by rw [e1];omega
 have p4 : -9223372036854775808 ≤ 0 + ((([c] : List UInt8).length : Nat) : Int) * ((xs.length : Int) - 1):=by rw [e1];omega
 refine jE [(0,_),(1,_)] Tryz.func75 Tryz.ntmps75 fun B hB=>?_
 repeat' (first | refine jM ?_ | (refine jo ?_;refine jV (af rfl) ?_) | refine ac rfl rfl ?_ | (refine ad rfl (by refine decide_eq_false ?_;first | assumption | omega) ?_))
 refine Nx.re (d:=5) (v':=I ((xs.length : Int) - 1 + (du (xs.take 0) : Nat))) rfl (congrArg (Value.int .i64) (by rw [e1];simp [du])) ?_
 refine aV (ι:=Nat) (fun i=>i ≤ xs.length) (fun i=>[(0,.slice (some ⟨bv,ov,none⟩) xs.length cv),(1,S [c]),(39,.slice (some ⟨bv,ov,none⟩) xs.length cv),(40,I xs.length),(41,I i),(5,I ((xs.length : Int) - 1 + (du (xs.take i) : Nat)))]) (fun _=>G) (fun i=>[]) (fun i=>xs.length - i) 0 ?_ tU rfl a8 (fun i Hi=>?_)
 ·exact Nat.zero_le _
 have hb1:=e7 xs i
 by_cases hi : i < xs.length
 ·have hb2:=mT hi
  have hb3:=e7 xs (i + 1)
  repeat' (first | refine jM ?_ | (refine jo ?_;first | refine jV (ak rfl rfl oM) ?_ | (refine jV (eD rfl rfl aS ?_) ?_;focus omega)) | refine ac rfl (ay oM) ?_ | refine ad rfl (aG oM) ?_)
  refine Nx.re (d:=5) (v':=I ((xs.length : Int) - 1 + (du (xs.take (i + 1)) : Nat))) rfl (congrArg (Value.int .i64) (by rw [hb2];omega)) ?_
  exact bj (i + 1) oM oM tU rfl a8
 have hin : i = xs.length:=oM
 subst hin
 rw [List.take_length] at *
 refine Nx.re (d:=5) (v':=I ((xs.length - 1 + du xs : Nat) : Int)) rfl (congrArg (Value.int .i64) oM) ?_
 have hb0 : (ab xs 0).length ≤ du xs:=by have:=mT (i:=0) hpos;have:=e7 xs (0 + 1);omega
 have hw0 : 0 + (ab xs 0).length ≤ 1000000000:=oM
 have hsv1:=hsv.tailS
 have hdl : (xs.drop 1).length = xs.length - 1:=by rw [List.length_drop]
 have eJ0 : aL c (xs.take (0 + 1)) = ab xs 0:=by rw [cD hpos];rfl
 repeat' (first | refine jR ?_ | (refine jo ?_;first | refine jV (af rfl) ?_ | refine jV (ak rfl rfl oM) ?_ | (refine jV (eD rfl rfl aS ?_) ?_;focus omega) | refine jL fun _=>?_ | refine jV (abM rfl rfl oM) ?_ | (refine aI rfl rfl rfl (zV oM) rfl ?_;rintro _ _ ⟨b2,c2,rfl⟩;dsimp only [zA,fA]) | (refine vr rfl rfl rfl (wm (by (repeat (assumption));done)) rfl ?_;rintro _ _ ⟨b3,c3,rfl,rfl⟩;dsimp only [zA,fA])) | refine ad rfl (aG oM) ?_)
 rename_i x _
 refine Nx.cast (L':=[.acc (.slice (some ⟨b3,0,none⟩) (aL c (xs.take (0 + 1))).length (c3 + 1)) lx 1 (aL c (xs.take (0 + 1))).length (ck (aL c (xs.take (0 + 1)))),.blk x (.cells (List.toArray [Pt x 0,.slice (some ⟨b3,0,none⟩) (aL c (xs.take (0 + 1))).length (c3 + 1)]) gQ (0,0))]) (by rw [eJ0];simp only [Nat.zero_add]) ?_
 refine aV (ι:=Nat × Nat × Nat) (fun q=>q.1 ≤ xs.length - 1) (fun q=>[(1,S [c]),(63,.slice (some ⟨bv,ov + 1,none⟩) (xs.length - 1) (cv - 1)),(64,I (xs.length - 1 : Nat)),(65,I q.1),(8,Pt x 0)]) (fun _=>G) (fun q=>[.acc (.slice (some ⟨q.2.1,0,none⟩) (aL c (xs.take (q.1 + 1))).length (q.2.2 + 1)) lx 1 (aL c (xs.take (q.1 + 1))).length (ck (aL c (xs.take (q.1 + 1)))),.blk x (.cells (List.toArray [Pt x 0,.slice (some ⟨q.2.1,0,none⟩) (aL c (xs.take (q.1 + 1))).length (q.2.2 + 1)]) gQ (0,0))]) (fun q=>xs.length - q.1) (0,b3,c3) ?_ tU rfl a8 (fun q Hq=>?_)
 ·exact Nat.zero_le _
 obtain ⟨i,b4,c4⟩:=q
 dsimp only at Hq ⊢
 have hj1:=gk c (xs.take (i + 1))
 have hj2:=e7 xs (i + 1)
 have hj3 : (xs.take (i + 1)).length ≤ xs.length:=by rw [List.length_take];omega
 by_cases hi2 : i < xs.length - 1
 ·have hwA : (aL c (xs.take (i + 1))).length + ([c] : List UInt8).length ≤ 1000000000:=by rw [List.length_singleton];omega
  have hy1:=mT (xs:=xs) (i:=i + 1) oM
  have hy2:=e7 xs (i + 1 + 1)
  have hwB : (aL c (xs.take (i + 1))).length + ([c] : List UInt8).length + (ab (xs.drop 1) i).length ≤ 1000000000:=by rw [qN,List.length_singleton];omega
  have ej : aL c (xs.take (i + 1 + 1)) = aL c (xs.take (i + 1)) ++ c :: ab (xs.drop 1) i:=by
   rw [cD oM,lQ c _ _ (by rw [ne_eq,List.take_eq_nil_iff];simp [h0]),qN]
  repeat' (first | refine jM ?_ | (refine jo ?_;first | refine jV (ak rfl rfl oM) ?_ | (refine jV (eD rfl rfl aS ?_) ?_;focus omega) | (refine vr rfl rfl rfl (wm (by (repeat (assumption));done)) rfl ?_;rintro _ _ ⟨b3,c3,rfl,rfl⟩;dsimp only [zA,fA])) | refine ac rfl (ay oM) ?_)
  refine Nx.cast (L':=[.acc (.slice (some ⟨b3,0,none⟩) (aL c (xs.take (i + 1 + 1))).length (c3 + 1)) lx 1 (aL c (xs.take (i + 1 + 1))).length (ck (aL c (xs.take (i + 1 + 1)))),.blk x (.cells (List.toArray [Pt x 0,.slice (some ⟨b3,0,none⟩) (aL c (xs.take (i + 1 + 1))).length (c3 + 1)]) gQ (0,0))]) (by
   have e2 : (aL c (xs.take (i + 1 + 1))).length = (aL c (xs.take (i + 1))).length + ([c] : List UInt8).length + (ab (xs.drop 1) i).length:=by rw [ej];simp;omega
   have e3 : ck (aL c (xs.take (i + 1 + 1))) = ck (aL c (xs.take (i + 1))) ++ ck [c] ++ ck (ab (xs.drop 1) i):=by rw [ej];simp [ck]
   rw [e2,e3]) ?_
  exact bj (i + 1,b3,c3) (by dsimp only;omega) (by dsimp only;omega) tU rfl a8
 ·have ei : xs.take (i + 1) = xs:=List.take_of_length_le oM
  rw [ei] at hj1 ⊢
  repeat' (first | refine jR ?_ | (refine jo ?_;(refine vr rfl rfl rfl (abo oM) rfl ?_;rintro _ _ ⟨rfl,rfl⟩;dsimp only [zA,fA])) | refine ad rfl (aG oM) ?_)
  refine jY (vs:=[_]) ?_
  rfl
structure VC where
 what : Nat
 text : List UInt8
 tag : Int
 a : Option Addr
 n : Nat
 c : Nat
instance : Inhabited VC:=⟨⟨0,[],0,none,0,0⟩⟩
abbrev VC.sl (v : VC) : Value:=.slice v.a v.n v.c
def bI (v : VC) : List Value:=[U8 (v.what : Nat),S v.text,I v.tag,v.sl]
instance : RowF bI 4:=⟨fun _=>rfl⟩
mutual
def V.rep (G : Gh) : V → VC → Prop
 | .nd w x t ks,c=>(c.what = w ∧ w ≤ 255) ∧ c.text = x ∧ (c.tag = t ∧ 0 ≤ t ∧ t ≤ 999999) ∧ (c.n = ks.length ∧ (w = 61 → ks.length = 1)) ∧ ∃ cs,aP G c.sl 4 cs.length (aj bI cs) ∧ V.reps G ks cs
def V.reps (G : Gh) : List V → List VC → Prop
 | [],cs=>cs = []
 | v :: r,cs=>∃ c cs',cs = c :: cs' ∧ V.rep G v c ∧ V.reps G r cs'
end
theorem gf {G : Gh} : ∀ {ks : List V} {cs : List VC},V.reps G ks cs → cs.length = ks.length
 | [],cs,h=>by rw [V.reps] at h;subst h;rfl
 | v :: r,cs,h=>by
  rw [V.reps] at h
  obtain ⟨c,cs',rfl,_,h2⟩:=h
  rw [List.length_cons,List.length_cons,gf h2]
theorem gR {G : Gh} : ∀ {ks : List V} {cs : List VC},V.reps G ks cs → ∀ i,i < ks.length → V.rep G (ab ks i) (ab cs i)
 | [],_,_,i,hi=>by simp at hi
 | v :: r,cs,h,i,hi=>by
  rw [V.reps] at h
  obtain ⟨c,cs',rfl,h1,h2⟩:=h
  cases i with
  | zero=>exact h1
  | succ i=>exact gR h2 i (by simpa using hi)
theorem g8 {G : Gh} {v : V} {c : VC} (h2 : V.rep G v c) : ∀ {ks : List V} {cs : List VC},V.reps G ks cs → V.reps G (ks ++ [v]) (cs ++ [c])
 | [],cs,h=>by
  rw [V.reps] at h;subst h
  exact ⟨c,[],rfl,h2,rfl⟩
 | u :: r,cs,h=>by
  rw [V.reps] at h
  obtain ⟨d,cs',rfl,h1,h3⟩:=h
  exact ⟨d,cs' ++ [c],rfl,h1,g8 h2 h3⟩
mutual
theorem bG {G G' : Gh} (hl : Gh.le G G') : ∀ {v : V} {c : VC},V.rep G v c → V.rep G' v c
 | .nd w x t ks,c,h=>by
  rw [V.rep] at h ⊢
  obtain ⟨h1,h2,h3,h4,cs,h5,h6⟩:=h
  exact ⟨h1,h2,h3,h4,cs,h5.mono hl,cJ hl h6⟩
theorem cJ {G G' : Gh} (hl : Gh.le G G') : ∀ {ks : List V} {cs : List VC},V.reps G ks cs → V.reps G' ks cs
 | [],cs,h=>h
 | v :: r,cs,h=>by
  rw [V.reps] at h ⊢
  obtain ⟨c,cs',e,h1,h2⟩:=h
  exact ⟨c,cs',e,bG hl h1,cJ hl h2⟩
end
theorem eJ {G : Gh} {w : Nat} {x : List UInt8} {t : Int} {ks : List V} {c : VC} (h : V.rep G (.nd w x t ks) c) : ∃ (a : Option Addr) (k : Nat) (cs : List VC),c = ⟨w,x,t,a,ks.length,k⟩ ∧ w ≤ 255 ∧ (0 ≤ t ∧ t ≤ 999999) ∧ (w = 61 → ks.length = 1) ∧ cs.length = ks.length ∧ aP G (.slice a ks.length k) 4 cs.length (aj bI cs) ∧ V.reps G ks cs:=by
 rw [V.rep] at h
 obtain ⟨⟨h1,h1'⟩,h2,⟨h3,h3'⟩,⟨h4,h4'⟩,cs,h5,h6⟩:=h
 obtain ⟨w',x',t',a,n,k⟩:=c
 dsimp only at h1 h2 h3 h4 h5
 subst h1;subst h2;subst h3;subst h4
 exact ⟨a,k,cs,rfl,h1',h3',h4',gf h6,h5,h6⟩
theorem dM {G : Gh} {w : Nat} {x : List UInt8} {t : Int} {ks : List V} {a : Option Addr} {k m : Nat} {cs : List VC} (hw : w ≤ 255) (ht : 0 ≤ t ∧ t ≤ 999999) (h61 : w = 61 → ks.length = 1) (hm : m = ks.length) (hs : aP G (.slice a m k) 4 cs.length (aj bI cs)) (hk : V.reps G ks cs) : V.rep G (.nd w x t ks) ⟨w,x,t,a,m,k⟩:=by
 rw [V.rep];exact ⟨⟨rfl,hw⟩,rfl,⟨rfl,ht⟩,⟨hm,h61⟩,cs,hs,hk⟩
theorem yB {G : Gh} : aP G aQ 4 ([] : List VC).length (aj bI []):=⟨rfl,.inl ⟨rfl,rfl⟩⟩
theorem cR {G : Gh} {w : Nat} {x : List UInt8} {t : Int} (hw : w ≤ 255 ∧ w ≠ 61) (ht : 0 ≤ t ∧ t ≤ 999999) : V.rep G (.nd w x t []) ⟨w,x,t,none,0,0⟩:=dM hw.1 ht (fun h=>absurd h hw.2) rfl yB rfl
theorem lI : ∀ {ks : List V} {i : Nat},i < ks.length → ab (V.outs ks) i = (ab ks i).out
 | [],i,h=>by simp at h
 | v :: r,0,_=>rfl
 | v :: r,i + 1,h=>by
  have:=lI (ks:=r) (i:=i) (by simpa using h)
  simpa [V.outs,ab] using this
theorem j9 (ks : List V) : (V.outs ks).length = ks.length:=by rw [V.outs_map];simp
theorem gu {ks : List V} {i : Nat} (h : i < ks.length) : V.tot (ab ks i) ≤ V.tots ks:=by
 rw [aA h];exact n9 (List.getElem_mem h)
theorem gB {t : Int} (h : t ≤ 999999) : (bE t).length ≤ 19:=gV oM
theorem r9 {w : Nat} {x : List UInt8} {t : Int} {e : Bool} {j : List UInt8} (ht : t ≤ 999999) : (cO w x t e j).length ≤ 25 + x.length + j.length:=by
 have hd:=gB ht
 unfold cO
 split
 ·simp;omega
 split
 ·simp;omega
 split
 ·split
  ·simp;omega
  ·simp;omega
 split
 ·simp;omega
 split
 ·simp;omega
 split
 ·simp;omega
 split
 ·simp;omega
 ·omega
mutual
theorem ud {G : Gh} : ∀ {v : V} {c : VC},V.rep G v c → v.out.length + 1 ≤ 2 * v.tot
 | .nd w x t ks,c,h=>by
  rw [V.rep] at h
  obtain ⟨_,_,⟨_,h3⟩,_,cs,_,h6⟩:=h
  have h1:=ot h6
  have h2:=gk 44 (V.outs ks)
  rw [j9] at h2
  have h4:=r9 (w:=w) (x:=x) (e:=ks.isEmpty) (j:=aL 44 (V.outs ks)) h3.2
  have h5:=c7 ks
  rw [V.out,V.tot]
  omega
theorem ot {G : Gh} : ∀ {ks : List V} {cs : List VC},V.reps G ks cs → du (V.outs ks) + ks.length ≤ 2 * V.tots ks
 | [],cs,h=>by simp [V.outs,du]
 | v :: r,cs,h=>by
  rw [V.reps] at h
  obtain ⟨c,cs',_,h1,h2⟩:=h
  have h3:=ud h1
  have h4:=ot h2
  simp only [V.outs,du,List.map_cons,List.sum_cons,V.tots,List.length_cons] at *
  omega
end
end Go.E
