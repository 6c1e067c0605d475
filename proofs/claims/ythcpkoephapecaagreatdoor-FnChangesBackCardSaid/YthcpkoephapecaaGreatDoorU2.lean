/- Contracts and plain laws that the statement rests on, part 2. Conditions: as each says. -/
import Derived.Test.YthcpkoephapecaaGreatDoorU1
set_option linter.unusedVariables false
set_option linter.unusedSimpArgs false
namespace Go.E
section
variable {P : Program} {n : Nat} {D : List Deferred} {E : bS} {M : World → Prop} {d : Option Nat} {ty : TypeId} {pos : String} {aft : Array Edge} {gd : Option (Nat × Bool)}
theorem yZ {x : Operand} {T el : TypeId} {size bytes : Nat} {zero : Value} {p : Option Addr} {len cap : Nat} [TI P T (.slice el) size bytes zero] (hx : ev E x = some (.slice p len cap)) : Gives P n D E M ⟨d,.call ⟨.builtin .cap,[x].toArray,[T].toArray⟩,ty,pos,aft,gd⟩ (I cap):=Gives.mk fun a w hs _=>by
 simp [execOp,resolve,hs.ev hx,invoke,builtin,Builtin.cap_,cE (T:=T) (desc:=.slice el) (size:=size) (bytes:=bytes) (zero:=zero),goInt]
theorem acm {T el : TypeId} {x lo : Operand} {desc' : TypeDesc} {size bytes size' bytes' : Nat} {zero zero' : Value} {k : IntKind} {m : Int} {b o len cap : Nat} [TI P T (.slice el) size bytes zero] [TI P el desc' size' bytes' zero']
  (hx : ev E x = some (.slice (some ⟨b,o,none⟩) len cap)) (hl : ev E lo = some (.int k m)) (h0 : 0 ≤ m ∧ m ≤ len ∧ m < cap) :
  Gives P n D E M ⟨d,.slice T x (some lo) none none,ty,pos,aft,gd⟩ (.slice (some ⟨b,o + m.toNat * size',none⟩) (len - m.toNat) (cap - m.toNat)):=by
 obtain ⟨o',h1,h2⟩:=xZ (P:=P) (n:=n) (D:=D) (M:=M) (d:=d) (ty:=ty) (pos:=pos) (aft:=aft) (gd:=gd) (T:=T) (el:=el) (desc':=desc') (size':=size') (bytes':=bytes') (zero':=zero') (size:=size) (bytes:=bytes) (zero:=zero) hx hl ⟨h0.1,h0.2.1⟩
 rw [← h1 h0.2.2];exact h2
theorem q9 {S : World → Prop} {G0 : Gh} {L0 : List Own} [k : Kn S G0 L0] {b : Nat} {cs : List Value} {T0 : TypeId} {fr : Nat × Nat} (hm : Own.blk b (.cells cs.toArray T0 fr) ∈ L0) {w : World} (hw : S w) : w.shape? b = some (T0,cs.length):=by
 obtain ⟨B,G,L,_,hL,hst⟩:=k.kn w hw
 have h : w.heap[b]? = some (.cells cs.toArray T0 fr):=hst.own _ (hL _ hm)
 simp [World.shape?,h]
theorem ack {T T' t T0 : TypeId} {x : Operand} {b s1 b1 js jb : Nat} {z1 jz : Value} {jd : TypeDesc} {G0 : Gh} {L0 : List Own} {cs : List Value} {fr : Nat × Nat} [t1 : TI P T (.pointer t) s1 b1 z1] [t2 : TI P t jd js jb jz] [Kn M G0 L0] [h : BlkI L0 b cs T0 fr]
  (hd : P.underlying T' = some .unsafePointer) (hx : ev E x = some (Pt b 0)) (hj : Nat.beq js 0 = false) (hc : cs.isEmpty = false) : Gives P n D E M ⟨d,.convert T T' x,ty,pos,aft,gd⟩ (Pt b 0):=Gives.mk fun a w hs hw=>by
 obtain ⟨j,hj1,hj2,_,_⟩:=t2.inf
 have hl : 0 < cs.length:=by cases cs with | nil=>cases hc | cons=>simp
 have:=Lib.run_to_unsafe (P:=P) w (src:=T) (dst:=T') (t:=t) (j:=j) ⟨b,0,none⟩ t1.und hd hj1 (by rw [hj2];intro e;subst e;simp at hj) (q9 (S:=M) h.mem hw) hl
 simp only [execOp,hs.ev hx,Sem.run_bind,this,Result.andThen_ok,Sem.run_pure]
theorem zO {T T' t T0 : TypeId} {x : Operand} {b s1 b1 js jb : Nat} {z1 jz : Value} {jd : TypeDesc} {G0 : Gh} {L0 : List Own} {cs : List Value} {fr : Nat × Nat} [t1 : TI P T' (.pointer t) s1 b1 z1] [t2 : TI P t jd js jb jz] [Kn M G0 L0] [h : BlkI L0 b cs T0 fr]
  (hd : P.underlying T = some .unsafePointer) (hx : ev E x = some (Pt b 0)) (hl : liesAt P P.depth T0 (cs.length / P.cellsOf T0) 0 t 1 = true) : Gives P n D E M ⟨d,.convert T T' x,ty,pos,aft,gd⟩ (Pt b 0):=Gives.mk fun a w hs hw=>by
 obtain ⟨j,hj1,_,_,_⟩:=t2.inf
 have:=Lib.run_from_unsafe (P:=P) w (src:=T) (dst:=T') (u:=t) (j:=j) ⟨b,0,none⟩ hd t1.und hj1 (q9 (S:=M) h.mem hw) hl
 simp only [execOp,hs.ev hx,Sem.run_bind,this,Result.andThen_ok,Sem.run_pure]
theorem abf {T T' el : TypeId} {x y : Operand} {size bytes js jb : Nat} {zero jz : Value} {jd : TypeDesc} {p : Addr} [t1 : TI P T (.pointer el) size bytes zero] [t2 : TI P el jd js jb jz] (hx : ev E x = some (.pointer (some p))) (hy : ev E y = some (.pointer (some p))) : Gives P n D E M ⟨d,.binOp .neq T x y T',ty,pos,aft,gd⟩ (Bo false):=dN hx hy rfl fun w=>by
 obtain ⟨j,hj1,_,_,_⟩:=t2.inf
 exact Lib.run_neq_ptr_same w p t1.und hj1
theorem zS {T T' el : TypeId} {x y : Operand} {s1 b1 js jb : Nat} {z1 jz : Value} {jd : TypeDesc} {b o m c : Nat} [t1 : TI P T (.slice el) s1 b1 z1] [t2 : TI P el jd js jb jz] (hx : ev E x = some (.slice (some ⟨b,o,none⟩) m c)) (hy : ev E y = some aQ) :
  Gives P n D E M ⟨d,.call ⟨.builtin .copy,[x,y].toArray,[T,T'].toArray⟩,ty,pos,aft,gd⟩ (I (0 : Nat)):=Gives.mk fun a w hs _=>by
 obtain ⟨j,hj1,_,_,_⟩:=t2.inf
 have h1:=run_copy_nil (P:=P) w T T' ty el ⟨b,o,none⟩ m c t1.und (by rw [hj1];rfl)
 have e1 : ([x,y].toArray.map a.eval) = #[.slice (some ⟨b,o,none⟩) m c,aQ]:=by simp [hs.ev hx,hs.ev hy]
 simp only [execOp,resolve,e1,Sem.run_bind,Sem.run_pure,Result.andThen_ok,invoke,builtin,h1]
 rfl
theorem abd {T : TypeId} {x : Operand} {b o m c : Nat} (hx : ev E x = some (.slice (some ⟨b,o,none⟩) m c)) (hc : Nat.beq c 0 = false) : Gives P n D E M ⟨d,.call ⟨.builtin .unsafeSliceData,[x].toArray,[T].toArray⟩,ty,pos,aft,gd⟩ (Pt b o):=Gives.mk fun a w hs _=>by
 have h1:=Lib.run_unsafeSliceData_row (P:=P) w #[T] ty ⟨b,o,none⟩ m c (by rintro rfl;simp at hc)
 have e1 : ([x].toArray.map a.eval) = #[.slice (some ⟨b,o,none⟩) m c]:=by simp [hs.ev hx]
 simp only [execOp,resolve,e1,Sem.run_bind,Sem.run_pure,Result.andThen_ok,invoke,builtin,h1]
end
section
variable {P : Program} {n : Nat} {D : List Deferred} {E : bS} {B : Base} {G : Gh} {L : List Own} {K : Act → World → Prop} {Q : Exit → Act → World → Prop} {ty : TypeId} {pos : String} {aft : Array Edge} {gd : Option (Nat × Bool)} {d : Nat}
theorem St.freeze {w : World} {b m cap : Nat} {T : TypeId} {xs : List Value} (h : St B G (.acc (.slice (some ⟨b,0,none⟩) m cap) T 1 m xs :: L) w) (k : Nat) : St B G L (w.freeze ⟨b,0,none⟩ k):=by
 obtain ⟨h1,⟨h2,_⟩ | ⟨b',cap',rest,e,hc,hl,hb⟩⟩ : gS w _ T 1 m xs:=h.own _ List.mem_cons_self
 ·cases h2
 simp only [Value.slice.injEq,Option.some.injEq,Addr.mk.injEq,and_true,true_and] at e
 obtain ⟨rfl,rfl⟩:=e
 unfold World.freeze
 by_cases hk : k = 0
 ·rw [if_pos hk];exact h.weaken (List.sublist_cons_self _ _)
 ·rw [if_neg hk]
  have h2:=h.upd (y:=.blk b (.cells (xs ++ rest).toArray T (0,k))) (w':={ w with heap:=w.heap.modify b fun | .cells c elem (lo,hi)=>.cells c elem (if lo == hi then (0,0 + k) else (min lo 0,max hi (0 + k))) | o=>o }) (b:=b) rfl rfl (by
   show (w.heap.modify b _)[b]? = _
   rw [Array.getElem?_modify,if_pos rfl,hb]
   simp) (fun c hc=>by
    show (w.heap.modify b _)[c]? = _
    rw [Array.getElem?_modify,if_neg (fun e=>hc e.symm)]) rfl rfl rfl (by simp)
  exact h2.weaken (List.sublist_cons_self _ _)
class AccD (L : List Own) (b : Nat) (m cap : outParam Nat) (T : outParam TypeId) (sz : outParam Nat) (xs : outParam (List Value)) (L' : outParam (List Own)) : Prop where
 del : Del (.acc (.slice (some ⟨b,0,none⟩) m cap) T sz m xs) L L'
instance {b m cap : Nat} {T : TypeId} {sz : Nat} {xs : List Value} {r : List Own} : AccD (.acc (.slice (some ⟨b,0,none⟩) m cap) T sz m xs :: r) b m cap T sz xs r:=⟨.here⟩
instance {b m cap : Nat} {T : TypeId} {sz : Nat} {xs : List Value} {z : Own} {r r' : List Own} [h : AccD r b m cap T sz xs r'] : AccD (z :: r) b m cap T sz xs (z :: r'):=⟨.there h.del⟩
theorem abI {T T' el : TypeId} {x y : Operand} {b m cap s1 b1 s2 b2 : Nat} {z1 z2 : Value} {l : adA} {L' : List Own} [t1 : TI P T (.pointer el) s1 b1 z1] [t2 : TI P el (.int .u8) s2 b2 z2] [ha : AccD L b m cap el 1 (cr l) L']
  (hc1 : P.cellsOf el = 1) (hx : ev E x = some (Pt b 0)) (hy : ev E y = some (I (m : Nat))) (hlt : Nat.blt d n = true) (hm : m ≤ 9223372036854775807)
  (k : Nx n D ((d,S l) :: E) B G L' K) : Nx n D E B G L (ow P ⟨some d,.call ⟨.builtin .unsafeString,[x,y].toArray,[T,T'].toArray⟩,ty,pos,aft,gd⟩ Q K):=Nx.mk fun a w hs hw=>by
 have hw1:=hw.perm ha.del.perm
 have hat : gS w (.slice (some ⟨b,0,none⟩) m cap) el 1 m (cr l):=hw1.own _ List.mem_cons_self
 obtain ⟨h1,⟨h2,_⟩ | ⟨b',cap',rest,e,hc,hl,hb⟩⟩:=hat
 ·cases h2
 simp only [Value.slice.injEq,Option.some.injEq,Addr.mk.injEq,and_true,true_and] at e
 obtain ⟨rfl,rfl⟩:=e
 have hlm : l.length = m:=by simpa [cr] using h1
 have e1 : ([x,y].toArray.map a.eval) = #[.pointer (some ⟨b,0,none⟩),.int .i64 (m : Nat)]:=by simp [hs.ev hx,hs.ev hy]
 unfold ow Oper.wp
 by_cases h0 : l = []
 ·subst h0
  have hm0 : m = 0:=by simpa using hlm.symm
  subst hm0
  have hr:=Lib.run_unsafeString_none (P:=P) w T T' ty (some ⟨b,0,none⟩)
  have : (execOp a.eval ⟨some d,.call ⟨.builtin .unsafeString,[x,y].toArray,[T,T'].toArray⟩,ty,pos,aft,gd⟩).run P w = .ok (.value (S [])) w:=by
   simp only [execOp,resolve,e1,Sem.run_bind,Sem.run_pure,Result.andThen_ok,invoke,builtin]
   have hr' : (Builtin.unsafeString_ [T,T'].toArray ty #[.pointer (some ⟨b,0,none⟩),.int .i64 ((0 : Nat) : Int)]).run P w = .ok (.string .empty) w:=hr
   rw [hr'];rfl
  rw [this,Oper.upon_value]
  exact k.go _ w (hs.put (by simpa using hlt)) (hw1.weaken (List.sublist_cons_self _ _))
 ·have hcell : ∀ j x,l[j]? = some x → w.cell? ((⟨b,0,none⟩ : Addr).add j) = some (.int .u8 x.toNat):=fun j x hj=>by
   have hv : (cr l)[j]? = some (.int .u8 x.toNat):=by simp [cr,hj]
   rw [mI]
   exact ((gz (S:=St B G (.acc (.slice (some ⟨b,0,none⟩) m cap) el 1 m (cr l) :: L')) (m:=m) (cap:=cap) (T:=el) (sz:=1) (xs:=cr l) List.mem_cons_self).go j _ hv).go w hw1
  have hsh : w.shape? b = some (el,(cr l ++ rest).length):=by simp [World.shape?,hb]
  have hr:=Lib.run_unsafeString_row (P:=P) w T T' ty el t1.und hc1 b _ hsh l h0 (by simp [cr]) oM hcell
  have : (execOp a.eval ⟨some d,.call ⟨.builtin .unsafeString,[x,y].toArray,[T,T'].toArray⟩,ty,pos,aft,gd⟩).run P w = .ok (.value (S l)) (w.freeze ⟨b,0,none⟩ l.length):=by
   simp only [execOp,resolve,e1,Sem.run_bind,Sem.run_pure,Result.andThen_ok,invoke,builtin]
   have hr' : (Builtin.unsafeString_ [T,T'].toArray ty #[.pointer (some ⟨b,0,none⟩),.int .i64 (m : Nat)]).run P w = .ok (S l) (w.freeze ⟨b,0,none⟩ l.length):=by rw [← hlm];exact hr
   rw [hr'];rfl
  rw [this,Oper.upon_value]
  exact k.go _ _ (hs.put (by simpa using hlt)) (hw1.freeze _)
theorem mT (l : adA) : Lib.strCells ⟨l.toArray⟩ = cr l:=by simp [Lib.strCells,cr]
theorem zt {v : Value} {m : Nat} {T T2 el : TypeId} {s1 b1 s2 b2 : Nat} {z1 z2 : Value} {xs : List Value} {l : adA} {w : World} {R : List Own} [h1' : TI P T (.slice el) s1 b1 z1] [h2' : TI P T2 .string s2 b2 z2] [he : TI P el (.int .u8) 1 1 (.int .u8 0)]
  (hb : m + l.length ≤ 1000000000) (hw : St B G (.acc v el 1 m xs :: R) w) :
  ∃ v' w',(Builtin.append_ #[T,T2] ty #[v,S l]).run P w = .ok v' w' ∧ St B G (.acc v' el 1 (m + l.length) (xs ++ cr l) :: R) w' ∧ (v = aQ → l = [] → v' = aQ) ∧ ((v ≠ aQ ∨ l ≠ []) → ∃ b cap,v' = .slice (some ⟨b,0,none⟩) (m + l.length) cap ∧ ((∀ p q,v ≠ .slice p q 0) ∨ l ≠ [] → 0 < cap)):=by
 obtain ⟨hxl,hacc⟩ : gS w v el 1 m xs:=hw.own _ List.mem_cons_self
 obtain ⟨ie,hi,hsz,hby,hze⟩:=he.inf
 have ht:=h1'.und
 have hu:=h2'.und
 have hss : (⟨l.toArray⟩ : ByteArray).size = l.length:=oC l
 have hul : (cr l).length = l.length:=by simp [cr]
 have mk : ∀ nc,m + l.length ≤ nc →
   St B G (.acc (.slice (some ⟨w.heap.size,0,none⟩) (m + l.length) nc) el 1 (m + l.length) (xs ++ cr l) :: R) (w.drew.alloc (.cells (xs ++ cr l ++ cj [.int .u8 0] (nc - (m + l.length))).toArray el)):=by
  intro nc hnc
  have h2:=hw.drew.alloc (.cells (xs ++ cr l ++ cj [.int .u8 0] (nc - (m + l.length))).toArray el)
  have h3 : St B G (.blk w.drew.heap.size (.cells (xs ++ cr l ++ cj [.int .u8 0] (nc - (m + l.length))).toArray el) :: R) _:=h2.weaken (.cons_cons _ (List.sublist_cons_self _ _))
  refine h3.conv rfl ⟨by simp [hxl,hul],.inr ⟨_,nc,cj [.int .u8 0] (nc - (m + l.length)),rfl,hnc,?_,h3.own _ List.mem_cons_self⟩⟩
  simp only [List.length_append,hxl,hul,gQ,List.length_cons,List.length_nil]
  omega
 have ez : (Builtin.zeroCells (Value.int .u8 0).cells) = fun k=>(cj [.int .u8 0] k).toArray:=by
  funext k;rw [← j9];rfl
 rcases hacc with ⟨rfl,rfl⟩ | ⟨b,cap,rest,rfl,hmc,hrl,hblk⟩
 ·have hx0 : xs = []:=by simpa using hxl
  subst hx0
  by_cases hk : l = []
  ·subst hk
   refine ⟨aQ,w,?_,by simpa [cr] using hw,fun _ _=>rfl,fun h=>by rcases h with h | h <;> exact absurd rfl h⟩
   have hf : (Builtin.firstCells 1 0 (S [])).run P w = .ok #[] w:=by
    have:=Lib.run_firstCells_string (P:=P) w 1 ⟨([] : adA).toArray⟩
    rw [oC] at this;simpa [Lib.strCells] using this
   simp [Builtin.append_,run_underlying ht,run_underlying hu,sizeOf,typeInfo,hi,hsz,Builtin.lenOf,oC,hf]
  ·have hpos : 0 < l.length:=List.length_pos_iff.2 hk
   have hr:=run_append_nil_string (P:=P) w T T2 ty el ie (.int .u8 0) ht hu hi hze ⟨l.toArray⟩ (by rw [hss];exact hpos) (by rw [hss];omega) (by rw [hss,hby];omega)
   rw [hss] at hr
   have hg:=grownCap_ge w l.length 0 el
   have:=mk (grownCap w l.length 0 el) (by simpa using hg)
   have e1 : (⟨l.toArray⟩ : ByteArray).data.map (fun b=>Value.int .u8 b.toNat) ++ Builtin.zeroCells (Value.int .u8 0).cells (grownCap w l.length 0 el - l.length) = (cr l ++ cj [.int .u8 0] (grownCap w l.length 0 el - l.length)).toArray:=by
    rw [ez];simp [cr]
   rw [e1] at hr
   simp only [Nat.zero_add,List.nil_append] at this ⊢
   exact ⟨_,_,hr,this,fun _ h=>absurd h hk,fun _=>⟨_,_,rfl,fun _=>by omega⟩⟩
 ·by_cases hfit : m + l.length ≤ cap
  ·have hr:=Lib.run_append_room_string (P:=P) w T T2 ty el ie ht hu hi hsz b m cap (xs ++ rest).toArray hblk ⟨l.toArray⟩ (by rw [hss];exact hfit) (by rw [hss];simp only [List.size_toArray];omega)
   have hcells : (List.take m (xs ++ rest) ++ cr l ++ List.drop (m + l.length) (xs ++ rest)) = xs ++ cr l ++ rest.drop l.length:=by
    have : m = xs.length:=oM
    rw [this];simp [List.drop_append]
   rw [hss,mT] at hr
   simp only [hcells] at hr
   refine ⟨_,_,hr,hw.upd (b:=b) rfl rfl ⟨by simp [hxl,hul],.inr ⟨b,cap,rest.drop l.length,rfl,hfit,?_,setRow_heap w b _ _ el _ hblk⟩⟩ (fun c hc=>setRow_other w b c _ hc) rfl rfl rfl (by simp),fun h=>(by cases h),fun _=>⟨b,cap,rfl,fun h=>?_⟩⟩
   ·simp only [List.length_append,List.length_drop] at *;omega
   ·rcases h with h | h
    ·rcases Nat.eq_zero_or_pos cap with h0 | h0
     ·subst h0;exact absurd rfl (h _ _)
     ·exact h0
    ·have:=List.length_pos_iff.2 h;omega
  ·have hnsc:=kP (m + l.length) cap oM
   have hold : ∀ j u,xs[j]? = some u → w.cell? ((⟨b,0,none⟩ : Addr).add j) = some u:=fun j u hj=>by
    rw [mI]
    exact ((gz (S:=St B G (.acc (.slice (some ⟨b,0,none⟩) m cap) el 1 m xs :: R)) (m:=m) (cap:=cap) (T:=el) (sz:=1) (xs:=xs) List.mem_cons_self).go j u hj).go w hw
   have hr:=Lib.run_append_grow_string (P:=P) w T T2 ty el ie (.int .u8 0) ht hu hi hze ⟨b,0,none⟩ m cap xs (by rw [hsz];simpa using hxl) hold ⟨l.toArray⟩ (by rw [hss];omega) (by rw [hss];omega) (by rw [hss,hby];omega)
   rw [hss,mT,ez] at hr
   have hg:=grownCap_ge w (m + l.length) cap el
   have:=mk (grownCap w (m + l.length) cap el) hg
   simp only [List.append_toArray] at hr this ⊢
   exact ⟨_,_,hr,this,fun h=>(by cases h),fun _=>⟨_,_,rfl,fun _=>by omega⟩⟩
theorem acS {m b cap : Nat} {s x : Operand} {T T2 el : TypeId} {s1 b1 s2 b2 : Nat} {z1 z2 : Value} {xs : List Value} {l : adA} {L' : List Own} [TI P T (.slice el) s1 b1 z1] [TI P T2 .string s2 b2 z2] [TI P el (.int .u8) 1 1 (.int .u8 0)] [ha : AccI L (.slice (some ⟨b,0,none⟩) m (cap + 1)) el 1 m xs L']
  (hs : ev E s = some (.slice (some ⟨b,0,none⟩) m (cap + 1))) (hx : ev E x = some (S l)) (hlt : Nat.blt d n = true) (hb : m + l.length ≤ 1000000000)
  (kk : ∀ b' cap',Nx n D ((d,.slice (some ⟨b',0,none⟩) (m + l.length) (cap' + 1)) :: E) B G (.acc (.slice (some ⟨b',0,none⟩) (m + l.length) (cap' + 1)) el 1 (m + l.length) (xs ++ cr l) :: L') K) :
  Nx n D E B G L (ow P ⟨some d,.call ⟨.builtin .append,[s,x].toArray,[T,T2].toArray⟩,ty,pos,aft,gd⟩ Q K):=Nx.mk fun a w hsat hw=>by
 obtain ⟨v',w',hr,hst,_,h2⟩:=zt (P:=P) (ty:=ty) (T:=T) (T2:=T2) (el:=el) (s1:=s1) (b1:=b1) (z1:=z1) (s2:=s2) (b2:=b2) (z2:=z2) hb (hw.perm ha.del.perm)
 obtain ⟨b',cap',rfl,h3⟩:=h2 (.inl (by simp))
 obtain ⟨c,rfl⟩ : ∃ c,cap' = c + 1:=⟨cap' - 1,by have:=h3 (.inl (by simp));omega⟩
 have hrun : (execOp a.eval ⟨some d,.call ⟨.builtin .append,[s,x].toArray,[T,T2].toArray⟩,ty,pos,aft,gd⟩).run P w = .ok (.value (.slice (some ⟨b',0,none⟩) (m + l.length) (c + 1))) w':=by
  have e1 : ([s,x].toArray.map a.eval) = #[.slice (some ⟨b,0,none⟩) m (cap + 1),S l]:=by simp [hsat.ev hs,hsat.ev hx]
  simp only [execOp,resolve,e1,Sem.run_bind,Sem.run_pure,Result.andThen_ok,invoke,builtin,hr]
 unfold ow Oper.wp
 rw [hrun,Oper.upon_value]
 exact (kk b' c).go _ w' (hsat.put (by simpa using hlt)) hst
theorem acI {fo x : Operand} {ah : Array TypeId} {f : FuncId} {fn : Func} {t el : TypeId} {m : Nat} {ps : Array TypeId}
  (hf : ev E fo = some (.func (.func f) #[] #[])) (hx : ev E x = some (I (m : Nat))) (hlt : Nat.blt d n = true) (hfn : P.funcs[f]? = some fn) (hname : (fn.name == "runtime.NumGoroutine") = false) (hbd : fn.body.isNone = true) (hnx : Extern.findNext fn = none) (he : Extern.find fn = some (Extern.BytealgMakeNoZero.makeNoZero ps #[t])) (ht : P.underlying t = some (.slice el)) (hm : 0 < m ∧ m ≤ 1000000000)
  (k : ∀ b cap,m ≤ cap + 1 → Nx n D ((d,.slice (some ⟨b,0,none⟩) m (cap + 1)) :: E) B G (.acc (.slice (some ⟨b,0,none⟩) 0 (cap + 1)) el 1 0 [] :: L) K) : Nx n D E B G L (ow P ⟨some d,.call ⟨.value fo,[x].toArray,ah⟩,ty,pos,aft,gd⟩ Q K):=Nx.mk fun a w hs hw=>by
 obtain ⟨cs,hr,hcs,_⟩:=Lib.run_makeNoZero (P:=P) w ps t el ht m oM
 have e1 : ([x].toArray.map a.eval) = #[.int .i64 (m : Nat)]:=by simp [hs.ev hx]
 have hrun : (execOp a.eval ⟨some d,.call ⟨.value fo,[x].toArray,ah⟩,ty,pos,aft,gd⟩).run P w = .ok (.value (.slice (some ⟨w.heap.size,0,none⟩) m cs.size)) (w.drew.drew.alloc (.cells cs el)):=by
  simp only [execOp,resolve,hs.ev hf,e1,Deferred.ofValue,Sem.run_bind,Sem.run_pure,Result.andThen_ok,invoke]
  rw [show (#[] ++ #[Value.int .i64 (m : Nat)] ++ #[] : Array Value) = #[Value.int .i64 (m : Nat)] from rfl,run_callFunc_extern hfn hname hbd hnx he,hr]
  rfl
 unfold ow Oper.wp
 rw [hrun,Oper.upon_value]
 have h1:=hw.drew.drew.alloc (.cells cs el)
 obtain ⟨c,hc⟩ : ∃ c,cs.size = c + 1:=⟨cs.size - 1,oM⟩
 have h2 : St B G (.acc (.slice (some ⟨w.heap.size,0,none⟩) 0 (c + 1)) el 1 0 [] :: L) (w.drew.drew.alloc (.cells cs el)):=h1.conv rfl ⟨rfl,.inr ⟨w.heap.size,c + 1,cs.toList,rfl,Nat.zero_le _,by simp [hc],h1.own _ List.mem_cons_self⟩⟩
 rw [hc]
 exact (k w.heap.size c oM).go _ _ (hs.put (by simpa using hlt)) h2
end
def fK (P : Program) (f : FuncId) (args : List Value) (G : Gh) (L : List Own) (R : Value → Gh → List Own → Prop) : Prop:=Fn P f args G L (fun v G' L'=>Gh.le G G' ∧ R v G' L')
section
variable {P : Program} {n : Nat} {D : List Deferred} {E : bS} {B : Base} {G : Gh} {L : List Own} {K : Act → World → Prop} {Q : Exit → Act → World → Prop}
theorem eH {fo : Operand} {l : List Operand} {ah : Array TypeId} {d : Nat} {ty : TypeId} {pos : String} {aft : Array Edge} {g : Option (Nat × Bool)} {f : FuncId} {fi ca az vs : List Value} {b : Nat} {cs : List Value} {T : TypeId} {R : List Own} {Post : Value → Gh → List Own → Prop}
  [hd : DelB L b cs T R] (hf : ev E fo = some (.func (.func f) fi.toArray ca.toArray)) (ha : evs E l = some az) (hv : fi ++ az ++ ca = vs) (hc : fK P f vs G [.blk b (.cells cs.toArray T (0,0))] Post) (hlt : Nat.blt d n = true)
  (k : ∀ v G' L',Gh.le G G' → Post v G' L' → Nx n D ((d,v) :: E) B G' (L' ++ R) K) : Nx n D E B G L (ow P ⟨some d,.call ⟨.value fo,l.toArray,ah⟩,ty,pos,aft,g⟩ Q K) :=
 abQ hf ha hv hc hlt fun v G' L' h=>k v G' L' h.1 h.2
theorem bY {f : FuncId} {fn : Func} {c : Code} {args : List Value} {R : Value → Gh → List Own → Prop} (E0 : bS) (hf : P.funcs[f]? = some fn) (hok : eY P f = true) (hn : fn.ntmps = n) (hb : fn.body = some c)
  (hlen : Nat.ble args.length n = true) (hE : iG E0 (params 0 args))
  (h : ∀ B,B.G = G → B.W = cM L → Nx n [] E0 B G L (cu P (.code c) [] (bp P fn (eZ B (fun v G' L'=>Gh.le G G' ∧ R v G' L'))))) : fK P f args G L R:=ve E0 hf hok hn hb hlen hE h
end
def aaO (n : Nat) (cs : List Value) : Bool:=cs.all fun v=>match v with | .string b=>Nat.ble b.size n | _=>false
section
variable {P : Program} {n : Nat} {D : List Deferred} {E : bS} {B : Base} {G : Gh} {L : List Own} {K : Act → World → Prop} {Q : Exit → Act → World → Prop}
theorem eX (m : Nat) {T T0 : TypeId} {x : Operand} {desc : TypeDesc} {size bytes : Nat} {zero : Value} {b o d : Nat} {cs : List Value} {fr : Nat × Nat} {ty : TypeId} {pos : String} {aft : Array Edge} {g : Option (Nat × Bool)} [TI P T desc size bytes zero] [h : BlkI L b cs T0 fr] (hx : ev E x = some (Pt b o)) (ha : dR desc = false) (hlt : Nat.blt d n = true) (ho : o < cs.length) (hs : aaO m cs = true)
  (k : ∀ l : adA,l.length ≤ m → Nx n D ((d,S l) :: E) B G L K) : Nx n D E B G L (ow P ⟨some d,.load T x,ty,pos,aft,g⟩ Q K) :=
 ze hx ha hlt ho fun v hv=>by
  have h1:=List.all_eq_true.1 hs v hv
  split at h1
  ·rename_i b
   have e : Value.string b = S b.data.toList:=by simp [S]
   rw [e]
   exact k _ (by rw [Array.length_toList];exact Nat.le_of_ble_eq_true h1)
  ·cases h1
def lA (m : Int) : List Value → Prop
 | []=>True
 | v :: r=>(∃ i : Int,v = I i ∧ 0 ≤ i ∧ i ≤ m) ∧ lA m r
theorem pS {m : Int} : ∀ {cs : List Value},lA m cs → ∀ v ∈ cs,∃ i : Int,v = I i ∧ 0 ≤ i ∧ i ≤ m
 | [],_,_,h=>absurd h (by simp)
 | w :: r,h,v,hv=>by
  rcases List.mem_cons.1 hv with rfl | hv
  ·exact h.1
  ·exact pS h.2 v hv
theorem vI {m : Int} : lA m []:=trivial
theorem uf {m i : Int} {r : List Value} (h : 0 ≤ i ∧ i ≤ m) (h2 : lA m r) : lA m (I i :: r):=⟨⟨i,rfl,h.1,h.2⟩,h2⟩
theorem abS (m : Int) {T T0 : TypeId} {x : Operand} {desc : TypeDesc} {size bytes : Nat} {zero : Value} {b o d : Nat} {cs : List Value} {fr : Nat × Nat} {ty : TypeId} {pos : String} {aft : Array Edge} {g : Option (Nat × Bool)} [TI P T desc size bytes zero] [h : BlkI L b cs T0 fr] (hx : ev E x = some (Pt b o)) (ha : dR desc = false) (hlt : Nat.blt d n = true) (ho : o < cs.length) (hs : lA m cs)
  (k : ∀ i : Int,0 ≤ i → i ≤ m → Nx n D ((d,I i) :: E) B G L K) : Nx n D E B G L (ow P ⟨some d,.load T x,ty,pos,aft,g⟩ Q K) :=
 ze hx ha hlt ho fun v hv=>by
  obtain ⟨i,rfl,h0,h1⟩:=pS hs v hv
  exact k i h0 h1
end
theorem PutsR.app {cs vs cs' : List Value} {o : Nat} (h : PutsR cs o vs cs') (rest : List Value) : PutsR (cs ++ rest) o vs (cs' ++ rest):=by
 induction h with
 | nil=>exact .nil
 | here _ ih=>exact .here ih
 | there _ ih=>exact .there ih
theorem PutsR.len {cs vs cs' : List Value} {o : Nat} (h : PutsR cs o vs cs') : cs'.length = cs.length:=by
 induction h with
 | nil=>rfl
 | here _ ih=>simp [ih]
 | there _ ih=>simp [ih]
class UpdA (b : Nat) (xs' : List Value) (L : List Own) (m cap : outParam Nat) (T0 : outParam TypeId) (sz : outParam Nat) (xs : outParam (List Value)) (L' : outParam (List Own)) : Prop where
 upd : UpdO (.acc (.slice (some ⟨b,0,none⟩) m cap) T0 sz m xs) (.acc (.slice (some ⟨b,0,none⟩) m cap) T0 sz m xs') L L'
instance {b m cap : Nat} {T0 : TypeId} {sz : Nat} {xs xs' : List Value} {r : List Own} : UpdA b xs' (.acc (.slice (some ⟨b,0,none⟩) m cap) T0 sz m xs :: r) m cap T0 sz xs (.acc (.slice (some ⟨b,0,none⟩) m cap) T0 sz m xs' :: r):=⟨.here⟩
instance {b m cap : Nat} {T0 : TypeId} {sz : Nat} {xs xs' : List Value} {z : Own} {r r' : List Own} [h : UpdA b xs' r m cap T0 sz xs r'] : UpdA b xs' (z :: r) m cap T0 sz xs (z :: r'):=⟨.there h.upd⟩
section
variable {P : Program} {n : Nat} {D : List Deferred} {E : bS} {B : Base} {G : Gh} {L : List Own} {K : Act → World → Prop} {Q : Exit → Act → World → Prop} {ty : TypeId} {pos : String} {aft : Array Edge} {gd : Option (Nat × Bool)} {dd : Nat}
theorem u6 {T T0 : TypeId} {x y : Operand} {desc : TypeDesc} {size bytes sz m cap : Nat} {zero v : Value} {b o : Nat} {xs vs xs' : List Value} {L' : List Own} [TI P T desc size bytes zero] (hx : ev E x = some (Pt b o)) (hy : ev E y = some v) (hv : v.cells = vs.toArray)
  (hl : Nat.beq vs.length size = true) (hne : vs.isEmpty = false) (h1 : eg vs = true) (hu : UpdO (.acc (.slice (some ⟨b,0,none⟩) m cap) T0 sz m xs) (.acc (.slice (some ⟨b,0,none⟩) m cap) T0 sz m xs') L L') (hp : PutsR xs o vs xs')
  (k : Nx n D E B G L' K) : Nx n D E B G L (ow P ⟨none,.store T x y,ty,pos,aft,gd⟩ Q K):=Nx.mk fun a w hs hw=>by
 unfold ow Oper.wp
 obtain ⟨R,hp1,hp2⟩:=hu.split
 have hw':=hw.perm hp1
 obtain ⟨hxl,⟨h,_⟩ | ⟨b',cap',rest,h,hmc,hrl,hblk⟩⟩ : gS w _ T0 sz m xs:=hw'.own _ List.mem_cons_self
 ·cases h
 simp only [Value.slice.injEq,Option.some.injEq,Addr.mk.injEq] at h
 obtain ⟨⟨rfl,_,_⟩,_,rfl⟩:=h
 have hst:=iL (P:=P) (o:=o) vs (xs ++ rest) (xs' ++ rest) 0 w hblk (by simpa using hp.app rest) h1
 rcases hst with hst | ⟨rfl,_⟩
 ·have hsz : v.cells.size = size:=by rw [hv];simpa using hl
  have : (execOp a.eval ⟨none,.store T x y,ty,pos,aft,gd⟩).run P w = .ok .skip (setBlk w b (.cells (xs' ++ rest).toArray T0 (0,0))):=by
   simp [execOp,hs.ev hx,hs.ev hy,Instr.storeAt,Instr.sureAddr,storeVar,d5 (T:=T) (desc:=desc) (size:=size) (bytes:=bytes) (zero:=zero),hsz]
   rw [hv];simp [hst]
  rw [this,Oper.upon_skip]
  refine k.go _ _ hs (St.perm ?_ hp2)
  have hlt : b < w.heap.size:=(Array.getElem?_eq_some_iff.1 hblk).1
  refine hw'.upd (b:=b) rfl rfl ⟨by rw [hp.len];exact hxl,.inr ⟨b,cap,rest,rfl,hmc,by rw [List.length_append,hp.len,← List.length_append];exact hrl,?_⟩⟩ (fun c hc=>?_) rfl rfl rfl (by simp [setBlk])
  ·rw [gN,if_pos rfl,if_pos hlt]
  ·rw [gN,if_neg (Ne.symm hc)]
 ·simp at hne
theorem xk {src : Value} {k sz : Nat} {s x : Operand} {T el : TypeId} {desc : TypeDesc} {size bytes s1 b1 : Nat} {z1 zero : Value} {zs news : List Value} [TI P T (.slice el) s1 b1 z1] [TI P el desc size bytes zero]
  (hs : ev E s = some aQ) (hx : ev E x = some src) (hsrc : aU G src sz k news) (he : Nat.beq sz size = true) (h1 : eg news = true)
  (hz : eW zero = some zs) (hzl : Nat.beq zs.length size = true) (hb0 : Nat.beq bytes 0 = false) (hlt : Nat.blt dd n = true) (hk : 0 < k) (hb : (2 * k + 768) * bytes ≤ 281474976710656)
  (kk : ∀ b' c',Nx n D ((dd,.slice (some ⟨b',0,none⟩) k c') :: E) B G (.acc (.slice (some ⟨b',0,none⟩) k c') el size k news :: L) K) :
  Nx n D E B G L (ow P ⟨some dd,.call ⟨.builtin .append,[s,x].toArray,[T,T].toArray⟩,ty,pos,aft,gd⟩ Q K):=by
 have:=Nat.eq_of_beq_eq_true he;subst this
 exact xj hs hx hsrc.src h1 (fw hz) hzl hb0 hb hlt fun v'=>Nx.shp (.head _) fun hsh=>by
  obtain ⟨b',c',rfl⟩:=hsh.pos oM
  exact kk b' c'
end
theorem kK {α : Type} (f : α → List Value) (a : α) (l : List α) : ak f (a :: l) = f a ++ ak f l:=by simp [ak]
theorem sm {α : Type} (f : α → List Value) (a b : List α) : ak f (a ++ b) = ak f a ++ ak f b:=by simp [ak]
section
variable {P : Program} {n : Nat} {D : List Deferred} {E : bS} {B : Base} {G : Gh} {L : List Own} {K : Act → World → Prop} {Q : Exit → Act → World → Prop} {ty : TypeId} {pos : String} {aft : Array Edge} {gd : Option (Nat × Bool)} {dd : Nat}
theorem nE {α : Type} {f : α → List Value} {cs : List α} {c : α} {i : Nat} {T T0 : TypeId} {x y : Operand} {desc : TypeDesc} {sz bytes b o m cap : Nat} {zero : Value} {xs : List Value} {L' : List Own} [TI P T desc sz bytes zero] [RowF f sz] [hu : UpdA b (ak f (cs.set i c)) L m cap T0 sz xs L']
  (hx : ev E x = some (Pt b o)) (hy : ev E y = some (Ag (f c))) (h1 : eg (f c) = true) (hxs : xs = ak f cs) (hs0 : Nat.blt 0 sz = true) (ho : o = i * sz) (hi : i < cs.length)
  (k : Nx n D E B G L' K) : Nx n D E B G L (ow P ⟨none,.store T x y,ty,pos,aft,gd⟩ Q K):=by
 have hl : (f c).length = sz:=RowF.len c
 have hs0 : 0 < sz:=by simpa using hs0
 have hne : f c ≠ []:=fun h=>by rw [h] at hl;simp at hl;omega
 refine u6 (vs:=f c) hx hy rfl (by rw [hl];simp) (by cases hfc : f c with | nil=>exact absurd hfc hne | cons=>rfl) h1 hu.upd ?_ k
 subst hxs
 have e1 : cs = cs.take i ++ cs[i] :: cs.drop (i + 1):=by rw [List.getElem_cons_drop,List.take_append_drop]
 have e2 : cs.set i c = cs.take i ++ c :: cs.drop (i + 1):=by rw [List.set_eq_take_append_cons_drop,if_pos hi]
 have hlen:=cO (f:=f) (cs.take i)
 rw [List.length_take,Nat.min_eq_left oM] at hlen
 have e3 : ak f cs = ak f (cs.take i) ++ (f cs[i] ++ ak f (cs.drop (i + 1))):=by rw [← kK,← sm,← e1]
 rw [e2,ho,← hlen,e3,sm,kK]
 exact kq (ak f (cs.take i)) (by rw [hl];exact RowF.len _) hne
end
def lm (o cap m sz : Nat) : Nat:=if cap = m then o else o + m * sz
section
variable {P : Program} {n : Nat} {D : List Deferred} {E : bS} {M : World → Prop} {d : Option Nat} {ty : TypeId} {pos : String} {aft : Array Edge} {gd : Option (Nat × Bool)}
theorem pV {T el : TypeId} {x lo : Operand} {desc' : TypeDesc} {size bytes size' bytes' : Nat} {zero zero' : Value} {k : IntKind} {m : Int} {b o len cap : Nat} [TI P T (.slice el) size bytes zero] [TI P el desc' size' bytes' zero']
  (hx : ev E x = some (.slice (some ⟨b,o,none⟩) len cap)) (hl : ev E lo = some (.int k m)) (h0 : 0 ≤ m ∧ m ≤ len) :
  Gives P n D E M ⟨d,.slice T x (some lo) none none,ty,pos,aft,gd⟩ (.slice (some ⟨b,lm o cap m.toNat size',none⟩) (len - m.toNat) (cap - m.toNat)):=Gives.mk fun a w hs _=>by
 simp only [execOp,hs.ev hx,Option.map_some,Option.map_none,hs.ev hl,Instr.sliceAt,Instr.slice,Sem.run_bind,cE (desc:=.slice el) (size:=size) (bytes:=bytes) (zero:=zero),Result.andThen_ok,Instr.sliceBounds,Sem.run_pure,
  em (P:=P) (m:=m) (y:=len) h0,d5 (desc:=desc') (size:=size') (bytes:=bytes') (zero:=zero')]
 unfold lm
 by_cases hc : cap = m.toNat
 ·simp [hc]
 ·rw [if_neg hc,if_neg hc]
  by_cases hz : m.toNat * size' = 0 <;> simp [Addr.add,hz]
end
theorem aU.cutAt {G : Gh} {b o len cap sz m : Nat} {xs : List Value} (h : aU G (.slice (some ⟨b,o,none⟩) len cap) sz len xs) (hm : m ≤ len) : aU G (.slice (some ⟨b,lm o cap m sz,none⟩) (len - m) (cap - m)) sz (len - m) (xs.drop (m * sz)):=by
 obtain ⟨h1,⟨h2,_⟩ | ⟨b',o',cap',e,hc,hs⟩⟩:=h
 ·cases h2
 simp only [Value.slice.injEq,Option.some.injEq,Addr.mk.injEq] at e
 obtain ⟨⟨rfl,rfl,_⟩,_,rfl⟩:=e
 refine ⟨by rw [List.length_drop,h1,Nat.sub_mul],.inr ⟨b,_,_,rfl,oM,?_⟩⟩
 obtain ⟨cs,h3,h4⟩:=hs
 refine ⟨cs,h3,fun i v hv=>?_⟩
 rw [List.getElem?_drop] at hv
 unfold lm
 split
 ·rename_i hcm
  have h5:=(List.getElem?_eq_some_iff.1 hv).1
  have h6 : len = m:=oM
  rw [h1,h6] at h5
  omega
 ·have:=h4 _ v hv
  rwa [← Nat.add_assoc] at this
def bpD (P : Program) (fn : Func) (R : Ending → World → Prop) : Exit → Act → World → Prop
 | .normal,a,w | .ret,a,w=>Leaves P fn a.tmps R a.defers .returning w
 | .outgrown,_,w=>R .outgrown w
 | _,_,_=>False
instance {P : Program} {fn : Func} {R : Ending → World → Prop} : PQ (bpD P fn R):=⟨fun _ _ _ _ _ h=>h⟩
structure FnD (P : Program) (f : FuncId) (args : List Value) (G : Gh) (L : List Own) (Post : Value → Gh → List Own → Prop) : Prop where
 ok : eY P f = true
 go : ∀ w,St ⟨w,G,cM L⟩ G L w → CallsD P f args.toArray .returning w fun e u w'=>u = .returning ∧ eZ ⟨w,G,cM L⟩ Post e w'
section
variable {P : Program} {n : Nat} {D : List Deferred} {E : bS} {B : Base} {G : Gh} {L : List Own} {K : Act → World → Prop} {Q : Exit → Act → World → Prop}
end
attribute [irreducible] bpD
section
variable {P : Program} {n : Nat} {D : List Deferred} {E : bS} {B : Base} {G : Gh} {L : List Own} {K : Act → World → Prop} {Q : Exit → Act → World → Prop} {ty : TypeId} {pos : String} {aft : Array Edge} {gd : Option (Nat × Bool)}
theorem dV {T T0 : TypeId} {x y : Operand} {desc : TypeDesc} {size bytes sz m cap : Nat} {zero v : Value} {b o : Nat} {xs ys zs vs : List Value} {L' : List Own} [TI P T desc size bytes zero] [AccB L b m cap T0 sz xs] (hx : ev E x = some (Pt b o)) (hy : ev E y = some v) (hv : v.cells = vs.toArray)
  (hl : Nat.beq vs.length size = true) (hne : vs.isEmpty = false) (h1 : eg vs = true) (hxs : xs = ys ++ zs) (hz : Nat.beq zs.length vs.length = true) (hu : UpdA b (ys ++ vs) L m cap T0 sz xs L') (ho : o = ys.length)
  (k : Nx n D E B G L' K) : Nx n D E B G L (ow P ⟨none,.store T x y,ty,pos,aft,gd⟩ Q K):=by
 refine u6 hx hy hv hl hne h1 hu.upd ?_ k
 subst hxs ho
 have:=kq ys (vs:=vs) (z:=zs) (r:=[]) (Nat.eq_of_beq_eq_true hz) (by intro h;rw [h] at hne;cases hne)
 simpa using this
end
section
variable {P : Program} {n : Nat} {D : List Deferred} {E : bS} {B : Base} {G : Gh} {L : List Own} {K : Act → World → Prop} {Q : Exit → Act → World → Prop} {ty : TypeId} {pos : String} {aft : Array Edge}
theorem fB {fo : Operand} {l : List Operand} {ah : Array TypeId} {d : Nat} {g : Option (Nat × Bool)} {f : FuncId} {fi ca az vs : List Value} {xs : List Value} {el : TypeId} {u : Value} {sz m : Nat} {R : List Own} {Post : Value → List Own → Prop}
  [ha2 : AccI L u el sz m xs R] (hf : ev E fo = some (.func (.func f) fi.toArray ca.toArray)) (ha : evs E l = some az) (hv : fi ++ az ++ ca = vs) (hc : dF P f vs G [.acc u el sz m xs] Post) (hlt : Nat.blt d n = true)
  (k : ∀ v L',Post v L' → Nx n D ((d,v) :: E) B G (L' ++ R) K) : Nx n D E B G L (ow P ⟨some d,.call ⟨.value fo,l.toArray,ah⟩,ty,pos,aft,g⟩ Q K) :=
 jk (Lp:=[.acc u el sz m xs]) hf ha hv hc ha2.del.perm hlt fun v G' L' h=>by obtain ⟨rfl,h⟩:=h;exact k v L' h
end
open Go.Proofs
abbrev bF : Value:=.bool false
abbrev u0 : Value:=.int .u8 0
noncomputable abbrev adz : Program:=Tryz.prog
instance ti2 : TI adz 2 (.int .i64) 1 8 (.int .i64 0):=TI.mk' kR kR kR
instance ti3 : TI adz 3 (.int .i64) 1 8 (.int .i64 0):=TI.mk' kR kR kR
instance ti4 : TI adz 4 .bool 1 1 (.bool false):=TI.mk' kR kR kR
instance ti5 : TI adz 5 (.int .u8) 1 1 (.int .u8 0):=TI.mk' kR kR kR
instance ti6 : TI adz 6 (.int .u8) 1 1 (.int .u8 0):=TI.mk' kR kR kR
instance ti7 : TI adz 7 (.struct (cx adz 7)) 4 24 (Ag [(.int .i64 0),(.int .i64 0),(.bool false),(.int .u8 0)]):=TI.mk' kR kR kR
instance ti8 : TI adz 8 (.struct (cx adz 8)) 4 24 (Ag [(.int .i64 0),(.int .i64 0),(.bool false),(.int .u8 0)]):=TI.mk' kR kR kR
instance ti9 : TI adz 9 .string 1 16 (S []):=TI.mk' kR kR kR
instance ti12 : TI adz 12 (.int .u64) 1 8 (.int .u64 0):=TI.mk' kR kR kR
instance ti13 : TI adz 13 (.struct (cx adz 13)) 2 24 (Ag [(S []),(.int .u64 0)]):=TI.mk' kR kR kR
instance ti14 : TI adz 14 (.struct (cx adz 14)) 2 24 (Ag [(S []),(.int .u64 0)]):=TI.mk' kR kR kR
instance ti17 : TI adz 17 (.pointer 239) 1 8 (.pointer none):=TI.mk' kR kR kR
instance ti18 : TI adz 18 (.struct (cx adz 18)) 1 8 (Ag [(.pointer none)]):=TI.mk' kR kR kR
instance ti19 : TI adz 19 (.struct (cx adz 19)) 1 8 (Ag [(.pointer none)]):=TI.mk' kR kR kR
instance ti24 : TI adz 24 (.slice 48) 1 24 aQ:=TI.mk' kR kR kR
instance ti33 : TI adz 33 (.slice 5) 1 24 aQ:=TI.mk' kR kR kR
instance ti44 : TI adz 44 (.struct (cx adz 44)) 2 32 (Ag [(S []),(S [])]):=TI.mk' kR kR kR
instance ti45 : TI adz 45 (.struct (cx adz 45)) 2 32 (Ag [(S []),(S [])]):=TI.mk' kR kR kR
instance ti48 : TI adz 48 (.struct (cx adz 48)) 2 32 (Ag [(S []),(S [])]):=TI.mk' kR kR kR
instance ti55 : TI adz 55 (.slice 155) 1 24 aQ:=TI.mk' kR kR kR
instance ti56 : TI adz 56 (.pointer 86) 1 8 (.pointer none):=TI.mk' kR kR kR
instance ti60 : TI adz 60 (.slice 3) 1 24 aQ:=TI.mk' kR kR kR
instance ti63 : TI adz 63 (.pointer 120) 1 8 (.pointer none):=TI.mk' kR kR kR
instance ti64 : TI adz 64 (.struct (cx adz 64)) 3 48 (Ag [(S []),(S []),(S [])]):=TI.mk' kR kR kR
instance ti65 : TI adz 65 (.struct (cx adz 65)) 3 48 (Ag [(S []),(S []),(S [])]):=TI.mk' kR kR kR
instance ti66 : TI adz 66 (.slice 68) 1 24 aQ:=TI.mk' kR kR kR
instance ti67 : TI adz 67 (.struct (cx adz 67)) 4 56 (Ag [(.int .u8 0),(S []),(.int .i64 0),aQ]):=TI.mk' kR kR kR
instance ti68 : TI adz 68 (.struct (cx adz 68)) 4 56 (Ag [(.int .u8 0),(S []),(.int .i64 0),aQ]):=TI.mk' kR kR kR
instance ti73 : TI adz 73 (.pointer 130) 1 8 (.pointer none):=TI.mk' kR kR kR
instance ti80 : TI adz 80 (.slice 9) 1 24 aQ:=TI.mk' kR kR kR
instance ti84 : TI adz 84 (.slice 56) 1 24 aQ:=TI.mk' kR kR kR
instance ti85 : TI adz 85 (.struct (cx adz 85)) 4 80 (Ag [(S []),(S []),aQ,aQ]):=TI.mk' kR kR kR
instance ti86 : TI adz 86 (.struct (cx adz 86)) 4 80 (Ag [(S []),(S []),aQ,aQ]):=TI.mk' kR kR kR
instance ti89 : TI adz 89 (.struct (cx adz 89)) 1 24 (Ag [aQ]):=TI.mk' kR kR kR
instance ti90 : TI adz 90 (.struct (cx adz 90)) 1 24 (Ag [aQ]):=TI.mk' kR kR kR
instance ti113 : TI adz 113 (.struct (cx adz 113)) 6 88 (Ag [(.int .i64 0),(S []),(S []),(S []),(S []),(S [])]):=TI.mk' kR kR kR
instance ti114 : TI adz 114 (.struct (cx adz 114)) 6 88 (Ag [(.int .i64 0),(S []),(S []),(S []),(S []),(S [])]):=TI.mk' kR kR kR
instance ti115 : TI adz 115 (.pointer 114) 1 8 (.pointer none):=TI.mk' kR kR kR
instance ti116 : TI adz 116 (.pointer 124) 1 8 (.pointer none):=TI.mk' kR kR kR
instance ti117 : TI adz 117 (.slice 116) 1 24 aQ:=TI.mk' kR kR kR
instance ti118 : TI adz 118 (.map 9 116) 1 8 (.map none):=TI.mk' kR kR kR
instance ti119 : TI adz 119 (.struct (cx adz 119)) 2 32 (Ag [aQ,(.map none)]):=TI.mk' kR kR kR
instance ti120 : TI adz 120 (.struct (cx adz 120)) 2 32 (Ag [aQ,(.map none)]):=TI.mk' kR kR kR
instance ti122 : TI adz 122 (.slice 114) 1 24 aQ:=TI.mk' kR kR kR
instance ti123 : TI adz 123 (.struct (cx adz 123)) 4 64 (Ag [(.int .u8 0),(S []),aQ,(S [])]):=TI.mk' kR kR kR
instance ti124 : TI adz 124 (.struct (cx adz 124)) 4 64 (Ag [(.int .u8 0),(S []),aQ,(S [])]):=TI.mk' kR kR kR
instance ti129 : TI adz 129 (.struct (cx adz 129)) 2 32 (Ag [aQ,(.int .i64 0)]):=TI.mk' kR kR kR
instance ti130 : TI adz 130 (.struct (cx adz 130)) 2 32 (Ag [aQ,(.int .i64 0)]):=TI.mk' kR kR kR
instance ti136 : TI adz 136 (.struct (cx adz 136)) 4 56 (Ag [(.int .i64 0),(S []),(S []),(S [])]):=TI.mk' kR kR kR
instance ti137 : TI adz 137 (.struct (cx adz 137)) 4 56 (Ag [(.int .i64 0),(S []),(S []),(S [])]):=TI.mk' kR kR kR
instance ti144 : TI adz 144 (.pointer 146) 1 8 (.pointer none):=TI.mk' kR kR kR
instance ti145 : TI adz 145 (.struct (cx adz 145)) 3 32 (Ag [(.pointer none),(S []),(.bool false)]):=TI.mk' kR kR kR
instance ti146 : TI adz 146 (.struct (cx adz 146)) 3 32 (Ag [(.pointer none),(S []),(.bool false)]):=TI.mk' kR kR kR
instance ti153 : TI adz 153 (.slice 137) 1 24 aQ:=TI.mk' kR kR kR
instance ti154 : TI adz 154 (.struct (cx adz 154)) 3 48 (Ag [(.int .u8 0),(S []),aQ]):=TI.mk' kR kR kR
instance ti155 : TI adz 155 (.struct (cx adz 155)) 3 48 (Ag [(.int .u8 0),(S []),aQ]):=TI.mk' kR kR kR
instance ti167 : TI adz 167 (.pointer 169) 1 8 (.pointer none):=TI.mk' kR kR kR
instance ti168 : TI adz 168 (.struct (cx adz 168)) 2 32 (Ag [(.pointer none),aQ]):=TI.mk' kR kR kR
instance ti169 : TI adz 169 (.struct (cx adz 169)) 2 32 (Ag [(.pointer none),aQ]):=TI.mk' kR kR kR
instance ti192 : TI adz 192 (.pointer 5) 1 8 (.pointer none):=TI.mk' kR kR kR
instance ti205 : TI adz 205 (.array 256 4) 256 256 (Ag [bF,bF,bF,bF,bF,bF,bF,bF,bF,bF,bF,bF,bF,bF,bF,bF,bF,bF,bF,bF,bF,bF,bF,bF,bF,bF,bF,bF,bF,bF,bF,bF,bF,bF,bF,bF,bF,bF,bF,bF,bF,bF,bF,bF,bF,bF,bF,bF,bF,bF,bF,bF,bF,bF,bF,bF,bF,bF,bF,bF,bF,bF,bF,bF,bF,bF,bF,bF,bF,bF,bF,bF,bF,bF,bF,bF,bF,bF,bF,bF,bF,bF,bF,bF,bF,bF,bF,bF,bF,bF,bF,bF,bF,bF,bF,bF,bF,bF,bF,bF,bF,bF,bF,bF,bF,bF,bF,bF,bF,bF,bF,bF,bF,bF,bF,bF,bF,bF,bF,bF,bF,bF,bF,bF,bF,bF,bF,bF,bF,bF,bF,bF,bF,bF,bF,bF,bF,bF,bF,bF,bF,bF,bF,bF,bF,bF,bF,bF,bF,bF,bF,bF,bF,bF,bF,bF,bF,bF,bF,bF,bF,bF,bF,bF,bF,bF,bF,bF,bF,bF,bF,bF,bF,bF,bF,bF,bF,bF,bF,bF,bF,bF,bF,bF,bF,bF,bF,bF,bF,bF,bF,bF,bF,bF,bF,bF,bF,bF,bF,bF,bF,bF,bF,bF,bF,bF,bF,bF,bF,bF,bF,bF,bF,bF,bF,bF,bF,bF,bF,bF,bF,bF,bF,bF,bF,bF,bF,bF,bF,bF,bF,bF,bF,bF,bF,bF,bF,bF,bF,bF,bF,bF,bF,bF,bF,bF,bF,bF,bF,bF,bF,bF,bF,bF,bF,(.bool false)]):=TI.mk' kR kR kR
instance ti209 : TI adz 209 (.pointer 205) 1 8 (.pointer none):=TI.mk' kR kR kR
instance ti221 : TI adz 221 (.struct (cx adz 221)) 2 2 (Ag [(.int .u8 0),(.int .u8 0)]):=TI.mk' kR kR kR
instance ti222 : TI adz 222 (.struct (cx adz 222)) 2 2 (Ag [(.int .u8 0),(.int .u8 0)]):=TI.mk' kR kR kR
instance ti228 : TI adz 228 (.struct (cx adz 228)) 4 40 (Ag [(.pointer none),(.pointer none),(.pointer none),(S [])]):=TI.mk' kR kR kR
instance ti229 : TI adz 229 (.struct (cx adz 229)) 4 40 (Ag [(.pointer none),(.pointer none),(.pointer none),(S [])]):=TI.mk' kR kR kR
instance fa7_0 : FA adz 7 0 0:=FA.mk' kR ti2 rfl
instance fv7_0 : FV adz 7 0 false 0 1:=FV.mk' kR ti2 rfl
instance fa7_1 : FA adz 7 1 1:=FA.mk' kR ti3 rfl
instance fv7_1 : FV adz 7 1 false 1 1:=FV.mk' kR ti3 rfl
instance fa7_2 : FA adz 7 2 2:=FA.mk' kR ti4 rfl
instance fv7_2 : FV adz 7 2 false 2 1:=FV.mk' kR ti4 rfl
instance fa7_3 : FA adz 7 3 3:=FA.mk' kR ti6 rfl
instance fv7_3 : FV adz 7 3 false 3 1:=FV.mk' kR ti6 rfl
instance fa8_0 : FA adz 8 0 0:=FA.mk' kR ti2 rfl
instance fv8_0 : FV adz 8 0 false 0 1:=FV.mk' kR ti2 rfl
instance fa8_1 : FA adz 8 1 1:=FA.mk' kR ti3 rfl
instance fv8_1 : FV adz 8 1 false 1 1:=FV.mk' kR ti3 rfl
instance fa8_2 : FA adz 8 2 2:=FA.mk' kR ti4 rfl
instance fv8_2 : FV adz 8 2 false 2 1:=FV.mk' kR ti4 rfl
instance fa8_3 : FA adz 8 3 3:=FA.mk' kR ti6 rfl
instance fv8_3 : FV adz 8 3 false 3 1:=FV.mk' kR ti6 rfl
instance fa13_0 : FA adz 13 0 0:=FA.mk' kR ti9 rfl
instance fv13_0 : FV adz 13 0 false 0 1:=FV.mk' kR ti9 rfl
instance fa13_1 : FA adz 13 1 1:=FA.mk' kR ti12 rfl
instance fv13_1 : FV adz 13 1 false 1 1:=FV.mk' kR ti12 rfl
instance fa14_0 : FA adz 14 0 0:=FA.mk' kR ti9 rfl
instance fv14_0 : FV adz 14 0 false 0 1:=FV.mk' kR ti9 rfl
instance fa14_1 : FA adz 14 1 1:=FA.mk' kR ti12 rfl
instance fv14_1 : FV adz 14 1 false 1 1:=FV.mk' kR ti12 rfl
instance fa18_0 : FA adz 18 0 0:=FA.mk' kR ti17 rfl
instance fv18_0 : FV adz 18 0 false 0 1:=FV.mk' kR ti17 rfl
instance fa19_0 : FA adz 19 0 0:=FA.mk' kR ti17 rfl
instance fv19_0 : FV adz 19 0 false 0 1:=FV.mk' kR ti17 rfl
instance fa44_0 : FA adz 44 0 0:=FA.mk' kR ti9 rfl
instance fv44_0 : FV adz 44 0 false 0 1:=FV.mk' kR ti9 rfl
instance fa44_1 : FA adz 44 1 1:=FA.mk' kR ti9 rfl
instance fv44_1 : FV adz 44 1 false 1 1:=FV.mk' kR ti9 rfl
instance fa45_0 : FA adz 45 0 0:=FA.mk' kR ti9 rfl
instance fv45_0 : FV adz 45 0 false 0 1:=FV.mk' kR ti9 rfl
instance fa45_1 : FA adz 45 1 1:=FA.mk' kR ti9 rfl
instance fv45_1 : FV adz 45 1 false 1 1:=FV.mk' kR ti9 rfl
instance fa48_0 : FA adz 48 0 0:=FA.mk' kR ti9 rfl
instance fv48_0 : FV adz 48 0 false 0 1:=FV.mk' kR ti9 rfl
instance fa48_1 : FA adz 48 1 1:=FA.mk' kR ti9 rfl
instance fv48_1 : FV adz 48 1 false 1 1:=FV.mk' kR ti9 rfl
instance : BT adz 48 [(0,1),(1,1)] [(S []),(S [])]:=BT.mk' [(9,0,1),(9,1,1)] rfl kR kR rfl
instance fa64_0 : FA adz 64 0 0:=FA.mk' kR ti9 rfl
instance fv64_0 : FV adz 64 0 false 0 1:=FV.mk' kR ti9 rfl
instance fa64_1 : FA adz 64 1 1:=FA.mk' kR ti9 rfl
instance fv64_1 : FV adz 64 1 false 1 1:=FV.mk' kR ti9 rfl
instance fa64_2 : FA adz 64 2 2:=FA.mk' kR ti9 rfl
instance fv64_2 : FV adz 64 2 false 2 1:=FV.mk' kR ti9 rfl
instance fa65_0 : FA adz 65 0 0:=FA.mk' kR ti9 rfl
instance fv65_0 : FV adz 65 0 false 0 1:=FV.mk' kR ti9 rfl
instance fa65_1 : FA adz 65 1 1:=FA.mk' kR ti9 rfl
instance fv65_1 : FV adz 65 1 false 1 1:=FV.mk' kR ti9 rfl
instance fa65_2 : FA adz 65 2 2:=FA.mk' kR ti9 rfl
instance fv65_2 : FV adz 65 2 false 2 1:=FV.mk' kR ti9 rfl
instance : BT adz 65 [(0,1),(1,1),(2,1)] [(S []),(S []),(S [])]:=BT.mk' [(9,0,1),(9,1,1),(9,2,1)] rfl kR kR rfl
instance fa67_0 : FA adz 67 0 0:=FA.mk' kR ti5 rfl
instance fv67_0 : FV adz 67 0 false 0 1:=FV.mk' kR ti5 rfl
instance fa67_1 : FA adz 67 1 1:=FA.mk' kR ti9 rfl
instance fv67_1 : FV adz 67 1 false 1 1:=FV.mk' kR ti9 rfl
instance fa67_2 : FA adz 67 2 2:=FA.mk' kR ti3 rfl
instance fv67_2 : FV adz 67 2 false 2 1:=FV.mk' kR ti3 rfl
instance fa67_3 : FA adz 67 3 3:=FA.mk' kR ti66 rfl
instance fv67_3 : FV adz 67 3 false 3 1:=FV.mk' kR ti66 rfl
instance fa68_0 : FA adz 68 0 0:=FA.mk' kR ti5 rfl
instance fv68_0 : FV adz 68 0 false 0 1:=FV.mk' kR ti5 rfl
instance fa68_1 : FA adz 68 1 1:=FA.mk' kR ti9 rfl
instance fv68_1 : FV adz 68 1 false 1 1:=FV.mk' kR ti9 rfl
instance fa68_2 : FA adz 68 2 2:=FA.mk' kR ti3 rfl
instance fv68_2 : FV adz 68 2 false 2 1:=FV.mk' kR ti3 rfl
instance fa68_3 : FA adz 68 3 3:=FA.mk' kR ti66 rfl
instance fv68_3 : FV adz 68 3 false 3 1:=FV.mk' kR ti66 rfl
instance : BT adz 68 [(0,1),(1,1),(2,1),(3,1)] [(.int .u8 0),(S []),(.int .i64 0),aQ]:=BT.mk' [(5,0,1),(9,1,1),(3,2,1),(66,3,1)] rfl kR kR rfl
instance fa85_0 : FA adz 85 0 0:=FA.mk' kR ti9 rfl
instance fv85_0 : FV adz 85 0 false 0 1:=FV.mk' kR ti9 rfl
instance fa85_1 : FA adz 85 1 1:=FA.mk' kR ti9 rfl
instance fv85_1 : FV adz 85 1 false 1 1:=FV.mk' kR ti9 rfl
instance fa85_2 : FA adz 85 2 2:=FA.mk' kR ti60 rfl
instance fv85_2 : FV adz 85 2 false 2 1:=FV.mk' kR ti60 rfl
instance fa85_3 : FA adz 85 3 3:=FA.mk' kR ti84 rfl
instance fv85_3 : FV adz 85 3 false 3 1:=FV.mk' kR ti84 rfl
instance fa86_0 : FA adz 86 0 0:=FA.mk' kR ti9 rfl
instance fv86_0 : FV adz 86 0 false 0 1:=FV.mk' kR ti9 rfl
instance fa86_1 : FA adz 86 1 1:=FA.mk' kR ti9 rfl
instance fv86_1 : FV adz 86 1 false 1 1:=FV.mk' kR ti9 rfl
instance fa86_2 : FA adz 86 2 2:=FA.mk' kR ti60 rfl
instance fv86_2 : FV adz 86 2 false 2 1:=FV.mk' kR ti60 rfl
instance fa86_3 : FA adz 86 3 3:=FA.mk' kR ti84 rfl
instance fv86_3 : FV adz 86 3 false 3 1:=FV.mk' kR ti84 rfl
instance : BT adz 86 [(0,1),(1,1),(2,1),(3,1)] [(S []),(S []),aQ,aQ]:=BT.mk' [(9,0,1),(9,1,1),(60,2,1),(84,3,1)] rfl kR kR rfl
instance fa89_0 : FA adz 89 0 0:=FA.mk' kR ti55 rfl
instance fv89_0 : FV adz 89 0 false 0 1:=FV.mk' kR ti55 rfl
instance fa90_0 : FA adz 90 0 0:=FA.mk' kR ti55 rfl
instance fv90_0 : FV adz 90 0 false 0 1:=FV.mk' kR ti55 rfl
instance : BT adz 90 [(0,1)] [aQ]:=BT.mk' [(55,0,1)] rfl kR kR rfl
instance fa113_0 : FA adz 113 0 0:=FA.mk' kR ti3 rfl
instance fv113_0 : FV adz 113 0 false 0 1:=FV.mk' kR ti3 rfl
instance fa113_1 : FA adz 113 1 1:=FA.mk' kR ti9 rfl
instance fv113_1 : FV adz 113 1 false 1 1:=FV.mk' kR ti9 rfl
instance fa113_2 : FA adz 113 2 2:=FA.mk' kR ti65 rfl
instance fv113_2 : FV adz 113 2 true 2 3:=FV.mk' kR ti65 rfl
instance fa113_3 : FA adz 113 3 5:=FA.mk' kR ti9 rfl
instance fv113_3 : FV adz 113 3 false 5 1:=FV.mk' kR ti9 rfl
instance fa114_0 : FA adz 114 0 0:=FA.mk' kR ti3 rfl
instance fv114_0 : FV adz 114 0 false 0 1:=FV.mk' kR ti3 rfl
instance fa114_1 : FA adz 114 1 1:=FA.mk' kR ti9 rfl
instance fv114_1 : FV adz 114 1 false 1 1:=FV.mk' kR ti9 rfl
instance fa114_2 : FA adz 114 2 2:=FA.mk' kR ti65 rfl
instance fv114_2 : FV adz 114 2 true 2 3:=FV.mk' kR ti65 rfl
instance fa114_3 : FA adz 114 3 5:=FA.mk' kR ti9 rfl
instance fv114_3 : FV adz 114 3 false 5 1:=FV.mk' kR ti9 rfl
instance : BT adz 114 [(0,1),(1,1),(2,3),(5,1)] [(.int .i64 0),(S []),(S []),(S []),(S []),(S [])]:=BT.mk' [(3,0,1),(9,1,1),(65,2,3),(9,5,1)] rfl kR kR rfl
instance fa119_0 : FA adz 119 0 0:=FA.mk' kR ti117 rfl
instance fv119_0 : FV adz 119 0 false 0 1:=FV.mk' kR ti117 rfl
instance fa119_1 : FA adz 119 1 1:=FA.mk' kR ti118 rfl
instance fv119_1 : FV adz 119 1 false 1 1:=FV.mk' kR ti118 rfl
instance fa120_0 : FA adz 120 0 0:=FA.mk' kR ti117 rfl
instance fv120_0 : FV adz 120 0 false 0 1:=FV.mk' kR ti117 rfl
instance fa120_1 : FA adz 120 1 1:=FA.mk' kR ti118 rfl
instance fv120_1 : FV adz 120 1 false 1 1:=FV.mk' kR ti118 rfl
instance : BT adz 120 [(0,1),(1,1)] [aQ,(.map none)]:=BT.mk' [(117,0,1),(118,1,1)] rfl kR kR rfl
instance fa123_0 : FA adz 123 0 0:=FA.mk' kR ti5 rfl
instance fv123_0 : FV adz 123 0 false 0 1:=FV.mk' kR ti5 rfl
instance fa123_1 : FA adz 123 1 1:=FA.mk' kR ti9 rfl
instance fv123_1 : FV adz 123 1 false 1 1:=FV.mk' kR ti9 rfl
instance fa123_2 : FA adz 123 2 2:=FA.mk' kR ti122 rfl
instance fv123_2 : FV adz 123 2 false 2 1:=FV.mk' kR ti122 rfl
instance fa123_3 : FA adz 123 3 3:=FA.mk' kR ti9 rfl
instance fv123_3 : FV adz 123 3 false 3 1:=FV.mk' kR ti9 rfl
instance fa124_0 : FA adz 124 0 0:=FA.mk' kR ti5 rfl
instance fv124_0 : FV adz 124 0 false 0 1:=FV.mk' kR ti5 rfl
instance fa124_1 : FA adz 124 1 1:=FA.mk' kR ti9 rfl
instance fv124_1 : FV adz 124 1 false 1 1:=FV.mk' kR ti9 rfl
instance fa124_2 : FA adz 124 2 2:=FA.mk' kR ti122 rfl
instance fv124_2 : FV adz 124 2 false 2 1:=FV.mk' kR ti122 rfl
instance fa124_3 : FA adz 124 3 3:=FA.mk' kR ti9 rfl
instance fv124_3 : FV adz 124 3 false 3 1:=FV.mk' kR ti9 rfl
instance : BT adz 124 [(0,1),(1,1),(2,1),(3,1)] [(.int .u8 0),(S []),aQ,(S [])]:=BT.mk' [(5,0,1),(9,1,1),(122,2,1),(9,3,1)] rfl kR kR rfl
instance fa129_0 : FA adz 129 0 0:=FA.mk' kR ti33 rfl
instance fv129_0 : FV adz 129 0 false 0 1:=FV.mk' kR ti33 rfl
instance fa129_1 : FA adz 129 1 1:=FA.mk' kR ti3 rfl
instance fv129_1 : FV adz 129 1 false 1 1:=FV.mk' kR ti3 rfl
instance fa130_0 : FA adz 130 0 0:=FA.mk' kR ti33 rfl
instance fv130_0 : FV adz 130 0 false 0 1:=FV.mk' kR ti33 rfl
instance fa130_1 : FA adz 130 1 1:=FA.mk' kR ti3 rfl
instance fv130_1 : FV adz 130 1 false 1 1:=FV.mk' kR ti3 rfl
instance : BT adz 130 [(0,1),(1,1)] [aQ,(.int .i64 0)]:=BT.mk' [(33,0,1),(3,1,1)] rfl kR kR rfl
instance fa136_0 : FA adz 136 0 0:=FA.mk' kR ti3 rfl
instance fv136_0 : FV adz 136 0 false 0 1:=FV.mk' kR ti3 rfl
instance fa136_1 : FA adz 136 1 1:=FA.mk' kR ti9 rfl
instance fv136_1 : FV adz 136 1 false 1 1:=FV.mk' kR ti9 rfl
instance fa136_2 : FA adz 136 2 2:=FA.mk' kR ti9 rfl
instance fv136_2 : FV adz 136 2 false 2 1:=FV.mk' kR ti9 rfl
instance fa136_3 : FA adz 136 3 3:=FA.mk' kR ti9 rfl
instance fv136_3 : FV adz 136 3 false 3 1:=FV.mk' kR ti9 rfl
instance fa137_0 : FA adz 137 0 0:=FA.mk' kR ti3 rfl
instance fv137_0 : FV adz 137 0 false 0 1:=FV.mk' kR ti3 rfl
instance fa137_1 : FA adz 137 1 1:=FA.mk' kR ti9 rfl
instance fv137_1 : FV adz 137 1 false 1 1:=FV.mk' kR ti9 rfl
instance fa137_2 : FA adz 137 2 2:=FA.mk' kR ti9 rfl
instance fv137_2 : FV adz 137 2 false 2 1:=FV.mk' kR ti9 rfl
instance fa137_3 : FA adz 137 3 3:=FA.mk' kR ti9 rfl
instance fv137_3 : FV adz 137 3 false 3 1:=FV.mk' kR ti9 rfl
instance : BT adz 137 [(0,1),(1,1),(2,1),(3,1)] [(.int .i64 0),(S []),(S []),(S [])]:=BT.mk' [(3,0,1),(9,1,1),(9,2,1),(9,3,1)] rfl kR kR rfl
instance fa145_0 : FA adz 145 0 0:=FA.mk' kR ti63 rfl
instance fv145_0 : FV adz 145 0 false 0 1:=FV.mk' kR ti63 rfl
instance fa145_1 : FA adz 145 1 1:=FA.mk' kR ti9 rfl
instance fv145_1 : FV adz 145 1 false 1 1:=FV.mk' kR ti9 rfl
instance fa145_2 : FA adz 145 2 2:=FA.mk' kR ti4 rfl
instance fv145_2 : FV adz 145 2 false 2 1:=FV.mk' kR ti4 rfl
instance fa146_0 : FA adz 146 0 0:=FA.mk' kR ti63 rfl
instance fv146_0 : FV adz 146 0 false 0 1:=FV.mk' kR ti63 rfl
instance fa146_1 : FA adz 146 1 1:=FA.mk' kR ti9 rfl
instance fv146_1 : FV adz 146 1 false 1 1:=FV.mk' kR ti9 rfl
instance fa146_2 : FA adz 146 2 2:=FA.mk' kR ti4 rfl
instance fv146_2 : FV adz 146 2 false 2 1:=FV.mk' kR ti4 rfl
instance : BT adz 146 [(0,1),(1,1),(2,1)] [(.pointer none),(S []),(.bool false)]:=BT.mk' [(63,0,1),(9,1,1),(4,2,1)] rfl kR kR rfl
instance fa154_0 : FA adz 154 0 0:=FA.mk' kR ti5 rfl
instance fv154_0 : FV adz 154 0 false 0 1:=FV.mk' kR ti5 rfl
instance fa154_1 : FA adz 154 1 1:=FA.mk' kR ti9 rfl
instance fv154_1 : FV adz 154 1 false 1 1:=FV.mk' kR ti9 rfl
instance fa154_2 : FA adz 154 2 2:=FA.mk' kR ti153 rfl
instance fv154_2 : FV adz 154 2 false 2 1:=FV.mk' kR ti153 rfl
instance fa155_0 : FA adz 155 0 0:=FA.mk' kR ti5 rfl
instance fv155_0 : FV adz 155 0 false 0 1:=FV.mk' kR ti5 rfl
instance fa155_1 : FA adz 155 1 1:=FA.mk' kR ti9 rfl
instance fv155_1 : FV adz 155 1 false 1 1:=FV.mk' kR ti9 rfl
instance fa155_2 : FA adz 155 2 2:=FA.mk' kR ti153 rfl
instance fv155_2 : FV adz 155 2 false 2 1:=FV.mk' kR ti153 rfl
instance : BT adz 155 [(0,1),(1,1),(2,1)] [(.int .u8 0),(S []),aQ]:=BT.mk' [(5,0,1),(9,1,1),(153,2,1)] rfl kR kR rfl
instance fa168_0 : FA adz 168 0 0:=FA.mk' kR ti167 rfl
instance fv168_0 : FV adz 168 0 false 0 1:=FV.mk' kR ti167 rfl
instance fa168_1 : FA adz 168 1 1:=FA.mk' kR ti33 rfl
instance fv168_1 : FV adz 168 1 false 1 1:=FV.mk' kR ti33 rfl
instance fa169_0 : FA adz 169 0 0:=FA.mk' kR ti167 rfl
instance fv169_0 : FV adz 169 0 false 0 1:=FV.mk' kR ti167 rfl
instance fa169_1 : FA adz 169 1 1:=FA.mk' kR ti33 rfl
instance fv169_1 : FV adz 169 1 false 1 1:=FV.mk' kR ti33 rfl
instance : BT adz 169 [(0,1),(1,1)] [(.pointer none),aQ]:=BT.mk' [(167,0,1),(33,1,1)] rfl kR kR rfl
instance fa221_0 : FA adz 221 0 0:=FA.mk' kR ti5 rfl
instance fv221_0 : FV adz 221 0 false 0 1:=FV.mk' kR ti5 rfl
instance fa221_1 : FA adz 221 1 1:=FA.mk' kR ti5 rfl
instance fv221_1 : FV adz 221 1 false 1 1:=FV.mk' kR ti5 rfl
instance fa222_0 : FA adz 222 0 0:=FA.mk' kR ti5 rfl
instance fv222_0 : FV adz 222 0 false 0 1:=FV.mk' kR ti5 rfl
instance fa222_1 : FA adz 222 1 1:=FA.mk' kR ti5 rfl
instance fv222_1 : FV adz 222 1 false 1 1:=FV.mk' kR ti5 rfl
instance fa228_0 : FA adz 228 0 0:=FA.mk' kR ti17 rfl
instance fv228_0 : FV adz 228 0 false 0 1:=FV.mk' kR ti17 rfl
instance fa228_1 : FA adz 228 1 1:=FA.mk' kR ti17 rfl
instance fv228_1 : FV adz 228 1 false 1 1:=FV.mk' kR ti17 rfl
instance fa228_2 : FA adz 228 2 2:=FA.mk' kR ti17 rfl
instance fv228_2 : FV adz 228 2 false 2 1:=FV.mk' kR ti17 rfl
instance fa228_3 : FA adz 228 3 3:=FA.mk' kR ti9 rfl
instance fv228_3 : FV adz 228 3 false 3 1:=FV.mk' kR ti9 rfl
instance fa229_0 : FA adz 229 0 0:=FA.mk' kR ti17 rfl
instance fv229_0 : FV adz 229 0 false 0 1:=FV.mk' kR ti17 rfl
instance fa229_1 : FA adz 229 1 1:=FA.mk' kR ti17 rfl
instance fv229_1 : FV adz 229 1 false 1 1:=FV.mk' kR ti17 rfl
instance fa229_2 : FA adz 229 2 2:=FA.mk' kR ti17 rfl
instance fv229_2 : FV adz 229 2 false 2 1:=FV.mk' kR ti17 rfl
instance fa229_3 : FA adz 229 3 3:=FA.mk' kR ti9 rfl
instance fv229_3 : FV adz 229 3 false 3 1:=FV.mk' kR ti9 rfl
def tb : Tbl:=⟨12,41410478080743382724608535173662152714706653833022319330975145342795872,16,3584,822758555762525479990127527964774279562757477151008868310155264,[(7,[(false,0,1),(false,1,1),(false,2,1),(false,3,1)]),(8,[(false,0,1),(false,1,1),(false,2,1),(false,3,1)]),(13,[(false,0,1),(false,1,1)]),(14,[(false,0,1),(false,1,1)]),(18,[(false,0,1)]),(19,[(false,0,1)]),(44,[(false,0,1),(false,1,1)]),(45,[(false,0,1),(false,1,1)]),(48,[(false,0,1),(false,1,1)]),(64,[(false,0,1),(false,1,1),(false,2,1)]),(65,[(false,0,1),(false,1,1),(false,2,1)]),(67,[(false,0,1),(false,1,1),(false,2,1),(false,3,1)]),(68,[(false,0,1),(false,1,1),(false,2,1),(false,3,1)]),(85,[(false,0,1),(false,1,1),(false,2,1),(false,3,1)]),(86,[(false,0,1),(false,1,1),(false,2,1),(false,3,1)]),(89,[(false,0,1)]),(90,[(false,0,1)]),(113,[(false,0,1),(false,1,1),(true,2,3),(false,5,1)]),(114,[(false,0,1),(false,1,1),(true,2,3),(false,5,1)]),(119,[(false,0,1),(false,1,1)]),(120,[(false,0,1),(false,1,1)]),(123,[(false,0,1),(false,1,1),(false,2,1),(false,3,1)]),(124,[(false,0,1),(false,1,1),(false,2,1),(false,3,1)]),(129,[(false,0,1),(false,1,1)]),(130,[(false,0,1),(false,1,1)]),(136,[(false,0,1),(false,1,1),(false,2,1),(false,3,1)]),(137,[(false,0,1),(false,1,1),(false,2,1),(false,3,1)]),(145,[(false,0,1),(false,1,1),(false,2,1)]),(146,[(false,0,1),(false,1,1),(false,2,1)]),(154,[(false,0,1),(false,1,1),(false,2,1)]),(155,[(false,0,1),(false,1,1),(false,2,1)]),(168,[(false,0,1),(false,1,1)]),(169,[(false,0,1),(false,1,1)]),(221,[(false,0,1),(false,1,1)]),(222,[(false,0,1),(false,1,1)]),(228,[(false,0,1),(false,1,1),(false,2,1),(false,3,1)]),(229,[(false,0,1),(false,1,1),(false,2,1),(false,3,1)])]⟩
theorem ade : vM adz tb.fl:=⟨⟨⟨fv7_0,fa7_0⟩,⟨fv7_1,fa7_1⟩,⟨fv7_2,fa7_2⟩,⟨fv7_3,fa7_3⟩,trivial⟩,⟨⟨fv8_0,fa8_0⟩,⟨fv8_1,fa8_1⟩,⟨fv8_2,fa8_2⟩,⟨fv8_3,fa8_3⟩,trivial⟩,⟨⟨fv13_0,fa13_0⟩,⟨fv13_1,fa13_1⟩,trivial⟩,⟨⟨fv14_0,fa14_0⟩,⟨fv14_1,fa14_1⟩,trivial⟩,⟨⟨fv18_0,fa18_0⟩,trivial⟩,⟨⟨fv19_0,fa19_0⟩,trivial⟩,⟨⟨fv44_0,fa44_0⟩,⟨fv44_1,fa44_1⟩,trivial⟩,⟨⟨fv45_0,fa45_0⟩,⟨fv45_1,fa45_1⟩,trivial⟩,⟨⟨fv48_0,fa48_0⟩,⟨fv48_1,fa48_1⟩,trivial⟩,⟨⟨fv64_0,fa64_0⟩,⟨fv64_1,fa64_1⟩,⟨fv64_2,fa64_2⟩,trivial⟩,⟨⟨fv65_0,fa65_0⟩,⟨fv65_1,fa65_1⟩,⟨fv65_2,fa65_2⟩,trivial⟩,⟨⟨fv67_0,fa67_0⟩,⟨fv67_1,fa67_1⟩,⟨fv67_2,fa67_2⟩,⟨fv67_3,fa67_3⟩,trivial⟩,⟨⟨fv68_0,fa68_0⟩,⟨fv68_1,fa68_1⟩,⟨fv68_2,fa68_2⟩,⟨fv68_3,fa68_3⟩,trivial⟩,⟨⟨fv85_0,fa85_0⟩,⟨fv85_1,fa85_1⟩,⟨fv85_2,fa85_2⟩,⟨fv85_3,fa85_3⟩,trivial⟩,⟨⟨fv86_0,fa86_0⟩,⟨fv86_1,fa86_1⟩,⟨fv86_2,fa86_2⟩,⟨fv86_3,fa86_3⟩,trivial⟩,⟨⟨fv89_0,fa89_0⟩,trivial⟩,⟨⟨fv90_0,fa90_0⟩,trivial⟩,⟨⟨fv113_0,fa113_0⟩,⟨fv113_1,fa113_1⟩,⟨fv113_2,fa113_2⟩,⟨fv113_3,fa113_3⟩,trivial⟩,⟨⟨fv114_0,fa114_0⟩,⟨fv114_1,fa114_1⟩,⟨fv114_2,fa114_2⟩,⟨fv114_3,fa114_3⟩,trivial⟩,⟨⟨fv119_0,fa119_0⟩,⟨fv119_1,fa119_1⟩,trivial⟩,⟨⟨fv120_0,fa120_0⟩,⟨fv120_1,fa120_1⟩,trivial⟩,⟨⟨fv123_0,fa123_0⟩,⟨fv123_1,fa123_1⟩,⟨fv123_2,fa123_2⟩,⟨fv123_3,fa123_3⟩,trivial⟩,⟨⟨fv124_0,fa124_0⟩,⟨fv124_1,fa124_1⟩,⟨fv124_2,fa124_2⟩,⟨fv124_3,fa124_3⟩,trivial⟩,⟨⟨fv129_0,fa129_0⟩,⟨fv129_1,fa129_1⟩,trivial⟩,⟨⟨fv130_0,fa130_0⟩,⟨fv130_1,fa130_1⟩,trivial⟩,⟨⟨fv136_0,fa136_0⟩,⟨fv136_1,fa136_1⟩,⟨fv136_2,fa136_2⟩,⟨fv136_3,fa136_3⟩,trivial⟩,⟨⟨fv137_0,fa137_0⟩,⟨fv137_1,fa137_1⟩,⟨fv137_2,fa137_2⟩,⟨fv137_3,fa137_3⟩,trivial⟩,⟨⟨fv145_0,fa145_0⟩,⟨fv145_1,fa145_1⟩,⟨fv145_2,fa145_2⟩,trivial⟩,⟨⟨fv146_0,fa146_0⟩,⟨fv146_1,fa146_1⟩,⟨fv146_2,fa146_2⟩,trivial⟩,⟨⟨fv154_0,fa154_0⟩,⟨fv154_1,fa154_1⟩,⟨fv154_2,fa154_2⟩,trivial⟩,⟨⟨fv155_0,fa155_0⟩,⟨fv155_1,fa155_1⟩,⟨fv155_2,fa155_2⟩,trivial⟩,⟨⟨fv168_0,fa168_0⟩,⟨fv168_1,fa168_1⟩,trivial⟩,⟨⟨fv169_0,fa169_0⟩,⟨fv169_1,fa169_1⟩,trivial⟩,⟨⟨fv221_0,fa221_0⟩,⟨fv221_1,fa221_1⟩,trivial⟩,⟨⟨fv222_0,fa222_0⟩,⟨fv222_1,fa222_1⟩,trivial⟩,⟨⟨fv228_0,fa228_0⟩,⟨fv228_1,fa228_1⟩,⟨fv228_2,fa228_2⟩,⟨fv228_3,fa228_3⟩,trivial⟩,⟨⟨fv229_0,fa229_0⟩,⟨fv229_1,fa229_1⟩,⟨fv229_2,fa229_2⟩,⟨fv229_3,fa229_3⟩,trivial⟩,trivial⟩
instance : Tab adz tb:=Tab.mk' 240 kR kR kR kR kR ade
theorem al : adz.follows .mixedOrders = true:=by kernel_rfl
section
variable {n : Nat} {D : List Deferred} {E : bS} {B : Base} {G : Gh} {L : List Own} {k : List Fr} {Q : Exit → Act → World → Prop} {K : Act → World → Prop}
theorem jT [PQ Q] {ops : List Oper} {G0 : Gh} {L0 : List Own} (fuel : Nat) (is : List Nat) {E' : bS} {p' : List Prop} {fuel' : Nat} {listed : Array Bool} (listed' : Array Bool) (hn : Nx n D E' B G L (xA adz ops.toArray Q (cC B G0 L0) fuel listed'))
    (hf : Nat.beq (fuel + is.length) fuel' = true:=by exact rfl) (h : iW tb n ops is E [] = some (E',p'):=by exact rfl) (hsel : Region.noSelect ops.toArray = true:=by kernel_rfl) (hb : mP ops.toArray is listed listed' = true:=by kernel_rfl)
    (hG : Gh.le G0 G:=by first | exact Gh.le.refl _ | assumption) (hL : L0.Sublist L:=by repeat (first | exact List.Sublist.refl _ | exact List.nil_sublist _ | apply List.Sublist.cons_cons | apply List.Sublist.cons)) (hp : iV p':=by exact trivial) : Nx n D E B G L (xA adz ops.toArray Q (cC B G0 L0) fuel' listed):=vm is listed' hsel hb hf h hG hL hp hn
theorem jU [PQ Q] {ops : List Oper} {G0 : Gh} {L0 : List Own} (fuel : Nat) (is : List Nat) {E' : bS} {p' : List Prop} {fuel' : Nat} {listed : Array Bool} (listed' : Array Bool) (hp : iV p') (hn : Nx n D E' B G L (xA adz ops.toArray Q (cC B G0 L0) fuel listed'))
    (hf : Nat.beq (fuel + is.length) fuel' = true:=by exact rfl) (h : iW tb n ops is E [] = some (E',p'):=by exact rfl) (hsel : Region.noSelect ops.toArray = true:=by kernel_rfl) (hb : mP ops.toArray is listed listed' = true:=by kernel_rfl)
    (hG : Gh.le G0 G:=by first | exact Gh.le.refl _ | assumption) (hL : L0.Sublist L:=by repeat (first | exact List.Sublist.refl _ | exact List.nil_sublist _ | apply List.Sublist.cons_cons | apply List.Sublist.cons)) : Nx n D E B G L (xA adz ops.toArray Q (cC B G0 L0) fuel' listed):=vm is listed' hsel hb hf h hG hL hp hn
theorem jN {ops : List Oper} {G0 : Gh} {L0 : List Own} {fuel : Nat} {listed : Array Bool} (listed' : Array Bool) [PQ Q] (i : Nat) {o : Oper} {d : Nat} (hi : ops.toArray[i]? = some o)
    (k : Nx n D ((d,undef) :: E) B G L (xA adz ops.toArray Q (cC B G0 L0) fuel listed')) (hb : n6 ops.toArray listed i listed' = true:=by kernel_rfl) (hgu : s6 E ops o = some false:=by exact rfl) (hG : Gh.le G0 G:=by first | exact Gh.le.refl _ | assumption) (hL : L0.Sublist L:=by repeat (first | exact List.Sublist.refl _ | exact List.nil_sublist _ | apply List.Sublist.cons_cons | apply List.Sublist.cons)) (hd : o.dst = some d:=by exact rfl) (hlt : Nat.blt d n = true:=by exact rfl) :
    Nx n D E B G L (xA adz ops.toArray Q (cC B G0 L0) (fuel + 1) listed):=yC listed' i hi hb hgu hG hL hd hlt k
theorem jG {ops : List Oper} {G0 : Gh} {L0 : List Own} {fuel : Nat} {listed : Array Bool} (listed' : Array Bool) [PQ Q] (i : Nat) {o : Oper} {d : Nat} {v : Value} (hi : ops.toArray[i]? = some o) (hg : Gives adz n D E (cC B G0 L0) o v)
    (k : Nx n D ((d,v) :: E) B G L (xA adz ops.toArray Q (cC B G0 L0) fuel listed')) (hb : n6 ops.toArray listed i listed' = true:=by kernel_rfl) (hgu : s6 E ops o = some true:=by exact rfl) (hG : Gh.le G0 G:=by first | exact Gh.le.refl _ | assumption) (hL : L0.Sublist L:=by repeat (first | exact List.Sublist.refl _ | exact List.nil_sublist _ | apply List.Sublist.cons_cons | apply List.Sublist.cons)) (hd : o.dst = some d:=by exact rfl) (hlt : Nat.blt d n = true:=by exact rfl) :
    Nx n D E B G L (xA adz ops.toArray Q (cC B G0 L0) (fuel + 1) listed):=vn listed' i hi hb hgu hG hL hg hd hlt k
theorem jV {o : Oper} {d : Nat} {v : Value} (hg : Gives adz n D E (St B G L) o v) (k : Nx n D ((d,v) :: E) B G L K) (hd : o.dst = some d:=by exact rfl) (hlt : Nat.blt d n = true:=by exact rfl) : Nx n D E B G L (ow adz o Q K):=k6 hg hd hlt k
theorem jR {E' : bS} {c c' : Cu} {k k' : List Fr} {p' : List Prop} (hn : Nx n D E' B G L (cu adz c' k' Q)) (h : sk tb n 400 E c k = some ⟨E',c',k',p'⟩:=by exact rfl) (hp : iV p':=by exact trivial) : Nx n D E B G L (cu adz c k Q):=run 400 h hp hn
theorem jM {E' : bS} {c c' : Cu} {k k' : List Fr} {p' : List Prop} (hn : Nx n D E' B G L (cu adz c' k' Q)) (h : sk tb n 400 E c k = some ⟨E',c',k',p'⟩:=by exact rfl) (hp : iV p':=by (repeat' (first | exact trivial | apply And.intro | omega));done) : Nx n D E B G L (cu adz c k Q):=run 400 h hp hn
theorem jE {f : FuncId} {fn : Func} {c : Code} {args : List Value} {R : Value → Prop} (E0 : bS) (hf : adz.funcs[f]? = some fn) (hn : fn.ntmps = n)
    (h : ∀ B,B.W = [] → Nx n [] E0 B G [] (cu adz (.code c) [] (bp adz fn (eZ B (fun v G' L'=>G' = G ∧ L' = [] ∧ R v))))) (hb : fn.body = some c:=by exact rfl) (hok : eY adz f = true:=by kernel_rfl) (hlen : Nat.ble args.length n = true:=by exact rfl) (hE : iG E0 (params 0 args):=by repeat' constructor) : a9 adz f args G R:=zD E0 hf hok hn hb hlen hE h
theorem jB {f : FuncId} {fn : Func} {c : Code} {args : List Value} {Post : Value → Gh → List Own → Prop} (E0 : bS) (hf : adz.funcs[f]? = some fn) (hn : fn.ntmps = n)
    (h : ∀ B,BOk B → B.G = G → B.W = cM L → Nx n [] E0 B G L (cu adz (.code c) [] (bp adz fn (eZ B Post)))) (hb : fn.body = some c:=by exact rfl) (hok : eY adz f = true:=by kernel_rfl) (hlen : Nat.ble args.length n = true:=by exact rfl) (hE : iG E0 (params 0 args):=by repeat' constructor) : Fn adz f args G L Post:=aaz E0 hf hok hn hb hlen hE h
theorem jH {f : FuncId} {fn : Func} {c : Code} {args : List Value} {R : Value → List Own → Prop} (E0 : bS) (hf : adz.funcs[f]? = some fn) (hn : fn.ntmps = n)
    (h : ∀ B,B.G = G → B.W = cM L → Nx n [] E0 B G L (cu adz (.code c) [] (bp adz fn (eZ B (fun v G' L'=>G' = G ∧ R v L'))))) (hb : fn.body = some c:=by exact rfl) (hok : eY adz f = true:=by kernel_rfl) (hlen : Nat.ble args.length n = true:=by exact rfl) (hE : iG E0 (params 0 args):=by repeat' constructor) : dF adz f args G L R:=zR E0 hf hok hn hb hlen hE h
theorem jK {ops : Array Oper} {G0 : Gh} {L0 : List Own} {fuel : Nat} {listed : Array Bool} (listed' : Array Bool) (h : Nx n D E B G L (xA adz ops Q (cC B G0 L0) fuel listed')) (hG : Gh.le G0 G:=by first | exact Gh.le.refl _ | assumption) (hL : L0.Sublist L:=by repeat (first | exact List.Sublist.refl _ | exact List.nil_sublist _ | apply List.Sublist.cons_cons | apply List.Sublist.cons)) (hl : (listed == listed') = true:=by kernel_rfl) : Nx n D E B G L (xK adz ops Q (cC B G0 L0) fuel listed):=adb hG hL hl h
theorem jS {ops : Array Oper} {G0 : Gh} {L0 : List Own} {fuel : Nat} {listed : Array Bool} (listed' : Array Bool) (h : Nx n D E B G L (xA adz ops Q (cC B G L) fuel listed')) (hG : Gh.le G0 G:=by first | exact Gh.le.refl _ | assumption) (hL : L0.Sublist L:=by repeat (first | exact List.Sublist.refl _ | exact List.nil_sublist _ | apply List.Sublist.cons_cons | apply List.Sublist.cons)) (hl : (listed == listed') = true:=by kernel_rfl) : Nx n D E B G L (xK adz ops Q (cC B G0 L0) fuel listed):=ada hG hL hl h
theorem jA {ops : List Oper} {S : World → Prop} {fuel : Nat} {listed : Array Bool} (i : Nat) {o : Oper} (hi : ops.toArray[i]? = some o) (h : Nx n D E B G L (ow adz o Q (xK adz ops.toArray Q S fuel (listed.setIfInBounds i true)))) (hr : Region.ready .any ops.toArray listed = [i]:=by kernel_rfl) (hgu : s6 E ops o = some true:=by exact rfl) : Nx n D E B G L (xA adz ops.toArray Q S (fuel + 1) listed) :=
  b8 [i] hr (by simp) ⟨aO hi hgu h,trivial⟩
theorem jZ {fn : Func} {rs : List ResultVar} {vs : List Value} {v : Value} {L' : List Own} {Post : Value → Gh → List Own → Prop} (hr : fn.results = rs.toArray) (h : lk adz (St B G L) E rs vs) (hv : gE vs = v) (hP : Post v G L')
    (hL : L'.Sublist L:=by exact List.nil_sublist _) : Nx n [] E B G L (cu adz (.exit .ret) [] (bp adz fn (eZ B Post))):=aW hr h hv hL hP
theorem jX {E' : bS} {c c' : Cu} {k k' : List Fr} {p' : List Prop} (hn : Nx n D E' B G L (cu adz c' k' Q)) (h : sk tb n 400 E c k = some ⟨E',c',k',p'⟩:=by exact rfl) (hp : iV p':=by (repeat' (first | exact trivial | apply And.intro | omega | assumption | (simp only [List.length_append,List.length_cons,List.length_nil,Int.toNat_natCast];omega) | (simp only [List.length_append,List.length_cons,List.length_nil,List.length_take,List.length_drop];omega) | (with_reducible exact (rY _ _).1) | (with_reducible exact (rY _ _).2)));done) : Nx n D E B G L (cu adz c k Q):=run 400 h hp hn
theorem jW [PQ Q] {ops : List Oper} {G0 : Gh} {L0 : List Own} (fuel : Nat) (is : List Nat) {E' : bS} {p' : List Prop} {fuel' : Nat} {listed : Array Bool} (listed' : Array Bool) (hn : Nx n D E' B G L (xA adz ops.toArray Q (cC B G0 L0) fuel listed'))
    (hf : Nat.beq (fuel + is.length) fuel' = true:=by exact rfl) (h : iW tb n ops is E [] = some (E',p'):=by exact rfl) (hsel : Region.noSelect ops.toArray = true:=by kernel_rfl) (hb : mP ops.toArray is listed listed' = true:=by kernel_rfl)
    (hG : Gh.le G0 G:=by first | exact Gh.le.refl _ | assumption) (hL : L0.Sublist L:=by repeat (first | exact List.Sublist.refl _ | exact List.nil_sublist _ | apply List.Sublist.cons_cons | apply List.Sublist.cons)) (hp : iV p':=by (repeat' (first | exact trivial | apply And.intro | omega | assumption | (simp only [List.length_append,List.length_cons,List.length_nil,Int.toNat_natCast];omega) | (simp only [List.length_append,List.length_cons,List.length_nil,List.length_take,List.length_drop];omega) | (with_reducible exact (rY _ _).1) | (with_reducible exact (rY _ _).2)));done) : Nx n D E B G L (xA adz ops.toArray Q (cC B G0 L0) fuel' listed):=vm is listed' hsel hb hf h hG hL hp hn
section
variable {d : Nat} {ty : TypeId} {pos : String} {aft : Array Edge} {gd : Option (Nat × Bool)} {K2 : Act → World → Prop}
theorem aD {T T0 : TypeId} {x : Operand} {desc : TypeDesc} {size bytes : Nat} {zero : Value} {b o : Nat} {v : Value} {cs : List Value} {fr : Nat × Nat} [TI adz T desc size bytes zero] [BlkI L b cs T0 fr] (hx : ev E x = some (Pt b o)) (k : Nx n D ((d,v) :: E) B G L K)
    (ha : dR desc = false:=by exact rfl) (hc : cs[o]? = some v:=by exact rfl) (hlt : Nat.blt d n = true:=by exact rfl) : Nx n D E B G L (ow adz ⟨some d,.load T x,ty,pos,aft,gd⟩ Q K):=k6 (aX hx ha hc) rfl hlt k
theorem bM {T T0 : TypeId} {x : Operand} {desc : TypeDesc} {size bytes : Nat} {zero : Value} {b o : Nat} {vs : List Value} {cs : List Value} {fr : Nat × Nat} [TI adz T desc size bytes zero] [BlkI L b cs T0 fr] (hx : ev E x = some (Pt b o)) (k : Nx n D ((d,Ag vs) :: E) B G L K)
    (ha : dR desc = true:=by exact rfl) (hc : nN cs o size = some vs:=by exact rfl) (hl : Nat.beq vs.length size = true:=by exact rfl) (hlt : Nat.blt d n = true:=by exact rfl) : Nx n D E B G L (ow adz ⟨some d,.load T x,ty,pos,aft,gd⟩ Q K):=k6 (bP hx ha hc hl) rfl hlt k
theorem aM {c x y : Operand} {b : Bool} {v : Value} (hc : ev E c = some (.bool b)) (k : Nx n D ((d,v) :: E) B G L K) (hx : ev E x = some v:=by exact rfl) (hb : b = true:=by exact rfl) (hlt : Nat.blt d n = true:=by exact rfl) : Nx n D E B G L (ow adz ⟨some d,.pick c x y,ty,pos,aft,gd⟩ Q K):=k6 (bO hc hx hb) rfl hlt k
theorem aC {c x y : Operand} {b : Bool} {v : Value} (hc : ev E c = some (.bool b)) (k : Nx n D ((d,v) :: E) B G L K) (hy : ev E y = some v:=by exact rfl) (hb : b = false:=by exact rfl) (hlt : Nat.blt d n = true:=by exact rfl) : Nx n D E B G L (ow adz ⟨some d,.pick c x y,ty,pos,aft,gd⟩ Q K):=k6 (bm hc hy hb) rfl hlt k
theorem jC {T T0 : TypeId} {x y : Operand} {desc : TypeDesc} {size bytes : Nat} {zero : Value} {b o : Nat} {cs vs cs' : List Value} {fr : Nat × Nat} {L' : List Own} [TI adz T desc size bytes zero] [BlkI L b cs T0 fr] [hu : UpdI b cs' L cs T0 L'] (hx : ev E x = some (Pt b o)) (hy : ev E y = some (Ag vs)) (hp : gY cs o vs = some cs') (k : Nx n D E B G L' K)
    (hl : Nat.beq vs.length size = true:=by exact rfl) (hne : vs.isEmpty = false:=by exact rfl) (h1 : eg vs = true:=by exact rfl) : Nx n D E B G L (ow adz ⟨none,.store T x y,ty,pos,aft,gd⟩ Q K):=acB hx hy hl hne h1 hp k
theorem jD {T T0 : TypeId} {x y : Operand} {desc : TypeDesc} {bytes : Nat} {zero v : Value} {b o : Nat} {cs cs' : List Value} {fr : Nat × Nat} {L' : List Own} [TI adz T desc 1 bytes zero] [BlkI L b cs T0 fr] [hu : UpdI b cs' L cs T0 L'] (hx : ev E x = some (Pt b o)) (hy : ev E y = some v) (hp : gY cs o [v] = some cs') (k : Nx n D E B G L' K) (h1 : v.oneCell' = true:=by exact rfl) : Nx n D E B G L (ow adz ⟨none,.store T x y,ty,pos,aft,gd⟩ Q K):=acC hx hy h1 hp k
end
theorem jY {fn : Func} {rs : List ResultVar} {vs : List Value} {R : Value → Prop} (hP : R (gE vs)) (hr : fn.results = rs.toArray:=by exact rfl) (h : lk adz (St B G L) E rs vs:=by repeat' (first | exact trivial | refine ⟨rfl,?_⟩)) : Nx n [] E B G L (cu adz (.exit .ret) [] (bp adz fn (eZ B (fun v G' L'=>G' = G ∧ L' = [] ∧ R v)))):=aW hr h rfl (List.nil_sublist _) ⟨rfl,rfl,hP⟩
theorem jo {a l : List Oper} {i : Nat} {pm : List Nat} {o : Oper} (h : Nx n D E B G L (ow adz o (kk adz k Q) (cu adz (.ops a l (i + 1) pm) k Q))) (hg : oy E a pm o = some true:=by exact rfl) : Nx n D E B G L (cu adz (.ops a (o :: l) i pm) k Q):=vG hg h
section
variable {d : Nat} {ty : TypeId} {pos : String} {aft : Array Edge} {gd : Option (Nat × Bool)}
theorem jF {T el : TypeId} {len : Nat} {ps : List (Nat × Operand)} {qs : List (Nat × List Value)} {desc : TypeDesc} {size bytes size' bytes' : Nat} {zero zero' : Value} {zs cs : List Value} [TI adz T (.slice el) size' bytes' zero'] [TI adz el desc size bytes zero] (k : ∀ b,Nx n D ((d,.slice (some ⟨b,0,none⟩) len len) :: E) B G (.blk b (.cells cs.toArray el (0,0)) :: L) K) (hz : eW zero = some zs:=by exact rfl)
    (hsz : Nat.beq zs.length size = true:=by exact rfl) (he : rB E ps = some qs:=by exact rfl) (hf : pZ (jy (qk size) (cj zs len) qs) = some cs:=by exact rfl) (hsm : Nat.ble (len * size) 16777216 = true:=by exact rfl) (hlt : Nat.blt d n = true:=by exact rfl) : Nx n D E B G L (ow adz ⟨some d,.buildSlice T len ps.toArray,ty,pos,aft,gd⟩ Q K):=acN hz hsz hsm hlt he hf k
theorem jL {T : TypeId} {desc : TypeDesc} {size bytes : Nat} {zero : Value} {cs : List Value} [TI adz T desc size bytes zero] (k : ∀ b,Nx n D ((d,Pt b 0) :: E) B G (.blk b (.cells cs.toArray T (0,0)) :: L) K) (hz : eW zero = some cs:=by exact rfl) (hlt : Nat.blt d n = true:=by exact rfl) : Nx n D E B G L (ow adz ⟨some d,.alloc T,ty,pos,aft,gd⟩ Q K):=adp hz hlt k
theorem jO {T : TypeId} {x : Operand} {v : Value} {cs : List Value} (k : ∀ b,Nx n D ((d,Pt b 0) :: E) B G (.blk b (.cells cs.toArray T (0,0)) :: L) K) (hx : ev E x = some v:=by exact rfl) (hz : eW v = some cs:=by exact rfl) (hlt : Nat.blt d n = true:=by exact rfl) : Nx n D E B G L (ow adz ⟨some d,.box T x,ty,pos,aft,gd⟩ Q K):=ado hx hz hlt k
end
theorem jQ {ops : Array Oper} {S : World → Prop} {fuel : Nat} {listed : Array Bool} (h : Nx n D E B G L (cu adz (.exit .normal) k Q)) (hr : Region.ready .any ops listed = []:=by kernel_rfl) : Nx n D E B G L (xA adz ops (kk adz k Q) S fuel listed):=aaD hr (adm h)
theorem zA {α : Type _} {a : α} {l m : List α} : a :: l ++ m = a :: (l ++ m):=rfl
theorem fA {α : Type _} {l : List α} : [] ++ l = l:=rfl
end
set_option maxRecDepth 20000
set_option maxHeartbeats 2000000
def num (n : Nat) : adA:=if h : n < 128 then [u8 n] else u8 (128 + n % 128 : Nat) :: num (n / 128)
termination_by n
decreasing_by omega
def aa0 (n : Int) : adA:=num n.toNat
def aaM (n : Int) : adA → Int
 | []=>n
 | c :: l=>aaM ((n * 31 + (c.toNat : Int)) % 9973) l
def adi (l : adA) : Int:=aaM 1 l
theorem lD {l : adA} {i : Nat} (h : i < l.length) : ∃ c : UInt8,l.drop i = c :: l.drop (i + 1) ∧ bt l i = c.toNat:=by
 refine ⟨l[i],(List.getElem_cons_drop (h:=h)).symm,?_⟩
 simp [bt,List.getD,List.getElem?_eq_getElem h]
def frame (s : adA) : adA:=[u8 126] ++ aa0 s.length ++ s ++ aa0 (adi s)
variable {G : Gh}
theorem abT {n lo hi : Int} : a9 adz 152 [I n,I lo,I hi] G (· = Bo (decide (lo ≤ n) && decide (n ≤ hi))):=by
 refine jE [(0,_),(1,_),(2,_)] Tryz.func152 Tryz.ntmps152 fun B hB=>?_
 repeat' (first | refine jR ?_ | (refine jo ?_;first | refine aM rfl ?_ | refine aC rfl ?_) | refine fp rfl rfl (fun _=>?_) (fun _=>?_))
 all_goals refine jY (vs:=[_]) ?_
 all_goals (rw [aP];simp [*])
def qt (xs : List adA) : List Value:=xs.map fun x=>S x
theorem q8 (xs : List adA) (x : adA) : qt (xs ++ [x]) = qt xs ++ [S x]:=by simp [qt]
abbrev vq : TypeId:=9
theorem bc {α : Type} [Inhabited α] {a : List α} {i : Nat} (h : i < a.length) : ab a i ∈ a:=by rw [aA h];exact List.getElem_mem h
theorem nT {α : Type} [Inhabited α] {a : List α} {x : α} (h : x ∈ a) : ∃ i,i < a.length ∧ ab a i = x:=by
 obtain ⟨i,hi,e⟩:=List.mem_iff_getElem.1 h
 exact ⟨i,hi,by rw [aA hi,e]⟩
theorem pR (p s : adA) : p.isPrefixOf s = decide (p.length ≤ s.length ∧ s.take p.length = p):=by
 by_cases h : p <+: s
 ·have h1:=List.isPrefixOf_iff_prefix.2 h
  rw [h1];obtain ⟨r,rfl⟩:=h;simp
 ·have h1 : p.isPrefixOf s = false:=by
   cases hb : p.isPrefixOf s with
   | false=>rfl
   | true=>exact absurd (List.isPrefixOf_iff_prefix.1 hb) h
  rw [h1];symm;refine decide_eq_false fun ⟨_,h3⟩=>h ?_
  rw [← h3];exact List.take_prefix _ _
theorem iD {s p : adA} : a9 adz 115 [S s,S p] G (· = Bo (p.isPrefixOf s)):=by
 rw [pR]
 refine jE [(0,_),(1,_)] Tryz.func115 Tryz.ntmps115 fun B hB=>?_
 repeat' (first | refine jM ?_ | (refine jo ?_;first | refine aM rfl ?_ | refine aC rfl ?_) | refine fp rfl rfl (fun _=>?_) (fun _=>?_))
 all_goals refine jY (vs:=[_]) ?_
 all_goals (rw [aP];simp;omega)
theorem i9 {s p : adA} : a9 adz 81 [S s,S p] G (· = Bo (p.isPrefixOf s)):=by
 refine jE [(0,_),(1,_)] Tryz.func81 Tryz.ntmps81 fun B hB=>?_
 repeat' (first | refine jR ?_ | (refine jo ?_;refine ae rfl rfl rfl iD rfl ?_))
 all_goals refine jY (vs:=[_]) ?_
 all_goals rfl
def kT (c : UInt8) : Bool:=decide (97 ≤ c.toNat ∧ c.toNat ≤ 122)
def cP (s : adA) : Bool:=s.all kT && decide (1 ≤ s.length ∧ s.length ≤ 3)
def eV : adA → Bool
 | []=>false
 | c :: r=>if c.toNat = 91 ∨ c.toNat = 63 then eV r
  else if c.toNat = 64 then decide (((bt (c :: r) r.length : Nat) : Int) = 59) && cP (r.take (r.length - 1))
  else decide (r = []) && (decide (c.toNat = 110) || decide (c.toNat = 116) || decide (c.toNat = 102))
def bU (s : adA) : Bool:=decide (s.length ≤ 12) && eV s
def bN : adA → adA
 | []=>[]
 | c :: r=>if c.toNat = 91 ∨ c.toNat = 63 then bN r else c :: r
theorem uM {s : adA} {i : Nat} (h : i < s.length) (h2 : ¬ (97 ≤ bt s i ∧ bt s i ≤ 122)) : cP s = false:=by
 have e : bt s i = (s[i]).toNat:=by simp [bt,List.getD,List.getElem?_eq_getElem h]
 have : s.all kT = false:=by
  rw [List.all_eq_false]
  exact ⟨s[i],List.getElem_mem h,by rw [e] at h2;simpa [kT] using h2⟩
 rw [cP,this,Bool.false_and]
theorem xV {s : adA} (h : ∀ i,i < s.length → 97 ≤ bt s i ∧ bt s i ≤ 122) : cP s = decide (1 ≤ s.length ∧ s.length ≤ 3):=by
 have : s.all kT = true:=by
  rw [List.all_eq_true]
  intro c hc
  obtain ⟨i,hi,rfl⟩:=List.mem_iff_getElem.1 hc
  have e : bt s i = (s[i]).toNat:=by simp [bt,List.getD,List.getElem?_eq_getElem hi]
  have:=h i hi
  rw [e] at this
  simpa [kT] using this
 rw [cP,this,Bool.true_and]
def rI (n : Nat) : adA:=if h : n < 10 then [u8 (48 + n : Nat)] else rI (n / 10) ++ [u8 (48 + n % 10 : Nat)]
termination_by n
decreasing_by omega
def bI (n : Int) : adA:=rI n.toNat
theorem d9 {n : Int} (h : n < 10) (h0 : 0 ≤ n) : bI n = [u8 (48 + n)]:=by
 unfold bI;rw [rI,dif_pos oM];congr 1;congr 1;omega
theorem j6 {n : Int} (h : ¬ n < 10) : bI n = bI (n / 10) ++ [u8 (48 + n % 10)]:=by
 unfold bI;rw [rI,dif_neg oM]
 have e1 : n.toNat / 10 = (n / 10).toNat:=oM
 have e2 : ((48 + n.toNat % 10 : Nat) : Int) = 48 + n % 10:=oM
 rw [e1,e2]
theorem uV (n : Nat) : ∀ k,n < 10 ^ (k + 1) → (rI n).length ≤ k + 1:=by
 intro k
 induction k generalizing n with
 | zero=>intro h;rw [rI,dif_pos (by simpa using h)];simp
 | succ k ih =>
  intro h
  by_cases h1 : n < 10
  ·rw [rI,dif_pos h1];simp
  ·rw [rI,dif_neg h1]
   have:=ih (n / 10) (Nat.div_lt_of_lt_mul (by rw [Nat.pow_succ] at h;omega))
   simp;omega
theorem g7 {n : Int} (h : n ≤ 9223372036854775807) : (bI n).length ≤ 19:=uV _ 18 oM
theorem gA {s : adA} (h : s.length ≤ 9000000000000000000) : a9 adz 134 [S s] G (· = Bo (cP s)):=by
 refine jE [(0,_)] Tryz.func134 Tryz.ntmps134 fun B hB=>?_
 repeat' (refine jR ?_)
 refine aT (ι:=Nat) (fun i=>i ≤ s.length ∧ ∀ k,k < i → 97 ≤ bt s k ∧ bt s k ≤ 122) (fun i=>[(0,S s),(3,I i)]) (fun _=>G) (fun i=>[]) (fun i=>s.length - i) 0 ?_ tU rfl a7 (fun i Hi=>?_)
 ·exact ⟨oM,fun k hk=>absurd hk oM⟩
 by_cases hi : i < s.length
 ·repeat' (first | refine jM ?_ | (refine jo ?_;first | refine aM rfl ?_ | refine aC rfl ?_) | refine fp rfl rfl (fun _=>?_) (fun _=>?_) | (refine ac rfl (by first | rfl | (refine decide_eq_true ?_;(omega))) ?_) | refine eD rfl (fun _=>?_) (fun _=>?_))
  ·rename_i hc
   refine jY (vs:=[_]) ?_
   have hc : ((bt s i : Nat) : Int) < 97:=hc
   rw [aP,uM hi oM]
  ·rename_i _ hc
   refine jY (vs:=[_]) ?_
   have hc : (122 : Int) < ((bt s i : Nat) : Int):=hc
   rw [aP,uM hi oM]
  ·rename_i h1 h2
   have h1 : ¬ ((bt s i : Nat) : Int) < 97:=h1
   have h2 : ¬ (122 : Int) < ((bt s i : Nat) : Int):=h2
   refine bh (i + 1) ⟨oM,fun k hk=>?_⟩ oM tU rfl a7
   rcases Nat.lt_or_ge k i with h3 | h3
   ·exact Hi.2 k h3
   ·have : k = i:=oM
    subst this;omega
 ·repeat' (first | refine jR ?_ | (refine jo ?_;refine ae rfl rfl rfl abT rfl ?_) | refine ad rfl (aG oM) ?_)
  refine jY (vs:=[_]) ?_
  rw [aP,xV fun k hk=>Hi.2 k oM]
  refine congrArg Bo ?_
  rw [Bool.decide_and]
  exact congr (congrArg and (decide_eq_decide.2 oM)) (decide_eq_decide.2 oM)
theorem mH (c : UInt8) (r : adA) : bt (c :: r) 0 = c.toNat:=by simp [bt,List.getD]
theorem aar {c : UInt8} {r : adA} (h : r ≠ []) (hl : r.length ≤ 1000000) : a9 adz 97 [S (c :: r)] G (· = Tu [S (if c.toNat = 64 then r.take (r.length - 1) else []),Bo (decide (c.toNat = 64))]):=by
 have hp:=List.length_pos_iff.2 h
 have e0:=mH c r
 refine jE [(0,_)] Tryz.func97 Tryz.ntmps97 fun B hB=>?_
 repeat' (first | refine jX ?_ | refine eD rfl (fun _=>?_) (fun _=>?_))
 ·rename_i hc
  refine jY (vs:=[_,_]) ?_
  have hc : ((bt (c :: r) 0 : Nat) : Int) ≠ 64:=hc
  have hc : ¬ c.toNat = 64:=oM
  rw [gu,if_neg hc,decide_eq_false hc]
 ·rename_i hc
  refine jY (vs:=[_,_]) ?_
  have hc : ¬ ((bt (c :: r) 0 : Nat) : Int) ≠ 64:=hc
  have hc : c.toNat = 64:=oM
  have e : ((((c :: r).length : Nat) : Int) - 1).toNat = (r.length - 1) + 1:=by simp only [List.length_cons];omega
  rw [gu,if_pos hc,decide_eq_true hc,e,List.take_succ_cons];rfl
theorem nH {s : adA} : a9 adz 96 [S s] G (· = Bo (bU s)):=by
 induction s with
 | nil =>
  refine jE [(0,_)] Tryz.func96 Tryz.ntmps96 fun B hB=>?_
  repeat' (first | refine jR ?_ | (refine jo ?_;refine aC rfl ?_) | refine ar rfl rfl rfl ?_ | refine ac rfl rfl ?_)
  all_goals refine jY (vs:=[_]) ?_
  all_goals rfl
 | cons c r ih =>
  have e0 : bt (c :: r) (Int.toNat 0) = c.toNat:=mH c r
  by_cases hl : (c :: r).length ≤ 12
  ·have hl2 : r.length ≤ 12:=by simp at hl;omega
   rw [bU,decide_eq_true hl,Bool.true_and,eV]
   rw [bU,decide_eq_true hl2,Bool.true_and] at ih
   have hcons : (c :: r).length = r.length + 1:=rfl
   by_cases h1 : c.toNat = 91
   ·rw [if_pos (.inl h1)]
    refine jE [(0,_)] Tryz.func96 Tryz.ntmps96 fun B hB=>?_
    repeat' (first | refine jM ?_ | (refine jo ?_;first | refine aC rfl ?_ | refine ae rfl rfl rfl ih rfl ?_) | refine ar rfl rfl (aG oM) ?_ | refine ac rfl (ay oM) ?_ | refine ad rfl rfl ?_)
    refine jY (vs:=[_]) ?_
    rfl
   by_cases h2 : c.toNat = 63
   ·rw [if_pos (.inr h2)]
    refine jE [(0,_)] Tryz.func96 Tryz.ntmps96 fun B hB=>?_
    repeat' (first | refine jM ?_ | (refine jo ?_;first | refine aC rfl ?_ | refine ae rfl rfl rfl ih rfl ?_) | refine ar rfl rfl (aG oM) ?_ | refine ac rfl (ay oM) ?_ | (refine ad rfl (by first | rfl | (refine decide_eq_false ?_;(omega))) ?_))
    refine jY (vs:=[_]) ?_
    rfl
   rw [if_neg oM]
   by_cases h3 : c.toNat = 64
   ·rw [if_pos h3]
    have h5 : ((((c :: r).length : Nat) : Int) - 1).toNat = r.length:=oM
    by_cases h4 : ((bt (c :: r) r.length : Nat) : Int) = 59
    ·have h6 : ((bt (c :: r) ((((c :: r).length : Nat) : Int) - 1).toNat : Nat) : Int) = 59:=by rw [h5];exact h4
     have hp : 0 < r.length:=by
      rcases Nat.eq_zero_or_pos r.length with h0 | h0
      ·have : r = []:=List.length_eq_zero_iff.1 h0
       subst this
       have : ((bt [c] (Int.toNat 0) : Nat) : Int) = 59:=h4
       omega
      ·exact h0
     have e1 : ((((c :: r).length : Nat) : Int) - 1).toNat = (r.length - 1) + 1:=oM
     refine jE [(0,_)] Tryz.func96 Tryz.ntmps96 fun B hB=>?_
     repeat' (first | refine jM ?_ | (refine jo ?_;first | refine aM rfl ?_ | refine aC rfl ?_ | (refine ae rfl rfl rfl (gA ?_) rfl ?_;(focus ((simp;omega);done)))) | refine aF rfl rfl (ay ‹_›) ?_ | refine ar rfl rfl (aG oM) ?_ | refine ac rfl (ay oM) ?_ | (refine ad rfl (by first | rfl | (refine decide_eq_false ?_;(omega))) ?_))
     refine jY (vs:=[_]) ?_
     rw [aP,decide_eq_true h4,Bool.true_and,e1,List.take_succ_cons];rfl
    ·have h6 : ¬ ((bt (c :: r) ((((c :: r).length : Nat) : Int) - 1).toNat : Nat) : Int) = 59:=by rw [h5];exact h4
     refine jE [(0,_)] Tryz.func96 Tryz.ntmps96 fun B hB=>?_
     repeat' (first | refine jM ?_ | (refine jo ?_;refine aC rfl ?_) | (refine ar rfl rfl (by refine decide_eq_false ?_;first | assumption | omega) ?_) | refine ac rfl (ay oM) ?_ | (refine ad rfl (by first | rfl | (refine decide_eq_false ?_;(omega))) ?_))
     refine jY (vs:=[_]) ?_
     rw [aP,decide_eq_false h4,Bool.false_and]
   ·rw [if_neg h3]
    have n1 : ∀ x : UInt8,(c :: r = [x]) = (c.toNat = x.toNat ∧ r = []):=fun x=>by
     rw [List.cons.injEq];exact propext ⟨fun h=>⟨by rw [h.1],h.2⟩,fun h=>⟨UInt8.toNat_inj.1 h.1,h.2⟩⟩
    refine jE [(0,_)] Tryz.func96 Tryz.ntmps96 fun B hB=>?_
    repeat' (first | refine jM ?_ | (refine jo ?_;first | refine aM rfl ?_ | refine aC rfl ?_) | refine aF rfl rfl rfl ?_ | refine ar rfl rfl (aG oM) ?_ | refine fp rfl rfl (fun _=>?_) (fun _=>?_) | (refine ad rfl (by first | rfl | (refine decide_eq_false ?_;(omega))) ?_))
    all_goals refine jY (vs:=[_]) ?_
    all_goals rw [aP]
    ·rename_i h;rw [n1] at h;rw [decide_eq_true h.2,decide_eq_true (p:=c.toNat = 110) h.1];rfl
    ·rename_i h;rw [n1] at h;rw [decide_eq_true h.2,decide_eq_true (p:=c.toNat = 116) h.1];simp
    ·rename_i ha hb
     refine congrArg Bo ?_
     rw [n1] at ha hb
     simp only [n1]
     by_cases hr : r = []
     ·have hx : ¬ c.toNat = 110:=fun h=>ha ⟨h,hr⟩
      have hy : ¬ c.toNat = 116:=fun h=>hb ⟨h,hr⟩
      simp [hr,hx,hy]
     ·simp [hr]
  ·rw [bU,decide_eq_false hl,Bool.false_and]
   refine jE [(0,_)] Tryz.func96 Tryz.ntmps96 fun B hB=>?_
   repeat' (first | refine jR ?_ | (refine jo ?_;refine aM rfl ?_) | refine aF rfl rfl (ay oM) ?_ | refine ac rfl rfl ?_)
   all_goals refine jY (vs:=[_]) ?_
   all_goals rfl
theorem tL {s : adA} (h : eV s = true) : a9 adz 98 [S s] G (· = S (bN s)):=by
 refine jE [(0,_)] Tryz.func98 Tryz.ntmps98 fun B hB=>?_
 repeat' (refine jR ?_)
 refine aT (ι:=adA) (fun t=>eV t = true ∧ bN t = bN s) (fun t=>[(0,S t)]) (fun _=>G) (fun t=>[]) (fun t=>t.length) s ?_ tU rfl a7 (fun t Ht=>?_)
 ·exact ⟨h,rfl⟩
 match t,Ht with
 | c :: r,Ht =>
  have e0 : bt (c :: r) (Int.toNat 0) = c.toNat:=mH c r
  have hcons : (c :: r).length = r.length + 1:=rfl
  by_cases h1 : c.toNat = 91 ∨ c.toNat = 63
  ·have hk : eV r = true:=by have:=Ht.1;rw [eV,if_pos h1] at this;exact this
   have hc : bN r = bN s:=by rw [← Ht.2,bN,if_pos h1]
   rcases h1 with h1 | h1
   all_goals repeat' (first | refine jM ?_ | (refine jo ?_;first | refine aM rfl ?_ | refine aC rfl ?_) | refine aF rfl rfl (ay oM) ?_ | refine ar rfl rfl (aG oM) ?_ | (refine ac rfl (by first | rfl | (refine decide_eq_true ?_;(omega))) ?_))
   all_goals exact bh r ⟨hk,hc⟩ oM tU rfl a7
  ·repeat' (first | refine jM ?_ | (refine jo ?_;refine aC rfl ?_) | refine ar rfl rfl (aG oM) ?_ | refine ad rfl (aG oM) ?_)
   refine jY (vs:=[_]) ?_
   rw [aP,← Ht.2,bN,if_neg h1]
theorem yr : ∀ (k : Nat) {n : Int},n.toNat ≤ k → 0 ≤ n ∧ n ≤ 9223372036854775807 → a9 adz 101 [I n] G (· = S (bI n)):=by
 intro k
 induction k with
 | zero =>
  intro n hk hn
  have h1 : n < 10:=oM
  refine jE [(0,_)] Tryz.func101 Tryz.ntmps101 fun B hB=>?_
  repeat' (first | refine jM ?_ | (refine jo ?_;first | refine jF fun _=>?_ | refine jV (iw rfl rfl (by (repeat (first | exact BL.nil | apply BL.cons));done)) ?_) | refine ac rfl (ay ‹_›) ?_ | refine ad rfl (aG oM) ?_)
  refine jY (vs:=[_]) ?_
  rw [aP,d9 h1 hn.1]
 | succ k ih =>
  intro n hk hn
  have hl:=g7 (n:=n / 10) oM
  by_cases h1 : n < 10
  ·refine jE [(0,_)] Tryz.func101 Tryz.ntmps101 fun B hB=>?_
   repeat' (first | refine jM ?_ | (refine jo ?_;first | refine jF fun _=>?_ | refine jV (iw rfl rfl (by (repeat (first | exact BL.nil | apply BL.cons));done)) ?_) | refine ac rfl (ay ‹_›) ?_ | refine ad rfl (aG oM) ?_)
   refine jY (vs:=[_]) ?_
   rw [aP,d9 h1 hn.1]
  ·refine jE [(0,_)] Tryz.func101 Tryz.ntmps101 fun B hB=>?_
   repeat' (first | refine jR ?_ | (refine ad rfl (by refine decide_eq_false ?_;first | assumption | omega) ?_) | (refine am (ao (id:=7) _ (fun _ h=>h) al ?_);refine jW 5 [0,1,3,4,5,6] (aa 11 123) ?_;refine b8 [2,7] kR dC ⟨?_,?_,trivial⟩;(focus (refine aO rfl rfl ?_;((refine ae rfl rfl rfl (ih ?_ ?_) rfl ?_;(focus omega);focus omega));refine jS (aa 11 127) ?_;refine jA 7 rfl ?_;(refine jF fun _=>?_);refine jS (aa 11 255) ?_;((refine jG (aa 11 511) 8 rfl (iw rfl rfl (by (repeat (first | exact BL.nil | apply BL.cons));done)) ?_));refine jW 0 [9,10] (aa 11 2047) ?_;refine jQ ?_));rotate_left 1;(focus (refine aO rfl rfl ?_;(refine jF fun _=>?_);refine jS (aa 11 251) ?_;((refine jG (aa 11 507) 8 rfl (iw rfl rfl (by (repeat (first | exact BL.nil | apply BL.cons));done)) ?_));refine jA 2 rfl ?_;((refine ae rfl rfl rfl (ih ?_ ?_) rfl ?_;(focus omega);focus omega));refine jS (aa 11 511) ?_;refine jW 0 [9,10] (aa 11 2047) ?_;refine jQ ?_));rotate_left 1))
   all_goals refine jY (vs:=[_]) ?_
   all_goals rw [aP,j6 (n:=n) h1]
theorem dD {n : Int} (hn : 0 ≤ n ∧ n ≤ 9223372036854775807) : a9 adz 101 [I n] G (· = S (bI n)):=yr n.toNat (Nat.le_refl _) hn
def gC (s : adA) : adA:=if s = [110] then [48] else if s = [116] then [39,39] else if s = [102] then [110,111] else []
theorem rN {s : adA} : a9 adz 144 [S s] G (· = S (gC s)):=by
 refine jE [(0,_)] Tryz.func144 Tryz.ntmps144 fun B hB=>?_
 repeat' (first | refine jR ?_ | refine eD rfl (fun _=>?_) (fun _=>?_))
 all_goals refine jY (vs:=[_]) ?_
 all_goals (rw [aP,gC];simp [*])
def jq (x : Nat) : Prop:=x = 32 ∨ (48 ≤ x ∧ x ≤ 57) ∨ (97 ≤ x ∧ x ≤ 122)
instance (x : Nat) : Decidable (jq x):=inferInstanceAs (Decidable (_ ∨ _))
def TxP (s : adA) : Prop:=(2 ≤ s.length ∧ s.length ≤ 14) ∧ bt s 0 = 39 ∧ bt s (s.length - 1) = 39 ∧ ∀ i,i < s.length - 1 → i = 0 ∨ jq (bt s i)
instance (s : adA) : Decidable (TxP s):=inferInstanceAs (Decidable (_ ∧ _ ∧ _ ∧ _))
def dW (s : adA) : Bool:=decide (TxP s)
theorem g8 {s : adA} (h : s.length ≤ 100000000) : a9 adz 120 [S s] G (· = Bo (dW s)):=by
 by_cases h1 : 2 ≤ s.length ∧ s.length ≤ 14
 case neg =>
  have e : dW s = false:=decide_eq_false fun x=>h1 x.1
  rw [e]
  refine jE [(0,_)] Tryz.func120 Tryz.ntmps120 fun B hB=>?_
  repeat' (first | refine jR ?_ | (refine jo ?_;first | refine aM rfl ?_ | refine aC rfl ?_) | (refine aF rfl rfl (by first | rfl | (refine decide_eq_true ?_;(omega))) ?_) | refine fp rfl rfl (fun _=>?_) (fun _=>?_) | refine ac rfl rfl ?_)
  all_goals refine jY (vs:=[_]) ?_
  all_goals rfl
 by_cases h2 : bt s 0 = 39
 case neg =>
  have e : dW s = false:=decide_eq_false fun x=>h2 x.2.1
  have h3 : ¬ bt s (Int.toNat 0) = 39:=h2
  rw [e]
  refine jE [(0,_)] Tryz.func120 Tryz.ntmps120 fun B hB=>?_
  repeat' (first | refine jM ?_ | (refine jo ?_;first | refine aM rfl ?_ | refine aC rfl ?_) | refine aF rfl rfl (ay oM) ?_ | refine ar rfl rfl (aG oM) ?_ | refine ac rfl rfl ?_)
  all_goals refine jY (vs:=[_]) ?_
  all_goals rfl
 have h3 : bt s (Int.toNat 0) = 39:=h2
 have h4 : (((s.length : Nat) : Int) - 1).toNat = s.length - 1:=oM
 by_cases h5 : bt s (s.length - 1) = 39
 case neg =>
  have e : dW s = false:=decide_eq_false fun x=>h5 x.2.2.1
  have h6 : ¬ bt s (((s.length : Nat) : Int) - 1).toNat = 39:=by rw [h4];exact h5
  rw [e]
  refine jE [(0,_)] Tryz.func120 Tryz.ntmps120 fun B hB=>?_
  repeat' (first | refine jM ?_ | (refine jo ?_;refine aC rfl ?_) | refine ar rfl rfl (aG oM) ?_ | refine ac rfl (ay oM) ?_)
  all_goals refine jY (vs:=[_]) ?_
  all_goals rfl
 have h6 : bt s (((s.length : Nat) : Int) - 1).toNat = 39:=by rw [h4];exact h5
 refine jE [(0,_)] Tryz.func120 Tryz.ntmps120 fun B hB=>?_
 repeat' (first | refine jM ?_ | (refine jo ?_;refine aC rfl ?_) | refine ar rfl rfl (aG oM) ?_ | refine ad rfl (aG oM) ?_)
 refine aT (ι:=Nat) (fun i=>(1 ≤ i ∧ i ≤ s.length - 1) ∧ ∀ k,k < i → k = 0 ∨ jq (bt s k)) (fun i=>[(0,S s),(3,I i)]) (fun _=>G) (fun i=>[]) (fun i=>s.length - i) 1 ?_ tU rfl a7 (fun i Hi=>?_)
 ·exact ⟨⟨Nat.le_refl _,oM⟩,fun k hk=>.inl oM⟩
 by_cases hi : i < s.length - 1
 ·by_cases ht : jq (bt s i)
  ·have ht2 : jq (bt s ((i : Int).toNat)):=ht
   unfold jq at ht2
   repeat' (first | refine jM ?_ | (refine jo ?_;first | refine aM rfl ?_ | refine aC rfl ?_) | (refine ar rfl rfl (by first | rfl | (refine decide_eq_false ?_;(omega))) ?_) | refine fp rfl rfl (fun _=>?_) (fun _=>?_) | refine ac rfl (ay oM) ?_ | (refine ad rfl (by first | rfl | (refine decide_eq_false ?_;(omega))) ?_))
   all_goals refine bh (i + 1) ⟨⟨oM,oM⟩,fun k hk=>?_⟩ oM tU rfl a7
   all_goals (rcases Nat.lt_or_ge k i with h7 | h7;· exact Hi.2 k h7)
   all_goals (have : k = i:=by omega)
   all_goals (subst this;exact .inr ht)
  ·have ht2 : ¬ jq (bt s ((i : Int).toNat)):=ht
   unfold jq at ht2
   have e : dW s = false:=decide_eq_false fun x=>(x.2.2.2 i hi).elim (fun h8=>by omega) ht
   rw [e]
   repeat' (first | refine jM ?_ | (refine jo ?_;first | refine aM rfl ?_ | refine aC rfl ?_) | (refine aF rfl rfl (by first | rfl | (refine decide_eq_true ?_;(omega))) ?_) | refine fp rfl rfl (fun _=>?_) (fun _=>?_) | (refine ac rfl (by first | rfl | (refine decide_eq_true ?_;(omega))) ?_))
   all_goals refine jY (vs:=[_]) ?_
   all_goals rfl
 ·have e : dW s = true:=decide_eq_true ⟨h1,h2,h5,fun k hk=>Hi.2 k oM⟩
  rw [e]
  repeat' (first | refine jM ?_ | refine ad rfl (aG oM) ?_)
  refine jY (vs:=[_]) ?_
  rfl
def eo (k : Nat) (acc : adA) : adA → List adA
 | []=>[acc]
 | c :: r=>if c.toNat = k then acc :: eo k [] r else eo k (acc ++ [c]) r
def aZ (k : Nat) (s : adA) : List adA:=eo k [] s
theorem vb {s : adA} {k : Nat} (h : s.length ≤ 100000000) : dF adz 65 [S s,U8 k] G [] (fun v L'=>L' = [.acc v vq 1 (aZ k s).length (qt (aZ k s))] ∧ vk v (aZ k s).length):=by
 refine jH [(0,_),(1,_)] Tryz.func65 Tryz.ntmps65 fun B hB hW=>?_
 repeat' (first | refine jR ?_ | (refine jo ?_;refine jF fun _=>?_))
 rename_i x
 refine Nx.blkAcc (m:=0) (sz:=1) .here rfl ?_
 refine aT (ι:=Value × List adA × Nat × Nat) (fun i=>(i.2.2.1 ≤ i.2.2.2 ∧ i.2.2.2 ≤ s.length ∧ i.2.1.length ≤ i.2.2.2) ∧ i.2.1 ++ eo k ((s.take i.2.2.2).drop i.2.2.1) (s.drop i.2.2.2) = aZ k s) (fun i=>[(0,S s),(1,U8 k),(5,i.1),(6,I i.2.2.1),(7,I i.2.2.2)]) (fun _=>G) (fun i=>[.acc i.1 vq 1 i.2.1.length (qt i.2.1)]) (fun i=>s.length - i.2.2.2) (.slice (some ⟨x,0,none⟩) 0 0,[],0,0) ?_ tU rfl a7 (fun i Hi=>?_)
 ·exact ⟨⟨Nat.le_refl _,Nat.zero_le _,Nat.zero_le _⟩,rfl⟩
 obtain ⟨u,xs,fr,i⟩:=i
 dsimp only at Hi ⊢
 by_cases hi : i < s.length
 ·obtain ⟨c,hc1,hc2⟩:=lD hi
  have hn : s.drop i ≠ []:=by rw [hc1];simp
  have ht : (s.take (i + 1)).drop fr = (s.take i).drop fr ++ [c]:=by
   have e : s[i] = c:=by have:=List.getElem_cons_drop (h:=hi);rw [hc1] at this;exact (List.cons.inj this).1
   rw [List.take_succ_eq_append_getElem hi,e,List.drop_append_of_le_length (by simp;omega)]
  have hcut:=Hi.2
  rw [hc1,eo] at hcut
  by_cases hk : c.toNat = k
  ·have hk2 : bt s i = k:=oM
   rw [if_pos hk] at hcut
   repeat' (first | refine jM ?_ | (refine jo ?_;first | refine jF fun _=>?_ | refine v3 rfl rfl rfl rfl rfl rfl rfl rfl oM fun _=>?_) | (refine ac rfl ?_ ?_;(focus ((first | (refine decide_eq_true ?_;(omega)) | (simp [*];done));done))))
   refine bh (_,xs ++ [(s.take i).drop fr],i + 1,i + 1) ⟨⟨by dsimp only;omega,by dsimp only;omega,by simp;omega⟩,?_⟩ (by dsimp only;omega) tU rfl (by dsimp only;simp only [q8,List.length_append,List.length_cons,List.length_nil,Nat.zero_add];repeat (first | exact List.nil_sublist _ | apply List.Sublist.cons_cons))
   have e0 : (s.take (i + 1)).drop (i + 1) = []:=by simp
   dsimp only;rw [e0,← hcut];simp
  ·have hk2 : ¬ bt s i = k:=oM
   rw [if_neg hk] at hcut
   repeat' (first | refine jM ?_ | refine ac rfl (ay oM) ?_ | (refine ad rfl ?_ ?_;(focus ((simp;omega);done))))
   refine bh (u,xs,fr,i + 1) ⟨⟨by dsimp only;omega,by dsimp only;omega,by dsimp only;omega⟩,?_⟩ (by dsimp only;omega) tU rfl a7
   dsimp only;rw [ht];exact hcut
 ·have e : aZ k s = xs ++ [s.drop fr]:=by
   have ei : i = s.length:=oM
   rw [← Hi.2,ei,List.take_length,List.drop_length];rfl
  repeat' (first | refine jM ?_ | (refine jo ?_;first | refine jF fun _=>?_ | refine v3 rfl rfl rfl rfl rfl rfl rfl rfl oM fun _=>?_) | refine ad rfl (aG oM) ?_)
  refine Nx.shp (.head _) fun hsh=>aW (vs:=[_]) rfl ⟨rfl,trivial⟩ rfl (List.Sublist.cons_cons _ (List.nil_sublist _)) ⟨rfl,?_,?_⟩
  ·rw [e,q8,List.length_append];rfl
  ·rw [e,List.length_append];exact hsh
def dm (n : Int) : adA → Option Int
 | []=>some n
 | c :: r=>if 48 ≤ c.toNat ∧ c.toNat ≤ 57 then dm (10 * n + ((c.toNat : Int) - 48)) r else none
def aK (s : adA) (top : Int) : Option Int :=
 if s.length ≤ 6 then
  match dm 0 s with
  | some n=>if s = bI n ∧ n ≤ top then some n else none
  | none=>none
 else none
theorem xN (i : Nat) (hi : i ≤ 5) : (10 : Int) ^ (i + 1) = 10 * 10 ^ i ∧ (10 : Int) ^ i ≤ 100000 ∧ (0 : Int) < 10 ^ i:=by
 refine ⟨by rw [Int.pow_succ,Int.mul_comm],?_⟩
 rcases (show i = 0 ∨ i = 1 ∨ i = 2 ∨ i = 3 ∨ i = 4 ∨ i = 5 by omega) with rfl | rfl | rfl | rfl | rfl | rfl <;> decide
theorem ii {s : adA} {top : Int} (h : s.length ≤ 100000000) : a9 adz 66 [S s,I top] G (fun v=>∃ n,v = Tu [I n,Bo (aK s top).isSome] ∧ (∀ m,aK s top = some m → n = m)):=by
 refine jE [(0,_),(1,_)] Tryz.func66 Tryz.ntmps66 fun B hB=>?_
 repeat' (refine jR ?_)
 refine aT (ι:=Nat × Int) (fun i=>(i.1 ≤ s.length ∧ i.1 ≤ 6) ∧ (0 ≤ i.2 ∧ i.2 + 1 ≤ 10 ^ i.1) ∧ dm i.2 (s.drop i.1) = dm 0 s) (fun i=>[(0,S s),(1,I top),(6,I i.2),(7,I i.1)]) (fun _=>G) (fun i=>[]) (fun i=>s.length - i.1) (0,0) ?_ tU rfl a7 (fun i Hi=>?_)
 ·exact ⟨⟨by dsimp only;omega,by dsimp only;omega⟩,⟨by dsimp only;omega,by dsimp only;decide⟩,rfl⟩
 obtain ⟨i,n⟩:=i
 dsimp only at Hi ⊢
 by_cases hi : i < s.length
 ·obtain ⟨c,hc1,hc2⟩:=lD hi
  have hc3 : bt s ((i : Int).toNat) = c.toNat:=hc2
  have hd:=Hi.2.2
  rw [hc1,dm] at hd
  by_cases h5 : i ≤ 5
  ·have hp:=xN i h5
   by_cases hdig : 48 ≤ c.toNat ∧ c.toNat ≤ 57
   ·rw [if_pos hdig] at hd
    repeat' (first | refine jM ?_ | (refine jo ?_;refine aC rfl ?_) | refine ar rfl rfl (aG oM) ?_ | refine ac rfl (ay oM) ?_ | refine ad rfl (aG oM) ?_)
    refine bh (i + 1,10 * n + ((c.toNat : Int) - 48)) ⟨⟨by dsimp only;omega,by dsimp only;omega⟩,⟨by dsimp only;omega,by dsimp only;rw [hp.1];omega⟩,hd⟩ (by dsimp only;omega) ?_ rfl a7
    rw [← hc2];repeat (first | exact trivial | refine ⟨rfl,?_⟩)
   ·rw [if_neg hdig] at hd
    have hno : aK s top = none:=by unfold aK;rw [← hd];split <;> rfl
    repeat' (first | refine jM ?_ | (refine jo ?_;first | refine aM rfl ?_ | refine aC rfl ?_) | (refine aF rfl rfl (by first | rfl | (refine decide_eq_true ?_;(omega))) ?_) | refine fp rfl rfl (fun _=>?_) (fun _=>?_) | (refine ac rfl (by first | rfl | (refine decide_eq_true ?_;(omega))) ?_))
    all_goals refine jY (vs:=[_,_]) ?_
    all_goals exact ⟨_,by rw [hno];rfl,fun m hm=>by rw [hno] at hm;cases hm⟩
  ·have hno : aK s top = none:=by unfold aK;rw [if_neg oM]
   have e6 : i = 6:=oM
   subst e6
   repeat' (first | refine jM ?_ | (refine jo ?_;first | refine aM rfl ?_ | refine aC rfl ?_) | refine aF rfl rfl rfl ?_ | refine fp rfl rfl (fun _=>?_) (fun _=>?_) | (refine ac rfl (by first | rfl | (refine decide_eq_true ?_;(omega))) ?_))
   all_goals refine jY (vs:=[_,_]) ?_
   all_goals exact ⟨_,by rw [hno];rfl,fun m hm=>by rw [hno] at hm;cases hm⟩
 ·have ei : i = s.length:=oM
  have hd:=Hi.2.2
  rw [ei,List.drop_length,dm] at hd
  have hp : n ≤ 9223372036854775807:=by
   rcases Nat.lt_or_ge i 6 with h1 | h1
   ·have:=xN i oM;omega
   ·have e6 : i = 6:=oM
    subst e6
    have:=Hi.2.1.2
    have e : (10 : Int) ^ 6 = 1000000:=by decide
    omega
  have hno : aK s top = if s = bI n ∧ n ≤ top then some n else none:=by unfold aK;rw [if_pos oM,← hd]
  repeat' (first | refine jR ?_ | (refine jo ?_;first | refine aM rfl ?_ | refine aC rfl ?_ | refine ae rfl rfl rfl (dD oM) rfl ?_) | refine fp rfl rfl (fun _=>?_) (fun _=>?_) | refine ad rfl (aG oM) ?_)
  ·rename_i hs
   refine jY (vs:=[_,_]) ?_
   refine ⟨n,?_,fun m hm=>?_⟩
   ·rw [hno,gu]
    by_cases ht : n ≤ top
    ·rw [if_pos ⟨hs,ht⟩,decide_eq_true ht];rfl
    ·rw [if_neg (fun h=>ht h.2),decide_eq_false ht];rfl
   ·rw [hno] at hm
    split at hm
    ·exact Option.some.inj hm
    ·cases hm
  ·rename_i hs
   refine jY (vs:=[_,_]) ?_
   refine ⟨n,by rw [hno,if_neg (fun h=>hs h.1)];rfl,fun m hm=>?_⟩
   rw [hno,if_neg (fun h=>hs h.1)] at hm;cases hm
def bZ (k s : adA) : Bool :=
 if k = [110] then (aK s 999999).isSome && decide (s ≠ [48])
 else if k = [116] then dW s && decide (s ≠ [39,39])
 else if k = [102] then decide (s = [121,101,115])
 else false
theorem xe {k s : adA} (h : s.length ≤ 100000000) : a9 adz 169 [S k,S s] G (· = Bo (bZ k s)):=by
 by_cases h1 : k = [110]
 ·have e : bZ k s = ((aK s 999999).isSome && decide (s ≠ [48])):=by rw [bZ,if_pos h1]
  rw [e]
  refine jE [(0,_),(1,_)] Tryz.func169 Tryz.ntmps169 fun B hB=>?_
  repeat' (first | refine jR ?_ | (refine jo ?_;first | refine aM rfl ?_ | refine aC rfl ?_ | (refine eF rfl rfl rfl (ii oM) rfl ?_;rintro _ ⟨n,rfl,hnum⟩)) | refine nr rfl rfl (fun _=>?_) (fun _=>?_) | refine ac rfl (ay ‹_›) ?_)
  all_goals refine jY (vs:=[_]) ?_
  all_goals (rw [aP];simp [*])
 by_cases h2 : k = [116]
 ·have e : bZ k s = (dW s && decide (s ≠ [39,39])):=by rw [bZ,if_neg h1,if_pos h2]
  rw [e]
  refine jE [(0,_),(1,_)] Tryz.func169 Tryz.ntmps169 fun B hB=>?_
  repeat' (first | refine jR ?_ | (refine jo ?_;first | refine aM rfl ?_ | refine aC rfl ?_ | refine ae rfl rfl rfl (g8 ‹_›) rfl ?_) | refine fp rfl rfl (fun _=>?_) (fun _=>?_) | refine ac rfl (ay ‹_›) ?_ | refine ad rfl (aG ‹_›) ?_)
  all_goals refine jY (vs:=[_]) ?_
  all_goals (rw [aP];simp [*,dW])
 by_cases h3 : k = [102]
 ·have e : bZ k s = decide (s = [121,101,115]):=by rw [bZ,if_neg h1,if_neg h2,if_pos h3]
  rw [e]
  refine jE [(0,_),(1,_)] Tryz.func169 Tryz.ntmps169 fun B hB=>?_
  repeat' (first | refine jR ?_ | refine ac rfl (ay ‹_›) ?_ | refine ad rfl (aG ‹_›) ?_)
  all_goals refine jY (vs:=[_]) ?_
  all_goals rfl
 ·have e : bZ k s = false:=by rw [bZ,if_neg h1,if_neg h2,if_neg h3]
  rw [e]
  refine jE [(0,_),(1,_)] Tryz.func169 Tryz.ntmps169 fun B hB=>?_
  repeat' (first | refine jR ?_ | refine ad rfl (aG ‹_›) ?_)
  all_goals refine jY (vs:=[_]) ?_
  all_goals rfl
structure Fld where
 tag : Int
 name : adA
 kind : adA
 stand : adA
deriving Inhabited
def g0 (f : Fld) : List Value:=[I f.tag,S f.name,S f.kind,S f.stand]
instance : RowF g0 4:=⟨fun _=>rfl⟩
def cm (s : adA) (k : Nat) : Option Fld :=
 match aZ 58 s with
 | [a,b]=>if k = 69 then
   match aK a 200 with
   | some n=>if 1 ≤ n ∧ cP b = true then some ⟨n,b,[],[]⟩ else none
   | none=>none
  else none
 | [a,b,c]=>if k = 69 then none else
   match aK a 200 with
   | some n=>if 1 ≤ n ∧ cP b = true then
     match aZ 61 c with
     | [d]=>if bU d = true then some ⟨n,b,d,[]⟩ else none
     | [d,e]=>if k = 82 ∧ bZ d e = true then some ⟨n,b,d,e⟩ else none
     | _=>none
    else none
   | none=>none
 | _=>none
theorem o4 {k : Nat} : ∀ {s acc : adA} {x : adA},x ∈ eo k acc s → x.length ≤ acc.length + s.length
 | [],acc,x,h=>by simp [eo] at h;subst h;simp
 | c :: r,acc,x,h=>by
  unfold eo at h
  split at h
  ·rcases List.mem_cons.1 h with rfl | h
   ·simp
   ·have:=o4 h;simp at this ⊢;omega
  ·have:=o4 h;simp at this ⊢;omega
theorem df {k : Nat} {s x : adA} (h : x ∈ aZ k s) : x.length ≤ s.length:=by have:=o4 h;simpa using this
theorem o7 {k : Nat} : ∀ {s acc : adA},0 < (eo k acc s).length
 | [],acc=>by simp [eo]
 | c :: r,acc=>by
  unfold eo
  split
  ·simp
  ·exact o7
theorem en {k : Nat} {s : adA} : 0 < (aZ k s).length:=o7
theorem jn {k : Nat} : ∀ {s acc : adA},(eo k acc s).length ≤ s.length + 1
 | [],acc=>by simp [eo]
 | c :: r,acc=>by
  unfold eo
  split
  ·have:=jn (k:=k) (s:=r) (acc:=[]);simp;omega
  ·have:=jn (k:=k) (s:=r) (acc:=acc ++ [c]);simp;omega
theorem ic {k : Nat} {s : adA} : (aZ k s).length ≤ s.length + 1:=jn
def aH (k : Nat) : adA → adA × adA × Bool
 | []=>([],[],false)
 | c :: r=>if c.toNat = k then ([],r,true) else (c :: (aH k r).1,(aH k r).2.1,(aH k r).2.2)
theorem er (c : UInt8) (r : adA) (i : Nat) : bt (c :: r) (i + 1) = bt r i:=by simp [bt,List.getD]
theorem bj (c : UInt8) (r : adA) : bt (c :: r) 0 = c.toNat:=by simp [bt,List.getD]
theorem qN {k : Nat} : ∀ {s : adA},(∀ j,j < s.length → bt s j ≠ k) → aH k s = (s,[],false)
 | [],_=>rfl
 | c :: r,h=>by
  have h0:=h 0 (by simp)
  rw [bj] at h0
  have ih:=qN (k:=k) (s:=r) fun j hj=>by have:=h (j + 1) (by simpa using hj);rwa [er] at this
  rw [aH,if_neg h0,ih]
theorem nW {k : Nat} : ∀ {s : adA} {i : Nat},i < s.length → (∀ j,j < i → bt s j ≠ k) → bt s i = k → aH k s = (s.take i,s.drop (i + 1),true)
 | [],i,h,_,_=>by simp at h
 | c :: r,0,_,_,h=>by rw [bj] at h;rw [aH,if_pos h];rfl
 | c :: r,i + 1,hl,h,hi=>by
  have h0:=h 0 oM
  rw [bj] at h0
  rw [er] at hi
  have ih:=nW (k:=k) (s:=r) (i:=i) (by simpa using hl) (fun j hj=>by have:=h (j + 1) oM;rwa [er] at this) hi
  rw [aH,if_neg h0,ih];rfl
structure Ty where
 sort : Nat
 name : adA
 fields : List Fld
deriving Inhabited
def fresh (f : Fld) (fs : List Fld) : Bool:=fs.all fun g=>decide (g.tag < f.tag ∧ g.name ≠ f.name)
def dl (k : Nat) : List adA → List Fld → Option (List Fld)
 | [],fs=>some fs
 | x :: xs,fs=>match cm x k with
  | none=>none
  | some f=>if fresh f fs = true then dl k xs (fs ++ [f]) else none
def eK (k : Nat) : Prop:=k = 82 ∨ k = 85 ∨ k = 69
instance (k : Nat) : Decidable (eK k):=inferInstanceAs (Decidable (_ ∨ _ ∨ _))
def du : adA → Option Ty
 | []=>none
 | c :: r=>match aH 61 r with
  | (name,rest,true)=>if cP name = true ∧ eK c.toNat then
    if rest = [] then (if c.toNat = 82 then some ⟨82,name,[]⟩ else none)
    else match dl c.toNat (aZ 44 rest) [] with
     | some fs=>if fs.length ≤ 8 then some ⟨c.toNat,name,fs⟩ else none
     | none=>none
   else none
  | _=>none
def b7 : adA → Option adA
 | []=>none
 | c :: r=>if c.toNat = 64 then some (r.take (r.length - 1)) else none
def ix (ts : List Ty) (name : adA) : Option Ty:=ts.find? fun t=>decide (t.name = name)
def a8 (ts : List Ty) (k : adA) : Option Ty:=(b7 k).bind (ix ts)
def eP (t : Ty) : adA:=(t.fields.headD default).kind
def ci (ts : List Ty) : Nat → Ty → Bool
 | 0,_=>false
 | n + 1,t=>if t.sort ≠ 85 then true else match a8 ts (eP t) with
  | none=>true
  | some u=>ci ts n u
def fe (ts : List Ty) (k : adA) : Bool:=match b7 (bN k) with
 | none=>true
 | some n=>(ix ts n).isSome
def lJ (ts : List Ty) (i : Nat) : Prop:=∀ k,k < i → (ab ts k).name ≠ (ab ts i).name
def iU (ts : List Ty) (t : Ty) : Prop:=t.sort = 69 ∨ ∀ j,j < t.fields.length → fe ts (ab t.fields j).kind = true
def jl (ts : List Ty) : Prop:=(∀ i,i < ts.length → lJ ts i ∧ iU ts (ab ts i)) ∧ ∀ i,i < ts.length → ci ts (ts.length + 1) (ab ts i) = true
instance (ts : List Ty) (i : Nat) : Decidable (lJ ts i):=inferInstanceAs (Decidable (∀ k,k < i → _))
instance (ts : List Ty) (t : Ty) : Decidable (iU ts t):=inferInstanceAs (Decidable (_ ∨ ∀ j,j < t.fields.length → _))
instance (ts : List Ty) : Decidable (jl ts):=inferInstanceAs (Decidable ((∀ i,i < ts.length → _) ∧ ∀ i,i < ts.length → _))
def cD : List adA → Option (List Ty)
 | []=>some []
 | x :: xs=>match du x with
  | none=>none
  | some t=>(cD xs).map (t :: ·)
def aV (s : adA) : Option (List Ty) :=
 if s.length ≤ 400 ∧ (aZ 10 s).length ≤ 9 ∧ (aZ 10 s).getLastD [] = [] then
  match cD (aZ 10 s).dropLast with
  | some ts=>if jl ts then some ts else none
  | none=>none
 else none
structure FldW (k : Nat) (f : Fld) : Prop where
 tag : 1 ≤ f.tag ∧ f.tag ≤ 200
 name : cP f.name = true
 kind : k ≠ 69 → bU f.kind = true
 enm : k = 69 → f.kind = [] ∧ f.stand = []
 stand : f.stand ≠ [] → k = 82 ∧ bZ f.kind f.stand = true
theorem d6 {s : adA} {top n : Int} (h : aK s top = some n) : n ≤ top ∧ s = bI n ∧ s.length ≤ 6:=by
 unfold aK at h
 split at h
 ·split at h
  ·split at h
   ·rename_i h1 _ _ _ h2;simp only [Option.some.injEq] at h;subst h;exact ⟨h2.2,h2.1,h1⟩
   ·cases h
  ·cases h
 ·cases h
theorem mW {k s : adA} (h : bZ k s = true) : bU k = true:=by
 unfold bZ at h
 split at h
 ·subst_vars;decide
 ·split at h
  ·subst_vars;decide
  ·split at h
   ·subst_vars;decide
   ·cases h
theorem zY {s : adA} {k : Nat} {f : Fld} (h : cm s k = some f) : FldW k f:=by
 unfold cm at h
 split at h
 ·split at h
  ·rename_i hk
   split at h
   ·rename_i n hn
    split at h
    ·rename_i hg
     simp only [Option.some.injEq] at h;subst h
     exact ⟨⟨hg.1,(d6 hn).1⟩,hg.2,fun h=>absurd hk h,fun _=>⟨rfl,rfl⟩,fun h=>absurd rfl h⟩
    ·cases h
   ·cases h
  ·cases h
 ·split at h
  ·cases h
  ·rename_i hk
   split at h
   ·rename_i n hn
    split at h
    ·rename_i hg
     split at h
     ·split at h
      ·rename_i hd
       simp only [Option.some.injEq] at h;subst h
       exact ⟨⟨hg.1,(d6 hn).1⟩,hg.2,fun _=>hd,fun h=>absurd h hk,fun h=>absurd rfl h⟩
      ·cases h
     ·split at h
      ·rename_i hd
       simp only [Option.some.injEq] at h;subst h
       exact ⟨⟨hg.1,(d6 hn).1⟩,hg.2,fun _=>mW hd.2,fun h=>absurd h hk,fun _=>hd⟩
      ·cases h
     ·cases h
    ·cases h
   ·cases h
 ·cases h
structure TyW (t : Ty) : Prop where
 sort : eK t.sort
 name : cP t.name = true
 ne : t.sort ≠ 82 → t.fields ≠ []
 len : t.fields.length ≤ 8
 fld : ∀ f ∈ t.fields,FldW t.sort f
 asc : t.fields.Pairwise fun g f=>g.tag < f.tag ∧ g.name ≠ f.name
theorem pW {k : Nat} : ∀ {xs : List adA} {fs gs : List Fld},dl k xs fs = some gs → (∀ f ∈ fs,FldW k f) → fs.Pairwise (fun g f=>g.tag < f.tag ∧ g.name ≠ f.name) →
  (∀ f ∈ gs,FldW k f) ∧ gs.Pairwise (fun g f=>g.tag < f.tag ∧ g.name ≠ f.name) ∧ gs.length = fs.length + xs.length
 | [],fs,gs,h,h1,h2=>by
  simp only [dl,Option.some.injEq] at h;subst h;exact ⟨h1,h2,by simp⟩
 | x :: xs,fs,gs,h,h1,h2=>by
  unfold dl at h
  split at h
  ·cases h
  ·rename_i f hf
   split at h
   ·rename_i hfr
    simp only [fresh,List.all_eq_true,decide_eq_true_eq] at hfr
    have:=pW h (fun g hg=>by
     rcases List.mem_append.1 hg with hg | hg
     ·exact h1 g hg
     ·simp only [List.mem_singleton] at hg;subst hg;exact zY hf) (List.pairwise_append.2 ⟨h2,by simp,fun a ha b hb=>by
      simp only [List.mem_singleton] at hb;subst hb;exact hfr a ha⟩)
    refine ⟨this.1,this.2.1,?_⟩
    rw [this.2.2];simp;omega
   ·cases h
theorem aaF {s : adA} {t : Ty} (h : du s = some t) : TyW t:=by
 unfold du at h
 split at h
 ·cases h
 ·split at h
  ·split at h
   ·rename_i hn
    split at h
    ·split at h
     ·simp only [Option.some.injEq] at h;subst h
      exact ⟨.inl rfl,hn.1,fun h=>absurd rfl h,by simp,by simp,by simp⟩
     ·cases h
    ·split at h
     ·rename_i fs hfs
      split at h
      ·rename_i hl
       simp only [Option.some.injEq] at h;subst h
       have hw:=pW hfs (by simp) (by simp)
       refine ⟨hn.2,hn.1,fun _ h0=>?_,hl,hw.1,hw.2.1⟩
       have:=hw.2.2
       dsimp only at h0
       rw [h0] at this
       have:=en (k:=44) (s:=‹adA›)
       simp at *;omega
      ·cases h
     ·cases h
   ·cases h
  ·cases h
theorem jc : ∀ {xs : List adA} {ts : List Ty},cD xs = some ts → (∀ t ∈ ts,TyW t) ∧ ts.length = xs.length
 | [],ts,h=>by simp only [cD,Option.some.injEq] at h;subst h;simp
 | x :: xs,ts,h=>by
  unfold cD at h
  split at h
  ·cases h
  ·rename_i t ht
   cases hr : cD xs with
   | none=>rw [hr] at h;cases h
   | some us =>
    rw [hr] at h
    simp only [Option.map_some,Option.some.injEq] at h;subst h
    have:=jc hr
    exact ⟨fun u hu=>by rcases List.mem_cons.1 hu with rfl | hu;exact aaF ht;exact this.1 u hu,by simp [this.2]⟩
structure SchW (ts : List Ty) : Prop where
 ty : ∀ t ∈ ts,TyW t
 len : ts.length ≤ 8
 valid : jl ts
theorem cY {s : adA} {ts : List Ty} (h : aV s = some ts) : SchW ts:=by
 unfold aV at h
 split at h
 ·rename_i hc
  split at h
  ·rename_i us hus
   split at h
   ·rename_i hv
    simp only [Option.some.injEq] at h;subst h
    have:=jc hus
    exact ⟨this.1,by rw [this.2,List.length_dropLast];omega,hv⟩
   ·cases h
  ·cases h
 ·cases h
def aB (ts : List Ty) (k : adA) : Bool:=bU k && fe ts k
theorem wJ {ts : List Ty} {n : adA} {t : Ty} (h : ix ts n = some t) : t ∈ ts:=List.mem_of_find?_eq_some h
theorem br {ts : List Ty} {k : adA} {t : Ty} (h : a8 ts k = some t) : t ∈ ts:=by
 unfold a8 at h
 cases hr : b7 k with
 | none=>rw [hr] at h;cases h
 | some n=>rw [hr] at h;exact wJ h
theorem mo (ts : List Ty) : ∀ (k : Nat) (t : Ty),ci ts k t = true → ci ts (k + 1) t = true
 | 0,t,h=>by cases h
 | k + 1,t,h=>by
  unfold ci at h ⊢
  split
  ·rfl
  ·rename_i hs
   rw [if_neg hs] at h
   cases hr : a8 ts (eP t) with
   | none=>rfl
   | some u=>rw [hr] at h;exact mo ts k u h
def fE (ts : List Ty) (k : Nat) : Prop:=∀ t ∈ ts,ci ts (k + 1) t = ci ts k t
theorem oc {ts : List Ty} {k : Nat} (h : fE ts k) : fE ts (k + 1):=by
 intro t ht
 rw [ci,ci]
 split
 ·rfl
 ·cases hr : a8 ts (eP t) with
  | none=>rfl
  | some u=>exact h u (br hr)
theorem pz {ts : List Ty} {k : Nat} (h : fE ts k) : ∀ (m : Nat) (t : Ty),t ∈ ts → ci ts (k + m) t = ci ts k t:=by
 have hs : ∀ m,fE ts (k + m):=fun m=>by
  induction m with
  | zero=>exact h
  | succ m ih=>exact oc ih
 intro m t ht
 induction m with
 | zero=>rfl
 | succ m ih=>rw [← ih];exact hs m t ht
theorem tw {α : Type} {p q : α → Bool} : ∀ {l : List α},(∀ x ∈ l,p x = true → q x = true) → (∃ x ∈ l,q x = true ∧ p x = false) → l.countP p < l.countP q
 | [],_,h=>by obtain ⟨x,hx,_⟩:=h;cases hx
 | a :: l,h1,h2=>by
  have hle : ∀ l : List α,(∀ x ∈ l,p x = true → q x = true) → l.countP p ≤ l.countP q:=fun l h=>List.countP_mono_left h
  rw [List.countP_cons,List.countP_cons]
  have h3:=hle l fun x hx=>h1 x (List.mem_cons_of_mem _ hx)
  obtain ⟨x,hx,h4,h5⟩:=h2
  rcases List.mem_cons.1 hx with rfl | hx
  ·simp [h4,h5];omega
  ·have h6:=tw (fun x hx=>h1 x (List.mem_cons_of_mem _ hx)) ⟨x,hx,h4,h5⟩
   by_cases hp : p a = true
   ·simp [hp,h1 a (List.mem_cons_self ..) hp];exact h6
   ·simp [hp];split <;> omega
theorem n4 {ts : List Ty} {k : Nat} (h : ¬ fE ts k) : ts.countP (ci ts k) < ts.countP (ci ts (k + 1)):=by
 refine tw (fun x _=>mo ts k x) ?_
 unfold fE at h
 simp only [Classical.not_forall] at h
 obtain ⟨t,ht,hne⟩:=h
 refine ⟨t,ht,?_⟩
 cases h1 : ci ts k t with
 | false =>
  refine ⟨?_,rfl⟩
  cases h2 : ci ts (k + 1) t with
  | false=>rw [h1,h2] at hne;exact absurd rfl hne
  | true=>rfl
 | true=>rw [mo ts k t h1,h1] at hne;exact absurd rfl hne
theorem wn (ts : List Ty) (k : Nat) : fE ts k ∨ k + 1 ≤ ts.countP (ci ts (k + 1)):=by
 induction k with
 | zero =>
  by_cases h : fE ts 0
  ·exact .inl h
  ·have:=n4 h;exact .inr oM
 | succ k ih =>
  by_cases h : fE ts (k + 1)
  ·exact .inl h
  ·have:=n4 h
   rcases ih with h3 | h3
   ·exact absurd (oc h3) h
   ·exact .inr oM
theorem z0 {ts : List Ty} {t : Ty} (hl : ts.length ≤ 8) (ht : t ∈ ts) : ci ts 9 t = ci ts (ts.length + 1) t:=by
 have hs : fE ts ts.length:=by
  rcases wn ts ts.length with h | h
  ·exact h
  ·have:=List.countP_le_length (p:=ci ts (ts.length + 1)) (l:=ts)
   omega
 have h1:=pz hs (9 - ts.length) t ht
 have h2:=pz hs 1 t ht
 rw [show ts.length + (9 - ts.length) = 9 by omega] at h1
 rw [h1,h2]
def gi (k : Nat) (s : adA) : Int:=if (aH k s).2.2 = true then ((aH k s).1.length : Int) else -1
theorem ig {k : Nat} : ∀ {s a b : adA},aH k s = (a,b,true) → ∃ c : UInt8,c.toNat = k ∧ s = a ++ c :: b
 | [],a,b,h=>by simp [aH] at h
 | c :: r,a,b,h=>by
  unfold aH at h
  split at h
  ·rename_i hc
   simp only [Prod.mk.injEq,and_true] at h
   obtain ⟨rfl,rfl⟩:=h
   exact ⟨c,hc,rfl⟩
  ·simp only [Prod.mk.injEq] at h
   obtain ⟨rfl,h2,h3⟩:=h
   obtain ⟨d,hd,hr⟩:=ig (k:=k) (s:=r) (a:=(aH k r).1) (b:=b) (by rw [← h2,← h3])
   exact ⟨d,hd,by rw [List.cons_append,← hr]⟩
theorem fR {k : Nat} : ∀ {s : adA},(aH k s).2.2 = false → aH k s = (s,[],false)
 | [],h=>rfl
 | c :: r,h=>by
  unfold aH at h ⊢
  split at h
  ·cases h
  ·rename_i hc
   rw [if_neg hc,fR (s:=r) h]
theorem kE {k : Nat} {s : adA} : (aH k s).1.length ≤ s.length ∧ (aH k s).2.1.length ≤ s.length:=by
 cases h : (aH k s).2.2 with
 | false=>rw [fR h];simp
 | true =>
  obtain ⟨c,_,e⟩:=ig (k:=k) (s:=s) (a:=(aH k s).1) (b:=(aH k s).2.1) (by rw [← h])
  have:=congrArg List.length e
  simp at this
  omega
theorem qD (s : adA) (c : UInt8) : Lib.indexByte s c = gi c.toNat s:=by
 induction s with
 | nil=>rfl
 | cons b r ih =>
  unfold Lib.indexByte
  by_cases hb : b = c
  ·subst hb;simp [gi,aH]
  ·have hb2 : ¬ b.toNat = c.toNat:=fun h=>hb (UInt8.toNat_inj.1 h)
   have hb3 : (b == c) = false:=by simpa using hb
   rw [hb3,ih]
   unfold gi
   rw [aH,if_neg hb2]
   dsimp only
   cases (aH c.toNat r).2.2 <;> simp
theorem tT {s : adA} {c : UInt8} : a9 adz 177 [S s,U8 c.toNat] G (· = I (gi c.toNat s)):=by
 have hx : ∀ w,(callFunc 184 [S s,U8 c.toNat].toArray).run adz w = .ok (.value (I (gi c.toNat s))) w:=fun w=>by
  rw [run_callFunc_extern Tryz.func184 kR kR kR (e:=Extern.BytealgIndexByte.indexByte) kR]
  have:=Lib.run_indexByteString (P:=adz) ⟨s.toArray⟩ (c.toNat : Int) w
  rw [this]
  simp only [Result.andThen]
  rw [qD]
  simp
 refine jE [(0,_),(1,_)] Tryz.func177 Tryz.ntmps177 fun B hB=>?_
 repeat' (refine jR ?_)
 refine vG rfl (k6 (oW rfl rfl rfl hx) rfl rfl ?_)
 repeat' (refine jR ?_)
 refine jY (vs:=[_]) ?_
 rfl
theorem wB (c : UInt8) : gi c.toNat [c] = 0:=by simp [gi,aH]
theorem tS {s : adA} {c : UInt8} : a9 adz 167 [S s,S [c]] G (· = I (gi c.toNat s)):=by
 have e0 : ((bt [c] (Int.toNat 0) : Nat) : Int) = c.toNat:=by rw [show Int.toNat 0 = 0 from rfl,bj]
 by_cases hs : [c] = s
 ·subst hs
  rw [wB]
  refine jE [(0,_),(1,_)] Tryz.func167 Tryz.ntmps167 fun B hB=>?_
  repeat' (first | refine jR ?_ | (refine jo ?_;refine aC rfl ?_) | refine ar rfl rfl rfl ?_ | refine ac rfl (ay rfl) ?_)
  all_goals refine jY (vs:=[_]) ?_
  all_goals rfl
 ·have cx_ib : a9 adz 177 [S s,U8 (bt [c] (Int.toNat 0))] G (· = I (gi c.toNat s)):=by rw [show (bt [c] (Int.toNat 0)) = c.toNat from bj c []];exact tT
  refine jE [(0,_),(1,_)] Tryz.func167 Tryz.ntmps167 fun B hB=>?_
  repeat' (first | refine jX ?_ | (refine jo ?_;first | refine aC rfl ?_ | refine ae rfl rfl rfl cx_ib rfl ?_) | refine ar rfl rfl rfl ?_ | refine ac rfl rfl ?_ | refine ad rfl (aG ‹_›) ?_)
  all_goals refine jY (vs:=[_]) ?_
  all_goals rfl
theorem vi {s : adA} {c : UInt8} : a9 adz 147 [S s,S [c]] G (· = I (gi c.toNat s)):=by
 refine jE [(0,_),(1,_)] Tryz.func147 Tryz.ntmps147 fun B hB=>?_
 repeat' (first | refine jR ?_ | (refine jo ?_;refine ae rfl rfl rfl tS rfl ?_))
 refine jY (vs:=[_]) ?_
 rfl
theorem pT (k : Nat) (s : adA) : (gi k s = -1 ∧ aH k s = (s,[],false)) ∨ ∃ i : Nat,gi k s = i ∧ i < s.length ∧ aH k s = (s.take i,s.drop (i + 1),true):=by
 cases h : (aH k s).2.2 with
 | false=>exact .inl ⟨by simp [gi,h],fR h⟩
 | true =>
  obtain ⟨c,_,e⟩:=ig (k:=k) (s:=s) (a:=(aH k s).1) (b:=(aH k s).2.1) (by rw [← h])
  have h5 : aH k s = ((aH k s).1,(aH k s).2.1,true):=by rw [← h]
  have h6 : gi k s = ((aH k s).1.length : Int):=by simp [gi,h]
  generalize (aH k s).1 = a at *
  generalize (aH k s).2.1 = b at *
  refine .inr ⟨a.length,h6,?_,?_⟩
  ·have:=congrArg List.length e
   simp at this
   omega
  ·rw [h5,e];simp
theorem abZ {s : adA} {c : UInt8} (h : s.length ≤ 9000000000000000000) : a9 adz 153 [S s,S [c]] G (· = Tu [S (aH c.toNat s).1,S (aH c.toNat s).2.1,Bo (aH c.toNat s).2.2]):=by
 have hix:=tS (G:=G) (s:=s) (c:=c)
 rcases pT c.toNat s with ⟨h1,h2⟩ | ⟨i,h1,h3,h2⟩
 ·rw [h2]
  have cx_ix : a9 adz 167 [S s,S [c]] G (· = I (-1)):=by rwa [h1] at hix
  refine jE [(0,_),(1,_)] Tryz.func153 Tryz.ntmps153 fun B hB=>?_
  repeat' (first | refine jR ?_ | (refine jo ?_;refine ae rfl rfl rfl cx_ix rfl ?_) | refine ad rfl rfl ?_)
  all_goals refine jY (vs:=[_,_,_]) ?_
  all_goals rfl
 ·rw [h2]
  have cx_ix : a9 adz 167 [S s,S [c]] G (· = I (i : Int)):=by rwa [h1] at hix
  have e2 : ((i : Int) + (([c] : adA).length : Nat)).toNat = i + 1:=by simp only [List.length_cons,List.length_nil];omega
  refine jE [(0,_),(1,_)] Tryz.func153 Tryz.ntmps153 fun B hB=>?_
  repeat' (first | refine jR ?_ | (refine jo ?_;refine ae rfl rfl rfl cx_ix rfl ?_) | refine ac rfl rfl ?_ | (refine am (ao (id:=3) _ (fun _ h=>h) al ?_);refine jW 0 [0,1,2,3,4,5,6,7,8,9,10,11] (aa 12 4095) ?_;refine jQ ?_))
  all_goals refine jY (vs:=[_,_,_]) ?_
  all_goals (rfl)
theorem qj {s : adA} {c : UInt8} (h : s.length ≤ 9000000000000000000) : a9 adz 135 [S s,S [c]] G (· = Tu [S (aH c.toNat s).1,S (aH c.toNat s).2.1,Bo (aH c.toNat s).2.2]):=by
 refine jE [(0,_),(1,_)] Tryz.func135 Tryz.ntmps135 fun B hB=>?_
 repeat' (first | refine jR ?_ | (refine jo ?_;refine ae rfl rfl rfl (abZ oM) rfl ?_))
 all_goals refine jY (vs:=[_,_,_]) ?_
 all_goals rfl
theorem v7 {s : adA} {c : UInt8} : a9 adz 154 [S s,S [c]] G (· = Bo (decide (0 ≤ gi c.toNat s))):=by
 refine jE [(0,_),(1,_)] Tryz.func154 Tryz.ntmps154 fun B hB=>?_
 repeat' (first | refine jR ?_ | (refine jo ?_;refine ae rfl rfl rfl vi rfl ?_))
 all_goals refine jY (vs:=[_]) ?_
 all_goals rfl
def fJ (k : Nat) (s : adA) : Prop:=∀ c ∈ s,c.toNat ≠ k
def aL (c : UInt8) : List adA → adA
 | []=>[]
 | [x]=>x
 | x :: y :: r=>x ++ c :: aL c (y :: r)
theorem mh (c : UInt8) (x : adA) {xs : List adA} (h : xs ≠ []) : aL c (x :: xs) = x ++ c :: aL c xs:=by
 cases xs with
 | nil=>exact absurd rfl h
 | cons y r=>rfl
theorem kW {c : UInt8} : ∀ {s acc : adA},fJ c.toNat acc → aL c (eo c.toNat acc s) = acc ++ s ∧ ∀ x ∈ eo c.toNat acc s,fJ c.toNat x
 | [],acc,h=>by simp [eo,aL];exact h
 | d :: r,acc,h=>by
  unfold eo
  split
  ·rename_i hd
   have hd : d = c:=UInt8.toNat_inj.1 hd
   subst hd
   have ih:=kW (c:=d) (s:=r) (acc:=[]) (by intro x hx;cases hx)
   have hp : eo d.toNat [] r ≠ []:=fun e=>by have:=o7 (k:=d.toNat) (s:=r) (acc:=[]);rw [e] at this;simp at this
   refine ⟨by rw [mh d acc hp,ih.1];rfl,fun x hx=>?_⟩
   rcases List.mem_cons.1 hx with rfl | hx
   ·exact h
   ·exact ih.2 x hx
  ·rename_i hd
   have ih:=kW (c:=c) (s:=r) (acc:=acc ++ [d]) (by
    intro x hx
    rcases List.mem_append.1 hx with hx | hx
    ·exact h x hx
    ·simp only [List.mem_singleton] at hx;subst hx;exact hd)
   exact ⟨by rw [ih.1];simp,ih.2⟩
theorem mr (c : UInt8) (s : adA) : aL c (aZ c.toNat s) = s:=by have:=(kW (c:=c) (s:=s) (acc:=[]) (by intro x hx;cases hx)).1;simpa [aZ] using this
theorem z6 {c : UInt8} {s x : adA} (h : x ∈ aZ c.toNat s) : fJ c.toNat x:=(kW (c:=c) (s:=s) (acc:=[]) (by intro x hx;cases hx)).2 x h
theorem o6 {k : Nat} : ∀ {s acc t : adA},fJ k s → eo k acc (s ++ t) = eo k (acc ++ s) t
 | [],acc,t,_=>by simp
 | d :: r,acc,t,h=>by
  rw [List.cons_append,eo,if_neg (h d (by simp)),o6 (fun c hc=>h c (by simp [hc]))];simp
theorem pY {k : Nat} {s : adA} (h : fJ k s) : aZ k s = [s]:=by
 have:=o6 (k:=k) (s:=s) (acc:=[]) (t:=[]) h
 simpa [aZ,eo] using this
theorem qM {k : Nat} {s t : adA} {c : UInt8} (h : fJ k s) (hc : c.toNat = k) : aZ k (s ++ c :: t) = s :: aZ k t:=by
 unfold aZ
 rw [o6 h,eo,if_pos hc];rfl
theorem mf {c : UInt8} : ∀ {xs : List adA},xs ≠ [] → (∀ x ∈ xs,fJ c.toNat x) → aZ c.toNat (aL c xs) = xs
 | [],h,_=>absurd rfl h
 | [x],_,h=>pY (h x (by simp))
 | x :: y :: r,_,h=>by
  rw [aL,qM (h x (by simp)) rfl,mf (by simp) fun z hz=>h z (by simp at hz ⊢;exact .inr hz)]
theorem yj {k : Nat} {s t : adA} {c : UInt8} (h : fJ k s) (hc : c.toNat = k) : aH k (s ++ c :: t) = (s,t,true):=by
 induction s with
 | nil=>rw [List.nil_append,aH,if_pos hc]
 | cons d r ih=>rw [List.cons_append,aH,if_neg (h d (by simp)),ih fun x hx=>h x (by simp [hx])]
theorem tv {k : Nat} {s : adA} (h : fJ k s) : aH k s = (s,[],false):=by
 induction s with
 | nil=>rfl
 | cons d r ih=>rw [aH,if_neg (h d (by simp)),ih fun x hx=>h x (by simp [hx])]
theorem o8 {k : Nat} : ∀ {s : adA},fJ k (aH k s).1
 | []=>by intro c hc;cases hc
 | d :: r=>by
  unfold aH
  split
  ·intro c hc;cases hc
  ·rename_i hd
   intro c hc
   rcases List.mem_cons.1 hc with rfl | hc
   ·exact hd
   ·exact o8 c hc
theorem kD {k : Nat} (s : adA) : aZ k s = if (aH k s).2.2 = true then (aH k s).1 :: aZ k (aH k s).2.1 else [s]:=by
 cases h : (aH k s).2.2 with
 | false =>
  rw [if_neg (by simp)]
  have h1:=fR h
  refine pY ?_
  have:=o8 (k:=k) (s:=s)
  rwa [h1] at this
 | true =>
  rw [if_pos rfl]
  obtain ⟨c,hc,e⟩:=ig (k:=k) (s:=s) (a:=(aH k s).1) (b:=(aH k s).2.1) (by rw [← h])
  conv=>{ lhs;rw [e] }
  exact qM o8 hc
theorem mj {s : adA} {k : Nat} (h : cP s = true) (hk : k < 97) : fJ k s:=by
 intro c hc
 simp only [cP,Bool.and_eq_true,List.all_eq_true] at h
 have:=h.1 c hc
 simp only [kT,decide_eq_true_eq] at this
 omega
theorem tp {n m : Int} : ∀ {s : adA},dm n s = some m → ∀ c ∈ s,48 ≤ c.toNat ∧ c.toNat ≤ 57
 | [],_,c,hc=>by cases hc
 | d :: r,h,c,hc=>by
  unfold dm at h
  split at h
  ·rename_i hd
   rcases List.mem_cons.1 hc with rfl | hc
   ·exact hd
   ·exact tp h c hc
  ·cases h
theorem rl {s : adA} {top n : Int} (h : aK s top = some n) : ∀ c ∈ s,48 ≤ c.toNat ∧ c.toNat ≤ 57:=by
 unfold aK at h
 split at h
 ·split at h
  ·rename_i hd;exact tp hd
  ·cases h
 ·cases h
theorem nj {s : adA} {top n : Int} {k : Nat} (h : aK s top = some n) (hk : 57 < k) : fJ k s:=fun c hc=>by
 have:=rl h c hc;omega
theorem wA {s : adA} (h : dW s = true) {c : UInt8} (hc : c ∈ s) : c.toNat = 39 ∨ jq c.toNat:=by
 unfold dW at h
 simp only [decide_eq_true_eq] at h
 obtain ⟨h1,h2,h3,h4⟩:=h
 obtain ⟨i,hi,rfl⟩:=List.mem_iff_getElem.1 hc
 have e : bt s i = (s[i]).toNat:=by simp [bt,List.getD,List.getElem?_eq_getElem hi]
 rw [← e]
 rcases Nat.lt_or_ge i (s.length - 1) with h5 | h5
 ·rcases h4 i h5 with h6 | h6
  ·subst h6;exact .inl h2
  ·exact .inr h6
 ·have : i = s.length - 1:=oM
  subst this;exact .inl h3
theorem n9 {d v : adA} {k : Nat} (h : bZ d v = true) (hk : k = 58 ∨ k = 61) : fJ k v:=by
 intro c hc
 unfold bZ at h
 split at h
 ·simp only [Bool.and_eq_true] at h
  obtain ⟨n,hn⟩:=Option.isSome_iff_exists.1 h.1
  have:=rl hn c hc;omega
 ·split at h
  ·simp only [Bool.and_eq_true] at h
   have:=wA h.1 hc
   unfold jq at this;omega
  ·split at h
   ·simp only [decide_eq_true_eq] at h
    subst h
    simp only [List.mem_cons,List.not_mem_nil,or_false] at hc
    rcases hc with rfl | rfl | rfl <;> (rcases hk with rfl | rfl <;> decide)
   ·cases h
theorem mv : ∀ s : adA,(bN s).length ≤ s.length
 | []=>Nat.le_refl _
 | c :: r=>by
  unfold bN
  split
  ·have:=mv r;simp;omega
  ·exact Nat.le_refl _
def sg (s : adA) : adA:=s.take (s.length - (bN s).length)
def oD : adA → adA
 | []=>[]
 | c :: r=>if c.toNat = 64 then [64] else c :: r
def bs (s : adA) : adA:=oD (bN s)
def nm (s : adA) : adA:=(b7 (bN s)).getD []
theorem uL {k : Nat} (hk : k = 58 ∨ k = 61) : ∀ {s : adA},eV s = true → fJ k s
 | [],h=>by cases h
 | c :: r,h=>by
  unfold eV at h
  split at h
  ·rename_i hc
   intro d hd
   rcases List.mem_cons.1 hd with rfl | hd
   ·omega
   ·exact uL hk h d hd
  ·split at h
   ·rename_i hc
    simp only [Bool.and_eq_true,decide_eq_true_eq] at h
    intro d hd
    rcases List.mem_cons.1 hd with rfl | hd
    ·omega
    ·obtain ⟨i,hi,rfl⟩:=List.mem_iff_getElem.1 hd
     rcases Nat.lt_or_ge i (r.length - 1) with h5 | h5
     ·refine mj h.2 oM _ ?_
      exact List.mem_iff_getElem.2 ⟨i,by simp;omega,by simp⟩
     ·have h1 : bt (c :: r) r.length = 59:=oM
      have e : i = r.length - 1:=oM
      obtain ⟨m,hm⟩ : ∃ m,r.length = m + 1:=⟨r.length - 1,oM⟩
      rw [hm,er] at h1
      have : bt r m = (r[m]'oM).toNat:=by simp [bt,List.getD,List.getElem?_eq_getElem (show m < r.length by omega)]
      have e2 : i = m:=oM
      subst e2
      omega
   ·simp only [Bool.and_eq_true,Bool.or_eq_true,decide_eq_true_eq] at h
    intro d hd
    obtain ⟨rfl,h⟩:=h
    simp only [List.mem_singleton] at hd
    subst hd;omega
theorem it {k : Nat} (hk : k = 58 ∨ k = 61) {s : adA} (h : bU s = true) : fJ k s:=by
 unfold bU at h;simp only [Bool.and_eq_true] at h;exact uL hk h.2
def nw (s : adA) (k : Nat) : Option Fld :=
 match aZ 58 (aH 61 s).1 with
 | [a,b]=>if k = 69 ∧ (aH 61 s).2.2 = false then
   match aK a 200 with
   | some n=>if 1 ≤ n ∧ cP b = true then some ⟨n,b,[],[]⟩ else none
   | none=>none
  else none
 | [a,b,c]=>if k = 69 then none else
   match aK a 200 with
   | some n=>if (1 ≤ n ∧ cP b = true) ∧ bU c = true ∧ ((aH 61 s).2.2 = true → k = 82 ∧ bZ c (aH 61 s).2.1 = true) then some ⟨n,b,c,(aH 61 s).2.1⟩ else none
   | none=>none
 | _=>none
theorem gF {k : Nat} {a b : adA} : fJ k (a ++ b) ↔ fJ k a ∧ fJ k b:=by
 constructor
 ·intro h;exact ⟨fun c hc=>h c (by simp [hc]),fun c hc=>h c (by simp [hc])⟩
 ·intro h c hc
  rcases List.mem_append.1 hc with hc | hc
  ·exact h.1 c hc
  ·exact h.2 c hc
theorem iO {k : Nat} {c : UInt8} {b : adA} : fJ k (c :: b) ↔ c.toNat ≠ k ∧ fJ k b:=by
 constructor
 ·intro h;exact ⟨h c (by simp),fun d hd=>h d (by simp [hd])⟩
 ·intro h d hd
  rcases List.mem_cons.1 hd with rfl | hd
  ·exact h.1
  ·exact h.2 d hd
theorem vS {s : adA} {xs : List adA} (h : aZ 58 s = xs) : s = aL 58 xs ∧ ∀ x ∈ xs,fJ 58 x:=by
 subst h
 exact ⟨(mr 58 s).symm,fun x hx=>z6 (c:=58) hx⟩
theorem qF (s : adA) (k : Nat) : nw s k = cm s k:=by
 apply Option.ext
 intro f
 constructor
 ·intro h
  unfold nw at h
  split at h
  ·rename_i a b e
   split at h
   ·rename_i hk
    have hs:=fR hk.2
    rw [hs] at e
    unfold cm
    rw [e]
    simp only [hk.1,if_true]
    exact h
   ·cases h
  ·rename_i a b c e
   split at h
   ·cases h
   ·rename_i hk
    split at h
    ·rename_i n hn
     split at h
     ·rename_i hg
      simp only [Option.some.injEq] at h;subst h
      cases ht : (aH 61 s).2.2 with
      | false =>
       have hs:=fR ht
       rw [hs] at e ⊢
       have hc61 : aZ 61 c = [c]:=pY (it (.inr rfl) hg.2.1)
       unfold cm
       rw [e]
       simp [hk,hn,hg.1.1,hg.1.2,hc61,hg.2.1]
      | true =>
       have hst:=hg.2.2 ht
       obtain ⟨d,hd,es⟩:=ig (k:=61) (s:=s) (a:=(aH 61 s).1) (b:=(aH 61 s).2.1) (by rw [← ht])
       generalize (aH 61 s).1 = hd1 at *
       generalize (aH 61 s).2.1 = v at *
       have hd : d = 61:=UInt8.toNat_inj.1 hd
       subst hd
       obtain ⟨e1,e2⟩:=vS e
       have e3 : s = aL 58 [a,b,c ++ 61 :: v]:=by rw [es,e1];simp [aL]
       have e4 : aZ 58 s = [a,b,c ++ 61 :: v]:=by
        rw [e3]
        refine mf (c:=58) (by simp) fun x hx=>?_
        simp only [List.mem_cons,List.not_mem_nil,or_false] at hx
        rcases hx with rfl | rfl | rfl
        ·exact e2 _ (by simp)
        ·exact e2 _ (by simp)
        ·exact gF.2 ⟨e2 _ (by simp),iO.2 ⟨by decide,n9 hst.2 (.inl rfl)⟩⟩
       have e5 : aZ 61 (c ++ 61 :: v) = [c,v]:=by
        rw [qM (k:=61) (it (.inr rfl) hg.2.1) rfl,pY (n9 hst.2 (.inr rfl))]
       unfold cm
       rw [e4]
       simp [hk,hn,hg.1.1,hg.1.2,e5,hst.1,hst.2]
     ·cases h
    ·cases h
  ·cases h
 ·intro h
  unfold cm at h
  split at h
  ·rename_i a b e
   split at h
   ·rename_i hk
    split at h
    ·rename_i n hn
     split at h
     ·rename_i hg
      obtain ⟨e1,e2⟩:=vS e
      have hno : fJ 61 s:=by rw [e1];simp only [aL];exact gF.2 ⟨nj hn oM,iO.2 ⟨by decide,mj hg.2 oM⟩⟩
      unfold nw
      rw [tv hno,e]
      simp only [hk,hn,hg,and_self,if_true]
      exact h
     ·cases h
    ·cases h
   ·cases h
  ·rename_i a b c e
   split at h
   ·cases h
   ·rename_i hk
    split at h
    ·rename_i n hn
     split at h
     ·rename_i hg
      obtain ⟨e1,e2⟩:=vS e
      split at h
      ·rename_i d e3
       split at h
       ·rename_i hd
        simp only [Option.some.injEq] at h;subst h
        have e4 : c = d:=by have:=mr 61 c;rw [show (61 : UInt8).toNat = 61 from rfl,e3] at this;exact this.symm
        subst e4
        have hno : fJ 61 s:=by rw [e1];simp only [aL];exact gF.2 ⟨nj hn oM,iO.2 ⟨by decide,gF.2 ⟨mj hg.2 oM,iO.2 ⟨by decide,it (.inr rfl) hd⟩⟩⟩⟩
        unfold nw
        rw [tv hno,e]
        simp [hk,hn,hg.1,hg.2,hd]
       ·cases h
      ·rename_i d v e3
       split at h
       ·rename_i hd
        simp only [Option.some.injEq] at h;subst h
        have e4 : c = d ++ 61 :: v:=by have:=mr 61 c;rw [show (61 : UInt8).toNat = 61 from rfl,e3] at this;exact this.symm
        subst e4
        have hkd:=mW hd.2
        have es : s = aL 58 [a,b,d] ++ 61 :: v:=by rw [e1];simp [aL]
        have hno : fJ 61 (aL 58 [a,b,d]):=by simp only [aL];exact gF.2 ⟨nj hn oM,iO.2 ⟨by decide,gF.2 ⟨mj hg.2 oM,iO.2 ⟨by decide,it (.inr rfl) hkd⟩⟩⟩⟩
        have e5 : aZ 58 (aL 58 [a,b,d]) = [a,b,d]:=by
         refine mf (c:=58) (by simp) fun x hx=>?_
         simp only [List.mem_cons,List.not_mem_nil,or_false] at hx
         rcases hx with rfl | rfl | rfl
         ·exact e2 _ (by simp)
         ·exact e2 _ (by simp)
         ·exact it (.inl rfl) hkd
        unfold nw
        rw [es,yj (k:=61) hno rfl,e5]
        simp [hn,hg.1,hg.2,hkd,hd.1,hd.2]
       ·cases h
      ·cases h
     ·cases h
    ·cases h
  ·cases h
def tag0 (t : Ty) : Int:=(t.fields.headD default).tag
def bV (ts : List Ty) : Nat → adA → adA
 | 0,_=>[]
 | _ + 1,[]=>[]
 | n + 1,c :: r=>if c.toNat = 91 then [91,93] else if c.toNat = 63 then [45] else
   match a8 ts (c :: r) with
   | none=>gC (c :: r)
   | some t=>if t.sort = 82 then [123,125] else if t.sort = 69 then 35 :: bI (tag0 t) else 60 :: (bI (tag0 t) ++ 61 :: (bV ts n (eP t) ++ [62]))
def py (ts : List Ty) (k : adA) : adA:=bV ts (ts.length + 2) k
def bT (ts : List Ty) (f : Fld) : adA:=if f.stand = [] then py ts f.kind else f.stand
def ck (fs : List Fld) (tag : Int) : Option Fld:=fs.find? fun f=>decide (f.tag = tag)
structure AskW (ts us : List Ty) (m : List Pr) : Prop where
 nd : m.Nodup
 mem : ∀ p ∈ m,(∃ t ∈ ts,t.name = p.1) ∧ ∃ u ∈ us,u.name = p.2
theorem AskW.nil {ts us : List Ty} : AskW ts us []:=⟨List.nodup_nil,by simp⟩
theorem sO {α : Type} [DecidableEq α] : ∀ {l l' : List α},l.Nodup → (∀ x ∈ l,x ∈ l') → l.length ≤ l'.length
 | [],_,_,_=>Nat.zero_le _
 | a :: l,l',hn,hs=>by
  rw [List.nodup_cons] at hn
  have ha:=hs a (.head _)
  have:=sO (l:=l) (l':=l'.erase a) hn.2 fun x hx=>by
   have hx':=hs x (.tail _ hx)
   exact (List.mem_erase_of_ne (fun e=>hn.1 (by rw [← e];exact hx))).2 hx'
  rw [List.length_erase_of_mem ha] at this
  have hp : 0 < l'.length:=List.length_pos_of_mem ha
  simp only [List.length_cons];omega
theorem AskW.len {ts us : List Ty} {m : List Pr} (h : AskW ts us m) : m.length ≤ ts.length * us.length:=by
 have h1 : m.length ≤ (ts.flatMap fun t=>us.map fun u=>(t.name,u.name)).length:=sO h.nd fun p hp=>by
  obtain ⟨⟨t,ht,e1⟩,u,hu,e2⟩:=h.mem p hp
  exact List.mem_flatMap.2 ⟨t,ht,List.mem_map.2 ⟨u,hu,by rw [e1,e2]⟩⟩
 have h2 : ∀ ts : List Ty,(ts.flatMap fun t=>us.map fun u=>(t.name,u.name)).length = ts.length * us.length:=fun ts=>by
  induction ts with
  | nil=>simp
  | cons t ts ih=>rw [List.flatMap_cons,List.length_append,ih,List.length_map,List.length_cons,Nat.succ_mul,Nat.add_comm]
 rw [h2] at h1;exact h1
theorem nq {ts : List Ty} {k : adA} (h : aB ts k = true) (hr : (b7 (bN k)).isSome = true) : ∃ t,a8 ts (bN k) = some t:=by
 unfold aB fe at h
 unfold a8
 cases hc : b7 (bN k) with
 | none=>rw [hc] at hr;cases hr
 | some n =>
  rw [hc] at h
  simp only [Bool.and_eq_true] at h
  obtain ⟨_,h⟩:=h
  exact Option.isSome_iff_exists.1 h
inductive V where
 | nd (what : Nat) (text : adA) (tag : Int) (kids : List V)
instance : Inhabited V:=⟨.nd 0 [] 0 []⟩
def V.what : V → Nat | .nd w _ _ _=>w
def V.text : V → adA | .nd _ x _ _=>x
def V.tag : V → Int | .nd _ _ t _=>t
def V.kids : V → List V | .nd _ _ _ ks=>ks
def cW (w : Nat) (x : adA) (t : Int) (e : Bool) (j : adA) : adA :=
 if w = 116 then 39 :: (x ++ [39]) else if w = 91 then 91 :: (j ++ [93]) else if w = 63 then (if e = true then [45] else 43 :: j)
 else if w = 61 then bI t ++ 61 :: j else if w = 82 then 123 :: (j ++ [125]) else if w = 85 then 60 :: (bI t ++ 61 :: (j ++ [62])) else if w = 69 then 35 :: bI t else x
mutual
def V.out : V → adA
 | .nd w x t ks=>cW w x t ks.isEmpty (aL 44 (V.outs ks))
def V.outs : List V → List adA
 | []=>[]
 | v :: r=>V.out v :: V.outs r
end
mutual
def V.deep : V → Nat
 | .nd w _ _ ks=>if w = 61 then V.deeps ks else V.deeps ks + 1
def V.deeps : List V → Nat
 | []=>0
 | v :: r=>max (V.deep v) (V.deeps r)
end
def cX (w : Nat) (e : Bool) : Bool:=(decide (w = 110) || decide (w = 116) || decide (w = 102) || decide (w = 69)) || (decide (w = 63) && e)
mutual
def V.size : V → Nat
 | .nd w _ _ ks=>if cX w ks.isEmpty = true then 1 else V.sizes ks
def V.sizes : List V → Nat
 | []=>0
 | v :: r=>V.size v + V.sizes r
end
theorem V.outs_map : ∀ ks : List V,V.outs ks = ks.map V.out
 | []=>rfl
 | v :: r=>by rw [V.outs,V.outs_map r];rfl
def bn (c : UInt8) : Bool:=decide (48 ≤ c.toNat ∧ c.toNat ≤ 57)
def cK (top : Int) (s : adA) : Option (Int × adA):=(aK (s.takeWhile bn) top).map fun n=>(n,s.dropWhile bn)
def bK (f : adA → Option (V × adA)) : Nat → adA → List V → Option (List V × adA)
 | 0,_,_=>none
 | m + 1,s,acc=>match f s with
  | none=>none
  | some (v,r)=>match r with
   | []=>none
   | c :: r'=>if c.toNat = 44 then bK f m r' (acc ++ [v]) else if c.toNat = 93 then some (acc ++ [v],r') else none
def aY (f : adA → adA → Option (V × adA)) (t : Ty) (s : adA) : Option ((Fld × V) × adA) :=
 match cK 200 s with
 | none=>none
 | some (n,r)=>match ck t.fields n with
  | none=>none
  | some d=>match r with
   | []=>none
   | c :: r'=>if c.toNat = 61 then (f d.kind r').map fun x=>((d,x.1),x.2) else none
def cd (ts : List Ty) (f : adA → adA → Option (V × adA)) (t : Ty) : Nat → Int → adA → List V → Option (List V × adA)
 | 0,_,_,_=>none
 | m + 1,last,s,acc=>match aY f t s with
  | none=>none
  | some ((d,v),r)=>if d.tag ≤ last ∨ v.out = bT ts d then none else match r with
   | []=>none
   | c :: r'=>if c.toNat = 44 then cd ts f t m d.tag r' (acc ++ [.nd 61 [] d.tag [v]]) else if c.toNat = 125 then some (acc ++ [.nd 61 [] d.tag [v]],r') else none
def bC (ts : List Ty) (f : adA → adA → Option (V × adA)) (t : Ty) : adA → Option (V × adA)
 | []=>none
 | c :: s=>if t.sort = 82 then
   (if c.toNat = 123 then (match s with
    | []=>none
    | c' :: r=>if c'.toNat = 125 then some (.nd 82 [] 0 [],r) else (cd ts f t (s.length + 1) 0 s []).map fun x=>(.nd 82 [] 0 x.1,x.2)) else none)
  else if t.sort = 69 then
   (if c.toNat = 35 then (match cK 200 s with
    | none=>none
    | some (n,r)=>if (ck t.fields n).isSome = true then some (.nd 69 [] n [],r) else none) else none)
  else if c.toNat = 60 then (match aY f t s with
    | none=>none
    | some ((d,v),r)=>match r with
     | []=>none
     | c' :: r'=>if c'.toNat = 62 then some (.nd 85 [] d.tag [v],r') else none)
   else none
def dJ : adA → Option (V × adA)
 | []=>none
 | c :: s=>if c.toNat = 39 then (match aH 39 s with
   | (x,r,true)=>if dW (39 :: (x ++ [39])) = true then some (.nd 116 x 0 [],r) else none
   | _=>none) else none
def eL (s : adA) : Option (V × adA) :=
 if [121,101,115].isPrefixOf s = true then some (.nd 102 [121,101,115] 0 [],s.drop 3) else if [110,111].isPrefixOf s = true then some (.nd 102 [110,111] 0 [],s.drop 2) else none
def fI (ts : List Ty) (f : adA → adA → Option (V × adA)) : adA → adA → Option (V × adA)
 | [],_=>none
 | c :: k,s =>
  if c.toNat = 91 then (match s with
   | []=>none
   | d :: s'=>if d.toNat = 91 then (match s' with
     | []=>none
     | e :: r=>if e.toNat = 93 then some (.nd 91 [] 0 [],r) else (bK (f k) 20 s' []).map fun x=>(.nd 91 [] 0 x.1,x.2)) else none)
  else if c.toNat = 63 then (match s with
   | []=>none
   | d :: s'=>if d.toNat = 45 then some (.nd 63 [] 0 [],s') else if d.toNat = 43 then (f k s').map fun x=>(.nd 63 [] 0 [x.1],x.2) else none)
  else match a8 ts (c :: k) with
   | some t=>bC ts f t s
   | none=>if c.toNat = 110 then (cK 999999 s).map fun x=>(.nd 110 (bI x.1) 0 [],x.2) else if c.toNat = 116 then dJ s else if c.toNat = 102 then eL s else none
def rd (ts : List Ty) : Nat → adA → adA → Option (V × adA)
 | 0,_,_=>none
 | n + 1,k,s=>fI ts (rd ts n) k s
def ce (ts : List Ty) (k s : adA) : Option V:=if s.length ≤ 400 then (match rd ts 12 k s with
 | some (v,[])=>some v
 | _=>none) else none
theorem m7 {f g : adA → Option (V × adA)} (h : ∀ s x,f s = some x → g s = some x) : ∀ (m : Nat) (s : adA) (acc : List V) {x : List V × adA},bK f m s acc = some x → bK g m s acc = some x
 | 0,_,_,_,e=>by cases e
 | m + 1,s,acc,x,e=>by
  unfold bK at e ⊢
  cases hf : f s with
  | none=>rw [hf] at e;cases e
  | some y =>
   rw [hf] at e
   rw [h s y hf]
   obtain ⟨v,r⟩:=y
   cases r with
   | nil=>exact e
   | cons c r =>
    dsimp only at e ⊢
    split at e
    ·rename_i hc;rw [if_pos hc];exact m7 h m r _ e
    ·rename_i hc;rw [if_neg hc];exact e
theorem m8 {f g : adA → adA → Option (V × adA)} (h : ∀ k s x,f k s = some x → g k s = some x) (t : Ty) (s : adA) {x : (Fld × V) × adA} (e : aY f t s = some x) : aY g t s = some x:=by
 unfold aY at e ⊢
 cases hn : cK 200 s with
 | none=>rw [hn] at e;cases e
 | some y =>
  rw [hn] at e
  obtain ⟨n,r⟩:=y
  dsimp only at e ⊢
  cases hd : ck t.fields n with
  | none=>rw [hd] at e;cases e
  | some d =>
   rw [hd] at e
   cases r with
   | nil=>cases e
   | cons c r' =>
    dsimp only at e ⊢
    by_cases hc : c.toNat = 61
    ·rw [if_pos hc] at e ⊢
     cases hf : f d.kind r' with
     | none=>rw [hf] at e;cases e
     | some y=>rw [hf] at e;rw [h _ _ y hf];exact e
    ·rw [if_neg hc] at e;cases e
theorem om {ts : List Ty} {f g : adA → adA → Option (V × adA)} (h : ∀ k s x,f k s = some x → g k s = some x) (t : Ty) : ∀ (m : Nat) (last : Int) (s : adA) (acc : List V) {x : List V × adA},cd ts f t m last s acc = some x → cd ts g t m last s acc = some x
 | 0,_,_,_,_,e=>by cases e
 | m + 1,last,s,acc,x,e=>by
  unfold cd at e ⊢
  cases hf : aY f t s with
  | none=>rw [hf] at e;cases e
  | some y =>
   rw [hf] at e
   rw [m8 h t s hf]
   obtain ⟨⟨d,v⟩,r⟩:=y
   dsimp only at e ⊢
   split at e
   ·cases e
   ·rename_i hd
    rw [if_neg hd]
    cases r with
    | nil=>exact e
    | cons c r =>
     dsimp only at e ⊢
     split at e
     ·rename_i hc;rw [if_pos hc];exact om h t m _ r _ e
     ·rename_i hc;rw [if_neg hc];exact e
theorem su {ts : List Ty} {f g : adA → adA → Option (V × adA)} (h : ∀ k s x,f k s = some x → g k s = some x) (t : Ty) : ∀ (s : adA) {x : V × adA},bC ts f t s = some x → bC ts g t s = some x
 | [],_,e=>by cases e
 | c :: s,x,e=>by
  unfold bC at e ⊢
  dsimp only at e ⊢
  by_cases h82 : t.sort = 82
  ·rw [if_pos h82] at e ⊢
   by_cases hc : c.toNat = 123
   ·rw [if_pos hc] at e ⊢
    cases s with
    | nil=>exact e
    | cons c' r =>
     dsimp only at e ⊢
     by_cases hc' : c'.toNat = 125
     ·rw [if_pos hc'] at e ⊢;exact e
     ·rw [if_neg hc'] at e ⊢
      cases hf : cd ts f t ((c' :: r).length + 1) 0 (c' :: r) [] with
      | none=>rw [hf] at e;cases e
      | some y=>rw [hf] at e;rw [om h t _ _ _ _ hf];exact e
   ·rw [if_neg hc] at e;cases e
  ·rw [if_neg h82] at e ⊢
   by_cases h69 : t.sort = 69
   ·rw [if_pos h69] at e ⊢;exact e
   ·rw [if_neg h69] at e ⊢
    by_cases hc : c.toNat = 60
    ·rw [if_pos hc] at e ⊢
     cases hf : aY f t s with
     | none=>rw [hf] at e;cases e
     | some y=>rw [hf] at e;rw [m8 h t s hf];exact e
    ·rw [if_neg hc] at e;cases e
theorem xJ {ts : List Ty} {f g : adA → adA → Option (V × adA)} (ih : ∀ k s x,f k s = some x → g k s = some x) : ∀ (k s : adA) {x : V × adA},fI ts f k s = some x → fI ts g k s = some x
 | [],_,_,e=>by cases e
 | c :: k,s,x,e=>by
  unfold fI at e ⊢
  dsimp only at e ⊢
  by_cases h91 : c.toNat = 91
  ·rw [if_pos h91] at e ⊢
   cases s with
   | nil=>exact e
   | cons d s' =>
    dsimp only at e ⊢
    by_cases hd : d.toNat = 91
    ·rw [if_pos hd] at e ⊢
     cases s' with
     | nil=>exact e
     | cons e' r =>
      dsimp only at e ⊢
      by_cases he : e'.toNat = 93
      ·rw [if_pos he] at e ⊢;exact e
      ·rw [if_neg he] at e ⊢
       cases hf : bK (f k) 20 (e' :: r) [] with
       | none=>rw [hf] at e;cases e
       | some y=>rw [hf] at e;rw [m7 (ih k) _ _ _ hf];exact e
    ·rw [if_neg hd] at e;cases e
  ·rw [if_neg h91] at e ⊢
   by_cases h63 : c.toNat = 63
   ·rw [if_pos h63] at e ⊢
    cases s with
    | nil=>exact e
    | cons d s' =>
     dsimp only at e ⊢
     by_cases hd : d.toNat = 45
     ·rw [if_pos hd] at e ⊢;exact e
     ·rw [if_neg hd] at e ⊢
      by_cases hd2 : d.toNat = 43
      ·rw [if_pos hd2] at e ⊢
       cases hf : f k s' with
       | none=>rw [hf] at e;cases e
       | some y=>rw [hf] at e;rw [ih k s' y hf];exact e
      ·rw [if_neg hd2] at e;cases e
   ·rw [if_neg h63] at e ⊢
    cases hr : a8 ts (c :: k) with
    | none=>rw [hr] at e;exact e
    | some t=>rw [hr] at e;exact su ih t s e
theorem uz {ts : List Ty} : ∀ (n : Nat) (k s : adA) {x : V × adA},rd ts n k s = some x → rd ts (n + 1) k s = some x
 | 0,_,_,_,e=>by cases e
 | n + 1,k,s,_,e=>xJ (fun k s _ e=>uz n k s e) k s e
theorem yK {ts : List Ty} {n m : Nat} (h : n ≤ m) {k s : adA} {x : V × adA} (e : rd ts n k s = some x) : rd ts m k s = some x:=by
  induction m with
  | zero => have : n = 0 := oM
            subst this;exact e
  | succ m ih =>
    by_cases hn : n = m + 1
    · subst hn;exact e
    · exact uz m k s (ih oM)
theorem V.deep_mem : ∀ {ks : List V} {v : V},v ∈ ks → V.deep v ≤ V.deeps ks
 | [],_,h=>by cases h
 | u :: ks,v,h=>by
  rw [V.deeps]
  rcases List.mem_cons.1 h with rfl | h
  ·exact Nat.le_max_left _ _
  ·exact Nat.le_trans (V.deep_mem h) (Nat.le_max_right _ _)
theorem V.deeps_le : ∀ {ks : List V} {n : Nat},(∀ v ∈ ks,V.deep v ≤ n) → V.deeps ks ≤ n
 | [],_,_=>by rw [V.deeps];exact Nat.zero_le _
 | u :: ks,n,h=>by
  rw [V.deeps]
  exact Nat.max_le.2 ⟨h u (.head _),V.deeps_le fun v hv=>h v (.tail _ hv)⟩
theorem d8 {w : Nat} {x : adA} {t : Int} {ks : List V} (h : ¬ w = 61) : V.deep (.nd w x t ks) = V.deeps ks + 1:=by rw [V.deep,if_neg h]
theorem kC {t : Int} {v : V} : V.deep (.nd 61 [] t [v]) = V.deep v:=by rw [V.deep,if_pos rfl,V.deeps,V.deeps,Nat.max_zero]
theorem i6 {f : adA → Option (V × adA)} {p : V → Prop} (h : ∀ s x,f s = some x → p x.1) : ∀ (m : Nat) (s : adA) (acc : List V) {x : List V × adA},bK f m s acc = some x → (∀ v ∈ acc,p v) → ∀ v ∈ x.1,p v
 | 0,_,_,_,e,_=>by cases e
 | m + 1,s,acc,x,e,ha=>by
  unfold bK at e
  cases hf : f s with
  | none=>rw [hf] at e;cases e
  | some y =>
   rw [hf] at e
   have hy:=h s y hf
   obtain ⟨v,r⟩:=y
   have ha' : ∀ u ∈ acc ++ [v],p u:=fun u hu=>by
    rcases List.mem_append.1 hu with hu | hu
    ·exact ha u hu
    ·simp only [List.mem_singleton] at hu;subst hu;exact hy
   cases r with
   | nil=>cases e
   | cons c r =>
    dsimp only at e
    split at e
    ·exact i6 h m r _ e ha'
    ·split at e
     ·simp only [Option.some.injEq] at e;subst e;exact ha'
     ·cases e
theorem oi {f g : adA → Option (V × adA)} : ∀ (m : Nat) (s : adA) (acc : List V) {x : List V × adA},bK f m s acc = some x → (∀ s y,f s = some y → y.1 ∈ x.1 → g s = some y) → bK g m s acc = some x ∧ ∀ v ∈ acc,v ∈ x.1
 | 0,_,_,_,e,_=>by cases e
 | m + 1,s,acc,x,e,h=>by
  unfold bK at e ⊢
  cases hf : f s with
  | none=>rw [hf] at e;cases e
  | some y =>
   rw [hf] at e
   have hy:=h s y hf
   obtain ⟨v,r⟩:=y
   cases r with
   | nil=>cases e
   | cons c r =>
    dsimp only at e hy
    split at e
    ·rename_i hc
     obtain ⟨h1,h2⟩:=oi m r _ e h
     rw [hy (h2 v (by simp))]
     dsimp only
     rw [if_pos hc]
     exact ⟨h1,fun u hu=>h2 u (List.mem_append_left _ hu)⟩
    ·rename_i hc
     split at e
     ·rename_i hc2
      simp only [Option.some.injEq] at e;subst e
      rw [hy (by simp)]
      dsimp only
      rw [if_neg hc,if_pos hc2]
      exact ⟨rfl,fun u hu=>List.mem_append_left _ hu⟩
     ·cases e
theorem f9 {f : adA → adA → Option (V × adA)} {t : Ty} {s : adA} {x : (Fld × V) × adA} (e : aY f t s = some x) : x.1.1 ∈ t.fields ∧ ∃ s',f x.1.1.kind s' = some (x.1.2,x.2):=by
 unfold aY at e
 cases hn : cK 200 s with
 | none=>rw [hn] at e;cases e
 | some y =>
  rw [hn] at e
  obtain ⟨n,r⟩:=y
  dsimp only at e
  cases hd : ck t.fields n with
  | none=>rw [hd] at e;cases e
  | some d =>
   rw [hd] at e
   cases r with
   | nil=>cases e
   | cons c r' =>
    dsimp only at e
    by_cases hc : c.toNat = 61
    ·rw [if_pos hc] at e
     cases hf : f d.kind r' with
     | none=>rw [hf] at e;cases e
     | some y =>
      rw [hf] at e
      simp only [Option.map_some,Option.some.injEq] at e
      subst e
      exact ⟨List.mem_of_find?_eq_some hd,r',hf⟩
    ·rw [if_neg hc] at e;cases e
theorem lb {f g : adA → adA → Option (V × adA)} {t : Ty} {s : adA} {x : (Fld × V) × adA} (e : aY f t s = some x) (h : ∀ k s y,f k s = some y → y.1 = x.1.2 → g k s = some y) : aY g t s = some x:=by
 unfold aY at e ⊢
 cases hn : cK 200 s with
 | none=>rw [hn] at e;cases e
 | some y =>
  rw [hn] at e
  obtain ⟨n,r⟩:=y
  dsimp only at e ⊢
  cases hd : ck t.fields n with
  | none=>rw [hd] at e;cases e
  | some d =>
   rw [hd] at e
   cases r with
   | nil=>cases e
   | cons c r' =>
    dsimp only at e ⊢
    by_cases hc : c.toNat = 61
    ·rw [if_pos hc] at e ⊢
     cases hf : f d.kind r' with
     | none=>rw [hf] at e;cases e
     | some y =>
      rw [hf] at e
      simp only [Option.map_some,Option.some.injEq] at e
      subst e
      rw [h _ _ _ hf rfl];rfl
    ·rw [if_neg hc] at e;cases e
theorem pJ {ts : List Ty} {f : adA → adA → Option (V × adA)} {t : Ty} {p : V → Prop} (h : ∀ k s x,f k s = some x → ∀ n,p (.nd 61 [] n [x.1])) : ∀ (m : Nat) (last : Int) (s : adA) (acc : List V) {x : List V × adA},cd ts f t m last s acc = some x → (∀ v ∈ acc,p v) → ∀ v ∈ x.1,p v
 | 0,_,_,_,_,e,_=>by cases e
 | m + 1,last,s,acc,x,e,ha=>by
  unfold cd at e
  cases hf : aY f t s with
  | none=>rw [hf] at e;cases e
  | some y =>
   rw [hf] at e
   obtain ⟨_,s',hs'⟩:=f9 hf
   have hy:=h _ s' _ hs'
   obtain ⟨⟨d,v⟩,r⟩:=y
   dsimp only at e hy
   have ha' : ∀ u ∈ acc ++ [V.nd 61 [] d.tag [v]],p u:=fun u hu=>by
    rcases List.mem_append.1 hu with hu | hu
    ·exact ha u hu
    ·simp only [List.mem_singleton] at hu;subst hu;exact hy d.tag
   split at e
   ·cases e
   ·cases r with
    | nil=>cases e
    | cons c r =>
     dsimp only at e
     split at e
     ·exact pJ h m _ r _ e ha'
     ·split at e
      ·simp only [Option.some.injEq] at e;subst e;exact ha'
      ·cases e
theorem pI {ts : List Ty} {f g : adA → adA → Option (V × adA)} {t : Ty} : ∀ (m : Nat) (last : Int) (s : adA) (acc : List V) {x : List V × adA},cd ts f t m last s acc = some x → (∀ k s y,f k s = some y → (∃ n,V.nd 61 [] n [y.1] ∈ x.1) → g k s = some y) → cd ts g t m last s acc = some x ∧ ∀ v ∈ acc,v ∈ x.1
 | 0,_,_,_,_,e,_=>by cases e
 | m + 1,last,s,acc,x,e,h=>by
  unfold cd at e ⊢
  cases hf : aY f t s with
  | none=>rw [hf] at e;cases e
  | some y =>
   rw [hf] at e
   obtain ⟨⟨d,v⟩,r⟩:=y
   dsimp only at e
   split at e
   ·cases e
   ·rename_i hd
    cases r with
    | nil=>cases e
    | cons c r =>
     dsimp only at e
     split at e
     ·rename_i hc
      obtain ⟨h1,h2⟩:=pI m _ r _ e h
      have hg:=lb (g:=g) hf (fun k s y hy e2=>h k s y hy ⟨d.tag,by rw [e2];exact h2 _ (by simp)⟩)
      rw [hg]
      dsimp only
      rw [if_neg hd,if_pos hc]
      exact ⟨h1,fun u hu=>h2 u (List.mem_append_left _ hu)⟩
     ·rename_i hc
      split at e
      ·rename_i hc2
       simp only [Option.some.injEq] at e;subst e
       have hg:=lb (g:=g) hf (fun k s y hy e2=>h k s y hy ⟨d.tag,by rw [e2];simp⟩)
       rw [hg]
       dsimp only
       rw [if_neg hd,if_neg hc,if_pos hc2]
       exact ⟨rfl,fun u hu=>List.mem_append_left _ hu⟩
      ·cases e
theorem uA {ts : List Ty} {f g : adA → adA → Option (V × adA)} : ∀ (k s : adA) {x : V × adA},fI ts f k s = some x → ∃ w tx tg ks,x.1 = .nd w tx tg ks ∧ ¬ w = 61 ∧ ((∀ k s y,f k s = some y → V.deep y.1 ≤ V.deeps ks → g k s = some y) → fI ts g k s = some x) ∧ ∀ n,(∀ k s y,f k s = some y → V.deep y.1 ≤ n) → V.deeps ks ≤ n
 | [],_,_,e=>by cases e
 | c :: k,s,x,e=>by
  unfold fI at e ⊢
  dsimp only at e ⊢
  have leaf : ∀ {w : Nat} {tx : adA} {tg : Int} {q : Prop},x.1 = .nd w tx tg [] → ¬ w = 61 → q → ∃ w tx tg ks,x.1 = .nd w tx tg ks ∧ ¬ w = 61 ∧ ((∀ k s y,f k s = some y → V.deep y.1 ≤ V.deeps ks → g k s = some y) → q) ∧ ∀ n,(∀ k s y,f k s = some y → V.deep y.1 ≤ n) → V.deeps ks ≤ n :=
   fun h1 h2 h3=>⟨_,_,_,[],h1,h2,fun _=>h3,fun n _=>by rw [V.deeps];exact Nat.zero_le n⟩
  by_cases h91 : c.toNat = 91
  ·simp only [if_pos h91] at e ⊢
   cases s with
   | nil=>cases e
   | cons d s' =>
    dsimp only at e ⊢
    by_cases hd : d.toNat = 91
    ·simp only [if_pos hd] at e ⊢
     cases s' with
     | nil=>cases e
     | cons e' r =>
      dsimp only at e ⊢
      by_cases he : e'.toNat = 93
      ·simp only [if_pos he] at e ⊢
       have e2:=e
       simp only [Option.some.injEq] at e2;subst e2
       exact leaf rfl dC rfl
      ·simp only [if_neg he] at e ⊢
       cases hf : bK (f k) 20 (e' :: r) [] with
       | none=>rw [hf] at e;cases e
       | some y =>
        rw [hf] at e
        simp only [Option.map_some,Option.some.injEq] at e;subst e
        refine ⟨91,[],0,y.1,rfl,by decide,fun h=>?_,fun n h=>?_⟩
        ·rw [(oi (g:=g k) _ _ _ hf fun s u hu hm=>h k s u hu (V.deep_mem hm)).1];rfl
        ·exact V.deeps_le fun v hv=>i6 (p:=fun v=>V.deep v ≤ n) (fun s u hu=>h k s u hu) _ _ _ hf (by simp) v hv
    ·simp only [if_neg hd] at e;cases e
  ·simp only [if_neg h91] at e ⊢
   by_cases h63 : c.toNat = 63
   ·simp only [if_pos h63] at e ⊢
    cases s with
    | nil=>cases e
    | cons d s' =>
     dsimp only at e ⊢
     by_cases hd : d.toNat = 45
     ·simp only [if_pos hd] at e ⊢
      have e2:=e
      simp only [Option.some.injEq] at e2;subst e2
      exact leaf rfl dC rfl
     ·simp only [if_neg hd] at e ⊢
      by_cases hd2 : d.toNat = 43
      ·simp only [if_pos hd2] at e ⊢
       cases hf : f k s' with
       | none=>rw [hf] at e;cases e
       | some y =>
        rw [hf] at e
        simp only [Option.map_some,Option.some.injEq] at e;subst e
        refine ⟨63,[],0,[y.1],rfl,by decide,fun h=>?_,fun n h=>?_⟩
        ·rw [h k s' y hf (V.deep_mem (by simp))];rfl
        ·exact V.deeps_le fun v hv=>by simp only [List.mem_singleton] at hv;subst hv;exact h k s' y hf
      ·simp only [if_neg hd2] at e;cases e
   ·simp only [if_neg h63] at e ⊢
    cases hr : a8 ts (c :: k) with
    | none =>
     rw [hr] at e
     dsimp only at e ⊢
     by_cases h1 : c.toNat = 110
     ·simp only [if_pos h1] at e ⊢
      cases hn : cK 999999 s with
      | none=>rw [hn] at e;cases e
      | some y =>
       rw [hn] at e
       have e2:=e
       simp only [Option.map_some,Option.some.injEq] at e2;subst e2
       exact leaf rfl dC rfl
     ·simp only [if_neg h1] at e ⊢
      by_cases h2 : c.toNat = 116
      ·simp only [if_pos h2] at e ⊢
       refine leaf (w:=116) (tx:=x.1.text) (tg:=0) ?_ dC e
       unfold dJ at e
       split at e
       ·cases e
       ·split at e
        ·split at e
         ·split at e
          ·simp only [Option.some.injEq] at e;subst e;rfl
          ·cases e
         ·cases e
        ·cases e
      ·simp only [if_neg h2] at e ⊢
       by_cases h3 : c.toNat = 102
       ·simp only [if_pos h3] at e ⊢
        refine leaf (w:=102) (tx:=x.1.text) (tg:=0) ?_ dC e
        unfold eL at e
        split at e
        ·simp only [Option.some.injEq] at e;subst e;rfl
        ·split at e
         ·simp only [Option.some.injEq] at e;subst e;rfl
         ·cases e
       ·simp only [if_neg h3] at e;cases e
    | some t =>
     rw [hr] at e
     dsimp only at e ⊢
     unfold bC at e ⊢
     cases s with
     | nil=>cases e
     | cons d s =>
      dsimp only at e ⊢
      by_cases h82 : t.sort = 82
      ·simp only [if_pos h82] at e ⊢
       by_cases hd : d.toNat = 123
       ·simp only [if_pos hd] at e ⊢
        cases s with
        | nil=>cases e
        | cons d' r =>
         dsimp only at e ⊢
         by_cases hd' : d'.toNat = 125
         ·simp only [if_pos hd'] at e ⊢
          have e2:=e
          simp only [Option.some.injEq] at e2;subst e2
          exact leaf rfl dC rfl
         ·simp only [if_neg hd'] at e ⊢
          cases hf : cd ts f t ((d' :: r).length + 1) 0 (d' :: r) [] with
          | none=>rw [hf] at e;cases e
          | some y =>
           rw [hf] at e
           simp only [Option.map_some,Option.some.injEq] at e;subst e
           refine ⟨82,[],0,y.1,rfl,by decide,fun h=>?_,fun n h=>?_⟩
           ·rw [(pI (g:=g) _ _ _ _ hf fun k s u hu hm=>h k s u hu (by obtain ⟨n,hm⟩:=hm;have:=V.deep_mem hm;rwa [kC] at this)).1];rfl
           ·exact V.deeps_le fun v hv=>pJ (p:=fun v=>V.deep v ≤ n) (fun k s u hu m=>by rw [kC];exact h k s u hu) _ _ _ _ hf (by simp) v hv
       ·simp only [if_neg hd] at e;cases e
      ·simp only [if_neg h82] at e ⊢
       by_cases h69 : t.sort = 69
       ·simp only [if_pos h69] at e ⊢
        refine leaf (w:=69) (tx:=[]) (tg:=x.1.tag) ?_ dC e
        split at e
        ·split at e
         ·cases e
         ·split at e
          ·simp only [Option.some.injEq] at e;subst e;rfl
          ·cases e
        ·cases e
       ·simp only [if_neg h69] at e ⊢
        by_cases hd : d.toNat = 60
        ·simp only [if_pos hd] at e ⊢
         cases hf : aY f t s with
         | none=>rw [hf] at e;cases e
         | some y =>
          rw [hf] at e
          obtain ⟨⟨fd,v⟩,r⟩:=y
          cases r with
          | nil=>cases e
          | cons c' r =>
           dsimp only at e
           by_cases hc' : c'.toNat = 62
           ·simp only [if_pos hc',Option.some.injEq] at e;subst e
            refine ⟨85,[],fd.tag,[v],rfl,by decide,fun h=>?_,fun n h=>?_⟩
            ·rw [lb (g:=g) hf fun k s u hu e2=>h k s u hu (by rw [e2];exact V.deep_mem (by simp))]
             dsimp only
             rw [if_pos hc']
            ·obtain ⟨_,s',hs'⟩:=f9 hf
             exact V.deeps_le fun u hu=>by simp only [List.mem_singleton] at hu;subst hu;exact h _ _ _ hs'
           ·simp only [if_neg hc'] at e;cases e
        ·simp only [if_neg hd] at e;cases e
theorem jw {ts : List Ty} : ∀ (n : Nat) (k s : adA) (x : V × adA),rd ts n k s = some x → V.deep x.1 ≤ n
 | 0,_,_,_,e=>by cases e
 | n + 1,k,s,x,e=>by
  obtain ⟨w,tx,tg,ks,h1,h2,_,h4⟩:=uA (g:=rd ts n) k s e
  rw [h1,d8 h2]
  have:=h4 n fun k s y hy=>jw n k s y hy
  omega
theorem yL {ts : List Ty} : ∀ (n m : Nat) (k s : adA) (x : V × adA),rd ts n k s = some x → V.deep x.1 ≤ m → rd ts m k s = some x
 | 0,_,_,_,_,e,_=>by cases e
 | n + 1,m,k,s,x,e,hm=>by
  obtain ⟨w,tx,tg,ks,h1,h2,h3,_⟩:=uA (g:=rd ts (m - 1)) k s e
  rw [h1,d8 h2] at hm
  obtain ⟨m,rfl⟩ : ∃ j,m = j + 1:=⟨m - 1,oM⟩
  exact h3 fun k s y hy hd=>yL n m k s y hy oM
theorem bX {c : UInt8} {n : Nat} (h : c.toNat = n) (hn : n < 256) : c = UInt8.ofNat n:=by
 apply UInt8.toNat_inj.1;rw [h,UInt8.toNat_ofNat'];omega
theorem kL {top : Int} {s r : adA} {n : Int} (h : cK top s = some (n,r)) : s = bI n ++ r:=by
 unfold cK at h
 cases hn : aK (s.takeWhile bn) top with
 | none=>rw [hn] at h;cases h
 | some q =>
  rw [hn] at h
  simp only [Option.map_some,Option.some.injEq,Prod.mk.injEq] at h
  obtain ⟨rfl,rfl⟩:=h
  rw [← (d6 hn).2.1,List.takeWhile_append_dropWhile]
theorem oh {f : adA → Option (V × adA)} (h : ∀ s y,f s = some y → s = y.1.out ++ y.2) : ∀ (m : Nat) (s : adA) (acc : List V) {x : List V × adA},bK f m s acc = some x → ∃ vs,vs ≠ [] ∧ x.1 = acc ++ vs ∧ s = aL 44 (vs.map V.out) ++ 93 :: x.2
 | 0,_,_,_,e=>by cases e
 | m + 1,s,acc,x,e=>by
  unfold bK at e
  cases hf : f s with
  | none=>rw [hf] at e;cases e
  | some y =>
   rw [hf] at e
   have hy:=h s y hf
   obtain ⟨v,r⟩:=y
   cases r with
   | nil=>cases e
   | cons c r =>
    dsimp only at e hy
    split at e
    ·rename_i hc
     obtain ⟨vs,h1,h2,h3⟩:=oh h m r _ e
     have hc2:=bX hc dC
     refine ⟨v :: vs,by simp,by rw [h2];simp,?_⟩
     rw [hy,h3,List.map_cons,mh _ _ (by simpa using h1),hc2]
     simp
    ·split at e
     ·rename_i hc2
      have hc3:=bX hc2 dC
      simp only [Option.some.injEq] at e;subst e
      exact ⟨[v],by simp,rfl,by rw [hy,hc3];rfl⟩
     ·cases e
theorem gc {t : Int} {v : V} : V.out (.nd 61 [] t [v]) = bI t ++ 61 :: v.out:=by
 rw [V.out,V.outs,V.outs];simp [cW,aL]
theorem ot {f : adA → adA → Option (V × adA)} (h : ∀ k s y,f k s = some y → s = y.1.out ++ y.2) {t : Ty} {s : adA} {x : (Fld × V) × adA} (e : aY f t s = some x) : s = bI x.1.1.tag ++ 61 :: (x.1.2.out ++ x.2):=by
 unfold aY at e
 cases hn : cK 200 s with
 | none=>rw [hn] at e;cases e
 | some y =>
  rw [hn] at e
  obtain ⟨n,r⟩:=y
  have h1:=kL hn
  dsimp only at e
  cases hd : ck t.fields n with
  | none=>rw [hd] at e;cases e
  | some d =>
   rw [hd] at e
   have h2 : d.tag = n:=by have:=List.find?_some hd;simpa using this
   cases r with
   | nil=>cases e
   | cons c r' =>
    dsimp only at e
    by_cases hc : c.toNat = 61
    ·rw [if_pos hc] at e
     cases hf : f d.kind r' with
     | none=>rw [hf] at e;cases e
     | some y =>
      rw [hf] at e
      simp only [Option.map_some,Option.some.injEq] at e
      subst e
      have h3:=h _ _ _ hf
      dsimp only
      rw [h1,h2,h3,bX hc dC];rfl
    ·rw [if_neg hc] at e;cases e
theorem pH {ts : List Ty} {f : adA → adA → Option (V × adA)} (h : ∀ k s y,f k s = some y → s = y.1.out ++ y.2) {t : Ty} : ∀ (m : Nat) (last : Int) (s : adA) (acc : List V) {x : List V × adA},cd ts f t m last s acc = some x → ∃ vs,vs ≠ [] ∧ x.1 = acc ++ vs ∧ s = aL 44 (vs.map V.out) ++ 125 :: x.2
 | 0,_,_,_,_,e=>by cases e
 | m + 1,last,s,acc,x,e=>by
  unfold cd at e
  cases hf : aY f t s with
  | none=>rw [hf] at e;cases e
  | some y =>
   rw [hf] at e
   have hy:=ot h hf
   obtain ⟨⟨d,v⟩,r⟩:=y
   dsimp only at e hy
   split at e
   ·cases e
   ·cases r with
    | nil=>cases e
    | cons c r =>
     dsimp only at e
     split at e
     ·rename_i hc
      obtain ⟨vs,h1,h2,h3⟩:=pH h m _ r _ e
      have hc2:=bX hc dC
      refine ⟨V.nd 61 [] d.tag [v] :: vs,by simp,by rw [h2];simp,?_⟩
      rw [hy,h3,List.map_cons,mh _ _ (by simpa using h1),hc2,gc]
      simp
     ·split at e
      ·rename_i hc2
       have hc3:=bX hc2 dC
       simp only [Option.some.injEq] at e;subst e
       exact ⟨[V.nd 61 [] d.tag [v]],by simp,rfl,by rw [hy,hc3];simp [aL,gc]⟩
      ·cases e
theorem rJ {k : Nat} {c : UInt8} (hc : c.toNat = k) : ∀ {s x r : adA},aH k s = (x,r,true) → s = x ++ c :: r
 | [],_,_,h=>by cases h
 | d :: s,x,r,h=>by
  unfold aH at h
  split at h
  ·rename_i hd
   simp only [Prod.mk.injEq,and_true] at h
   obtain ⟨rfl,rfl⟩:=h
   have : d = c:=UInt8.toNat_inj.1 (by rw [hd,hc])
   rw [this];rfl
  ·simp only [Prod.mk.injEq] at h
   obtain ⟨h1,h2,h3⟩:=h
   have ih:=rJ hc (s:=s) (x:=(aH k s).1) (r:=(aH k s).2.1) (by rw [← h3])
   rw [← h1,← h2,List.cons_append,← ih]
theorem qy {p s : adA} (h : p.isPrefixOf s = true) : s = p ++ s.drop p.length:=by
 rw [List.isPrefixOf_iff_prefix] at h
 obtain ⟨t,rfl⟩:=h
 simp
theorem oe {s : adA} {x : V × adA} (e : dJ s = some x) : s = x.1.out ++ x.2:=by
 unfold dJ at e
 cases s with
 | nil=>cases e
 | cons c s =>
  dsimp only at e
  by_cases hc : c.toNat = 39
  ·rw [if_pos hc] at e
   rcases hq : aH 39 s with ⟨y,r,b⟩
   rw [hq] at e
   cases b with
   | false=>cases e
   | true =>
    dsimp only at e
    split at e
    ·simp only [Option.some.injEq] at e;subst e
     have h1:=rJ (c:=39) rfl hq
     rw [h1,bX hc dC]
     simp [V.out,cW]
    ·cases e
  ·rw [if_neg hc] at e;cases e
theorem pK {s : adA} {x : V × adA} (e : eL s = some x) : s = x.1.out ++ x.2:=by
 unfold eL at e
 split at e
 ·rename_i h
  simp only [Option.some.injEq] at e;subst e
  have:=qy h
  simpa [V.out,cW] using this
 ·split at e
  ·rename_i h
   simp only [Option.some.injEq] at e;subst e
   have:=qy h
   simpa [V.out,cW] using this
  ·cases e
theorem oT {ks : List V} {r : adA} : V.out (.nd 91 [] 0 ks) ++ r = 91 :: (aL 44 (ks.map V.out) ++ 93 :: r):=by
 rw [V.out,V.outs_map];simp [cW]
theorem qz {ks : List V} {r : adA} : V.out (.nd 82 [] 0 ks) ++ r = 123 :: (aL 44 (ks.map V.out) ++ 125 :: r):=by
 rw [V.out,V.outs_map];simp [cW]
theorem uH {v : V} {r : adA} : V.out (.nd 63 [] 0 [v]) ++ r = 43 :: (v.out ++ r):=by
 rw [V.out,V.outs_map];simp [cW,aL]
theorem nS {v : V} {n : Int} {r : adA} : V.out (.nd 85 [] n [v]) ++ r = 60 :: (bI n ++ 61 :: (v.out ++ 62 :: r)):=by
 rw [V.out,V.outs_map];simp [cW,aL]
theorem zv {ts : List Ty} {f : adA → adA → Option (V × adA)} (h : ∀ k s y,f k s = some y → s = y.1.out ++ y.2) : ∀ (k s : adA) {x : V × adA},fI ts f k s = some x → s = x.1.out ++ x.2
 | [],_,_,e=>by cases e
 | c :: k,s,x,e=>by
  unfold fI at e
  dsimp only at e
  by_cases h91 : c.toNat = 91
  ·simp only [if_pos h91] at e
   cases s with
   | nil=>cases e
   | cons d s' =>
    dsimp only at e
    by_cases hd : d.toNat = 91
    ·simp only [if_pos hd] at e
     cases s' with
     | nil=>cases e
     | cons e' r =>
      dsimp only at e
      by_cases he : e'.toNat = 93
      ·simp only [if_pos he,Option.some.injEq] at e;subst e
       rw [oT,bX hd dC,bX he dC];rfl
      ·simp only [if_neg he] at e
       cases hf : bK (f k) 20 (e' :: r) [] with
       | none=>rw [hf] at e;cases e
       | some y =>
        rw [hf] at e
        simp only [Option.map_some,Option.some.injEq] at e;subst e
        obtain ⟨vs,_,h2,h3⟩:=oh (h k) _ _ _ hf
        rw [oT,h2,h3,bX hd dC];rfl
    ·simp only [if_neg hd] at e;cases e
  ·simp only [if_neg h91] at e
   by_cases h63 : c.toNat = 63
   ·simp only [if_pos h63] at e
    cases s with
    | nil=>cases e
    | cons d s' =>
     dsimp only at e
     by_cases hd : d.toNat = 45
     ·simp only [if_pos hd,Option.some.injEq] at e;subst e
      rw [bX hd dC];simp [V.out,cW]
     ·simp only [if_neg hd] at e
      by_cases hd2 : d.toNat = 43
      ·simp only [if_pos hd2] at e
       cases hf : f k s' with
       | none=>rw [hf] at e;cases e
       | some y =>
        rw [hf] at e
        simp only [Option.map_some,Option.some.injEq] at e;subst e
        rw [uH,← h k s' y hf,bX hd2 dC];rfl
      ·simp only [if_neg hd2] at e;cases e
   ·simp only [if_neg h63] at e
    cases hr : a8 ts (c :: k) with
    | none =>
     rw [hr] at e
     dsimp only at e
     by_cases h1 : c.toNat = 110
     ·simp only [if_pos h1] at e
      cases hn : cK 999999 s with
      | none=>rw [hn] at e;cases e
      | some y =>
       rw [hn] at e
       simp only [Option.map_some,Option.some.injEq] at e;subst e
       rw [kL hn];simp [V.out,cW]
     ·simp only [if_neg h1] at e
      by_cases h2 : c.toNat = 116
      ·simp only [if_pos h2] at e;exact oe e
      ·simp only [if_neg h2] at e
       by_cases h3 : c.toNat = 102
       ·simp only [if_pos h3] at e;exact pK e
       ·simp only [if_neg h3] at e;cases e
    | some t =>
     rw [hr] at e
     dsimp only at e
     unfold bC at e
     cases s with
     | nil=>cases e
     | cons d s =>
      dsimp only at e
      by_cases h82 : t.sort = 82
      ·simp only [if_pos h82] at e
       by_cases hd : d.toNat = 123
       ·simp only [if_pos hd] at e
        cases s with
        | nil=>cases e
        | cons d' r =>
         dsimp only at e
         by_cases hd' : d'.toNat = 125
         ·simp only [if_pos hd',Option.some.injEq] at e;subst e
          rw [qz,bX hd dC,bX hd' dC];rfl
         ·simp only [if_neg hd'] at e
          cases hf : cd ts f t ((d' :: r).length + 1) 0 (d' :: r) [] with
          | none=>rw [hf] at e;cases e
          | some y =>
           rw [hf] at e
           simp only [Option.map_some,Option.some.injEq] at e;subst e
           obtain ⟨vs,_,h2,h3⟩:=pH h _ _ _ _ hf
           rw [qz,h2,h3,bX hd dC];rfl
       ·simp only [if_neg hd] at e;cases e
      ·simp only [if_neg h82] at e
       by_cases h69 : t.sort = 69
       ·simp only [if_pos h69] at e
        by_cases hd : d.toNat = 35
        ·simp only [if_pos hd] at e
         cases hn : cK 200 s with
         | none=>rw [hn] at e;cases e
         | some y =>
          rw [hn] at e
          obtain ⟨n,r⟩:=y
          dsimp only at e
          split at e
          ·simp only [Option.some.injEq] at e;subst e
           rw [kL hn,bX hd dC];simp [V.out,cW]
          ·cases e
        ·simp only [if_neg hd] at e;cases e
       ·simp only [if_neg h69] at e
        by_cases hd : d.toNat = 60
        ·simp only [if_pos hd] at e
         cases hf : aY f t s with
         | none=>rw [hf] at e;cases e
         | some y =>
          rw [hf] at e
          have h3:=ot h hf
          obtain ⟨⟨fd,v⟩,r⟩:=y
          cases r with
          | nil=>cases e
          | cons c' r =>
           dsimp only at e h3
           by_cases hc' : c'.toNat = 62
           ·simp only [if_pos hc',Option.some.injEq] at e;subst e
            rw [nS,h3,bX hd dC,bX hc' dC];rfl
           ·simp only [if_neg hc'] at e;cases e
        ·simp only [if_neg hd] at e;cases e
theorem m4 {ts : List Ty} : ∀ (n : Nat) (k s : adA) (x : V × adA),rd ts n k s = some x → s = x.1.out ++ x.2
 | 0,_,_,_,e=>by cases e
 | n + 1,k,s,x,e=>zv (fun k s y hy=>m4 n k s y hy) k s e
theorem eR {ts : List Ty} {k s : adA} {v : V} (h : ce ts k s = some v) : v.out = s ∧ s.length ≤ 400 ∧ V.deep v ≤ 12:=by
 unfold ce at h
 split at h
 ·rename_i hl
  split at h
  ·rename_i w hw
   simp only [Option.some.injEq] at h;subst h
   have h1:=m4 _ _ _ _ hw
   have h2:=jw _ _ _ _ hw
   simp only [List.append_nil] at h1
   exact ⟨h1.symm,hl,h2⟩
  ·cases h
 ·cases h
inductive RdK (ts : List Ty) (f : adA → adA → Option (V × adA)) : adA → adA → V → adA → Prop
 | lst0 (k r : adA) : RdK ts f (91 :: k) (91 :: 93 :: r) (.nd 91 [] 0 []) r
 | lst (k s r : adA) (vs : List V) : bK (f k) 20 s [] = some (vs,r) → RdK ts f (91 :: k) (91 :: s) (.nd 91 [] 0 vs) r
 | non (k r : adA) : RdK ts f (63 :: k) (45 :: r) (.nd 63 [] 0 []) r
 | opt (k s r : adA) (v : V) : f k s = some (v,r) → RdK ts f (63 :: k) (43 :: s) (.nd 63 [] 0 [v]) r
 | num (k s r : adA) (n : Int) : a8 ts (110 :: k) = none → cK 999999 s = some (n,r) → RdK ts f (110 :: k) s (.nd 110 (bI n) 0 []) r
 | txt (k s r : adA) (v : V) : a8 ts (116 :: k) = none → dJ s = some (v,r) → RdK ts f (116 :: k) s v r
 | flg (k s r : adA) (v : V) : a8 ts (102 :: k) = none → eL s = some (v,r) → RdK ts f (102 :: k) s v r
 | recd0 (k r : adA) (t : Ty) : a8 ts k = some t → t.sort = 82 → RdK ts f k (123 :: 125 :: r) (.nd 82 [] 0 []) r
 | recd (k s r : adA) (t : Ty) (vs : List V) : a8 ts k = some t → t.sort = 82 → cd ts f t (s.length + 1) 0 s [] = some (vs,r) → RdK ts f k (123 :: s) (.nd 82 [] 0 vs) r
 | enm (k s r : adA) (t : Ty) (n : Int) : a8 ts k = some t → t.sort = 69 → cK 200 s = some (n,r) → (ck t.fields n).isSome = true → RdK ts f k (35 :: s) (.nd 69 [] n []) r
 | uni (k s r : adA) (t : Ty) (d : Fld) (v : V) : a8 ts k = some t → t.sort ≠ 82 → t.sort ≠ 69 → aY f t s = some ((d,v),62 :: r) → RdK ts f k (60 :: s) (.nd 85 [] d.tag [v]) r
theorem qx {ts : List Ty} {f : adA → adA → Option (V × adA)} : ∀ (k s : adA) {x : V × adA},fI ts f k s = some x → RdK ts f k s x.1 x.2
 | [],_,_,e=>by cases e
 | c :: k,s,x,e=>by
  unfold fI at e
  dsimp only at e
  by_cases h91 : c.toNat = 91
  ·simp only [if_pos h91] at e
   obtain rfl:=bX h91 dC
   cases s with
   | nil=>cases e
   | cons d s' =>
    dsimp only at e
    by_cases hd : d.toNat = 91
    ·simp only [if_pos hd] at e
     obtain rfl:=bX hd dC
     cases s' with
     | nil=>cases e
     | cons e' r =>
      dsimp only at e
      by_cases he : e'.toNat = 93
      ·simp only [if_pos he,Option.some.injEq] at e;subst e
       obtain rfl:=bX he dC
       exact .lst0 _ _
      ·simp only [if_neg he] at e
       cases hf : bK (f k) 20 (e' :: r) [] with
       | none=>rw [hf] at e;cases e
       | some y =>
        rw [hf] at e
        simp only [Option.map_some,Option.some.injEq] at e;subst e
        exact .lst _ _ _ _ hf
    ·simp only [if_neg hd] at e;cases e
  ·simp only [if_neg h91] at e
   by_cases h63 : c.toNat = 63
   ·simp only [if_pos h63] at e
    obtain rfl:=bX h63 dC
    cases s with
    | nil=>cases e
    | cons d s' =>
     dsimp only at e
     by_cases hd : d.toNat = 45
     ·simp only [if_pos hd,Option.some.injEq] at e;subst e
      obtain rfl:=bX hd dC
      exact .non _ _
     ·simp only [if_neg hd] at e
      by_cases hd2 : d.toNat = 43
      ·simp only [if_pos hd2] at e
       obtain rfl:=bX hd2 dC
       cases hf : f k s' with
       | none=>rw [hf] at e;cases e
       | some y =>
        rw [hf] at e
        simp only [Option.map_some,Option.some.injEq] at e;subst e
        exact .opt _ _ _ _ hf
      ·simp only [if_neg hd2] at e;cases e
   ·simp only [if_neg h63] at e
    cases hr : a8 ts (c :: k) with
    | none =>
     rw [hr] at e
     dsimp only at e
     by_cases h1 : c.toNat = 110
     ·simp only [if_pos h1] at e
      obtain rfl:=bX h1 dC
      cases hn : cK 999999 s with
      | none=>rw [hn] at e;cases e
      | some y =>
       rw [hn] at e
       simp only [Option.map_some,Option.some.injEq] at e;subst e
       exact .num _ _ _ _ hr hn
     ·simp only [if_neg h1] at e
      by_cases h2 : c.toNat = 116
      ·simp only [if_pos h2] at e
       obtain rfl:=bX h2 dC
       exact .txt _ _ _ _ hr e
      ·simp only [if_neg h2] at e
       by_cases h3 : c.toNat = 102
       ·simp only [if_pos h3] at e
        obtain rfl:=bX h3 dC
        exact .flg _ _ _ _ hr e
       ·simp only [if_neg h3] at e;cases e
    | some t =>
     rw [hr] at e
     dsimp only at e
     unfold bC at e
     cases s with
     | nil=>cases e
     | cons d s =>
      dsimp only at e
      by_cases h82 : t.sort = 82
      ·simp only [if_pos h82] at e
       by_cases hd : d.toNat = 123
       ·simp only [if_pos hd] at e
        obtain rfl:=bX hd dC
        cases s with
        | nil=>cases e
        | cons d' r =>
         dsimp only at e
         by_cases hd' : d'.toNat = 125
         ·simp only [if_pos hd',Option.some.injEq] at e;subst e
          obtain rfl:=bX hd' dC
          exact .recd0 _ _ t hr h82
         ·simp only [if_neg hd'] at e
          cases hf : cd ts f t ((d' :: r).length + 1) 0 (d' :: r) [] with
          | none=>rw [hf] at e;cases e
          | some y =>
           rw [hf] at e
           simp only [Option.map_some,Option.some.injEq] at e;subst e
           exact .recd _ _ _ t _ hr h82 hf
       ·simp only [if_neg hd] at e;cases e
      ·simp only [if_neg h82] at e
       by_cases h69 : t.sort = 69
       ·simp only [if_pos h69] at e
        by_cases hd : d.toNat = 35
        ·simp only [if_pos hd] at e
         obtain rfl:=bX hd dC
         cases hn : cK 200 s with
         | none=>rw [hn] at e;cases e
         | some y =>
          rw [hn] at e
          obtain ⟨n,r⟩:=y
          dsimp only at e
          split at e
          ·rename_i hs
           simp only [Option.some.injEq] at e;subst e
           exact .enm _ _ _ t _ hr h69 hn hs
          ·cases e
        ·simp only [if_neg hd] at e;cases e
       ·simp only [if_neg h69] at e
        by_cases hd : d.toNat = 60
        ·simp only [if_pos hd] at e
         obtain rfl:=bX hd dC
         cases hf : aY f t s with
         | none=>rw [hf] at e;cases e
         | some y =>
          rw [hf] at e
          obtain ⟨⟨fd,v⟩,r⟩:=y
          cases r with
          | nil=>cases e
          | cons c' r =>
           dsimp only at e
           by_cases hc' : c'.toNat = 62
           ·simp only [if_pos hc',Option.some.injEq] at e;subst e
            obtain rfl:=bX hc' dC
            exact .uni _ _ _ t _ _ hr h82 h69 hf
           ·simp only [if_neg hc'] at e;cases e
        ·simp only [if_neg hd] at e;cases e
mutual
def V.tot : V → Nat
 | .nd _ x _ ks=>20 + x.length + V.tots ks
def V.tots : List V → Nat
 | []=>0
 | v :: r=>V.tot v + V.tots r
end
theorem dY : ∀ (a b : List V),V.tots (a ++ b) = V.tots a + V.tots b
 | [],b=>by simp [V.tots]
 | v :: a,b=>by simp only [List.cons_append,V.tots,dY a b];omega
theorem hC (v : V) : 20 ≤ v.tot:=by obtain ⟨w,x,t,ks⟩:=v;rw [V.tot];omega
theorem oI : ∀ {ks : List V} {v : V},v ∈ ks → V.tot v ≤ V.tots ks
 | u :: ks,v,h=>by
  rw [V.tots]
  rcases List.mem_cons.1 h with rfl | h
  ·omega
  ·have:=oI h;omega
theorem di : ∀ (ks : List V),20 * ks.length ≤ V.tots ks
 | []=>by simp [V.tots]
 | u :: ks=>by rw [V.tots,List.length_cons];have:=di ks;have:=hC u;omega
theorem gy (n : Int) : 1 ≤ (bI n).length:=by
 by_cases h : n < 10
 ·by_cases h0 : 0 ≤ n
  ·rw [d9 h h0];simp
  ·have : n.toNat = (0 : Int).toNat:=oM
   have e : bI n = bI 0:=by unfold bI;rw [this]
   rw [e,d9 dC dC];simp
 ·rw [j6 h];simp
theorem m5 {top : Int} {s r : adA} {n : Int} (h : cK top s = some (n,r)) : (bI n).length + r.length = s.length ∧ 1 ≤ (bI n).length:=by
 have:=kL h
 exact ⟨by rw [this];simp,gy n⟩
theorem og {f : adA → Option (V × adA)} (h : ∀ s y,f s = some y → y.1.tot + 100 * y.2.length ≤ 100 * s.length) : ∀ (m : Nat) (s : adA) (acc : List V) {x : List V × adA},bK f m s acc = some x → V.tots x.1 + 100 * (x.2.length + 1) ≤ V.tots acc + 100 * s.length
 | 0,_,_,_,e=>by cases e
 | m + 1,s,acc,x,e=>by
  unfold bK at e
  cases hf : f s with
  | none=>rw [hf] at e;cases e
  | some y =>
   rw [hf] at e
   have hy:=h s y hf
   obtain ⟨v,r⟩:=y
   cases r with
   | nil=>cases e
   | cons c r =>
    dsimp only at e hy
    have e2 : V.tots (acc ++ [v]) = V.tots acc + v.tot:=by simp [dY,V.tots]
    rw [List.length_cons] at hy
    split at e
    ·have:=og h m r _ e
     omega
    ·split at e
     ·simp only [Option.some.injEq] at e;subst e
      dsimp only;omega
     ·cases e
theorem oo {f : adA → adA → Option (V × adA)} (h : ∀ k s y,f k s = some y → y.1.tot + 100 * y.2.length ≤ 100 * s.length) {t : Ty} {s : adA} {x : (Fld × V) × adA} (e : aY f t s = some x) : x.1.2.tot + 100 * x.2.length + 200 ≤ 100 * s.length:=by
 unfold aY at e
 cases hn : cK 200 s with
 | none=>rw [hn] at e;cases e
 | some y =>
  rw [hn] at e
  obtain ⟨n,r⟩:=y
  obtain ⟨h1,h2⟩:=m5 hn
  dsimp only at e
  cases hd : ck t.fields n with
  | none=>rw [hd] at e;cases e
  | some d =>
   rw [hd] at e
   cases r with
   | nil=>cases e
   | cons c r' =>
    dsimp only at e
    rw [List.length_cons] at h1
    by_cases hc : c.toNat = 61
    ·rw [if_pos hc] at e
     cases hf : f d.kind r' with
     | none=>rw [hf] at e;cases e
     | some y =>
      rw [hf] at e
      simp only [Option.map_some,Option.some.injEq] at e
      subst e
      have h3:=h _ _ _ hf
      dsimp only
      omega
    ·rw [if_neg hc] at e;cases e
theorem pG {ts : List Ty} {f : adA → adA → Option (V × adA)} (h : ∀ k s y,f k s = some y → y.1.tot + 100 * y.2.length ≤ 100 * s.length) {t : Ty} : ∀ (m : Nat) (last : Int) (s : adA) (acc : List V) {x : List V × adA},cd ts f t m last s acc = some x → V.tots x.1 + 100 * (x.2.length + 1) ≤ V.tots acc + 100 * s.length
 | 0,_,_,_,_,e=>by cases e
 | m + 1,last,s,acc,x,e=>by
  unfold cd at e
  cases hf : aY f t s with
  | none=>rw [hf] at e;cases e
  | some y =>
   rw [hf] at e
   have hy:=oo h hf
   obtain ⟨⟨d,v⟩,r⟩:=y
   dsimp only at e hy
   split at e
   ·cases e
   ·cases r with
    | nil=>cases e
    | cons c r =>
     dsimp only at e
     have e2 : V.tots (acc ++ [V.nd 61 [] d.tag [v]]) = V.tots acc + (20 + v.tot):=by simp [dY,V.tots,V.tot]
     rw [List.length_cons] at hy
     split at e
     ·have:=pG h m _ r _ e
      omega
     ·split at e
      ·simp only [Option.some.injEq] at e;subst e
       dsimp only;omega
      ·cases e
theorem gt {ts : List Ty} : ∀ (n : Nat) (k s : adA) (x : V × adA),rd ts n k s = some x → x.1.tot + 100 * x.2.length ≤ 100 * s.length
 | 0,_,_,_,e=>by cases e
 | n + 1,k,s,x,e=>by
  have ih : ∀ k s y,rd ts n k s = some y → y.1.tot + 100 * y.2.length ≤ 100 * s.length:=fun k s y hy=>gt n k s y hy
  have h:=qx k s (x:=x) e
  obtain ⟨v,r⟩:=x
  dsimp only at h ⊢
  cases h with
  | lst0=>simp only [V.tot,V.tots,List.length_cons,List.length_nil];omega
  | lst k s r vs h =>
   have:=og (ih k) _ _ _ h
   simp only [V.tot,V.tots,List.length_cons,List.length_nil] at this ⊢;omega
  | non=>simp only [V.tot,V.tots,List.length_cons,List.length_nil];omega
  | opt k s r v h =>
   have:=ih _ _ _ h
   simp only [V.tot,V.tots,List.length_cons,List.length_nil] at this ⊢;omega
  | num k s r n _ h =>
   have:=m5 h
   simp only [V.tot,V.tots];omega
  | txt k s r v _ h =>
   have e1:=oe h
   have h2 : v.out.length = 2 + v.text.length ∧ v.tot = 20 + v.text.length:=by
    unfold dJ at h
    split at h
    ·cases h
    ·split at h
     ·split at h
      ·split at h
       ·simp only [Option.some.injEq,Prod.mk.injEq] at h
        obtain ⟨rfl,_⟩:=h
        simp [V.out,cW,V.text,V.tot,V.tots];omega
       ·cases h
      ·cases h
     ·cases h
   rw [e1]
   simp only [List.length_append]
   omega
  | flg k s r v _ h =>
   have e1:=pK h
   have h2 : 2 ≤ v.out.length ∧ v.tot ≤ 23:=by
    unfold eL at h
    split at h
    ·simp only [Option.some.injEq,Prod.mk.injEq] at h
     obtain ⟨rfl,_⟩:=h
     simp [V.out,cW,V.tot,V.tots]
    ·split at h
     ·simp only [Option.some.injEq,Prod.mk.injEq] at h
      obtain ⟨rfl,_⟩:=h
      simp [V.out,cW,V.tot,V.tots]
     ·cases h
   rw [e1]
   simp only [List.length_append]
   omega
  | recd0=>simp only [V.tot,V.tots,List.length_cons,List.length_nil];omega
  | recd k s r t vs _ _ h =>
   have:=pG ih _ _ _ _ h
   simp only [V.tot,V.tots,List.length_cons,List.length_nil] at this ⊢;omega
  | enm k s r t n _ _ h _ =>
   have:=m5 h
   simp only [V.tot,V.tots,List.length_cons,List.length_nil];omega
  | uni k s r t d v _ _ _ h =>
   have:=oo ih h
   simp only [V.tot,V.tots,List.length_cons,List.length_nil] at this ⊢;omega
abbrev gW : TypeId:=169
abbrev lT : TypeId:=5
theorem abP {n : Nat} {D : List Deferred} {E : bS} {B : Base} {L : List Own} {K : Act → World → Prop} {Q : Exit → Act → World → Prop} {ty : TypeId} {pos : String} {aft : Array Edge} {gd : Option (Nat × Bool)} {d : Nat} {fo x : Operand} {ah : Array TypeId} {m : Nat}
  (hf : ev E fo = some (.func (.func 163) #[] #[])) (hx : ev E x = some (I (m : Nat))) (hlt : Nat.blt d n = true) (hm : 0 < m ∧ m ≤ 1000000000)
  (k : ∀ b cap,m ≤ cap + 1 → Nx n D ((d,.slice (some ⟨b,0,none⟩) m (cap + 1)) :: E) B G (.acc (.slice (some ⟨b,0,none⟩) 0 (cap + 1)) lT 1 0 [] :: L) K) : Nx n D E B G L (ow adz ⟨some d,.call ⟨.value fo,[x].toArray,ah⟩,ty,pos,aft,gd⟩ Q K) :=
 acI (ps:=#[3]) hf hx hlt Tryz.func163 kR kR kR kR (TI.und (T:=33)) hm k
theorem acM {b : Nat} {v : Value} : dF adz 142 [Pt b 0] G [.blk b (.cells (List.toArray [.pointer none,v]) gW (0,0))] (fun r L'=>L' = [.blk b (.cells (List.toArray [Pt b 0,v]) gW (0,0))]):=by
 have hx : ∀ w,(callFunc 162 [Pt b 0].toArray).run adz w = .ok (.value (Pt b 0)) w:=fun w=>by
  rw [run_callFunc_extern Tryz.func162 kR kR kR (e:=Extern.AbiNoEscape.same) kR]
  rw [Lib.run_noEscape];rfl
 refine jH [(0,_)] Tryz.func142 Tryz.ntmps142 fun B hB hW=>?_
 repeat' (first | refine jR ?_ | (refine jo ?_;first | refine aD rfl ?_ | refine jV (db rfl rfl) ?_ | refine jV (ack kR rfl rfl rfl) ?_) | refine ac rfl rfl ?_)
 refine vG rfl (k6 (oW rfl rfl rfl hx) rfl rfl ?_)
 repeat' (first | refine jR ?_ | (refine jo ?_;first | refine jV (zO kR rfl kR) ?_ | refine jD rfl rfl rfl ?_))
 exact kz (vs:=[]) rfl trivial rfl a7 ⟨rfl,rfl⟩
theorem acL {b : Nat} {v : Value} : dF adz 142 [Pt b 0] G [.blk b (.cells (List.toArray [Pt b 0,v]) gW (0,0))] (fun r L'=>L' = [.blk b (.cells (List.toArray [Pt b 0,v]) gW (0,0))]):=by
 refine jH [(0,_)] Tryz.func142 Tryz.ntmps142 fun B hB hW=>?_
 repeat' (first | refine jR ?_ | (refine jo ?_;first | refine aD rfl ?_ | refine jV (db rfl rfl) ?_ | refine jV (abf rfl rfl) ?_) | refine ad rfl rfl ?_)
 exact kz (vs:=[]) rfl trivial rfl a7 ⟨rfl,rfl⟩
theorem aat {b m : Nat} (hm : 0 < m ∧ m ≤ 1000000000) : dF adz 143 [Pt b 0,I (m : Nat)] G [.blk b (.cells (List.toArray [Pt b 0,aQ]) gW (0,0))] (fun r L'=>∃ b2 c2,L' = [.acc (.slice (some ⟨b2,0,none⟩) 0 (c2 + 1)) lT 1 0 [],.blk b (.cells (List.toArray [Pt b 0,.slice (some ⟨b2,0,none⟩) 0 (c2 + 1)]) gW (0,0))]):=by
 refine jH [(0,_),(1,_)] Tryz.func143 Tryz.ntmps143 fun B hB hW=>?_
 repeat' (first | refine jR ?_ | (refine jo ?_;first | refine aD rfl ?_ | refine jV (zS rfl rfl) ?_ | refine jD rfl rfl rfl ?_) | (refine am (ao (id:=0) _ (fun _ h=>h) al ?_);refine jT 9 [0,1,2,6,9,10,11] (aa 16 3655) ?_;(refine jG (aa 16 3663) 3 rfl (aX rfl rfl rfl) ?_);(refine jG (aa 16 3679) 4 rfl (yZ rfl) ?_);refine jW 5 [5,7] (aa 16 3839) ?_;(refine jG (aa 16 7935) 12 rfl (aX rfl rfl rfl) ?_);(refine jG (aa 16 16127) 13 rfl (af rfl) ?_);refine jA 8 rfl ?_;(refine abP rfl rfl rfl oM (fun _ _ _=>?_));refine jS (aa 16 16383) ?_;(refine jG (aa 16 32767) 14 rfl (s7 rfl rfl oM) ?_);refine jT 0 [15] (aa 16 65535) ?_;refine jQ ?_))
 exact kz (vs:=[]) rfl trivial rfl (List.Sublist.refl _) ⟨rfl,_,_,rfl⟩
theorem aaw {b m : Nat} (hm : 0 < m ∧ m ≤ 1000000000) : dF adz 108 [Pt b 0,I (m : Nat)] G [.blk b (.cells (List.toArray [.pointer none,aQ]) gW (0,0))] (fun r L'=>∃ b2 c2,L' = [.acc (.slice (some ⟨b2,0,none⟩) 0 (c2 + 1)) lT 1 0 [],.blk b (.cells (List.toArray [Pt b 0,.slice (some ⟨b2,0,none⟩) 0 (c2 + 1)]) gW (0,0))]):=by
 refine jH [(0,_),(1,_)] Tryz.func108 Tryz.ntmps108 fun B hB hW=>?_
 repeat' (first | refine jR ?_ | (refine jo ?_;first | (refine aI rfl rfl rfl acM rfl ?_;rintro _ _ rfl;dsimp only [zA,fA]) | (refine aI rfl rfl rfl (aat oM) rfl ?_;rintro _ _ ⟨b2,c2,hb2,rfl⟩;dsimp only [zA,fA])) | refine ac rfl (ay oM) ?_ | refine ad rfl rfl ?_ | (refine am (ao (id:=3) _ (fun _ h=>h) al ?_);refine jT 6 [0,1,2,5,6,7,11] (aa 13 2279) ?_;(refine jG (aa 13 2287) 3 rfl (aX rfl rfl rfl) ?_);(refine jG (aa 13 2303) 4 rfl (yZ rfl) ?_);(refine jG (aa 13 2559) 8 rfl (aX rfl rfl rfl) ?_);(refine jG (aa 13 3071) 9 rfl (af rfl) ?_);refine jW 0 [10,12] (aa 13 8191) ?_;refine jQ ?_))
 exact kz (vs:=[]) rfl trivial rfl (List.Sublist.refl _) ⟨rfl,_,_,rfl⟩
theorem wW {b b1 c1 m : Nat} {xs : List Value} {l : adA} (hm : m + l.length ≤ 1000000000) : dF adz 109 [Pt b 0,S l] G [.blk b (.cells (List.toArray [Pt b 0,.slice (some ⟨b1,0,none⟩) m (c1 + 1)]) gW (0,0)),.acc (.slice (some ⟨b1,0,none⟩) m (c1 + 1)) lT 1 m xs]
  (fun r L'=>∃ b2 c2,r = Tu [I l.length,.nilIface] ∧ L' = [.acc (.slice (some ⟨b2,0,none⟩) (m + l.length) (c2 + 1)) lT 1 (m + l.length) (xs ++ cr l),.blk b (.cells (List.toArray [Pt b 0,.slice (some ⟨b2,0,none⟩) (m + l.length) (c2 + 1)]) gW (0,0))]):=by
 refine jH [(0,_),(1,_)] Tryz.func109 Tryz.ntmps109 fun B hB hW=>?_
 repeat' (first | refine jR ?_ | (refine jo ?_;first | refine aD rfl ?_ | refine acS rfl rfl rfl oM fun _ _=>?_ | refine jD rfl rfl rfl ?_ | (refine aI rfl rfl rfl acL rfl ?_;rintro _ _ rfl;dsimp only [zA,fA])))
 exact aW (vs:=[_,_]) rfl ⟨rfl,rfl,trivial⟩ rfl (List.Sublist.refl _) ⟨rfl,_,_,rfl,rfl⟩
theorem abX {b b1 c1 m : Nat} {l : adA} (hm : m ≤ 1000000000) : dF adz 110 [Pt b 0] G [.blk b (.cells (List.toArray [Pt b 0,.slice (some ⟨b1,0,none⟩) m (c1 + 1)]) gW (0,0)),.acc (.slice (some ⟨b1,0,none⟩) m (c1 + 1)) lT 1 m (cr l)]
  (fun r L'=>r = S l ∧ L' = []):=by
 refine jH [(0,_)] Tryz.func110 Tryz.ntmps110 fun B hB hW=>?_
 repeat' (refine jR ?_)
 (refine am (ao (id:=1) [.blk b (.cells (List.toArray [Pt b 0,.slice (some ⟨b1,0,none⟩) m (c1 + 1)]) gW (0,0))] (by intro y hy;simp only [List.mem_cons,List.not_mem_nil,or_false] at hy ⊢;simp [hy]) al ?_);refine jW 6 [0,1,2,5,6,7] (aa 12 231) ?_;(refine jG (aa 12 239) 3 rfl (aX rfl rfl rfl) ?_);(refine jG (aa 12 255) 4 rfl (abd rfl rfl) ?_);(refine jG (aa 12 511) 8 rfl (aX rfl rfl rfl) ?_);(refine jG (aa 12 1023) 9 rfl (af rfl) ?_);refine jA 10 rfl ?_;(refine abI kR rfl rfl rfl oM ?_);refine jS (aa 12 2047) ?_;refine jT 0 [11] (aa 12 4095) ?_;refine jQ ?_)
 repeat' (refine jR ?_)
 refine jZ (vs:=[_]) rfl ⟨rfl,trivial⟩ rfl ⟨rfl,rfl,?_⟩
 rfl
def dI (xs : List adA) : Nat:=(xs.map List.length).sum
theorem vE (xs : List adA) (x : adA) : dI (xs ++ [x]) = dI xs + x.length:=by simp [dI]
theorem fm : ∀ (xs : List adA) (i : Nat),dI (xs.take i) ≤ dI xs
 | [],i=>by simp [dI]
 | x :: xs,0=>by simp [dI]
 | x :: xs,i + 1=>by
  have:=fm xs i
  simp only [dI,List.take_succ_cons,List.map_cons,List.sum_cons] at this ⊢;omega
theorem mg (c : UInt8) (y : adA) : ∀ (xs : List adA),xs ≠ [] → aL c (xs ++ [y]) = aL c xs ++ c :: y
 | [],h=>absurd rfl h
 | [x],_=>by simp [aL]
 | x :: z :: r,_=>by
  have:=mg c y (z :: r) (by simp)
  simp only [List.cons_append,aL] at this ⊢
  rw [this];simp
theorem gv (c : UInt8) : ∀ (xs : List adA),(aL c xs).length ≤ dI xs + xs.length
 | []=>by simp [aL]
 | [x]=>by simp [aL,dI]
 | x :: z :: r=>by
  have:=gv c (z :: r)
  simp only [aL,dI,List.map_cons,List.sum_cons,List.length_append,List.length_cons] at this ⊢;omega
theorem Nx.cast {n : Nat} {D : List Deferred} {E : bS} {B : Base} {L L' : List Own} {K : Act → World → Prop} (e : L = L') (h : Nx n D E B G L' K) : Nx n D E B G L K:=by subst e;exact h
theorem aU.cap {G : Gh} {p : Option Addr} {c sz m : Nat} {xs : List Value} (h : aU G (.slice p m c) sz m xs) : m ≤ c:=by
 obtain ⟨_,⟨h1,h2⟩ | ⟨b,o,cap,e,h1,_⟩⟩:=h
 ·omega
 ·simp only [Value.slice.injEq,true_and] at e;omega
theorem b9.tailS {G : Gh} {b o : Nat} {xs : List adA} (h : b9 G b o (ak cn xs)) : b9 G b (o + 1) (ak cn (xs.drop 1)):=by
 cases xs with
 | nil=>obtain ⟨cs,h1,_⟩:=h;exact ⟨cs,h1,fun i v hv=>by simp [ak] at hv⟩
 | cons x r =>
  obtain ⟨cs,h1,h2⟩:=h
  refine ⟨cs,h1,fun i v hv=>?_⟩
  have:=h2 (i + 1) v (by simpa [ak,cn] using hv)
  rw [show o + 1 + i = o + (i + 1) by omega];exact this
theorem rm (xs : List adA) (i : Nat) : ab (xs.drop 1) i = ab xs (i + 1):=by
 cases xs with
 | nil=>simp [ab]
 | cons x r=>simp [ab,List.getD]
theorem nn {xs : List adA} {i : Nat} (h : i < xs.length) : dI (xs.take (i + 1)) = dI (xs.take i) + (ab xs i).length:=by
 rw [co h,vE]
theorem abY {v : Value} {xs : List adA} {c : UInt8} (hs : aU G v 1 xs.length (ak cn xs)) (hl : dI xs + xs.length ≤ 100000000) : a9 adz 75 [v,S [c]] G (· = S (aL c xs)):=by
 by_cases h0 : xs = []
 ·subst h0
  refine jE [(0,_),(1,_)] Tryz.func75 Tryz.ntmps75 fun B hB=>?_
  repeat' (first | refine jR ?_ | (refine jo ?_;refine jV (eM rfl aS) ?_) | refine ac rfl rfl ?_)
  refine jY (vs:=[_]) ?_
  rfl
 have hpos:=List.length_pos_iff.2 h0
 obtain ⟨bv,ov,cv,rfl,hsv⟩:=hs.expl oM
 by_cases h1 : xs.length = 1
 ·obtain ⟨x,rfl⟩:=List.length_eq_one_iff.1 h1
  refine jE [(0,_),(1,_)] Tryz.func75 Tryz.ntmps75 fun B hB=>?_
  repeat' (first | refine jR ?_ | (refine jo ?_;first | refine jV (af rfl) ?_ | refine jV (ag rfl rfl oM) ?_ | refine jV (aj rfl rfl aS rfl rfl) ?_) | refine ac rfl rfl ?_ | refine ad rfl rfl ?_)
  refine jY (vs:=[_]) ?_
  rfl
 have hcap:=hs.cap
 have hq : ¬ (9223372036854775807 / ((xs.length : Int) - 1) ≤ ((([c] : adA).length : Nat) : Int)):=by
  have : (2 : Int) ≤ 9223372036854775807 / ((xs.length : Int) - 1):=Int.le_ediv_of_mul_le oM oM
  have e : ((([c] : adA).length : Nat) : Int) = 1:=rfl
  omega
 have e1 : ((([c] : adA).length : Nat) : Int) * ((xs.length : Int) - 1) = (xs.length : Int) - 1:=by
  have e : ((([c] : adA).length : Nat) : Int) = 1:=rfl
  rw [e];omega
 have p1 : ((([c] : adA).length : Nat) : Int) * ((xs.length : Int) - 1) ≤ 9223372036854775807:=by rw [e1];omega
 have p2 : -9223372036854775808 ≤ ((([c] : adA).length : Nat) : Int) * ((xs.length : Int) - 1):=by rw [e1];omega
 have p3 : 0 + ((([c] : adA).length : Nat) : Int) * ((xs.length : Int) - 1) ≤ 9223372036854775807:=by rw [e1];omega
 have p4 : -9223372036854775808 ≤ 0 + ((([c] : adA).length : Nat) : Int) * ((xs.length : Int) - 1):=by rw [e1];omega
 refine jE [(0,_),(1,_)] Tryz.func75 Tryz.ntmps75 fun B hB=>?_
 repeat' (first | refine jM ?_ | (refine jo ?_;refine jV (af rfl) ?_) | refine ac rfl rfl ?_ | (refine ad rfl (by refine decide_eq_false ?_;first | assumption | omega) ?_))
 refine Nx.re (d:=5) (v':=I ((xs.length : Int) - 1 + (dI (xs.take 0) : Nat))) rfl (congrArg (Value.int .i64) (by rw [e1];simp [dI])) ?_
 refine aT (ι:=Nat) (fun i=>i ≤ xs.length) (fun i=>[(0,.slice (some ⟨bv,ov,none⟩) xs.length cv),(1,S [c]),(39,.slice (some ⟨bv,ov,none⟩) xs.length cv),(40,I xs.length),(41,I i),(5,I ((xs.length : Int) - 1 + (dI (xs.take i) : Nat)))]) (fun _=>G) (fun i=>[]) (fun i=>xs.length - i) 0 ?_ tU rfl a7 (fun i Hi=>?_)
 ·exact Nat.zero_le _
 have hb1:=fm xs i
 by_cases hi : i < xs.length
 ·have hb2:=nn hi
  have hb3:=fm xs (i + 1)
  repeat' (first | refine jM ?_ | (refine jo ?_;first | refine jV (ag rfl rfl oM) ?_ | (refine jV (eN rfl rfl aS ?_) ?_;focus omega)) | refine ac rfl (ay oM) ?_ | refine ad rfl (aG oM) ?_)
  refine Nx.re (d:=5) (v':=I ((xs.length : Int) - 1 + (dI (xs.take (i + 1)) : Nat))) rfl (congrArg (Value.int .i64) (by rw [hb2];omega)) ?_
  exact bh (i + 1) oM oM tU rfl a7
 have hin : i = xs.length:=oM
 subst hin
 rw [List.take_length] at *
 refine Nx.re (d:=5) (v':=I ((xs.length - 1 + dI xs : Nat) : Int)) rfl (congrArg (Value.int .i64) oM) ?_
 have hb0 : (ab xs 0).length ≤ dI xs:=by have:=nn (i:=0) hpos;have:=fm xs (0 + 1);omega
 have hw0 : 0 + (ab xs 0).length ≤ 1000000000:=oM
 have hsv1:=hsv.tailS
 have hdl : (xs.drop 1).length = xs.length - 1:=by rw [List.length_drop]
 have eJ0 : aL c (xs.take (0 + 1)) = ab xs 0:=by rw [co hpos];rfl
 repeat' (first | refine jR ?_ | (refine jo ?_;first | refine jV (af rfl) ?_ | refine jV (ag rfl rfl oM) ?_ | (refine jV (eN rfl rfl aS ?_) ?_;focus omega) | refine jL fun _=>?_ | refine jV (acm rfl rfl oM) ?_ | (refine aI rfl rfl rfl (aaw oM) rfl ?_;rintro _ _ ⟨b2,c2,rfl⟩;dsimp only [zA,fA]) | (refine vV rfl rfl rfl (wW (by (repeat (assumption));done)) rfl ?_;rintro _ _ ⟨b3,c3,rfl,rfl⟩;dsimp only [zA,fA])) | refine ad rfl (aG oM) ?_)
 rename_i x _
 refine Nx.cast (L':=[.acc (.slice (some ⟨b3,0,none⟩) (aL c (xs.take (0 + 1))).length (c3 + 1)) lT 1 (aL c (xs.take (0 + 1))).length (cr (aL c (xs.take (0 + 1)))),.blk x (.cells (List.toArray [Pt x 0,.slice (some ⟨b3,0,none⟩) (aL c (xs.take (0 + 1))).length (c3 + 1)]) gW (0,0))]) (by rw [eJ0];simp only [Nat.zero_add]) ?_
 refine aT (ι:=Nat × Nat × Nat) (fun q=>q.1 ≤ xs.length - 1) (fun q=>[(1,S [c]),(63,.slice (some ⟨bv,ov + 1,none⟩) (xs.length - 1) (cv - 1)),(64,I (xs.length - 1 : Nat)),(65,I q.1),(8,Pt x 0)]) (fun _=>G) (fun q=>[.acc (.slice (some ⟨q.2.1,0,none⟩) (aL c (xs.take (q.1 + 1))).length (q.2.2 + 1)) lT 1 (aL c (xs.take (q.1 + 1))).length (cr (aL c (xs.take (q.1 + 1)))),.blk x (.cells (List.toArray [Pt x 0,.slice (some ⟨q.2.1,0,none⟩) (aL c (xs.take (q.1 + 1))).length (q.2.2 + 1)]) gW (0,0))]) (fun q=>xs.length - q.1) (0,b3,c3) ?_ tU rfl a7 (fun q Hq=>?_)
 ·exact Nat.zero_le _
 obtain ⟨i,b4,c4⟩:=q
 dsimp only at Hq ⊢
 have hj1:=gv c (xs.take (i + 1))
 have hj2:=fm xs (i + 1)
 have hj3 : (xs.take (i + 1)).length ≤ xs.length:=by rw [List.length_take];omega
 by_cases hi2 : i < xs.length - 1
 ·have hwA : (aL c (xs.take (i + 1))).length + ([c] : adA).length ≤ 1000000000:=by rw [List.length_singleton];omega
  have hy1:=nn (xs:=xs) (i:=i + 1) oM
  have hy2:=fm xs (i + 1 + 1)
  have hwB : (aL c (xs.take (i + 1))).length + ([c] : adA).length + (ab (xs.drop 1) i).length ≤ 1000000000:=by rw [rm,List.length_singleton];omega
  have ej : aL c (xs.take (i + 1 + 1)) = aL c (xs.take (i + 1)) ++ c :: ab (xs.drop 1) i:=by
   rw [co oM,mg c _ _ (by rw [ne_eq,List.take_eq_nil_iff];simp [h0]),rm]
  repeat' (first | refine jM ?_ | (refine jo ?_;first | refine jV (ag rfl rfl oM) ?_ | (refine jV (eN rfl rfl aS ?_) ?_;focus omega) | (refine vV rfl rfl rfl (wW (by (repeat (assumption));done)) rfl ?_;rintro _ _ ⟨b3,c3,rfl,rfl⟩;dsimp only [zA,fA])) | refine ac rfl (ay oM) ?_)
  refine Nx.cast (L':=[.acc (.slice (some ⟨b3,0,none⟩) (aL c (xs.take (i + 1 + 1))).length (c3 + 1)) lT 1 (aL c (xs.take (i + 1 + 1))).length (cr (aL c (xs.take (i + 1 + 1)))),.blk x (.cells (List.toArray [Pt x 0,.slice (some ⟨b3,0,none⟩) (aL c (xs.take (i + 1 + 1))).length (c3 + 1)]) gW (0,0))]) (by
   have e2 : (aL c (xs.take (i + 1 + 1))).length = (aL c (xs.take (i + 1))).length + ([c] : adA).length + (ab (xs.drop 1) i).length:=by rw [ej];simp;omega
   have e3 : cr (aL c (xs.take (i + 1 + 1))) = cr (aL c (xs.take (i + 1))) ++ cr [c] ++ cr (ab (xs.drop 1) i):=by rw [ej];simp [cr]
   rw [e2,e3]) ?_
  exact bh (i + 1,b3,c3) (by dsimp only;omega) (by dsimp only;omega) tU rfl a7
 ·have ei : xs.take (i + 1) = xs:=List.take_of_length_le oM
  rw [ei] at hj1 ⊢
  repeat' (first | refine jR ?_ | (refine jo ?_;(refine vV rfl rfl rfl (abX oM) rfl ?_;rintro _ _ ⟨rfl,rfl⟩;dsimp only [zA,fA])) | refine ad rfl (aG oM) ?_)
  refine jY (vs:=[_]) ?_
  rfl
structure VC where
 what : Nat
 text : adA
 tag : Int
 a : Option Addr
 n : Nat
 c : Nat
instance : Inhabited VC:=⟨⟨0,[],0,none,0,0⟩⟩
abbrev VC.sl (v : VC) : Value:=.slice v.a v.n v.c
def bJ (v : VC) : List Value:=[U8 (v.what : Nat),S v.text,I v.tag,v.sl]
instance : RowF bJ 4:=⟨fun _=>rfl⟩
mutual
def V.rep (G : Gh) : V → VC → Prop
 | .nd w x t ks,c=>(c.what = w ∧ w ≤ 255) ∧ c.text = x ∧ (c.tag = t ∧ 0 ≤ t ∧ t ≤ 999999) ∧ (c.n = ks.length ∧ (w = 61 → ks.length = 1)) ∧ ∃ cs,aU G c.sl 4 cs.length (ak bJ cs) ∧ V.reps G ks cs
def V.reps (G : Gh) : List V → List VC → Prop
 | [],cs=>cs = []
 | v :: r,cs=>∃ c cs',cs = c :: cs' ∧ V.rep G v c ∧ V.reps G r cs'
end
theorem gp {G : Gh} : ∀ {ks : List V} {cs : List VC},V.reps G ks cs → cs.length = ks.length
 | [],cs,h=>by rw [V.reps] at h;subst h;rfl
 | v :: r,cs,h=>by
  rw [V.reps] at h
  obtain ⟨c,cs',rfl,_,h2⟩:=h
  rw [List.length_cons,List.length_cons,gp h2]
theorem gX {G : Gh} : ∀ {ks : List V} {cs : List VC},V.reps G ks cs → ∀ i,i < ks.length → V.rep G (ab ks i) (ab cs i)
 | [],_,_,i,hi=>by simp at hi
 | v :: r,cs,h,i,hi=>by
  rw [V.reps] at h
  obtain ⟨c,cs',rfl,h1,h2⟩:=h
  cases i with
  | zero=>exact h1
  | succ i=>exact gX h2 i (by simpa using hi)
theorem hY {G : Gh} {v : V} {c : VC} (h2 : V.rep G v c) : ∀ {ks : List V} {cs : List VC},V.reps G ks cs → V.reps G (ks ++ [v]) (cs ++ [c])
 | [],cs,h=>by
  rw [V.reps] at h;subst h
  exact ⟨c,[],rfl,h2,rfl⟩
 | u :: r,cs,h=>by
  rw [V.reps] at h
  obtain ⟨d,cs',rfl,h1,h3⟩:=h
  exact ⟨d,cs' ++ [c],rfl,h1,hY h2 h3⟩
mutual
theorem bE {G G' : Gh} (hl : Gh.le G G') : ∀ {v : V} {c : VC},V.rep G v c → V.rep G' v c
 | .nd w x t ks,c,h=>by
  rw [V.rep] at h ⊢
  obtain ⟨h1,h2,h3,h4,cs,h5,h6⟩:=h
  exact ⟨h1,h2,h3,h4,cs,h5.mono hl,cS hl h6⟩
theorem cS {G G' : Gh} (hl : Gh.le G G') : ∀ {ks : List V} {cs : List VC},V.reps G ks cs → V.reps G' ks cs
 | [],cs,h=>h
 | v :: r,cs,h=>by
  rw [V.reps] at h ⊢
  obtain ⟨c,cs',e,h1,h2⟩:=h
  exact ⟨c,cs',e,bE hl h1,cS hl h2⟩
end
theorem eT {G : Gh} {w : Nat} {x : adA} {t : Int} {ks : List V} {c : VC} (h : V.rep G (.nd w x t ks) c) : ∃ (a : Option Addr) (k : Nat) (cs : List VC),c = ⟨w,x,t,a,ks.length,k⟩ ∧ w ≤ 255 ∧ (0 ≤ t ∧ t ≤ 999999) ∧ (w = 61 → ks.length = 1) ∧ cs.length = ks.length ∧ aU G (.slice a ks.length k) 4 cs.length (ak bJ cs) ∧ V.reps G ks cs:=by
 rw [V.rep] at h
 obtain ⟨⟨h1,h1'⟩,h2,⟨h3,h3'⟩,⟨h4,h4'⟩,cs,h5,h6⟩:=h
 obtain ⟨w',x',t',a,n,k⟩:=c
 dsimp only at h1 h2 h3 h4 h5
 subst h1;subst h2;subst h3;subst h4
 exact ⟨a,k,cs,rfl,h1',h3',h4',gp h6,h5,h6⟩
theorem dS {G : Gh} {w : Nat} {x : adA} {t : Int} {ks : List V} {a : Option Addr} {k m : Nat} {cs : List VC} (hw : w ≤ 255) (ht : 0 ≤ t ∧ t ≤ 999999) (h61 : w = 61 → ks.length = 1) (hm : m = ks.length) (hs : aU G (.slice a m k) 4 cs.length (ak bJ cs)) (hk : V.reps G ks cs) : V.rep G (.nd w x t ks) ⟨w,x,t,a,m,k⟩:=by
 rw [V.rep];exact ⟨⟨rfl,hw⟩,rfl,⟨rfl,ht⟩,⟨hm,h61⟩,cs,hs,hk⟩
theorem zn {G : Gh} : aU G aQ 4 ([] : List VC).length (ak bJ []):=⟨rfl,.inl ⟨rfl,rfl⟩⟩
theorem cZ {G : Gh} {w : Nat} {x : adA} {t : Int} (hw : w ≤ 255 ∧ w ≠ 61) (ht : 0 ≤ t ∧ t ≤ 999999) : V.rep G (.nd w x t []) ⟨w,x,t,none,0,0⟩:=dS hw.1 ht (fun h=>absurd h hw.2) rfl zn rfl
theorem l7 : ∀ {ks : List V} {i : Nat},i < ks.length → ab (V.outs ks) i = (ab ks i).out
 | [],i,h=>by simp at h
 | v :: r,0,_=>rfl
 | v :: r,i + 1,h=>by
  have:=l7 (ks:=r) (i:=i) (by simpa using h)
  simpa [V.outs,ab] using this
theorem ku (ks : List V) : (V.outs ks).length = ks.length:=by rw [V.outs_map];simp
theorem gB {ks : List V} {i : Nat} (h : i < ks.length) : V.tot (ab ks i) ≤ V.tots ks:=by
 rw [aA h];exact oI (List.getElem_mem h)
theorem gJ {t : Int} (h : t ≤ 999999) : (bI t).length ≤ 19:=g7 oM
theorem sL {w : Nat} {x : adA} {t : Int} {e : Bool} {j : adA} (ht : t ≤ 999999) : (cW w x t e j).length ≤ 25 + x.length + j.length:=by
 have hd:=gJ ht
 unfold cW
 split
 ·simp;omega
 split
 ·simp;omega
 split
 ·split
  ·simp;omega
  ·simp;omega
 split
 ·simp;omega
 split
 ·simp;omega
 split
 ·simp;omega
 split
 ·simp;omega
 ·omega
mutual
theorem uG {G : Gh} : ∀ {v : V} {c : VC},V.rep G v c → v.out.length + 1 ≤ 2 * v.tot
 | .nd w x t ks,c,h=>by
  rw [V.rep] at h
  obtain ⟨_,_,⟨_,h3⟩,_,cs,_,h6⟩:=h
  have h1:=oS h6
  have h2:=gv 44 (V.outs ks)
  rw [ku] at h2
  have h4:=sL (w:=w) (x:=x) (e:=ks.isEmpty) (j:=aL 44 (V.outs ks)) h3.2
  have h5:=di ks
  rw [V.out,V.tot]
  omega
theorem oS {G : Gh} : ∀ {ks : List V} {cs : List VC},V.reps G ks cs → dI (V.outs ks) + ks.length ≤ 2 * V.tots ks
 | [],cs,h=>by simp [V.outs,dI]
 | v :: r,cs,h=>by
  rw [V.reps] at h
  obtain ⟨c,cs',_,h1,h2⟩:=h
  have h3:=uG h1
  have h4:=oS h2
  simp only [V.outs,dI,List.map_cons,List.sum_cons,V.tots,List.length_cons] at *
  omega
end
end Go.E
