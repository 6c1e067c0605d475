/- Contracts and plain laws that the statement rests on, part 2. Conditions: as each says. -/
import Derived.Test.YtglhncibfmhblaaGreatDoorZ1
set_option linter.unusedVariables false
set_option linter.unusedSimpArgs false
namespace Go.E
section
variable {P : Program} {n : Nat} {D : List Deferred} {E : bQ} {M : World → Prop} {d : Option Nat} {ty : TypeId} {pos : String} {aft : Array Edge} {gd : Option (Nat × Bool)}
theorem zS {x : Operand} {T el : TypeId} {size bytes : Nat} {zero : Value} {p : Option Addr} {len cap : Nat} [TI P T (.slice el) size bytes zero] (hx : ev E x = some (.slice p len cap)) : Gives P n D E M ⟨d,.call ⟨.builtin .cap,[x].toArray,[T].toArray⟩,ty,pos,aft,gd⟩ (I cap):=Gives.mk fun a w hs _=>by
 simp [execOp,resolve,hs.ev hx,invoke,builtin,Builtin.cap_,cE (T:=T) (desc:=.slice el) (size:=size) (bytes:=bytes) (zero:=zero),goInt]
theorem ac4 {T el : TypeId} {x lo : Operand} {desc' : TypeDesc} {size bytes size' bytes' : Nat} {zero zero' : Value} {k : IntKind} {m : Int} {b o len cap : Nat} [TI P T (.slice el) size bytes zero] [TI P el desc' size' bytes' zero']
  (hx : ev E x = some (.slice (some ⟨b,o,none⟩) len cap)) (hl : ev E lo = some (.int k m)) (h0 : 0 ≤ m ∧ m ≤ len ∧ m < cap) :
  Gives P n D E M ⟨d,.slice T x (some lo) none none,ty,pos,aft,gd⟩ (.slice (some ⟨b,o + m.toNat * size',none⟩) (len - m.toNat) (cap - m.toNat)):=by
 obtain ⟨o',h1,h2⟩:=yL (P:=P) (n:=n) (D:=D) (M:=M) (d:=d) (ty:=ty) (pos:=pos) (aft:=aft) (gd:=gd) (T:=T) (el:=el) (desc':=desc') (size':=size') (bytes':=bytes') (zero':=zero') (size:=size) (bytes:=bytes) (zero:=zero) hx hl ⟨h0.1,h0.2.1⟩
 rw [← h1 h0.2.2];exact h2
theorem rq {S : World → Prop} {G0 : Gh} {L0 : List Own} [k : Kn S G0 L0] {b : Nat} {cs : List Value} {T0 : TypeId} {fr : Nat × Nat} (hm : Own.blk b (.cells cs.toArray T0 fr) ∈ L0) {w : World} (hw : S w) : w.shape? b = some (T0,cs.length):=by
 obtain ⟨B,G,L,_,hL,hst⟩:=k.kn w hw
 have h : w.heap[b]? = some (.cells cs.toArray T0 fr):=hst.own _ (hL _ hm)
 simp [World.shape?,h]
theorem ac1 {T T' t T0 : TypeId} {x : Operand} {b s1 b1 js jb : Nat} {z1 jz : Value} {jd : TypeDesc} {G0 : Gh} {L0 : List Own} {cs : List Value} {fr : Nat × Nat} [t1 : TI P T (.pointer t) s1 b1 z1] [t2 : TI P t jd js jb jz] [Kn M G0 L0] [h : BlkI L0 b cs T0 fr]
  (hd : P.underlying T' = some .unsafePointer) (hx : ev E x = some (Pt b 0)) (hj : Nat.beq js 0 = false) (hc : cs.isEmpty = false) : Gives P n D E M ⟨d,.convert T T' x,ty,pos,aft,gd⟩ (Pt b 0):=Gives.mk fun a w hs hw=>by
 obtain ⟨j,hj1,hj2,_,_⟩:=t2.inf
 have hl : 0 < cs.length:=by cases cs with | nil=>cases hc | cons=>simp
 have:=Lib.run_to_unsafe (P:=P) w (src:=T) (dst:=T') (t:=t) (j:=j) ⟨b,0,none⟩ t1.und hd hj1 (by rw [hj2];intro e;subst e;simp at hj) (rq (S:=M) h.mem hw) hl
 simp only [execOp,hs.ev hx,Sem.run_bind,this,Result.andThen_ok,Sem.run_pure]
theorem aar {T T' t T0 : TypeId} {x : Operand} {b s1 b1 js jb : Nat} {z1 jz : Value} {jd : TypeDesc} {G0 : Gh} {L0 : List Own} {cs : List Value} {fr : Nat × Nat} [t1 : TI P T' (.pointer t) s1 b1 z1] [t2 : TI P t jd js jb jz] [Kn M G0 L0] [h : BlkI L0 b cs T0 fr]
  (hd : P.underlying T = some .unsafePointer) (hx : ev E x = some (Pt b 0)) (hl : liesAt P P.depth T0 (cs.length / P.cellsOf T0) 0 t 1 = true) : Gives P n D E M ⟨d,.convert T T' x,ty,pos,aft,gd⟩ (Pt b 0):=Gives.mk fun a w hs hw=>by
 obtain ⟨j,hj1,_,_,_⟩:=t2.inf
 have:=Lib.run_from_unsafe (P:=P) w (src:=T) (dst:=T') (u:=t) (j:=j) ⟨b,0,none⟩ hd t1.und hj1 (rq (S:=M) h.mem hw) hl
 simp only [execOp,hs.ev hx,Sem.run_bind,this,Result.andThen_ok,Sem.run_pure]
theorem abQ {T T' el : TypeId} {x y : Operand} {size bytes js jb : Nat} {zero jz : Value} {jd : TypeDesc} {p : Addr} [t1 : TI P T (.pointer el) size bytes zero] [t2 : TI P el jd js jb jz] (hx : ev E x = some (.pointer (some p))) (hy : ev E y = some (.pointer (some p))) : Gives P n D E M ⟨d,.binOp .neq T x y T',ty,pos,aft,gd⟩ (Bo false):=dW hx hy rfl fun w=>by
 obtain ⟨j,hj1,_,_,_⟩:=t2.inf
 exact Lib.run_neq_ptr_same w p t1.und hj1
theorem aau {T T' el : TypeId} {x y : Operand} {s1 b1 js jb : Nat} {z1 jz : Value} {jd : TypeDesc} {b o m c : Nat} [t1 : TI P T (.slice el) s1 b1 z1] [t2 : TI P el jd js jb jz] (hx : ev E x = some (.slice (some ⟨b,o,none⟩) m c)) (hy : ev E y = some aK) :
  Gives P n D E M ⟨d,.call ⟨.builtin .copy,[x,y].toArray,[T,T'].toArray⟩,ty,pos,aft,gd⟩ (I (0 : Nat)):=Gives.mk fun a w hs _=>by
 obtain ⟨j,hj1,_,_,_⟩:=t2.inf
 have h1:=run_copy_nil (P:=P) w T T' ty el ⟨b,o,none⟩ m c t1.und (by rw [hj1];rfl)
 have e1 : ([x,y].toArray.map a.eval) = #[.slice (some ⟨b,o,none⟩) m c,aK]:=by simp [hs.ev hx,hs.ev hy]
 simp only [execOp,resolve,e1,Sem.run_bind,Sem.run_pure,Result.andThen_ok,invoke,builtin,h1]
 rfl
theorem abO {T : TypeId} {x : Operand} {b o m c : Nat} (hx : ev E x = some (.slice (some ⟨b,o,none⟩) m c)) (hc : Nat.beq c 0 = false) : Gives P n D E M ⟨d,.call ⟨.builtin .unsafeSliceData,[x].toArray,[T].toArray⟩,ty,pos,aft,gd⟩ (Pt b o):=Gives.mk fun a w hs _=>by
 have h1:=Lib.run_unsafeSliceData_row (P:=P) w #[T] ty ⟨b,o,none⟩ m c (by rintro rfl;simp at hc)
 have e1 : ([x].toArray.map a.eval) = #[.slice (some ⟨b,o,none⟩) m c]:=by simp [hs.ev hx]
 simp only [execOp,resolve,e1,Sem.run_bind,Sem.run_pure,Result.andThen_ok,invoke,builtin,h1]
end
section
variable {P : Program} {n : Nat} {D : List Deferred} {E : bQ} {B : Base} {G : Gh} {L : List Own} {K : Act → World → Prop} {Q : Exit → Act → World → Prop} {ty : TypeId} {pos : String} {aft : Array Edge} {gd : Option (Nat × Bool)} {d : Nat}
theorem St.freeze {w : World} {b m cap : Nat} {T : TypeId} {xs : List Value} (h : St B G (.acc (.slice (some ⟨b,0,none⟩) m cap) T 1 m xs :: L) w) (k : Nat) : St B G L (w.freeze ⟨b,0,none⟩ k):=by
 obtain ⟨h1,⟨h2,_⟩ | ⟨b',cap',rest,e,hc,hl,hb⟩⟩ : hC w _ T 1 m xs:=h.own _ List.mem_cons_self
 ·cases h2
 simp only [Value.slice.injEq,Option.some.injEq,Addr.mk.injEq,and_true,true_and] at e
 obtain ⟨rfl,rfl⟩:=e
 unfold World.freeze
 by_cases hk : k = 0
 ·rw [if_pos hk];exact h.weaken (List.sublist_cons_self _ _)
 ·rw [if_neg hk]
  have h2:=h.upd (y:=.blk b (.cells (xs ++ rest).toArray T (0,k))) (w':={ w with heap:=w.heap.modify b fun | .cells c elem (lo,hi)=>.cells c elem (if lo == hi then (0,0 + k) else (min lo 0,max hi (0 + k))) | o=>o }) (b:=b) rfl rfl (by
   show (w.heap.modify b _)[b]? = _
   rw [Array.getElem?_modify,if_pos rfl,hb]
   simp) (fun c hc=>by
    show (w.heap.modify b _)[c]? = _
    rw [Array.getElem?_modify,if_neg (fun e=>hc e.symm)]) rfl rfl rfl (by simp)
  exact h2.weaken (List.sublist_cons_self _ _)
class AccD (L : List Own) (b : Nat) (m cap : outParam Nat) (T : outParam TypeId) (sz : outParam Nat) (xs : outParam (List Value)) (L' : outParam (List Own)) : Prop where
 del : Del (.acc (.slice (some ⟨b,0,none⟩) m cap) T sz m xs) L L'
instance {b m cap : Nat} {T : TypeId} {sz : Nat} {xs : List Value} {r : List Own} : AccD (.acc (.slice (some ⟨b,0,none⟩) m cap) T sz m xs :: r) b m cap T sz xs r:=⟨.here⟩
instance {b m cap : Nat} {T : TypeId} {sz : Nat} {xs : List Value} {z : Own} {r r' : List Own} [h : AccD r b m cap T sz xs r'] : AccD (z :: r) b m cap T sz xs (z :: r'):=⟨.there h.del⟩
theorem acl {T T' el : TypeId} {x y : Operand} {b m cap s1 b1 s2 b2 : Nat} {z1 z2 : Value} {l : ael} {L' : List Own} [t1 : TI P T (.pointer el) s1 b1 z1] [t2 : TI P el (.int .u8) s2 b2 z2] [ha : AccD L b m cap el 1 (cy l) L']
  (hc1 : P.cellsOf el = 1) (hx : ev E x = some (Pt b 0)) (hy : ev E y = some (I (m : Nat))) (hlt : Nat.blt d n = true) (hm : m ≤ 9223372036854775807)
  (k : Nx n D ((d,S l) :: E) B G L' K) : Nx n D E B G L (ow P ⟨some d,.call ⟨.builtin .unsafeString,[x,y].toArray,[T,T'].toArray⟩,ty,pos,aft,gd⟩ Q K):=Nx.mk fun a w hs hw=>by
 have hw1:=hw.perm ha.del.perm
 have hat : hC w (.slice (some ⟨b,0,none⟩) m cap) el 1 m (cy l):=hw1.own _ List.mem_cons_self
 obtain ⟨h1,⟨h2,_⟩ | ⟨b',cap',rest,e,hc,hl,hb⟩⟩:=hat
 ·cases h2
 simp only [Value.slice.injEq,Option.some.injEq,Addr.mk.injEq,and_true,true_and] at e
 obtain ⟨rfl,rfl⟩:=e
 have hlm : l.length = m:=by simpa [cy] using h1
 have e1 : ([x,y].toArray.map a.eval) = #[.pointer (some ⟨b,0,none⟩),.int .i64 (m : Nat)]:=by simp [hs.ev hx,hs.ev hy]
 unfold ow Oper.wp
 by_cases h0 : l = []
 ·subst h0
  have hm0 : m = 0:=by simpa using hlm.symm
  subst hm0
  have hr:=Lib.run_unsafeString_none (P:=P) w T T' ty (some ⟨b,0,none⟩)
  have : (execOp a.eval ⟨some d,.call ⟨.builtin .unsafeString,[x,y].toArray,[T,T'].toArray⟩,ty,pos,aft,gd⟩).run P w = .ok (.value (S [])) w:=by
   simp only [execOp,resolve,e1,Sem.run_bind,Sem.run_pure,Result.andThen_ok,invoke,builtin]
   have hr' : (Builtin.unsafeString_ [T,T'].toArray ty #[.pointer (some ⟨b,0,none⟩),.int .i64 ((0 : Nat) : Int)]).run P w = .ok (.string .empty) w:=hr
   rw [hr'];rfl
  rw [this,Oper.upon_value]
  exact k.go _ w (hs.put (by simpa using hlt)) (hw1.weaken (List.sublist_cons_self _ _))
 ·have hcell : ∀ j x,l[j]? = some x → w.cell? ((⟨b,0,none⟩ : Addr).add j) = some (.int .u8 x.toNat):=fun j x hj=>by
   have hv : (cy l)[j]? = some (.int .u8 x.toNat):=by simp [cy,hj]
   rw [jc]
   exact ((gJ (S:=St B G (.acc (.slice (some ⟨b,0,none⟩) m cap) el 1 m (cy l) :: L')) (m:=m) (cap:=cap) (T:=el) (sz:=1) (xs:=cy l) List.mem_cons_self).go j _ hv).go w hw1
  have hsh : w.shape? b = some (el,(cy l ++ rest).length):=by simp [World.shape?,hb]
  have hr:=Lib.run_unsafeString_row (P:=P) w T T' ty el t1.und hc1 b _ hsh l h0 (by simp [cy]) oM hcell
  have : (execOp a.eval ⟨some d,.call ⟨.builtin .unsafeString,[x,y].toArray,[T,T'].toArray⟩,ty,pos,aft,gd⟩).run P w = .ok (.value (S l)) (w.freeze ⟨b,0,none⟩ l.length):=by
   simp only [execOp,resolve,e1,Sem.run_bind,Sem.run_pure,Result.andThen_ok,invoke,builtin]
   have hr' : (Builtin.unsafeString_ [T,T'].toArray ty #[.pointer (some ⟨b,0,none⟩),.int .i64 (m : Nat)]).run P w = .ok (S l) (w.freeze ⟨b,0,none⟩ l.length):=by rw [← hlm];exact hr
   rw [hr'];rfl
  rw [this,Oper.upon_value]
  exact k.go _ _ (hs.put (by simpa using hlt)) (hw1.freeze _)
theorem mX (l : ael) : Lib.strCells ⟨l.toArray⟩ = cy l:=by simp [Lib.strCells,cy]
theorem aab {v : Value} {m : Nat} {T T2 el : TypeId} {s1 b1 s2 b2 : Nat} {z1 z2 : Value} {xs : List Value} {l : ael} {w : World} {R : List Own} [h1' : TI P T (.slice el) s1 b1 z1] [h2' : TI P T2 .string s2 b2 z2] [he : TI P el (.int .u8) 1 1 (.int .u8 0)]
  (hb : m + l.length ≤ 1000000000) (hw : St B G (.acc v el 1 m xs :: R) w) :
  ∃ v' w',(Builtin.append_ #[T,T2] ty #[v,S l]).run P w = .ok v' w' ∧ St B G (.acc v' el 1 (m + l.length) (xs ++ cy l) :: R) w' ∧ (v = aK → l = [] → v' = aK) ∧ ((v ≠ aK ∨ l ≠ []) → ∃ b cap,v' = .slice (some ⟨b,0,none⟩) (m + l.length) cap ∧ ((∀ p q,v ≠ .slice p q 0) ∨ l ≠ [] → 0 < cap)):=by
 obtain ⟨hxl,hacc⟩ : hC w v el 1 m xs:=hw.own _ List.mem_cons_self
 obtain ⟨ie,hi,hsz,hby,hze⟩:=he.inf
 have ht:=h1'.und
 have hu:=h2'.und
 have hss : (⟨l.toArray⟩ : ByteArray).size = l.length:=oH l
 have hul : (cy l).length = l.length:=by simp [cy]
 have mk : ∀ nc,m + l.length ≤ nc →
   St B G (.acc (.slice (some ⟨w.heap.size,0,none⟩) (m + l.length) nc) el 1 (m + l.length) (xs ++ cy l) :: R) (w.drew.alloc (.cells (xs ++ cy l ++ cj [.int .u8 0] (nc - (m + l.length))).toArray el)):=by
  intro nc hnc
  have h2:=hw.drew.alloc (.cells (xs ++ cy l ++ cj [.int .u8 0] (nc - (m + l.length))).toArray el)
  have h3 : St B G (.blk w.drew.heap.size (.cells (xs ++ cy l ++ cj [.int .u8 0] (nc - (m + l.length))).toArray el) :: R) _:=h2.weaken (.cons_cons _ (List.sublist_cons_self _ _))
  refine h3.conv F ⟨by simp [hxl,hul],.inr ⟨_,nc,cj [.int .u8 0] (nc - (m + l.length)),F,hnc,?_,h3.own _ List.mem_cons_self⟩⟩
  simp only [List.length_append,hxl,hul,ge,List.length_cons,List.length_nil]
  omega
 have ez : (Builtin.zeroCells (Value.int .u8 0).cells) = fun k=>(cj [.int .u8 0] k).toArray:=by
  funext k;rw [← iv];rfl
 rcases hacc with ⟨rfl,rfl⟩ | ⟨b,cap,rest,rfl,hmc,hrl,hblk⟩
 ·have hx0 : xs = []:=by simpa using hxl
  subst hx0
  by_cases hk : l = []
  ·subst hk
   refine ⟨aK,w,?_,by simpa [cy] using hw,fun _ _=>rfl,fun h=>by rcases h with h | h <;> exact absurd F h⟩
   have hf : (Builtin.firstCells 1 0 (S [])).run P w = .ok #[] w:=by
    have:=Lib.run_firstCells_string (P:=P) w 1 ⟨([] : ael).toArray⟩
    rw [oH] at this;simpa [Lib.strCells] using this
   simp [Builtin.append_,run_underlying ht,run_underlying hu,sizeOf,typeInfo,hi,hsz,Builtin.lenOf,oH,hf]
  ·have hpos : 0 < l.length:=List.length_pos_iff.2 hk
   have hr:=run_append_nil_string (P:=P) w T T2 ty el ie (.int .u8 0) ht hu hi hze ⟨l.toArray⟩ (by rw [hss];exact hpos) (by rw [hss];omega) (by rw [hss,hby];omega)
   rw [hss] at hr
   have hg:=grownCap_ge w l.length 0 el
   have:=mk (grownCap w l.length 0 el) (by simpa using hg)
   have e1 : (⟨l.toArray⟩ : ByteArray).data.map (fun b=>Value.int .u8 b.toNat) ++ Builtin.zeroCells (Value.int .u8 0).cells (grownCap w l.length 0 el - l.length) = (cy l ++ cj [.int .u8 0] (grownCap w l.length 0 el - l.length)).toArray:=by
    rw [ez];simp [cy]
   rw [e1] at hr
   simp only [Nat.zero_add,List.nil_append] at this ⊢
   exact ⟨_,_,hr,this,fun _ h=>absurd h hk,fun _=>⟨_,_,F,fun _=>by omega⟩⟩
 ·by_cases hfit : m + l.length ≤ cap
  ·have hr:=Lib.run_append_room_string (P:=P) w T T2 ty el ie ht hu hi hsz b m cap (xs ++ rest).toArray hblk ⟨l.toArray⟩ (by rw [hss];exact hfit) (by rw [hss];simp only [List.size_toArray];omega)
   have hcells : (List.take m (xs ++ rest) ++ cy l ++ List.drop (m + l.length) (xs ++ rest)) = xs ++ cy l ++ rest.drop l.length:=by
    have : m = xs.length:=oM
    rw [this];simp [List.drop_append]
   rw [hss,mX] at hr
   simp only [hcells] at hr
   refine ⟨_,_,hr,hw.upd (b:=b) F F ⟨by simp [hxl,hul],.inr ⟨b,cap,rest.drop l.length,F,hfit,?_,setRow_heap w b _ _ el _ hblk⟩⟩ (fun c hc=>setRow_other w b c _ hc) F F F (by simp),fun h=>(by cases h),fun _=>⟨b,cap,F,fun h=>?_⟩⟩
   ·simp only [List.length_append,List.length_drop] at *;omega
   ·rcases h with h | h
    ·rcases Nat.eq_zero_or_pos cap with h0 | h0
     ·subst h0;exact absurd F (h _ _)
     ·exact h0
    ·have:=List.length_pos_iff.2 h;omega
  ·have hnsc:=iB (m + l.length) cap oM
   have hold : ∀ j u,xs[j]? = some u → w.cell? ((⟨b,0,none⟩ : Addr).add j) = some u:=fun j u hj=>by
    rw [jc]
    exact ((gJ (S:=St B G (.acc (.slice (some ⟨b,0,none⟩) m cap) el 1 m xs :: R)) (m:=m) (cap:=cap) (T:=el) (sz:=1) (xs:=xs) List.mem_cons_self).go j u hj).go w hw
   have hr:=Lib.run_append_grow_string (P:=P) w T T2 ty el ie (.int .u8 0) ht hu hi hze ⟨b,0,none⟩ m cap xs (by rw [hsz];simpa using hxl) hold ⟨l.toArray⟩ (by rw [hss];omega) (by rw [hss];omega) (by rw [hss,hby];omega)
   rw [hss,mX,ez] at hr
   have hg:=grownCap_ge w (m + l.length) cap el
   have:=mk (grownCap w (m + l.length) cap el) hg
   simp only [List.append_toArray] at hr this ⊢
   exact ⟨_,_,hr,this,fun h=>(by cases h),fun _=>⟨_,_,F,fun _=>by omega⟩⟩
theorem adA {m b cap : Nat} {s x : Operand} {T T2 el : TypeId} {s1 b1 s2 b2 : Nat} {z1 z2 : Value} {xs : List Value} {l : ael} {L' : List Own} [TI P T (.slice el) s1 b1 z1] [TI P T2 .string s2 b2 z2] [TI P el (.int .u8) 1 1 (.int .u8 0)] [ha : AccI L (.slice (some ⟨b,0,none⟩) m (cap + 1)) el 1 m xs L']
  (hs : ev E s = some (.slice (some ⟨b,0,none⟩) m (cap + 1))) (hx : ev E x = some (S l)) (hlt : Nat.blt d n = true) (hb : m + l.length ≤ 1000000000)
  (kk : ∀ b' cap',Nx n D ((d,.slice (some ⟨b',0,none⟩) (m + l.length) (cap' + 1)) :: E) B G (.acc (.slice (some ⟨b',0,none⟩) (m + l.length) (cap' + 1)) el 1 (m + l.length) (xs ++ cy l) :: L') K) :
  Nx n D E B G L (ow P ⟨some d,.call ⟨.builtin .append,[s,x].toArray,[T,T2].toArray⟩,ty,pos,aft,gd⟩ Q K):=Nx.mk fun a w hsat hw=>by
 obtain ⟨v',w',hr,hst,_,h2⟩:=aab (P:=P) (ty:=ty) (T:=T) (T2:=T2) (el:=el) (s1:=s1) (b1:=b1) (z1:=z1) (s2:=s2) (b2:=b2) (z2:=z2) hb (hw.perm ha.del.perm)
 obtain ⟨b',cap',rfl,h3⟩:=h2 (.inl (by simp))
 obtain ⟨c,rfl⟩ : ∃ c,cap' = c + 1:=⟨cap' - 1,by have:=h3 (.inl (by simp));omega⟩
 have hrun : (execOp a.eval ⟨some d,.call ⟨.builtin .append,[s,x].toArray,[T,T2].toArray⟩,ty,pos,aft,gd⟩).run P w = .ok (.value (.slice (some ⟨b',0,none⟩) (m + l.length) (c + 1))) w':=by
  have e1 : ([s,x].toArray.map a.eval) = #[.slice (some ⟨b,0,none⟩) m (cap + 1),S l]:=by simp [hsat.ev hs,hsat.ev hx]
  simp only [execOp,resolve,e1,Sem.run_bind,Sem.run_pure,Result.andThen_ok,invoke,builtin,hr]
 unfold ow Oper.wp
 rw [hrun,Oper.upon_value]
 exact (kk b' c).go _ w' (hsat.put (by simpa using hlt)) hst
theorem ads {fo x : Operand} {ah : Array TypeId} {f : FuncId} {fn : Func} {t el : TypeId} {m : Nat} {ps : Array TypeId}
  (hf : ev E fo = some (.func (.func f) #[] #[])) (hx : ev E x = some (I (m : Nat))) (hlt : Nat.blt d n = true) (hfn : P.funcs[f]? = some fn) (hname : (fn.name == "runtime.NumGoroutine") = false) (hbd : fn.body.isNone = true) (hnx : Extern.findNext fn = none) (he : Extern.find fn = some (Extern.BytealgMakeNoZero.makeNoZero ps #[t])) (ht : P.underlying t = some (.slice el)) (hm : 0 < m ∧ m ≤ 1000000000)
  (k : ∀ b cap,m ≤ cap + 1 → Nx n D ((d,.slice (some ⟨b,0,none⟩) m (cap + 1)) :: E) B G (.acc (.slice (some ⟨b,0,none⟩) 0 (cap + 1)) el 1 0 [] :: L) K) : Nx n D E B G L (ow P ⟨some d,.call ⟨.value fo,[x].toArray,ah⟩,ty,pos,aft,gd⟩ Q K):=Nx.mk fun a w hs hw=>by
 obtain ⟨cs,hr,hcs,_⟩:=Lib.run_makeNoZero (P:=P) w ps t el ht m oM
 have e1 : ([x].toArray.map a.eval) = #[.int .i64 (m : Nat)]:=by simp [hs.ev hx]
 have hrun : (execOp a.eval ⟨some d,.call ⟨.value fo,[x].toArray,ah⟩,ty,pos,aft,gd⟩).run P w = .ok (.value (.slice (some ⟨w.heap.size,0,none⟩) m cs.size)) (w.drew.drew.alloc (.cells cs el)):=by
  simp only [execOp,resolve,hs.ev hf,e1,Deferred.ofValue,Sem.run_bind,Sem.run_pure,Result.andThen_ok,invoke]
  rw [show (#[] ++ #[Value.int .i64 (m : Nat)] ++ #[] : Array Value) = #[Value.int .i64 (m : Nat)] from rfl,run_callFunc_extern hfn hname hbd hnx he,hr]
  rfl
 unfold ow Oper.wp
 rw [hrun,Oper.upon_value]
 have h1:=hw.drew.drew.alloc (.cells cs el)
 obtain ⟨c,hc⟩ : ∃ c,cs.size = c + 1:=⟨cs.size - 1,oM⟩
 have h2 : St B G (.acc (.slice (some ⟨w.heap.size,0,none⟩) 0 (c + 1)) el 1 0 [] :: L) (w.drew.drew.alloc (.cells cs el)):=h1.conv rfl ⟨rfl,.inr ⟨w.heap.size,c + 1,cs.toList,rfl,Nat.zero_le _,by simp [hc],h1.own _ List.mem_cons_self⟩⟩
 rw [hc]
 exact (k w.heap.size c oM).go _ _ (hs.put (by simpa using hlt)) h2
end
def fp (P : Program) (f : FuncId) (args : List Value) (G : Gh) (L : List Own) (R : Value → Gh → List Own → Prop) : Prop:=Fn P f args G L (fun v G' L'=>Gh.le G G' ∧ R v G' L')
section
variable {P : Program} {n : Nat} {D : List Deferred} {E : bQ} {B : Base} {G : Gh} {L : List Own} {K : Act → World → Prop} {Q : Exit → Act → World → Prop}
theorem eR {fo : Operand} {l : List Operand} {ah : Array TypeId} {d : Nat} {ty : TypeId} {pos : String} {aft : Array Edge} {g : Option (Nat × Bool)} {f : FuncId} {fi ca az vs : List Value} {b : Nat} {cs : List Value} {T : TypeId} {R : List Own} {Post : Value → Gh → List Own → Prop}
  [hd : DelB L b cs T R] (hf : ev E fo = some (.func (.func f) fi.toArray ca.toArray)) (ha : evs E l = some az) (hv : fi ++ az ++ ca = vs) (hc : fp P f vs G [.blk b (.cells cs.toArray T (0,0))] Post) (hlt : Nat.blt d n = true)
  (k : ∀ v G' L',Gh.le G G' → Post v G' L' → Nx n D ((d,v) :: E) B G' (L' ++ R) K) : Nx n D E B G L (ow P ⟨some d,.call ⟨.value fo,l.toArray,ah⟩,ty,pos,aft,g⟩ Q K) :=
 acv hf ha hv hc hlt fun v G' L' h=>k v G' L' h.1 h.2
theorem bM {f : FuncId} {fn : Func} {c : Code} {args : List Value} {R : Value → Gh → List Own → Prop} (E0 : bQ) (hf : P.funcs[f]? = some fn) (hok : fg P f = true) (hn : fn.ntmps = n) (hb : fn.body = some c)
  (hlen : Nat.ble args.length n = true) (hE : iQ E0 (params 0 args))
  (h : ∀ B,B.G = G → B.W = cR L → Nx n [] E0 B G L (cu P (.code c) [] (bp P fn (fj B (fun v G' L'=>Gh.le G G' ∧ R v G' L'))))) : fp P f args G L R:=vP E0 hf hok hn hb hlen hE h
end
def abq (n : Nat) (cs : List Value) : Bool:=cs.all fun v=>match v with | .string b=>Nat.ble b.size n | _=>false
section
variable {P : Program} {n : Nat} {D : List Deferred} {E : bQ} {B : Base} {G : Gh} {L : List Own} {K : Act → World → Prop} {Q : Exit → Act → World → Prop}
theorem gK (m : Nat) {T T0 : TypeId} {x : Operand} {desc : TypeDesc} {size bytes : Nat} {zero : Value} {b o d : Nat} {cs : List Value} {fr : Nat × Nat} {ty : TypeId} {pos : String} {aft : Array Edge} {g : Option (Nat × Bool)} [TI P T desc size bytes zero] [h : BlkI L b cs T0 fr] (hx : ev E x = some (Pt b o)) (ha : dQ desc = false) (hlt : Nat.blt d n = true) (ho : o < cs.length) (hs : abq m cs = true)
  (k : ∀ l : ael,l.length ≤ m → Nx n D ((d,S l) :: E) B G L K) : Nx n D E B G L (ow P ⟨some d,.load T x,ty,pos,aft,g⟩ Q K) :=
 zW hx ha hlt ho fun v hv=>by
  have h1:=List.all_eq_true.1 hs v hv
  split at h1
  ·rename_i b
   have e : Value.string b = S b.data.toList:=by simp [S]
   rw [e]
   exact k _ (by rw [Array.length_toList];exact Nat.le_of_ble_eq_true h1)
  ·cases h1
def lB (m : Int) : List Value → Prop
 | []=>True
 | v :: r=>(∃ i : Int,v = I i ∧ 0 ≤ i ∧ i ≤ m) ∧ lB m r
theorem qb {m : Int} : ∀ {cs : List Value},lB m cs → ∀ v ∈ cs,∃ i : Int,v = I i ∧ 0 ≤ i ∧ i ≤ m
 | [],_,_,h=>absurd h (by simp)
 | w :: r,h,v,hv=>by
  rcases List.mem_cons.1 hv with rfl | hv
  ·exact h.1
  ·exact qb h.2 v hv
theorem wu {m : Int} : lB m []:=trivial
theorem uL {m i : Int} {r : List Value} (h : 0 ≤ i ∧ i ≤ m) (h2 : lB m r) : lB m (I i :: r):=⟨⟨i,rfl,h.1,h.2⟩,h2⟩
theorem acx (m : Int) {T T0 : TypeId} {x : Operand} {desc : TypeDesc} {size bytes : Nat} {zero : Value} {b o d : Nat} {cs : List Value} {fr : Nat × Nat} {ty : TypeId} {pos : String} {aft : Array Edge} {g : Option (Nat × Bool)} [TI P T desc size bytes zero] [h : BlkI L b cs T0 fr] (hx : ev E x = some (Pt b o)) (ha : dQ desc = false) (hlt : Nat.blt d n = true) (ho : o < cs.length) (hs : lB m cs)
  (k : ∀ i : Int,0 ≤ i → i ≤ m → Nx n D ((d,I i) :: E) B G L K) : Nx n D E B G L (ow P ⟨some d,.load T x,ty,pos,aft,g⟩ Q K) :=
 zW hx ha hlt ho fun v hv=>by
  obtain ⟨i,rfl,h0,h1⟩:=qb hs v hv
  exact k i h0 h1
end
theorem PutsR.app {cs vs cs' : List Value} {o : Nat} (h : PutsR cs o vs cs') (rest : List Value) : PutsR (cs ++ rest) o vs (cs' ++ rest):=by
 induction h with
 | nil=>exact .nil
 | here _ ih=>exact .here ih
 | there _ ih=>exact .there ih
theorem PutsR.len {cs vs cs' : List Value} {o : Nat} (h : PutsR cs o vs cs') : cs'.length = cs.length:=by
 induction h with
 | nil=>rfl
 | here _ ih=>simp [ih]
 | there _ ih=>simp [ih]
class UpdA (b : Nat) (xs' : List Value) (L : List Own) (m cap : outParam Nat) (T0 : outParam TypeId) (sz : outParam Nat) (xs : outParam (List Value)) (L' : outParam (List Own)) : Prop where
 upd : UpdO (.acc (.slice (some ⟨b,0,none⟩) m cap) T0 sz m xs) (.acc (.slice (some ⟨b,0,none⟩) m cap) T0 sz m xs') L L'
instance {b m cap : Nat} {T0 : TypeId} {sz : Nat} {xs xs' : List Value} {r : List Own} : UpdA b xs' (.acc (.slice (some ⟨b,0,none⟩) m cap) T0 sz m xs :: r) m cap T0 sz xs (.acc (.slice (some ⟨b,0,none⟩) m cap) T0 sz m xs' :: r):=⟨.here⟩
instance {b m cap : Nat} {T0 : TypeId} {sz : Nat} {xs xs' : List Value} {z : Own} {r r' : List Own} [h : UpdA b xs' r m cap T0 sz xs r'] : UpdA b xs' (z :: r) m cap T0 sz xs (z :: r'):=⟨.there h.upd⟩
section
variable {P : Program} {n : Nat} {D : List Deferred} {E : bQ} {B : Base} {G : Gh} {L : List Own} {K : Act → World → Prop} {Q : Exit → Act → World → Prop} {ty : TypeId} {pos : String} {aft : Array Edge} {gd : Option (Nat × Bool)} {dd : Nat}
theorem vJ {T T0 : TypeId} {x y : Operand} {desc : TypeDesc} {size bytes sz m cap : Nat} {zero v : Value} {b o : Nat} {xs vs xs' : List Value} {L' : List Own} [TI P T desc size bytes zero] (hx : ev E x = some (Pt b o)) (hy : ev E y = some v) (hv : v.cells = vs.toArray)
  (hl : Nat.beq vs.length size = true) (hne : vs.isEmpty = false) (h1 : ed vs = true) (hu : UpdO (.acc (.slice (some ⟨b,0,none⟩) m cap) T0 sz m xs) (.acc (.slice (some ⟨b,0,none⟩) m cap) T0 sz m xs') L L') (hp : PutsR xs o vs xs')
  (k : Nx n D E B G L' K) : Nx n D E B G L (ow P ⟨none,.store T x y,ty,pos,aft,gd⟩ Q K):=Nx.mk fun a w hs hw=>by
 unfold ow Oper.wp
 obtain ⟨R,hp1,hp2⟩:=hu.split
 have hw':=hw.perm hp1
 obtain ⟨hxl,⟨h,_⟩ | ⟨b',cap',rest,h,hmc,hrl,hblk⟩⟩ : hC w _ T0 sz m xs:=hw'.own _ List.mem_cons_self
 ·cases h
 simp only [Value.slice.injEq,Option.some.injEq,Addr.mk.injEq] at h
 obtain ⟨⟨rfl,_,_⟩,_,rfl⟩:=h
 have hst:=iW (P:=P) (o:=o) vs (xs ++ rest) (xs' ++ rest) 0 w hblk (by simpa using hp.app rest) h1
 rcases hst with hst | ⟨rfl,_⟩
 ·have hsz : v.cells.size = size:=by rw [hv];simpa using hl
  have : (execOp a.eval ⟨none,.store T x y,ty,pos,aft,gd⟩).run P w = .ok .skip (setBlk w b (.cells (xs' ++ rest).toArray T0 (0,0))):=by
   simp [execOp,hs.ev hx,hs.ev hy,Instr.storeAt,Instr.sureAddr,storeVar,dI (T:=T) (desc:=desc) (size:=size) (bytes:=bytes) (zero:=zero),hsz]
   rw [hv];simp [hst]
  rw [this,Oper.upon_skip]
  refine k.go _ _ hs (St.perm ?_ hp2)
  have hlt : b < w.heap.size:=(Array.getElem?_eq_some_iff.1 hblk).1
  refine hw'.upd (b:=b) F F ⟨by rw [hp.len];exact hxl,.inr ⟨b,cap,rest,F,hmc,by rw [List.length_append,hp.len,← List.length_append];exact hrl,?_⟩⟩ (fun c hc=>?_) F F F (by simp [setBlk])
  ·rw [gX,if_pos rfl,if_pos hlt]
  ·rw [gX,if_neg (Ne.symm hc)]
 ·simp at hne
theorem xW {src : Value} {k sz : Nat} {s x : Operand} {T el : TypeId} {desc : TypeDesc} {size bytes s1 b1 : Nat} {z1 zero : Value} {zs news : List Value} [TI P T (.slice el) s1 b1 z1] [TI P el desc size bytes zero]
  (hs : ev E s = some aK) (hx : ev E x = some src) (hsrc : aN G src sz k news) (he : Nat.beq sz size = true) (h1 : ed news = true)
  (hz : eP zero = some zs) (hzl : Nat.beq zs.length size = true) (hb0 : Nat.beq bytes 0 = false) (hlt : Nat.blt dd n = true) (hk : 0 < k) (hb : (2 * k + 768) * bytes ≤ 281474976710656)
  (kk : ∀ b' c',Nx n D ((dd,.slice (some ⟨b',0,none⟩) k c') :: E) B G (.acc (.slice (some ⟨b',0,none⟩) k c') el size k news :: L) K) :
  Nx n D E B G L (ow P ⟨some dd,.call ⟨.builtin .append,[s,x].toArray,[T,T].toArray⟩,ty,pos,aft,gd⟩ Q K):=by
 have:=Nat.eq_of_beq_eq_true he;subst this
 exact sj hs hx hsrc.src h1 (eO hz) hzl hb0 hb hlt fun v'=>Nx.shp (.head _) fun hsh=>by
  obtain ⟨b',c',rfl⟩:=hsh.pos oM
  exact kk b' c'
end
theorem fC {α : Type} (f : α → List Value) (a : α) (l : List α) : ag f (a :: l) = f a ++ ag f l:=by simp [ag]
theorem sY {α : Type} (f : α → List Value) (a b : List α) : ag f (a ++ b) = ag f a ++ ag f b:=by simp [ag]
section
variable {P : Program} {n : Nat} {D : List Deferred} {E : bQ} {B : Base} {G : Gh} {L : List Own} {K : Act → World → Prop} {Q : Exit → Act → World → Prop} {ty : TypeId} {pos : String} {aft : Array Edge} {gd : Option (Nat × Bool)} {dd : Nat}
theorem aco {α : Type} {f : α → List Value} {cs : List α} {c : α} {i : Nat} {T T0 : TypeId} {x y : Operand} {desc : TypeDesc} {sz bytes b o m cap : Nat} {zero : Value} {xs : List Value} {L' : List Own} [TI P T desc sz bytes zero] [RowF f sz] [hu : UpdA b (ag f (cs.set i c)) L m cap T0 sz xs L']
  (hx : ev E x = some (Pt b o)) (hy : ev E y = some (Ag (f c))) (h1 : ed (f c) = true) (hxs : xs = ag f cs) (hs0 : Nat.blt 0 sz = true) (ho : o = i * sz) (hi : i < cs.length)
  (k : Nx n D E B G L' K) : Nx n D E B G L (ow P ⟨none,.store T x y,ty,pos,aft,gd⟩ Q K):=by
 have hl : (f c).length = sz:=RowF.len c
 have hs0 : 0 < sz:=by simpa using hs0
 have hne : f c ≠ []:=fun h=>by rw [h] at hl;simp at hl;omega
 refine vJ (vs:=f c) hx hy F (by rw [hl];simp) (by cases hfc : f c with | nil=>exact absurd hfc hne | cons=>rfl) h1 hu.upd ?_ k
 subst hxs
 have e1 : cs = cs.take i ++ cs[i] :: cs.drop (i + 1):=by rw [List.getElem_cons_drop,List.take_append_drop]
 have e2 : cs.set i c = cs.take i ++ c :: cs.drop (i + 1):=by rw [List.set_eq_take_append_cons_drop,if_pos hi]
 have hlen:=cS (f:=f) (cs.take i)
 rw [List.length_take,Nat.min_eq_left oM] at hlen
 have e3 : ag f cs = ag f (cs.take i) ++ (f cs[i] ++ ag f (cs.drop (i + 1))):=by rw [← fC,← sY,← e1]
 rw [e2,ho,← hlen,e3,sY,fC]
 exact kz (ag f (cs.take i)) (by rw [hl];exact RowF.len _) hne
end
def lu (o cap m sz : Nat) : Nat:=if cap = m then o else o + m * sz
section
variable {P : Program} {n : Nat} {D : List Deferred} {E : bQ} {M : World → Prop} {d : Option Nat} {ty : TypeId} {pos : String} {aft : Array Edge} {gd : Option (Nat × Bool)}
theorem nZ {T el : TypeId} {x lo : Operand} {desc' : TypeDesc} {size bytes size' bytes' : Nat} {zero zero' : Value} {k : IntKind} {m : Int} {b o len cap : Nat} [TI P T (.slice el) size bytes zero] [TI P el desc' size' bytes' zero']
  (hx : ev E x = some (.slice (some ⟨b,o,none⟩) len cap)) (hl : ev E lo = some (.int k m)) (h0 : 0 ≤ m ∧ m ≤ len) :
  Gives P n D E M ⟨d,.slice T x (some lo) none none,ty,pos,aft,gd⟩ (.slice (some ⟨b,lu o cap m.toNat size',none⟩) (len - m.toNat) (cap - m.toNat)):=Gives.mk fun a w hs _=>by
 simp only [execOp,hs.ev hx,Option.map_some,Option.map_none,hs.ev hl,Instr.sliceAt,Instr.slice,Sem.run_bind,cE (desc:=.slice el) (size:=size) (bytes:=bytes) (zero:=zero),Result.andThen_ok,Instr.sliceBounds,Sem.run_pure,
  dp (P:=P) (m:=m) (y:=len) h0,dI (desc:=desc') (size:=size') (bytes:=bytes') (zero:=zero')]
 unfold lu
 by_cases hc : cap = m.toNat
 ·simp [hc]
 ·rw [if_neg hc,if_neg hc]
  by_cases hz : m.toNat * size' = 0 <;> simp [Addr.add,hz]
end
theorem aN.cutAt {G : Gh} {b o len cap sz m : Nat} {xs : List Value} (h : aN G (.slice (some ⟨b,o,none⟩) len cap) sz len xs) (hm : m ≤ len) : aN G (.slice (some ⟨b,lu o cap m sz,none⟩) (len - m) (cap - m)) sz (len - m) (xs.drop (m * sz)):=by
 obtain ⟨h1,⟨h2,_⟩ | ⟨b',o',cap',e,hc,hs⟩⟩:=h
 ·cases h2
 simp only [Value.slice.injEq,Option.some.injEq,Addr.mk.injEq] at e
 obtain ⟨⟨rfl,rfl,_⟩,_,rfl⟩:=e
 refine ⟨by rw [List.length_drop,h1,Nat.sub_mul],.inr ⟨b,_,_,F,oM,?_⟩⟩
 obtain ⟨cs,h3,h4⟩:=hs
 refine ⟨cs,h3,fun i v hv=>?_⟩
 rw [List.getElem?_drop] at hv
 unfold lu
 split
 ·rename_i hcm
  have h5:=(List.getElem?_eq_some_iff.1 hv).1
  have h6 : len = m:=oM
  rw [h1,h6] at h5
  omega
 ·have:=h4 _ v hv
  rwa [← Nat.add_assoc] at this
def bpD (P : Program) (fn : Func) (R : Ending → World → Prop) : Exit → Act → World → Prop
 | .normal,a,w | .ret,a,w=>Leaves P fn a.tmps R a.defers .returning w
 | .outgrown,_,w=>R .outgrown w
 | _,_,_=>False
instance {P : Program} {fn : Func} {R : Ending → World → Prop} : PQ (bpD P fn R):=⟨fun _ _ _ _ _ h=>h⟩
structure FnD (P : Program) (f : FuncId) (args : List Value) (G : Gh) (L : List Own) (Post : Value → Gh → List Own → Prop) : Prop where
 ok : fg P f = true
 go : ∀ w,St ⟨w,G,cR L⟩ G L w → CallsD P f args.toArray .returning w fun e u w'=>u = .returning ∧ fj ⟨w,G,cR L⟩ Post e w'
section
variable {P : Program} {n : Nat} {D : List Deferred} {E : bQ} {B : Base} {G : Gh} {L : List Own} {K : Act → World → Prop} {Q : Exit → Act → World → Prop}
end
attribute [irreducible] bpD
section
variable {P : Program} {n : Nat} {D : List Deferred} {E : bQ} {B : Base} {G : Gh} {L : List Own} {K : Act → World → Prop} {Q : Exit → Act → World → Prop} {ty : TypeId} {pos : String} {aft : Array Edge} {gd : Option (Nat × Bool)}
theorem d8 {T T0 : TypeId} {x y : Operand} {desc : TypeDesc} {size bytes sz m cap : Nat} {zero v : Value} {b o : Nat} {xs ys zs vs : List Value} {L' : List Own} [TI P T desc size bytes zero] [AccB L b m cap T0 sz xs] (hx : ev E x = some (Pt b o)) (hy : ev E y = some v) (hv : v.cells = vs.toArray)
  (hl : Nat.beq vs.length size = true) (hne : vs.isEmpty = false) (h1 : ed vs = true) (hxs : xs = ys ++ zs) (hz : Nat.beq zs.length vs.length = true) (hu : UpdA b (ys ++ vs) L m cap T0 sz xs L') (ho : o = ys.length)
  (k : Nx n D E B G L' K) : Nx n D E B G L (ow P ⟨none,.store T x y,ty,pos,aft,gd⟩ Q K):=by
 refine vJ hx hy hv hl hne h1 hu.upd ?_ k
 subst hxs ho
 have:=kz ys (vs:=vs) (z:=zs) (r:=[]) (Nat.eq_of_beq_eq_true hz) (by intro h;rw [h] at hne;cases hne)
 simpa using this
end
section
variable {P : Program} {n : Nat} {D : List Deferred} {E : bQ} {B : Base} {G : Gh} {L : List Own} {K : Act → World → Prop} {Q : Exit → Act → World → Prop} {ty : TypeId} {pos : String} {aft : Array Edge}
theorem lK {fo : Operand} {l : List Operand} {ah : Array TypeId} {d : Nat} {g : Option (Nat × Bool)} {f : FuncId} {fi ca az vs : List Value} {xs : List Value} {el : TypeId} {u : Value} {sz m : Nat} {R : List Own} {Post : Value → List Own → Prop}
  [ha2 : AccI L u el sz m xs R] (hf : ev E fo = some (.func (.func f) fi.toArray ca.toArray)) (ha : evs E l = some az) (hv : fi ++ az ++ ca = vs) (hc : d9 P f vs G [.acc u el sz m xs] Post) (hlt : Nat.blt d n = true)
  (k : ∀ v L',Post v L' → Nx n D ((d,v) :: E) B G (L' ++ R) K) : Nx n D E B G L (ow P ⟨some d,.call ⟨.value fo,l.toArray,ah⟩,ty,pos,aft,g⟩ Q K) :=
 iL (Lp:=[.acc u el sz m xs]) hf ha hv hc ha2.del.perm hlt fun v G' L' h=>by obtain ⟨rfl,h⟩:=h;exact k v L' h
end
section
variable {P : Program} {n : Nat} {D : List Deferred} {E : bQ} {M : World → Prop} {d : Option Nat} {ty : TypeId} {pos : String} {aft : Array Edge} {gd : Option (Nat × Bool)}
theorem ac5 {T el : TypeId} {x hi mx : Operand} {desc' : TypeDesc} {size bytes size' bytes' : Nat} {zero zero' : Value} {k k' : IntKind} {m m2 : Int} {p : Option Addr} {len cap : Nat} [TI P T (.slice el) size bytes zero] [TI P el desc' size' bytes' zero']
  (hx : ev E x = some (.slice p len cap)) (hl : ev E hi = some (.int k m)) (hm : ev E mx = some (.int k' m2)) (h0 : 0 ≤ m ∧ m ≤ m2 ∧ m2 ≤ cap) :
  Gives P n D E M ⟨d,.slice T x none (some hi) (some mx),ty,pos,aft,gd⟩ (.slice p m.toNat m2.toNat):=Gives.mk fun a w hs _=>by
 have e1:=fun w=>dp (P:=P) (m:=m2) (y:=cap) (k:=k') (w:=w) (code:=.slice3Acap) ⟨oM,h0.2.2⟩
 have e2:=fun w=>dp (P:=P) (m:=m) (y:=m2.toNat) (k:=k) (w:=w) (code:=.slice3B) ⟨h0.1,oM⟩
 simp only [execOp,hs.ev hx,Option.map_some,Option.map_none,hs.ev hl,hs.ev hm,Instr.sliceAt,Instr.slice,Sem.run_bind,cE (desc:=.slice el) (size:=size) (bytes:=bytes) (zero:=zero),Result.andThen_ok,Instr.sliceBounds,Sem.run_pure,
  e1,e2,dI (desc:=desc') (size:=size') (bytes:=bytes') (zero:=zero'),if_true]
 by_cases hc : m2.toNat = 0
 ·simp [hc]
 ·rw [if_neg hc]
  cases p <;> simp [Addr.add]
end
section
variable {P : Program} {n : Nat} {D : List Deferred} {E : bQ} {B : Base} {G : Gh} {L : List Own} {K : Act → World → Prop} {Q : Exit → Act → World → Prop} {ty : TypeId} {pos : String} {aft : Array Edge} {gd : Option (Nat × Bool)} {dd : Nat}
theorem acC {p : Option Addr} {m k b c c0 sz : Nat} {s x : Operand} {T el T0 : TypeId} {desc : TypeDesc} {size bytes s1 b1 : Nat} {z1 zero : Value} {zs xs news : List Value} {fr : Nat × Nat} [h1' : TI P T (.slice el) s1 b1 z1] [he : TI P el desc size bytes zero] [hb' : BlkI L b news T0 fr]
  (hs : ev E s = some (.slice p m m)) (hx : ev E x = some (.slice (some ⟨b,0,none⟩) k c)) (hsl : aN G (.slice p m c0) sz m xs) (hsz : Nat.beq sz size = true) (hl : Nat.beq news.length (k * size) = true) (h1 : ed news = true)
  (hz : eP zero = some zs) (hzl : Nat.beq zs.length size = true) (hb0 : Nat.beq bytes 0 = false) (hlt : Nat.blt dd n = true) (hk : Nat.blt 0 k = true) (hb : (2 * (m + k) + 768) * bytes ≤ 281474976710656)
  (kk : ∀ b' c',Nx n D ((dd,.slice (some ⟨b',0,none⟩) (m + k) c') :: E) B G (.acc (.slice (some ⟨b',0,none⟩) (m + k) c') el size (m + k) (xs ++ news) :: L) K) :
  Nx n D E B G L (ow P ⟨some dd,.call ⟨.builtin .append,[s,x].toArray,[T,T].toArray⟩,ty,pos,aft,gd⟩ Q K):=by
 have hsz:=Nat.eq_of_beq_eq_true hsz
 subst hsz
 have hk' : 0 < k:=by simpa using hk
 obtain ⟨hxl,⟨e1,e2⟩ | ⟨b',o',cap',e,hc,hseg⟩⟩:=hsl
 ·simp only [Value.slice.injEq] at e1
  obtain ⟨rfl,rfl,-⟩:=e1
  obtain rfl : xs = []:=by simpa using hxl
  refine sj hs hx (kT hl (eC hb'.mem)) h1 (eO hz) hzl hb0 (by simpa using hb) hlt fun v'=>Nx.shp (.head _) fun hsh=>?_
  obtain ⟨b',c',rfl⟩:=hsh.pos oM
  have:=kk b' c'
  simpa using this
 ·simp only [Value.slice.injEq] at e
  obtain ⟨rfl,-,rfl⟩:=e
  obtain ⟨ie,hi,hie,hby,hze⟩:=he.inf
  have ht:=h1'.und
  have hnl : news.length = k * sz:=Nat.eq_of_beq_eq_true hl
  have hzl:=Nat.eq_of_beq_eq_true hzl
  refine Nx.mk fun a w hsat hw=>?_
  have hnsc:=iB (m + k) m oM
  have hroom : Builtin.nextslicecap (m + k) m * ie.bytes ≤ 281474976710656:=by
   have : Builtin.nextslicecap (m + k) m * bytes ≤ (2 * (m + k) + 768) * bytes:=Nat.mul_le_mul_right _ hnsc
   rw [hby];omega
  have hbne : bytes ≠ 0:=fun e=>by subst e;simp at hb0
  have hsmall : m + k ≤ 281474976710656:=by
   have : (2 * (m + k) + 768) * 1 ≤ (2 * (m + k) + 768) * bytes:=Nat.mul_le_mul_left _ oM
   omega
  have hold : ∀ j u,xs[j]? = some u → w.cell? ((⟨b',o',none⟩ : Addr).add j) = some u:=fun j u hj=>by
   rw [jc]
   exact ((eN (S:=St B G L) (G0:=G) (L0:=L) hseg).go j u hj).go w hw
  have hnews : ∀ j u,news[j]? = some u → w.cell? ((⟨b,0,none⟩ : Addr).add j) = some u:=fun j u hj=>by
   rw [jc]
   exact ((eC (S:=St B G L) (G0:=G) (L0:=L) hb'.mem).go j u hj).go w hw
  have hr:=run_append_grow (P:=P) w T ty el ie zero ht hi hze ⟨b',o',none⟩ m m xs (by rw [hie];exact hxl) hold ⟨b,0,none⟩ k c news (by rw [hie];exact hnl) hnews oM oM hroom
  rw [eO hz,iv] at hr
  have hst : St B G (.acc (.slice (some ⟨w.heap.size,0,none⟩) (m + k) (grownCap w (m + k) m el)) el sz (m + k) (xs ++ news) :: L) (w.drew.alloc (.cells (xs ++ news ++ cj zs (grownCap w (m + k) m el - (m + k))).toArray el)):=by
   have h2:=hw.drew.alloc (.cells (xs ++ news ++ cj zs (grownCap w (m + k) m el - (m + k))).toArray el)
   refine h2.conv F ⟨by simp [hxl,hnl,Nat.add_mul],.inr ⟨_,grownCap w (m + k) m el,cj zs (grownCap w (m + k) m el - (m + k)),F,grownCap_ge w (m + k) m el,?_,h2.own _ List.mem_cons_self⟩⟩
   simp only [List.length_append,hxl,hnl,ge,hzl]
   rw [← Nat.add_mul,← Nat.add_mul];congr 1
   have:=grownCap_ge w (m + k) m el
   omega
  have hrun : (execOp a.eval ⟨some dd,.call ⟨.builtin .append,[s,x].toArray,[T,T].toArray⟩,ty,pos,aft,gd⟩).run P w = .ok (.value (.slice (some ⟨w.heap.size,0,none⟩) (m + k) (grownCap w (m + k) m el))) (w.drew.alloc (.cells (xs ++ news ++ cj zs (grownCap w (m + k) m el - (m + k))).toArray el)):=by
   have e1 : ([s,x].toArray.map a.eval) = #[.slice (some ⟨b',o',none⟩) m m,.slice (some ⟨b,0,none⟩) k c]:=by simp [hsat.ev hs,hsat.ev hx]
   simp only [List.append_toArray] at hr
   simp only [execOp,resolve,e1,Sem.run_bind,Sem.run_pure,Result.andThen_ok,invoke,builtin,hr]
  unfold ow Oper.wp
  rw [hrun,Oper.upon_value]
  exact (kk _ _).go _ _ (hsat.put (by simpa using hlt)) hst
theorem adB {p : Option Addr} {m k b c c0 sz : Nat} {s x : Operand} {T el T0 : TypeId} {desc : TypeDesc} {size bytes s1 b1 : Nat} {z1 zero : Value} {zs xs news : List Value} {fr : Nat × Nat} [h1' : TI P T (.slice el) s1 b1 z1] [he : TI P el desc size bytes zero] [hb' : BlkI L b news T0 fr]
  (hs : ev E s = some (.slice p m m)) (hx : ev E x = some (.slice (some ⟨b,0,none⟩) k c)) (hsl : aN G (.slice p m c0) sz m xs) (hsz : Nat.beq sz size = true) (hl : Nat.beq news.length (k * size) = true) (h1 : ed news = true)
  (hz : eP zero = some zs) (hzl : Nat.beq zs.length size = true) (hb0 : Nat.beq bytes 0 = false) (hlt : Nat.blt dd n = true) (hk : Nat.blt 0 k = true) (hb : (2 * (m + k) + 768) * bytes ≤ 281474976710656)
  (kk : ∀ b' c' G2,Gh.le G G2 → aN G2 (.slice (some ⟨b',0,none⟩) (m + k) c') sz (m + k) (xs ++ news) → Nx n D ((dd,.slice (some ⟨b',0,none⟩) (m + k) c') :: E) B G2 L K) :
  Nx n D E B G L (ow P ⟨some dd,.call ⟨.builtin .append,[s,x].toArray,[T,T].toArray⟩,ty,pos,aft,gd⟩ Q K) :=
 acC hs hx hsl hsz hl h1 hz hzl hb0 hlt hk hb fun b' c'=>Nx.sealA .here fun G2 hG2 h=>kk b' c' G2 hG2 (by have:=Nat.eq_of_beq_eq_true hsz;subst this;exact h)
end
open Go.Proofs
abbrev bF : Value:=.bool false
abbrev u0 : Value:=.int .u8 0
noncomputable abbrev aek : Program:=Tryz.prog
instance ti2 : TI aek 2 (.int .i64) 1 8 (.int .i64 0):=TI.mk' kR kR kR
instance ti3 : TI aek 3 (.int .i64) 1 8 (.int .i64 0):=TI.mk' kR kR kR
instance ti4 : TI aek 4 .bool 1 1 (.bool false):=TI.mk' kR kR kR
instance ti5 : TI aek 5 (.int .u8) 1 1 (.int .u8 0):=TI.mk' kR kR kR
instance ti6 : TI aek 6 (.int .u8) 1 1 (.int .u8 0):=TI.mk' kR kR kR
instance ti7 : TI aek 7 (.struct (ce aek 7)) 4 24 (Ag [(.int .i64 0),(.int .i64 0),(.bool false),(.int .u8 0)]):=TI.mk' kR kR kR
instance ti8 : TI aek 8 (.struct (ce aek 8)) 4 24 (Ag [(.int .i64 0),(.int .i64 0),(.bool false),(.int .u8 0)]):=TI.mk' kR kR kR
instance ti9 : TI aek 9 .string 1 16 (S []):=TI.mk' kR kR kR
instance ti12 : TI aek 12 (.int .u64) 1 8 (.int .u64 0):=TI.mk' kR kR kR
instance ti13 : TI aek 13 (.struct (ce aek 13)) 2 24 (Ag [(S []),(.int .u64 0)]):=TI.mk' kR kR kR
instance ti14 : TI aek 14 (.struct (ce aek 14)) 2 24 (Ag [(S []),(.int .u64 0)]):=TI.mk' kR kR kR
instance ti17 : TI aek 17 (.pointer 262) 1 8 (.pointer none):=TI.mk' kR kR kR
instance ti18 : TI aek 18 (.struct (ce aek 18)) 1 8 (Ag [(.pointer none)]):=TI.mk' kR kR kR
instance ti19 : TI aek 19 (.struct (ce aek 19)) 1 8 (Ag [(.pointer none)]):=TI.mk' kR kR kR
instance ti22 : TI aek 22 (.slice 55) 1 24 aK:=TI.mk' kR kR kR
instance ti28 : TI aek 28 (.slice 5) 1 24 aK:=TI.mk' kR kR kR
instance ti35 : TI aek 35 (.slice 42) 1 24 aK:=TI.mk' kR kR kR
instance ti36 : TI aek 36 (.struct (ce aek 36)) 2 40 (Ag [(S []),aK]):=TI.mk' kR kR kR
instance ti37 : TI aek 37 (.struct (ce aek 37)) 2 40 (Ag [(S []),aK]):=TI.mk' kR kR kR
instance ti41 : TI aek 41 (.struct (ce aek 41)) 3 48 (Ag [(S []),(S []),(S [])]):=TI.mk' kR kR kR
instance ti42 : TI aek 42 (.struct (ce aek 42)) 3 48 (Ag [(S []),(S []),(S [])]):=TI.mk' kR kR kR
instance ti46 : TI aek 46 (.slice 134) 1 24 aK:=TI.mk' kR kR kR
instance ti47 : TI aek 47 (.pointer 159) 1 8 (.pointer none):=TI.mk' kR kR kR
instance ti51 : TI aek 51 (.slice 3) 1 24 aK:=TI.mk' kR kR kR
instance ti54 : TI aek 54 (.struct (ce aek 54)) 2 32 (Ag [(S []),(S [])]):=TI.mk' kR kR kR
instance ti55 : TI aek 55 (.struct (ce aek 55)) 2 32 (Ag [(S []),(S [])]):=TI.mk' kR kR kR
instance ti56 : TI aek 56 (.pointer 114) 1 8 (.pointer none):=TI.mk' kR kR kR
instance ti57 : TI aek 57 (.struct (ce aek 57)) 3 48 (Ag [(S []),(S []),(S [])]):=TI.mk' kR kR kR
instance ti58 : TI aek 58 (.struct (ce aek 58)) 3 48 (Ag [(S []),(S []),(S [])]):=TI.mk' kR kR kR
instance ti59 : TI aek 59 (.slice 61) 1 24 aK:=TI.mk' kR kR kR
instance ti60 : TI aek 60 (.struct (ce aek 60)) 4 56 (Ag [(.int .u8 0),(S []),(.int .i64 0),aK]):=TI.mk' kR kR kR
instance ti61 : TI aek 61 (.struct (ce aek 61)) 4 56 (Ag [(.int .u8 0),(S []),(.int .i64 0),aK]):=TI.mk' kR kR kR
instance ti65 : TI aek 65 (.pointer 22) 1 8 (.pointer none):=TI.mk' kR kR kR
instance ti68 : TI aek 68 (.pointer 124) 1 8 (.pointer none):=TI.mk' kR kR kR
instance ti91 : TI aek 91 (.struct (ce aek 91)) 1 24 (Ag [aK]):=TI.mk' kR kR kR
instance ti92 : TI aek 92 (.struct (ce aek 92)) 1 24 (Ag [aK]):=TI.mk' kR kR kR
instance ti99 : TI aek 99 (.slice 9) 1 24 aK:=TI.mk' kR kR kR
instance ti107 : TI aek 107 (.struct (ce aek 107)) 6 88 (Ag [(.int .i64 0),(S []),(S []),(S []),(S []),(S [])]):=TI.mk' kR kR kR
instance ti108 : TI aek 108 (.struct (ce aek 108)) 6 88 (Ag [(.int .i64 0),(S []),(S []),(S []),(S []),(S [])]):=TI.mk' kR kR kR
instance ti109 : TI aek 109 (.pointer 108) 1 8 (.pointer none):=TI.mk' kR kR kR
instance ti110 : TI aek 110 (.pointer 118) 1 8 (.pointer none):=TI.mk' kR kR kR
instance ti111 : TI aek 111 (.slice 110) 1 24 aK:=TI.mk' kR kR kR
instance ti112 : TI aek 112 (.map 9 110) 1 8 (.map none):=TI.mk' kR kR kR
instance ti113 : TI aek 113 (.struct (ce aek 113)) 2 32 (Ag [aK,(.map none)]):=TI.mk' kR kR kR
instance ti114 : TI aek 114 (.struct (ce aek 114)) 2 32 (Ag [aK,(.map none)]):=TI.mk' kR kR kR
instance ti116 : TI aek 116 (.slice 108) 1 24 aK:=TI.mk' kR kR kR
instance ti117 : TI aek 117 (.struct (ce aek 117)) 4 64 (Ag [(.int .u8 0),(S []),aK,(S [])]):=TI.mk' kR kR kR
instance ti118 : TI aek 118 (.struct (ce aek 118)) 4 64 (Ag [(.int .u8 0),(S []),aK,(S [])]):=TI.mk' kR kR kR
instance ti123 : TI aek 123 (.struct (ce aek 123)) 2 32 (Ag [aK,(.int .i64 0)]):=TI.mk' kR kR kR
instance ti124 : TI aek 124 (.struct (ce aek 124)) 2 32 (Ag [aK,(.int .i64 0)]):=TI.mk' kR kR kR
instance ti132 : TI aek 132 (.slice 136) 1 24 aK:=TI.mk' kR kR kR
instance ti133 : TI aek 133 (.struct (ce aek 133)) 3 48 (Ag [(.int .u8 0),(S []),aK]):=TI.mk' kR kR kR
instance ti134 : TI aek 134 (.struct (ce aek 134)) 3 48 (Ag [(.int .u8 0),(S []),aK]):=TI.mk' kR kR kR
instance ti135 : TI aek 135 (.struct (ce aek 135)) 4 56 (Ag [(.int .i64 0),(S []),(S []),(S [])]):=TI.mk' kR kR kR
instance ti136 : TI aek 136 (.struct (ce aek 136)) 4 56 (Ag [(.int .i64 0),(S []),(S []),(S [])]):=TI.mk' kR kR kR
instance ti149 : TI aek 149 (.map 239 4) 1 8 (.map none):=TI.mk' kR kR kR
instance ti150 : TI aek 150 (.struct (ce aek 150)) 3 24 (Ag [(.pointer none),(.pointer none),(.map none)]):=TI.mk' kR kR kR
instance ti151 : TI aek 151 (.struct (ce aek 151)) 3 24 (Ag [(.pointer none),(.pointer none),(.map none)]):=TI.mk' kR kR kR
instance ti157 : TI aek 157 (.slice 47) 1 24 aK:=TI.mk' kR kR kR
instance ti158 : TI aek 158 (.struct (ce aek 158)) 4 80 (Ag [(S []),(S []),aK,aK]):=TI.mk' kR kR kR
instance ti159 : TI aek 159 (.struct (ce aek 159)) 4 80 (Ag [(S []),(S []),aK,aK]):=TI.mk' kR kR kR
instance ti168 : TI aek 168 (.pointer 170) 1 8 (.pointer none):=TI.mk' kR kR kR
instance ti169 : TI aek 169 (.struct (ce aek 169)) 3 32 (Ag [(.pointer none),(S []),(.bool false)]):=TI.mk' kR kR kR
instance ti170 : TI aek 170 (.struct (ce aek 170)) 3 32 (Ag [(.pointer none),(S []),(.bool false)]):=TI.mk' kR kR kR
instance ti176 : TI aek 176 (.pointer 178) 1 8 (.pointer none):=TI.mk' kR kR kR
instance ti177 : TI aek 177 (.struct (ce aek 177)) 2 32 (Ag [(.pointer none),aK]):=TI.mk' kR kR kR
instance ti178 : TI aek 178 (.struct (ce aek 178)) 2 32 (Ag [(.pointer none),aK]):=TI.mk' kR kR kR
instance ti193 : TI aek 193 (.slice 223) 1 24 aK:=TI.mk' kR kR kR
instance ti194 : TI aek 194 (.struct (ce aek 194)) 3 72 (Ag [aK,aK,aK]):=TI.mk' kR kR kR
instance ti195 : TI aek 195 (.struct (ce aek 195)) 3 72 (Ag [aK,aK,aK]):=TI.mk' kR kR kR
instance ti210 : TI aek 210 (.pointer 5) 1 8 (.pointer none):=TI.mk' kR kR kR
instance ti216 : TI aek 216 (.array 256 4) 256 256 (Ag [bF,bF,bF,bF,bF,bF,bF,bF,bF,bF,bF,bF,bF,bF,bF,bF,bF,bF,bF,bF,bF,bF,bF,bF,bF,bF,bF,bF,bF,bF,bF,bF,bF,bF,bF,bF,bF,bF,bF,bF,bF,bF,bF,bF,bF,bF,bF,bF,bF,bF,bF,bF,bF,bF,bF,bF,bF,bF,bF,bF,bF,bF,bF,bF,bF,bF,bF,bF,bF,bF,bF,bF,bF,bF,bF,bF,bF,bF,bF,bF,bF,bF,bF,bF,bF,bF,bF,bF,bF,bF,bF,bF,bF,bF,bF,bF,bF,bF,bF,bF,bF,bF,bF,bF,bF,bF,bF,bF,bF,bF,bF,bF,bF,bF,bF,bF,bF,bF,bF,bF,bF,bF,bF,bF,bF,bF,bF,bF,bF,bF,bF,bF,bF,bF,bF,bF,bF,bF,bF,bF,bF,bF,bF,bF,bF,bF,bF,bF,bF,bF,bF,bF,bF,bF,bF,bF,bF,bF,bF,bF,bF,bF,bF,bF,bF,bF,bF,bF,bF,bF,bF,bF,bF,bF,bF,bF,bF,bF,bF,bF,bF,bF,bF,bF,bF,bF,bF,bF,bF,bF,bF,bF,bF,bF,bF,bF,bF,bF,bF,bF,bF,bF,bF,bF,bF,bF,bF,bF,bF,bF,bF,bF,bF,bF,bF,bF,bF,bF,bF,bF,bF,bF,bF,bF,bF,bF,bF,bF,bF,bF,bF,bF,bF,bF,bF,bF,bF,bF,bF,bF,bF,bF,bF,bF,bF,bF,bF,bF,bF,bF,bF,bF,bF,bF,bF,(.bool false)]):=TI.mk' kR kR kR
instance ti220 : TI aek 220 (.pointer 216) 1 8 (.pointer none):=TI.mk' kR kR kR
instance ti222 : TI aek 222 (.struct (ce aek 222)) 2 32 (Ag [(S []),(S [])]):=TI.mk' kR kR kR
instance ti223 : TI aek 223 (.struct (ce aek 223)) 2 32 (Ag [(S []),(S [])]):=TI.mk' kR kR kR
instance ti238 : TI aek 238 (.struct (ce aek 238)) 2 32 (Ag [(S []),(S [])]):=TI.mk' kR kR kR
instance ti239 : TI aek 239 (.struct (ce aek 239)) 2 32 (Ag [(S []),(S [])]):=TI.mk' kR kR kR
instance ti244 : TI aek 244 (.struct (ce aek 244)) 2 2 (Ag [(.int .u8 0),(.int .u8 0)]):=TI.mk' kR kR kR
instance ti245 : TI aek 245 (.struct (ce aek 245)) 2 2 (Ag [(.int .u8 0),(.int .u8 0)]):=TI.mk' kR kR kR
instance ti251 : TI aek 251 (.struct (ce aek 251)) 4 40 (Ag [(.pointer none),(.pointer none),(.pointer none),(S [])]):=TI.mk' kR kR kR
instance ti252 : TI aek 252 (.struct (ce aek 252)) 4 40 (Ag [(.pointer none),(.pointer none),(.pointer none),(S [])]):=TI.mk' kR kR kR
instance fa7_0 : FA aek 7 0 0:=FA.mk' kR ti2 rfl
instance fv7_0 : FV aek 7 0 false 0 1:=FV.mk' kR ti2 rfl
instance fa7_1 : FA aek 7 1 1:=FA.mk' kR ti3 rfl
instance fv7_1 : FV aek 7 1 false 1 1:=FV.mk' kR ti3 rfl
instance fa7_2 : FA aek 7 2 2:=FA.mk' kR ti4 rfl
instance fv7_2 : FV aek 7 2 false 2 1:=FV.mk' kR ti4 rfl
instance fa7_3 : FA aek 7 3 3:=FA.mk' kR ti6 rfl
instance fv7_3 : FV aek 7 3 false 3 1:=FV.mk' kR ti6 rfl
instance fa8_0 : FA aek 8 0 0:=FA.mk' kR ti2 rfl
instance fv8_0 : FV aek 8 0 false 0 1:=FV.mk' kR ti2 rfl
instance fa8_1 : FA aek 8 1 1:=FA.mk' kR ti3 rfl
instance fv8_1 : FV aek 8 1 false 1 1:=FV.mk' kR ti3 rfl
instance fa8_2 : FA aek 8 2 2:=FA.mk' kR ti4 rfl
instance fv8_2 : FV aek 8 2 false 2 1:=FV.mk' kR ti4 rfl
instance fa8_3 : FA aek 8 3 3:=FA.mk' kR ti6 rfl
instance fv8_3 : FV aek 8 3 false 3 1:=FV.mk' kR ti6 rfl
instance fa13_0 : FA aek 13 0 0:=FA.mk' kR ti9 rfl
instance fv13_0 : FV aek 13 0 false 0 1:=FV.mk' kR ti9 rfl
instance fa13_1 : FA aek 13 1 1:=FA.mk' kR ti12 rfl
instance fv13_1 : FV aek 13 1 false 1 1:=FV.mk' kR ti12 rfl
instance fa14_0 : FA aek 14 0 0:=FA.mk' kR ti9 rfl
instance fv14_0 : FV aek 14 0 false 0 1:=FV.mk' kR ti9 rfl
instance fa14_1 : FA aek 14 1 1:=FA.mk' kR ti12 rfl
instance fv14_1 : FV aek 14 1 false 1 1:=FV.mk' kR ti12 rfl
instance fa18_0 : FA aek 18 0 0:=FA.mk' kR ti17 rfl
instance fv18_0 : FV aek 18 0 false 0 1:=FV.mk' kR ti17 rfl
instance fa19_0 : FA aek 19 0 0:=FA.mk' kR ti17 rfl
instance fv19_0 : FV aek 19 0 false 0 1:=FV.mk' kR ti17 rfl
instance fa36_0 : FA aek 36 0 0:=FA.mk' kR ti9 rfl
instance fv36_0 : FV aek 36 0 false 0 1:=FV.mk' kR ti9 rfl
instance fa36_1 : FA aek 36 1 1:=FA.mk' kR ti35 rfl
instance fv36_1 : FV aek 36 1 false 1 1:=FV.mk' kR ti35 rfl
instance fa37_0 : FA aek 37 0 0:=FA.mk' kR ti9 rfl
instance fv37_0 : FV aek 37 0 false 0 1:=FV.mk' kR ti9 rfl
instance fa37_1 : FA aek 37 1 1:=FA.mk' kR ti35 rfl
instance fv37_1 : FV aek 37 1 false 1 1:=FV.mk' kR ti35 rfl
instance fa41_0 : FA aek 41 0 0:=FA.mk' kR ti9 rfl
instance fv41_0 : FV aek 41 0 false 0 1:=FV.mk' kR ti9 rfl
instance fa41_1 : FA aek 41 1 1:=FA.mk' kR ti9 rfl
instance fv41_1 : FV aek 41 1 false 1 1:=FV.mk' kR ti9 rfl
instance fa41_2 : FA aek 41 2 2:=FA.mk' kR ti9 rfl
instance fv41_2 : FV aek 41 2 false 2 1:=FV.mk' kR ti9 rfl
instance fa42_0 : FA aek 42 0 0:=FA.mk' kR ti9 rfl
instance fv42_0 : FV aek 42 0 false 0 1:=FV.mk' kR ti9 rfl
instance fa42_1 : FA aek 42 1 1:=FA.mk' kR ti9 rfl
instance fv42_1 : FV aek 42 1 false 1 1:=FV.mk' kR ti9 rfl
instance fa42_2 : FA aek 42 2 2:=FA.mk' kR ti9 rfl
instance fv42_2 : FV aek 42 2 false 2 1:=FV.mk' kR ti9 rfl
instance fa54_0 : FA aek 54 0 0:=FA.mk' kR ti9 rfl
instance fv54_0 : FV aek 54 0 false 0 1:=FV.mk' kR ti9 rfl
instance fa54_1 : FA aek 54 1 1:=FA.mk' kR ti9 rfl
instance fv54_1 : FV aek 54 1 false 1 1:=FV.mk' kR ti9 rfl
instance fa55_0 : FA aek 55 0 0:=FA.mk' kR ti9 rfl
instance fv55_0 : FV aek 55 0 false 0 1:=FV.mk' kR ti9 rfl
instance fa55_1 : FA aek 55 1 1:=FA.mk' kR ti9 rfl
instance fv55_1 : FV aek 55 1 false 1 1:=FV.mk' kR ti9 rfl
instance : BT aek 55 [(0,1),(1,1)] [(S []),(S [])]:=BT.mk' [(9,0,1),(9,1,1)] rfl kR kR rfl
instance fa57_0 : FA aek 57 0 0:=FA.mk' kR ti9 rfl
instance fv57_0 : FV aek 57 0 false 0 1:=FV.mk' kR ti9 rfl
instance fa57_1 : FA aek 57 1 1:=FA.mk' kR ti9 rfl
instance fv57_1 : FV aek 57 1 false 1 1:=FV.mk' kR ti9 rfl
instance fa57_2 : FA aek 57 2 2:=FA.mk' kR ti9 rfl
instance fv57_2 : FV aek 57 2 false 2 1:=FV.mk' kR ti9 rfl
instance fa58_0 : FA aek 58 0 0:=FA.mk' kR ti9 rfl
instance fv58_0 : FV aek 58 0 false 0 1:=FV.mk' kR ti9 rfl
instance fa58_1 : FA aek 58 1 1:=FA.mk' kR ti9 rfl
instance fv58_1 : FV aek 58 1 false 1 1:=FV.mk' kR ti9 rfl
instance fa58_2 : FA aek 58 2 2:=FA.mk' kR ti9 rfl
instance fv58_2 : FV aek 58 2 false 2 1:=FV.mk' kR ti9 rfl
instance : BT aek 58 [(0,1),(1,1),(2,1)] [(S []),(S []),(S [])]:=BT.mk' [(9,0,1),(9,1,1),(9,2,1)] rfl kR kR rfl
instance fa60_0 : FA aek 60 0 0:=FA.mk' kR ti5 rfl
instance fv60_0 : FV aek 60 0 false 0 1:=FV.mk' kR ti5 rfl
instance fa60_1 : FA aek 60 1 1:=FA.mk' kR ti9 rfl
instance fv60_1 : FV aek 60 1 false 1 1:=FV.mk' kR ti9 rfl
instance fa60_2 : FA aek 60 2 2:=FA.mk' kR ti3 rfl
instance fv60_2 : FV aek 60 2 false 2 1:=FV.mk' kR ti3 rfl
instance fa60_3 : FA aek 60 3 3:=FA.mk' kR ti59 rfl
instance fv60_3 : FV aek 60 3 false 3 1:=FV.mk' kR ti59 rfl
instance fa61_0 : FA aek 61 0 0:=FA.mk' kR ti5 rfl
instance fv61_0 : FV aek 61 0 false 0 1:=FV.mk' kR ti5 rfl
instance fa61_1 : FA aek 61 1 1:=FA.mk' kR ti9 rfl
instance fv61_1 : FV aek 61 1 false 1 1:=FV.mk' kR ti9 rfl
instance fa61_2 : FA aek 61 2 2:=FA.mk' kR ti3 rfl
instance fv61_2 : FV aek 61 2 false 2 1:=FV.mk' kR ti3 rfl
instance fa61_3 : FA aek 61 3 3:=FA.mk' kR ti59 rfl
instance fv61_3 : FV aek 61 3 false 3 1:=FV.mk' kR ti59 rfl
instance : BT aek 61 [(0,1),(1,1),(2,1),(3,1)] [(.int .u8 0),(S []),(.int .i64 0),aK]:=BT.mk' [(5,0,1),(9,1,1),(3,2,1),(59,3,1)] rfl kR kR rfl
instance fa91_0 : FA aek 91 0 0:=FA.mk' kR ti46 rfl
instance fv91_0 : FV aek 91 0 false 0 1:=FV.mk' kR ti46 rfl
instance fa92_0 : FA aek 92 0 0:=FA.mk' kR ti46 rfl
instance fv92_0 : FV aek 92 0 false 0 1:=FV.mk' kR ti46 rfl
instance : BT aek 92 [(0,1)] [aK]:=BT.mk' [(46,0,1)] rfl kR kR rfl
instance fa107_0 : FA aek 107 0 0:=FA.mk' kR ti3 rfl
instance fv107_0 : FV aek 107 0 false 0 1:=FV.mk' kR ti3 rfl
instance fa107_1 : FA aek 107 1 1:=FA.mk' kR ti9 rfl
instance fv107_1 : FV aek 107 1 false 1 1:=FV.mk' kR ti9 rfl
instance fa107_2 : FA aek 107 2 2:=FA.mk' kR ti58 rfl
instance fv107_2 : FV aek 107 2 true 2 3:=FV.mk' kR ti58 rfl
instance fa107_3 : FA aek 107 3 5:=FA.mk' kR ti9 rfl
instance fv107_3 : FV aek 107 3 false 5 1:=FV.mk' kR ti9 rfl
instance fa108_0 : FA aek 108 0 0:=FA.mk' kR ti3 rfl
instance fv108_0 : FV aek 108 0 false 0 1:=FV.mk' kR ti3 rfl
instance fa108_1 : FA aek 108 1 1:=FA.mk' kR ti9 rfl
instance fv108_1 : FV aek 108 1 false 1 1:=FV.mk' kR ti9 rfl
instance fa108_2 : FA aek 108 2 2:=FA.mk' kR ti58 rfl
instance fv108_2 : FV aek 108 2 true 2 3:=FV.mk' kR ti58 rfl
instance fa108_3 : FA aek 108 3 5:=FA.mk' kR ti9 rfl
instance fv108_3 : FV aek 108 3 false 5 1:=FV.mk' kR ti9 rfl
instance : BT aek 108 [(0,1),(1,1),(2,3),(5,1)] [(.int .i64 0),(S []),(S []),(S []),(S []),(S [])]:=BT.mk' [(3,0,1),(9,1,1),(58,2,3),(9,5,1)] rfl kR kR rfl
instance fa113_0 : FA aek 113 0 0:=FA.mk' kR ti111 rfl
instance fv113_0 : FV aek 113 0 false 0 1:=FV.mk' kR ti111 rfl
instance fa113_1 : FA aek 113 1 1:=FA.mk' kR ti112 rfl
instance fv113_1 : FV aek 113 1 false 1 1:=FV.mk' kR ti112 rfl
instance fa114_0 : FA aek 114 0 0:=FA.mk' kR ti111 rfl
instance fv114_0 : FV aek 114 0 false 0 1:=FV.mk' kR ti111 rfl
instance fa114_1 : FA aek 114 1 1:=FA.mk' kR ti112 rfl
instance fv114_1 : FV aek 114 1 false 1 1:=FV.mk' kR ti112 rfl
instance : BT aek 114 [(0,1),(1,1)] [aK,(.map none)]:=BT.mk' [(111,0,1),(112,1,1)] rfl kR kR rfl
instance fa117_0 : FA aek 117 0 0:=FA.mk' kR ti5 rfl
instance fv117_0 : FV aek 117 0 false 0 1:=FV.mk' kR ti5 rfl
instance fa117_1 : FA aek 117 1 1:=FA.mk' kR ti9 rfl
instance fv117_1 : FV aek 117 1 false 1 1:=FV.mk' kR ti9 rfl
instance fa117_2 : FA aek 117 2 2:=FA.mk' kR ti116 rfl
instance fv117_2 : FV aek 117 2 false 2 1:=FV.mk' kR ti116 rfl
instance fa117_3 : FA aek 117 3 3:=FA.mk' kR ti9 rfl
instance fv117_3 : FV aek 117 3 false 3 1:=FV.mk' kR ti9 rfl
instance fa118_0 : FA aek 118 0 0:=FA.mk' kR ti5 rfl
instance fv118_0 : FV aek 118 0 false 0 1:=FV.mk' kR ti5 rfl
instance fa118_1 : FA aek 118 1 1:=FA.mk' kR ti9 rfl
instance fv118_1 : FV aek 118 1 false 1 1:=FV.mk' kR ti9 rfl
instance fa118_2 : FA aek 118 2 2:=FA.mk' kR ti116 rfl
instance fv118_2 : FV aek 118 2 false 2 1:=FV.mk' kR ti116 rfl
instance fa118_3 : FA aek 118 3 3:=FA.mk' kR ti9 rfl
instance fv118_3 : FV aek 118 3 false 3 1:=FV.mk' kR ti9 rfl
instance : BT aek 118 [(0,1),(1,1),(2,1),(3,1)] [(.int .u8 0),(S []),aK,(S [])]:=BT.mk' [(5,0,1),(9,1,1),(116,2,1),(9,3,1)] rfl kR kR rfl
instance fa123_0 : FA aek 123 0 0:=FA.mk' kR ti28 rfl
instance fv123_0 : FV aek 123 0 false 0 1:=FV.mk' kR ti28 rfl
instance fa123_1 : FA aek 123 1 1:=FA.mk' kR ti3 rfl
instance fv123_1 : FV aek 123 1 false 1 1:=FV.mk' kR ti3 rfl
instance fa124_0 : FA aek 124 0 0:=FA.mk' kR ti28 rfl
instance fv124_0 : FV aek 124 0 false 0 1:=FV.mk' kR ti28 rfl
instance fa124_1 : FA aek 124 1 1:=FA.mk' kR ti3 rfl
instance fv124_1 : FV aek 124 1 false 1 1:=FV.mk' kR ti3 rfl
instance : BT aek 124 [(0,1),(1,1)] [aK,(.int .i64 0)]:=BT.mk' [(28,0,1),(3,1,1)] rfl kR kR rfl
instance fa133_0 : FA aek 133 0 0:=FA.mk' kR ti5 rfl
instance fv133_0 : FV aek 133 0 false 0 1:=FV.mk' kR ti5 rfl
instance fa133_1 : FA aek 133 1 1:=FA.mk' kR ti9 rfl
instance fv133_1 : FV aek 133 1 false 1 1:=FV.mk' kR ti9 rfl
instance fa133_2 : FA aek 133 2 2:=FA.mk' kR ti132 rfl
instance fv133_2 : FV aek 133 2 false 2 1:=FV.mk' kR ti132 rfl
instance fa134_0 : FA aek 134 0 0:=FA.mk' kR ti5 rfl
instance fv134_0 : FV aek 134 0 false 0 1:=FV.mk' kR ti5 rfl
instance fa134_1 : FA aek 134 1 1:=FA.mk' kR ti9 rfl
instance fv134_1 : FV aek 134 1 false 1 1:=FV.mk' kR ti9 rfl
instance fa134_2 : FA aek 134 2 2:=FA.mk' kR ti132 rfl
instance fv134_2 : FV aek 134 2 false 2 1:=FV.mk' kR ti132 rfl
instance : BT aek 134 [(0,1),(1,1),(2,1)] [(.int .u8 0),(S []),aK]:=BT.mk' [(5,0,1),(9,1,1),(132,2,1)] rfl kR kR rfl
instance fa135_0 : FA aek 135 0 0:=FA.mk' kR ti3 rfl
instance fv135_0 : FV aek 135 0 false 0 1:=FV.mk' kR ti3 rfl
instance fa135_1 : FA aek 135 1 1:=FA.mk' kR ti9 rfl
instance fv135_1 : FV aek 135 1 false 1 1:=FV.mk' kR ti9 rfl
instance fa135_2 : FA aek 135 2 2:=FA.mk' kR ti9 rfl
instance fv135_2 : FV aek 135 2 false 2 1:=FV.mk' kR ti9 rfl
instance fa135_3 : FA aek 135 3 3:=FA.mk' kR ti9 rfl
instance fv135_3 : FV aek 135 3 false 3 1:=FV.mk' kR ti9 rfl
instance fa136_0 : FA aek 136 0 0:=FA.mk' kR ti3 rfl
instance fv136_0 : FV aek 136 0 false 0 1:=FV.mk' kR ti3 rfl
instance fa136_1 : FA aek 136 1 1:=FA.mk' kR ti9 rfl
instance fv136_1 : FV aek 136 1 false 1 1:=FV.mk' kR ti9 rfl
instance fa136_2 : FA aek 136 2 2:=FA.mk' kR ti9 rfl
instance fv136_2 : FV aek 136 2 false 2 1:=FV.mk' kR ti9 rfl
instance fa136_3 : FA aek 136 3 3:=FA.mk' kR ti9 rfl
instance fv136_3 : FV aek 136 3 false 3 1:=FV.mk' kR ti9 rfl
instance : BT aek 136 [(0,1),(1,1),(2,1),(3,1)] [(.int .i64 0),(S []),(S []),(S [])]:=BT.mk' [(3,0,1),(9,1,1),(9,2,1),(9,3,1)] rfl kR kR rfl
instance fa150_0 : FA aek 150 0 0:=FA.mk' kR ti56 rfl
instance fv150_0 : FV aek 150 0 false 0 1:=FV.mk' kR ti56 rfl
instance fa150_1 : FA aek 150 1 1:=FA.mk' kR ti56 rfl
instance fv150_1 : FV aek 150 1 false 1 1:=FV.mk' kR ti56 rfl
instance fa150_2 : FA aek 150 2 2:=FA.mk' kR ti149 rfl
instance fv150_2 : FV aek 150 2 false 2 1:=FV.mk' kR ti149 rfl
instance fa151_0 : FA aek 151 0 0:=FA.mk' kR ti56 rfl
instance fv151_0 : FV aek 151 0 false 0 1:=FV.mk' kR ti56 rfl
instance fa151_1 : FA aek 151 1 1:=FA.mk' kR ti56 rfl
instance fv151_1 : FV aek 151 1 false 1 1:=FV.mk' kR ti56 rfl
instance fa151_2 : FA aek 151 2 2:=FA.mk' kR ti149 rfl
instance fv151_2 : FV aek 151 2 false 2 1:=FV.mk' kR ti149 rfl
instance fa158_0 : FA aek 158 0 0:=FA.mk' kR ti9 rfl
instance fv158_0 : FV aek 158 0 false 0 1:=FV.mk' kR ti9 rfl
instance fa158_1 : FA aek 158 1 1:=FA.mk' kR ti9 rfl
instance fv158_1 : FV aek 158 1 false 1 1:=FV.mk' kR ti9 rfl
instance fa158_2 : FA aek 158 2 2:=FA.mk' kR ti51 rfl
instance fv158_2 : FV aek 158 2 false 2 1:=FV.mk' kR ti51 rfl
instance fa158_3 : FA aek 158 3 3:=FA.mk' kR ti157 rfl
instance fv158_3 : FV aek 158 3 false 3 1:=FV.mk' kR ti157 rfl
instance fa159_0 : FA aek 159 0 0:=FA.mk' kR ti9 rfl
instance fv159_0 : FV aek 159 0 false 0 1:=FV.mk' kR ti9 rfl
instance fa159_1 : FA aek 159 1 1:=FA.mk' kR ti9 rfl
instance fv159_1 : FV aek 159 1 false 1 1:=FV.mk' kR ti9 rfl
instance fa159_2 : FA aek 159 2 2:=FA.mk' kR ti51 rfl
instance fv159_2 : FV aek 159 2 false 2 1:=FV.mk' kR ti51 rfl
instance fa159_3 : FA aek 159 3 3:=FA.mk' kR ti157 rfl
instance fv159_3 : FV aek 159 3 false 3 1:=FV.mk' kR ti157 rfl
instance : BT aek 159 [(0,1),(1,1),(2,1),(3,1)] [(S []),(S []),aK,aK]:=BT.mk' [(9,0,1),(9,1,1),(51,2,1),(157,3,1)] rfl kR kR rfl
instance fa169_0 : FA aek 169 0 0:=FA.mk' kR ti56 rfl
instance fv169_0 : FV aek 169 0 false 0 1:=FV.mk' kR ti56 rfl
instance fa169_1 : FA aek 169 1 1:=FA.mk' kR ti9 rfl
instance fv169_1 : FV aek 169 1 false 1 1:=FV.mk' kR ti9 rfl
instance fa169_2 : FA aek 169 2 2:=FA.mk' kR ti4 rfl
instance fv169_2 : FV aek 169 2 false 2 1:=FV.mk' kR ti4 rfl
instance fa170_0 : FA aek 170 0 0:=FA.mk' kR ti56 rfl
instance fv170_0 : FV aek 170 0 false 0 1:=FV.mk' kR ti56 rfl
instance fa170_1 : FA aek 170 1 1:=FA.mk' kR ti9 rfl
instance fv170_1 : FV aek 170 1 false 1 1:=FV.mk' kR ti9 rfl
instance fa170_2 : FA aek 170 2 2:=FA.mk' kR ti4 rfl
instance fv170_2 : FV aek 170 2 false 2 1:=FV.mk' kR ti4 rfl
instance : BT aek 170 [(0,1),(1,1),(2,1)] [(.pointer none),(S []),(.bool false)]:=BT.mk' [(56,0,1),(9,1,1),(4,2,1)] rfl kR kR rfl
instance fa177_0 : FA aek 177 0 0:=FA.mk' kR ti176 rfl
instance fv177_0 : FV aek 177 0 false 0 1:=FV.mk' kR ti176 rfl
instance fa177_1 : FA aek 177 1 1:=FA.mk' kR ti28 rfl
instance fv177_1 : FV aek 177 1 false 1 1:=FV.mk' kR ti28 rfl
instance fa178_0 : FA aek 178 0 0:=FA.mk' kR ti176 rfl
instance fv178_0 : FV aek 178 0 false 0 1:=FV.mk' kR ti176 rfl
instance fa178_1 : FA aek 178 1 1:=FA.mk' kR ti28 rfl
instance fv178_1 : FV aek 178 1 false 1 1:=FV.mk' kR ti28 rfl
instance : BT aek 178 [(0,1),(1,1)] [(.pointer none),aK]:=BT.mk' [(176,0,1),(28,1,1)] rfl kR kR rfl
instance fa194_0 : FA aek 194 0 0:=FA.mk' kR ti46 rfl
instance fv194_0 : FV aek 194 0 false 0 1:=FV.mk' kR ti46 rfl
instance fa194_1 : FA aek 194 1 1:=FA.mk' kR ti46 rfl
instance fv194_1 : FV aek 194 1 false 1 1:=FV.mk' kR ti46 rfl
instance fa194_2 : FA aek 194 2 2:=FA.mk' kR ti193 rfl
instance fv194_2 : FV aek 194 2 false 2 1:=FV.mk' kR ti193 rfl
instance fa195_0 : FA aek 195 0 0:=FA.mk' kR ti46 rfl
instance fv195_0 : FV aek 195 0 false 0 1:=FV.mk' kR ti46 rfl
instance fa195_1 : FA aek 195 1 1:=FA.mk' kR ti46 rfl
instance fv195_1 : FV aek 195 1 false 1 1:=FV.mk' kR ti46 rfl
instance fa195_2 : FA aek 195 2 2:=FA.mk' kR ti193 rfl
instance fv195_2 : FV aek 195 2 false 2 1:=FV.mk' kR ti193 rfl
instance fa222_0 : FA aek 222 0 0:=FA.mk' kR ti9 rfl
instance fv222_0 : FV aek 222 0 false 0 1:=FV.mk' kR ti9 rfl
instance fa222_1 : FA aek 222 1 1:=FA.mk' kR ti9 rfl
instance fv222_1 : FV aek 222 1 false 1 1:=FV.mk' kR ti9 rfl
instance fa223_0 : FA aek 223 0 0:=FA.mk' kR ti9 rfl
instance fv223_0 : FV aek 223 0 false 0 1:=FV.mk' kR ti9 rfl
instance fa223_1 : FA aek 223 1 1:=FA.mk' kR ti9 rfl
instance fv223_1 : FV aek 223 1 false 1 1:=FV.mk' kR ti9 rfl
instance fa238_0 : FA aek 238 0 0:=FA.mk' kR ti9 rfl
instance fv238_0 : FV aek 238 0 false 0 1:=FV.mk' kR ti9 rfl
instance fa238_1 : FA aek 238 1 1:=FA.mk' kR ti9 rfl
instance fv238_1 : FV aek 238 1 false 1 1:=FV.mk' kR ti9 rfl
instance fa239_0 : FA aek 239 0 0:=FA.mk' kR ti9 rfl
instance fv239_0 : FV aek 239 0 false 0 1:=FV.mk' kR ti9 rfl
instance fa239_1 : FA aek 239 1 1:=FA.mk' kR ti9 rfl
instance fv239_1 : FV aek 239 1 false 1 1:=FV.mk' kR ti9 rfl
instance fa244_0 : FA aek 244 0 0:=FA.mk' kR ti5 rfl
instance fv244_0 : FV aek 244 0 false 0 1:=FV.mk' kR ti5 rfl
instance fa244_1 : FA aek 244 1 1:=FA.mk' kR ti5 rfl
instance fv244_1 : FV aek 244 1 false 1 1:=FV.mk' kR ti5 rfl
instance fa245_0 : FA aek 245 0 0:=FA.mk' kR ti5 rfl
instance fv245_0 : FV aek 245 0 false 0 1:=FV.mk' kR ti5 rfl
instance fa245_1 : FA aek 245 1 1:=FA.mk' kR ti5 rfl
instance fv245_1 : FV aek 245 1 false 1 1:=FV.mk' kR ti5 rfl
instance fa251_0 : FA aek 251 0 0:=FA.mk' kR ti17 rfl
instance fv251_0 : FV aek 251 0 false 0 1:=FV.mk' kR ti17 rfl
instance fa251_1 : FA aek 251 1 1:=FA.mk' kR ti17 rfl
instance fv251_1 : FV aek 251 1 false 1 1:=FV.mk' kR ti17 rfl
instance fa251_2 : FA aek 251 2 2:=FA.mk' kR ti17 rfl
instance fv251_2 : FV aek 251 2 false 2 1:=FV.mk' kR ti17 rfl
instance fa251_3 : FA aek 251 3 3:=FA.mk' kR ti9 rfl
instance fv251_3 : FV aek 251 3 false 3 1:=FV.mk' kR ti9 rfl
instance fa252_0 : FA aek 252 0 0:=FA.mk' kR ti17 rfl
instance fv252_0 : FV aek 252 0 false 0 1:=FV.mk' kR ti17 rfl
instance fa252_1 : FA aek 252 1 1:=FA.mk' kR ti17 rfl
instance fv252_1 : FV aek 252 1 false 1 1:=FV.mk' kR ti17 rfl
instance fa252_2 : FA aek 252 2 2:=FA.mk' kR ti17 rfl
instance fv252_2 : FV aek 252 2 false 2 1:=FV.mk' kR ti17 rfl
instance fa252_3 : FA aek 252 3 3:=FA.mk' kR ti9 rfl
instance fv252_3 : FV aek 252 3 false 3 1:=FV.mk' kR ti9 rfl
def tb : Tbl:=⟨12,347376267711948586270712955026063723559809953996921692118372752023739388919904,16,3584,1686642177531434083711247799171013821799793285457276308235296669696,[(7,[(false,0,1),(false,1,1),(false,2,1),(false,3,1)]),(8,[(false,0,1),(false,1,1),(false,2,1),(false,3,1)]),(13,[(false,0,1),(false,1,1)]),(14,[(false,0,1),(false,1,1)]),(18,[(false,0,1)]),(19,[(false,0,1)]),(36,[(false,0,1),(false,1,1)]),(37,[(false,0,1),(false,1,1)]),(41,[(false,0,1),(false,1,1),(false,2,1)]),(42,[(false,0,1),(false,1,1),(false,2,1)]),(54,[(false,0,1),(false,1,1)]),(55,[(false,0,1),(false,1,1)]),(57,[(false,0,1),(false,1,1),(false,2,1)]),(58,[(false,0,1),(false,1,1),(false,2,1)]),(60,[(false,0,1),(false,1,1),(false,2,1),(false,3,1)]),(61,[(false,0,1),(false,1,1),(false,2,1),(false,3,1)]),(91,[(false,0,1)]),(92,[(false,0,1)]),(107,[(false,0,1),(false,1,1),(true,2,3),(false,5,1)]),(108,[(false,0,1),(false,1,1),(true,2,3),(false,5,1)]),(113,[(false,0,1),(false,1,1)]),(114,[(false,0,1),(false,1,1)]),(117,[(false,0,1),(false,1,1),(false,2,1),(false,3,1)]),(118,[(false,0,1),(false,1,1),(false,2,1),(false,3,1)]),(123,[(false,0,1),(false,1,1)]),(124,[(false,0,1),(false,1,1)]),(133,[(false,0,1),(false,1,1),(false,2,1)]),(134,[(false,0,1),(false,1,1),(false,2,1)]),(135,[(false,0,1),(false,1,1),(false,2,1),(false,3,1)]),(136,[(false,0,1),(false,1,1),(false,2,1),(false,3,1)]),(150,[(false,0,1),(false,1,1),(false,2,1)]),(151,[(false,0,1),(false,1,1),(false,2,1)]),(158,[(false,0,1),(false,1,1),(false,2,1),(false,3,1)]),(159,[(false,0,1),(false,1,1),(false,2,1),(false,3,1)]),(169,[(false,0,1),(false,1,1),(false,2,1)]),(170,[(false,0,1),(false,1,1),(false,2,1)]),(177,[(false,0,1),(false,1,1)]),(178,[(false,0,1),(false,1,1)]),(194,[(false,0,1),(false,1,1),(false,2,1)]),(195,[(false,0,1),(false,1,1),(false,2,1)]),(222,[(false,0,1),(false,1,1)]),(223,[(false,0,1),(false,1,1)]),(238,[(false,0,1),(false,1,1)]),(239,[(false,0,1),(false,1,1)]),(244,[(false,0,1),(false,1,1)]),(245,[(false,0,1),(false,1,1)]),(251,[(false,0,1),(false,1,1),(false,2,1),(false,3,1)]),(252,[(false,0,1),(false,1,1),(false,2,1),(false,3,1)])]⟩
theorem adX : wy aek tb.fl:=⟨⟨⟨fv7_0,fa7_0⟩,⟨fv7_1,fa7_1⟩,⟨fv7_2,fa7_2⟩,⟨fv7_3,fa7_3⟩,trivial⟩,⟨⟨fv8_0,fa8_0⟩,⟨fv8_1,fa8_1⟩,⟨fv8_2,fa8_2⟩,⟨fv8_3,fa8_3⟩,trivial⟩,⟨⟨fv13_0,fa13_0⟩,⟨fv13_1,fa13_1⟩,trivial⟩,⟨⟨fv14_0,fa14_0⟩,⟨fv14_1,fa14_1⟩,trivial⟩,⟨⟨fv18_0,fa18_0⟩,trivial⟩,⟨⟨fv19_0,fa19_0⟩,trivial⟩,⟨⟨fv36_0,fa36_0⟩,⟨fv36_1,fa36_1⟩,trivial⟩,⟨⟨fv37_0,fa37_0⟩,⟨fv37_1,fa37_1⟩,trivial⟩,⟨⟨fv41_0,fa41_0⟩,⟨fv41_1,fa41_1⟩,⟨fv41_2,fa41_2⟩,trivial⟩,⟨⟨fv42_0,fa42_0⟩,⟨fv42_1,fa42_1⟩,⟨fv42_2,fa42_2⟩,trivial⟩,⟨⟨fv54_0,fa54_0⟩,⟨fv54_1,fa54_1⟩,trivial⟩,⟨⟨fv55_0,fa55_0⟩,⟨fv55_1,fa55_1⟩,trivial⟩,⟨⟨fv57_0,fa57_0⟩,⟨fv57_1,fa57_1⟩,⟨fv57_2,fa57_2⟩,trivial⟩,⟨⟨fv58_0,fa58_0⟩,⟨fv58_1,fa58_1⟩,⟨fv58_2,fa58_2⟩,trivial⟩,⟨⟨fv60_0,fa60_0⟩,⟨fv60_1,fa60_1⟩,⟨fv60_2,fa60_2⟩,⟨fv60_3,fa60_3⟩,trivial⟩,⟨⟨fv61_0,fa61_0⟩,⟨fv61_1,fa61_1⟩,⟨fv61_2,fa61_2⟩,⟨fv61_3,fa61_3⟩,trivial⟩,⟨⟨fv91_0,fa91_0⟩,trivial⟩,⟨⟨fv92_0,fa92_0⟩,trivial⟩,⟨⟨fv107_0,fa107_0⟩,⟨fv107_1,fa107_1⟩,⟨fv107_2,fa107_2⟩,⟨fv107_3,fa107_3⟩,trivial⟩,⟨⟨fv108_0,fa108_0⟩,⟨fv108_1,fa108_1⟩,⟨fv108_2,fa108_2⟩,⟨fv108_3,fa108_3⟩,trivial⟩,⟨⟨fv113_0,fa113_0⟩,⟨fv113_1,fa113_1⟩,trivial⟩,⟨⟨fv114_0,fa114_0⟩,⟨fv114_1,fa114_1⟩,trivial⟩,⟨⟨fv117_0,fa117_0⟩,⟨fv117_1,fa117_1⟩,⟨fv117_2,fa117_2⟩,⟨fv117_3,fa117_3⟩,trivial⟩,⟨⟨fv118_0,fa118_0⟩,⟨fv118_1,fa118_1⟩,⟨fv118_2,fa118_2⟩,⟨fv118_3,fa118_3⟩,trivial⟩,⟨⟨fv123_0,fa123_0⟩,⟨fv123_1,fa123_1⟩,trivial⟩,⟨⟨fv124_0,fa124_0⟩,⟨fv124_1,fa124_1⟩,trivial⟩,⟨⟨fv133_0,fa133_0⟩,⟨fv133_1,fa133_1⟩,⟨fv133_2,fa133_2⟩,trivial⟩,⟨⟨fv134_0,fa134_0⟩,⟨fv134_1,fa134_1⟩,⟨fv134_2,fa134_2⟩,trivial⟩,⟨⟨fv135_0,fa135_0⟩,⟨fv135_1,fa135_1⟩,⟨fv135_2,fa135_2⟩,⟨fv135_3,fa135_3⟩,trivial⟩,⟨⟨fv136_0,fa136_0⟩,⟨fv136_1,fa136_1⟩,⟨fv136_2,fa136_2⟩,⟨fv136_3,fa136_3⟩,trivial⟩,⟨⟨fv150_0,fa150_0⟩,⟨fv150_1,fa150_1⟩,⟨fv150_2,fa150_2⟩,trivial⟩,⟨⟨fv151_0,fa151_0⟩,⟨fv151_1,fa151_1⟩,⟨fv151_2,fa151_2⟩,trivial⟩,⟨⟨fv158_0,fa158_0⟩,⟨fv158_1,fa158_1⟩,⟨fv158_2,fa158_2⟩,⟨fv158_3,fa158_3⟩,trivial⟩,⟨⟨fv159_0,fa159_0⟩,⟨fv159_1,fa159_1⟩,⟨fv159_2,fa159_2⟩,⟨fv159_3,fa159_3⟩,trivial⟩,⟨⟨fv169_0,fa169_0⟩,⟨fv169_1,fa169_1⟩,⟨fv169_2,fa169_2⟩,trivial⟩,⟨⟨fv170_0,fa170_0⟩,⟨fv170_1,fa170_1⟩,⟨fv170_2,fa170_2⟩,trivial⟩,⟨⟨fv177_0,fa177_0⟩,⟨fv177_1,fa177_1⟩,trivial⟩,⟨⟨fv178_0,fa178_0⟩,⟨fv178_1,fa178_1⟩,trivial⟩,⟨⟨fv194_0,fa194_0⟩,⟨fv194_1,fa194_1⟩,⟨fv194_2,fa194_2⟩,trivial⟩,⟨⟨fv195_0,fa195_0⟩,⟨fv195_1,fa195_1⟩,⟨fv195_2,fa195_2⟩,trivial⟩,⟨⟨fv222_0,fa222_0⟩,⟨fv222_1,fa222_1⟩,trivial⟩,⟨⟨fv223_0,fa223_0⟩,⟨fv223_1,fa223_1⟩,trivial⟩,⟨⟨fv238_0,fa238_0⟩,⟨fv238_1,fa238_1⟩,trivial⟩,⟨⟨fv239_0,fa239_0⟩,⟨fv239_1,fa239_1⟩,trivial⟩,⟨⟨fv244_0,fa244_0⟩,⟨fv244_1,fa244_1⟩,trivial⟩,⟨⟨fv245_0,fa245_0⟩,⟨fv245_1,fa245_1⟩,trivial⟩,⟨⟨fv251_0,fa251_0⟩,⟨fv251_1,fa251_1⟩,⟨fv251_2,fa251_2⟩,⟨fv251_3,fa251_3⟩,trivial⟩,⟨⟨fv252_0,fa252_0⟩,⟨fv252_1,fa252_1⟩,⟨fv252_2,fa252_2⟩,⟨fv252_3,fa252_3⟩,trivial⟩,trivial⟩
instance : Tab aek tb:=Tab.mk' 263 kR kR kR kR kR adX
theorem am : aek.follows .mixedOrders = true:=by kernel_rfl
section
variable {n : Nat} {D : List Deferred} {E : bQ} {B : Base} {G : Gh} {L : List Own} {k : List Fr} {Q : Exit → Act → World → Prop} {K : Act → World → Prop}
theorem jT [PQ Q] {ops : List Oper} {G0 : Gh} {L0 : List Own} (fuel : Nat) (is : List Nat) {E' : bQ} {p' : List Prop} {fuel' : Nat} {listed : Array Bool} (listed' : Array Bool) (hn : Nx n D E' B G L (xA aek ops.toArray Q (cH B G0 L0) fuel listed'))
    (hf : Nat.beq (fuel + is.length) fuel' = true:=by exact F) (h : jh tb n ops is E [] = some (E',p'):=by exact F) (hsel : Region.noSelect ops.toArray = true:=by kernel_rfl) (hb : mU ops.toArray is listed listed' = true:=by kernel_rfl)
    (hG : Gh.le G0 G:=by first | exact Gh.le.refl _ | assumption) (hL : L0.Sublist L:=by repeat (first | exact List.Sublist.refl _ | exact List.nil_sublist _ | apply List.Sublist.cons_cons | apply List.Sublist.cons)) (hp : jg p':=by exact trivial) : Nx n D E B G L (xA aek ops.toArray Q (cH B G0 L0) fuel' listed):=vV is listed' hsel hb hf h hG hL hp hn
theorem jU [PQ Q] {ops : List Oper} {G0 : Gh} {L0 : List Own} (fuel : Nat) (is : List Nat) {E' : bQ} {p' : List Prop} {fuel' : Nat} {listed : Array Bool} (listed' : Array Bool) (hp : jg p') (hn : Nx n D E' B G L (xA aek ops.toArray Q (cH B G0 L0) fuel listed'))
    (hf : Nat.beq (fuel + is.length) fuel' = true:=by exact F) (h : jh tb n ops is E [] = some (E',p'):=by exact F) (hsel : Region.noSelect ops.toArray = true:=by kernel_rfl) (hb : mU ops.toArray is listed listed' = true:=by kernel_rfl)
    (hG : Gh.le G0 G:=by first | exact Gh.le.refl _ | assumption) (hL : L0.Sublist L:=by repeat (first | exact List.Sublist.refl _ | exact List.nil_sublist _ | apply List.Sublist.cons_cons | apply List.Sublist.cons)) : Nx n D E B G L (xA aek ops.toArray Q (cH B G0 L0) fuel' listed):=vV is listed' hsel hb hf h hG hL hp hn
theorem jN {ops : List Oper} {G0 : Gh} {L0 : List Own} {fuel : Nat} {listed : Array Bool} (listed' : Array Bool) [PQ Q] (i : Nat) {o : Oper} {d : Nat} (hi : ops.toArray[i]? = some o)
    (k : Nx n D ((d,undef) :: E) B G L (xA aek ops.toArray Q (cH B G0 L0) fuel listed')) (hb : oc ops.toArray listed i listed' = true:=by kernel_rfl) (hgu : tR E ops o = some false:=by exact F) (hG : Gh.le G0 G:=by first | exact Gh.le.refl _ | assumption) (hL : L0.Sublist L:=by repeat (first | exact List.Sublist.refl _ | exact List.nil_sublist _ | apply List.Sublist.cons_cons | apply List.Sublist.cons)) (hd : o.dst = some d:=by exact F) (hlt : Nat.blt d n = true:=by exact F) :
    Nx n D E B G L (xA aek ops.toArray Q (cH B G0 L0) (fuel + 1) listed):=zq listed' i hi hb hgu hG hL hd hlt k
theorem jG {ops : List Oper} {G0 : Gh} {L0 : List Own} {fuel : Nat} {listed : Array Bool} (listed' : Array Bool) [PQ Q] (i : Nat) {o : Oper} {d : Nat} {v : Value} (hi : ops.toArray[i]? = some o) (hg : Gives aek n D E (cH B G0 L0) o v)
    (k : Nx n D ((d,v) :: E) B G L (xA aek ops.toArray Q (cH B G0 L0) fuel listed')) (hb : oc ops.toArray listed i listed' = true:=by kernel_rfl) (hgu : tR E ops o = some true:=by exact F) (hG : Gh.le G0 G:=by first | exact Gh.le.refl _ | assumption) (hL : L0.Sublist L:=by repeat (first | exact List.Sublist.refl _ | exact List.nil_sublist _ | apply List.Sublist.cons_cons | apply List.Sublist.cons)) (hd : o.dst = some d:=by exact F) (hlt : Nat.blt d n = true:=by exact F) :
    Nx n D E B G L (xA aek ops.toArray Q (cH B G0 L0) (fuel + 1) listed):=vW listed' i hi hb hgu hG hL hg hd hlt k
theorem jV {o : Oper} {d : Nat} {v : Value} (hg : Gives aek n D E (St B G L) o v) (k : Nx n D ((d,v) :: E) B G L K) (hd : o.dst = some d:=by exact F) (hlt : Nat.blt d n = true:=by exact F) : Nx n D E B G L (ow aek o Q K):=jx hg hd hlt k
theorem jR {E' : bQ} {c c' : Cu} {k k' : List Fr} {p' : List Prop} (hn : Nx n D E' B G L (cu aek c' k' Q)) (h : sX tb n 400 E c k = some ⟨E',c',k',p'⟩:=by exact F) (hp : jg p':=by exact trivial) : Nx n D E B G L (cu aek c k Q):=run 400 h hp hn
theorem jM {E' : bQ} {c c' : Cu} {k k' : List Fr} {p' : List Prop} (hn : Nx n D E' B G L (cu aek c' k' Q)) (h : sX tb n 400 E c k = some ⟨E',c',k',p'⟩:=by exact F) (hp : jg p':=by (repeat' (first | exact trivial | apply And.intro | omega));done) : Nx n D E B G L (cu aek c k Q):=run 400 h hp hn
theorem jE {f : FuncId} {fn : Func} {c : Code} {args : List Value} {R : Value → Prop} (E0 : bQ) (hf : aek.funcs[f]? = some fn) (hn : fn.ntmps = n)
    (h : ∀ B,B.W = [] → Nx n [] E0 B G [] (cu aek (.code c) [] (bp aek fn (fj B (fun v G' L'=>G' = G ∧ L' = [] ∧ R v))))) (hb : fn.body = some c:=by exact F) (hok : fg aek f = true:=by kernel_rfl) (hlen : Nat.ble args.length n = true:=by exact F) (hE : iQ E0 (params 0 args):=by repeat' constructor) : a7 aek f args G R:=aai E0 hf hok hn hb hlen hE h
theorem jB {f : FuncId} {fn : Func} {c : Code} {args : List Value} {Post : Value → Gh → List Own → Prop} (E0 : bQ) (hf : aek.funcs[f]? = some fn) (hn : fn.ntmps = n)
    (h : ∀ B,BOk B → B.G = G → B.W = cR L → Nx n [] E0 B G L (cu aek (.code c) [] (bp aek fn (fj B Post)))) (hb : fn.body = some c:=by exact F) (hok : fg aek f = true:=by kernel_rfl) (hlen : Nat.ble args.length n = true:=by exact F) (hE : iQ E0 (params 0 args):=by repeat' constructor) : Fn aek f args G L Post:=abb E0 hf hok hn hb hlen hE h
theorem jH {f : FuncId} {fn : Func} {c : Code} {args : List Value} {R : Value → List Own → Prop} (E0 : bQ) (hf : aek.funcs[f]? = some fn) (hn : fn.ntmps = n)
    (h : ∀ B,B.G = G → B.W = cR L → Nx n [] E0 B G L (cu aek (.code c) [] (bp aek fn (fj B (fun v G' L'=>G' = G ∧ R v L'))))) (hb : fn.body = some c:=by exact F) (hok : fg aek f = true:=by kernel_rfl) (hlen : Nat.ble args.length n = true:=by exact F) (hE : iQ E0 (params 0 args):=by repeat' constructor) : d9 aek f args G L R:=aat E0 hf hok hn hb hlen hE h
theorem jK {ops : Array Oper} {G0 : Gh} {L0 : List Own} {fuel : Nat} {listed : Array Bool} (listed' : Array Bool) (h : Nx n D E B G L (xA aek ops Q (cH B G0 L0) fuel listed')) (hG : Gh.le G0 G:=by first | exact Gh.le.refl _ | assumption) (hL : L0.Sublist L:=by repeat (first | exact List.Sublist.refl _ | exact List.nil_sublist _ | apply List.Sublist.cons_cons | apply List.Sublist.cons)) (hl : (listed == listed') = true:=by kernel_rfl) : Nx n D E B G L (xK aek ops Q (cH B G0 L0) fuel listed):=adV hG hL hl h
theorem jS {ops : Array Oper} {G0 : Gh} {L0 : List Own} {fuel : Nat} {listed : Array Bool} (listed' : Array Bool) (h : Nx n D E B G L (xA aek ops Q (cH B G L) fuel listed')) (hG : Gh.le G0 G:=by first | exact Gh.le.refl _ | assumption) (hL : L0.Sublist L:=by repeat (first | exact List.Sublist.refl _ | exact List.nil_sublist _ | apply List.Sublist.cons_cons | apply List.Sublist.cons)) (hl : (listed == listed') = true:=by kernel_rfl) : Nx n D E B G L (xK aek ops Q (cH B G0 L0) fuel listed):=adU hG hL hl h
theorem jA {ops : List Oper} {S : World → Prop} {fuel : Nat} {listed : Array Bool} (i : Nat) {o : Oper} (hi : ops.toArray[i]? = some o) (h : Nx n D E B G L (ow aek o Q (xK aek ops.toArray Q S fuel (listed.setIfInBounds i true)))) (hr : Region.ready .any ops.toArray listed = [i]:=by kernel_rfl) (hgu : tR E ops o = some true:=by exact F) : Nx n D E B G L (xA aek ops.toArray Q S (fuel + 1) listed) :=
  b8 [i] hr (by simp) ⟨aO hi hgu h,trivial⟩
theorem jZ {fn : Func} {rs : List ResultVar} {vs : List Value} {v : Value} {L' : List Own} {Post : Value → Gh → List Own → Prop} (hr : fn.results = rs.toArray) (h : lq aek (St B G L) E rs vs) (hv : gQ vs = v) (hP : Post v G L')
    (hL : L'.Sublist L:=by exact List.nil_sublist _) : Nx n [] E B G L (cu aek (.exit .ret) [] (bp aek fn (fj B Post))):=aX hr h hv hL hP
theorem jX {E' : bQ} {c c' : Cu} {k k' : List Fr} {p' : List Prop} (hn : Nx n D E' B G L (cu aek c' k' Q)) (h : sX tb n 400 E c k = some ⟨E',c',k',p'⟩:=by exact F) (hp : jg p':=by (repeat' (first | exact trivial | apply And.intro | omega | assumption | (simp only [List.length_append,List.length_cons,List.length_nil,Int.toNat_natCast];omega) | (simp only [List.length_append,List.length_cons,List.length_nil,List.length_take,List.length_drop];omega) | (with_reducible exact (sG _ _).1) | (with_reducible exact (sG _ _).2)));done) : Nx n D E B G L (cu aek c k Q):=run 400 h hp hn
theorem jW [PQ Q] {ops : List Oper} {G0 : Gh} {L0 : List Own} (fuel : Nat) (is : List Nat) {E' : bQ} {p' : List Prop} {fuel' : Nat} {listed : Array Bool} (listed' : Array Bool) (hn : Nx n D E' B G L (xA aek ops.toArray Q (cH B G0 L0) fuel listed'))
    (hf : Nat.beq (fuel + is.length) fuel' = true:=by exact F) (h : jh tb n ops is E [] = some (E',p'):=by exact F) (hsel : Region.noSelect ops.toArray = true:=by kernel_rfl) (hb : mU ops.toArray is listed listed' = true:=by kernel_rfl)
    (hG : Gh.le G0 G:=by first | exact Gh.le.refl _ | assumption) (hL : L0.Sublist L:=by repeat (first | exact List.Sublist.refl _ | exact List.nil_sublist _ | apply List.Sublist.cons_cons | apply List.Sublist.cons)) (hp : jg p':=by (repeat' (first | exact trivial | apply And.intro | omega | assumption | (simp only [List.length_append,List.length_cons,List.length_nil,Int.toNat_natCast];omega) | (simp only [List.length_append,List.length_cons,List.length_nil,List.length_take,List.length_drop];omega) | (with_reducible exact (sG _ _).1) | (with_reducible exact (sG _ _).2)));done) : Nx n D E B G L (xA aek ops.toArray Q (cH B G0 L0) fuel' listed):=vV is listed' hsel hb hf h hG hL hp hn
section
variable {d : Nat} {ty : TypeId} {pos : String} {aft : Array Edge} {gd : Option (Nat × Bool)} {K2 : Act → World → Prop}
theorem aC {T T0 : TypeId} {x : Operand} {desc : TypeDesc} {size bytes : Nat} {zero : Value} {b o : Nat} {v : Value} {cs : List Value} {fr : Nat × Nat} [TI aek T desc size bytes zero] [BlkI L b cs T0 fr] (hx : ev E x = some (Pt b o)) (k : Nx n D ((d,v) :: E) B G L K)
    (ha : dQ desc = false:=by exact F) (hc : cs[o]? = some v:=by exact F) (hlt : Nat.blt d n = true:=by exact F) : Nx n D E B G L (ow aek ⟨some d,.load T x,ty,pos,aft,gd⟩ Q K):=jx (aV hx ha hc) F hlt k
theorem bO {T T0 : TypeId} {x : Operand} {desc : TypeDesc} {size bytes : Nat} {zero : Value} {b o : Nat} {vs : List Value} {cs : List Value} {fr : Nat × Nat} [TI aek T desc size bytes zero] [BlkI L b cs T0 fr] (hx : ev E x = some (Pt b o)) (k : Nx n D ((d,Ag vs) :: E) B G L K)
    (ha : dQ desc = true:=by exact F) (hc : lS cs o size = some vs:=by exact F) (hl : Nat.beq vs.length size = true:=by exact F) (hlt : Nat.blt d n = true:=by exact F) : Nx n D E B G L (ow aek ⟨some d,.load T x,ty,pos,aft,gd⟩ Q K):=jx (bS hx ha hc hl) F hlt k
theorem aP {c x y : Operand} {b : Bool} {v : Value} (hc : ev E c = some (.bool b)) (k : Nx n D ((d,v) :: E) B G L K) (hx : ev E x = some v:=by exact F) (hb : b = true:=by exact F) (hlt : Nat.blt d n = true:=by exact F) : Nx n D E B G L (ow aek ⟨some d,.pick c x y,ty,pos,aft,gd⟩ Q K):=jx (bR hc hx hb) F hlt k
theorem aE {c x y : Operand} {b : Bool} {v : Value} (hc : ev E c = some (.bool b)) (k : Nx n D ((d,v) :: E) B G L K) (hy : ev E y = some v:=by exact F) (hb : b = false:=by exact F) (hlt : Nat.blt d n = true:=by exact F) : Nx n D E B G L (ow aek ⟨some d,.pick c x y,ty,pos,aft,gd⟩ Q K):=jx (bm hc hy hb) F hlt k
theorem jC {T T0 : TypeId} {x y : Operand} {desc : TypeDesc} {size bytes : Nat} {zero : Value} {b o : Nat} {cs vs cs' : List Value} {fr : Nat × Nat} {L' : List Own} [TI aek T desc size bytes zero] [BlkI L b cs T0 fr] [hu : UpdI b cs' L cs T0 L'] (hx : ev E x = some (Pt b o)) (hy : ev E y = some (Ag vs)) (hp : ib cs o vs = some cs') (k : Nx n D E B G L' K)
    (hl : Nat.beq vs.length size = true:=by exact F) (hne : vs.isEmpty = false:=by exact F) (h1 : ed vs = true:=by exact F) : Nx n D E B G L (ow aek ⟨none,.store T x y,ty,pos,aft,gd⟩ Q K):=adk hx hy hl hne h1 hp k
theorem jD {T T0 : TypeId} {x y : Operand} {desc : TypeDesc} {bytes : Nat} {zero v : Value} {b o : Nat} {cs cs' : List Value} {fr : Nat × Nat} {L' : List Own} [TI aek T desc 1 bytes zero] [BlkI L b cs T0 fr] [hu : UpdI b cs' L cs T0 L'] (hx : ev E x = some (Pt b o)) (hy : ev E y = some v) (hp : ib cs o [v] = some cs') (k : Nx n D E B G L' K) (h1 : v.oneCell' = true:=by exact F) : Nx n D E B G L (ow aek ⟨none,.store T x y,ty,pos,aft,gd⟩ Q K):=adl hx hy h1 hp k
end
theorem jY {fn : Func} {rs : List ResultVar} {vs : List Value} {R : Value → Prop} (hP : R (gQ vs)) (hr : fn.results = rs.toArray:=by exact F) (h : lq aek (St B G L) E rs vs:=by repeat' (first | exact trivial | refine ⟨F,?_⟩)) : Nx n [] E B G L (cu aek (.exit .ret) [] (bp aek fn (fj B (fun v G' L'=>G' = G ∧ L' = [] ∧ R v)))):=aX hr h F (List.nil_sublist _) ⟨F,F,hP⟩
theorem jo {a l : List Oper} {i : Nat} {pm : List Nat} {o : Oper} (h : Nx n D E B G L (ow aek o (kk aek k Q) (cu aek (.ops a l (i + 1) pm) k Q))) (hg : oB E a pm o = some true:=by exact F) : Nx n D E B G L (cu aek (.ops a (o :: l) i pm) k Q):=wr hg h
section
variable {d : Nat} {ty : TypeId} {pos : String} {aft : Array Edge} {gd : Option (Nat × Bool)}
theorem jF {T el : TypeId} {len : Nat} {ps : List (Nat × Operand)} {qs : List (Nat × List Value)} {desc : TypeDesc} {size bytes size' bytes' : Nat} {zero zero' : Value} {zs cs : List Value} [TI aek T (.slice el) size' bytes' zero'] [TI aek el desc size bytes zero] (k : ∀ b,Nx n D ((d,.slice (some ⟨b,0,none⟩) len len) :: E) B G (.blk b (.cells cs.toArray el (0,0)) :: L) K) (hz : eP zero = some zs:=by exact F)
    (hsz : Nat.beq zs.length size = true:=by exact F) (he : rU E ps = some qs:=by exact F) (hf : qm (j6 (qC size) (cj zs len) qs) = some cs:=by exact F) (hsm : Nat.ble (len * size) 16777216 = true:=by exact F) (hlt : Nat.blt d n = true:=by exact F) : Nx n D E B G L (ow aek ⟨some d,.buildSlice T len ps.toArray,ty,pos,aft,gd⟩ Q K):=adw hz hsz hsm hlt he hf k
theorem jL {T : TypeId} {desc : TypeDesc} {size bytes : Nat} {zero : Value} {cs : List Value} [TI aek T desc size bytes zero] (k : ∀ b,Nx n D ((d,Pt b 0) :: E) B G (.blk b (.cells cs.toArray T (0,0)) :: L) K) (hz : eP zero = some cs:=by exact F) (hlt : Nat.blt d n = true:=by exact F) : Nx n D E B G L (ow aek ⟨some d,.alloc T,ty,pos,aft,gd⟩ Q K):=ad9 hz hlt k
theorem jO {T : TypeId} {x : Operand} {v : Value} {cs : List Value} (k : ∀ b,Nx n D ((d,Pt b 0) :: E) B G (.blk b (.cells cs.toArray T (0,0)) :: L) K) (hx : ev E x = some v:=by exact F) (hz : eP v = some cs:=by exact F) (hlt : Nat.blt d n = true:=by exact F) : Nx n D E B G L (ow aek ⟨some d,.box T x,ty,pos,aft,gd⟩ Q K):=ad8 hx hz hlt k
end
theorem jQ {ops : Array Oper} {S : World → Prop} {fuel : Nat} {listed : Array Bool} (h : Nx n D E B G L (cu aek (.exit .normal) k Q)) (hr : Region.ready .any ops listed = []:=by kernel_rfl) : Nx n D E B G L (xA aek ops (kk aek k Q) S fuel listed):=abf hr (ad6 h)
theorem zA {α : Type _} {a : α} {l m : List α} : a :: l ++ m = a :: (l ++ m):=rfl
theorem fA {α : Type _} {l : List α} : [] ++ l = l:=rfl
end
set_option maxRecDepth 20000
set_option maxHeartbeats 2000000
def num (n : Nat) : ael:=if h : n < 128 then [u8 n] else u8 (128 + n % 128 : Nat) :: num (n / 128)
termination_by n
decreasing_by omega
def abB (n : Int) : ael:=num n.toNat
def abo (n : Int) : ael → Int
 | []=>n
 | c :: l=>abo ((n * 31 + (c.toNat : Int)) % 9973) l
def ad2 (l : ael) : Int:=abo 1 l
theorem lC {l : ael} {i : Nat} (h : i < l.length) : ∃ c : UInt8,l.drop i = c :: l.drop (i + 1) ∧ bt l i = c.toNat:=by
 refine ⟨l[i],(List.getElem_cons_drop (h:=h)).symm,?_⟩
 simp [bt,List.getD,List.getElem?_eq_getElem h]
def frame (s : ael) : ael:=[u8 126] ++ abB s.length ++ s ++ abB (ad2 s)
variable {G : Gh}
theorem acy {n lo hi : Int} : a7 aek 128 [I n,I lo,I hi] G (· = Bo (decide (lo ≤ n) && decide (n ≤ hi))):=by
 refine jE [(0,_),(1,_),(2,_)] Tryz.func128 Tryz.ntmps128 fun B hB=>?_
 repeat' (first | refine jR ?_ | (refine jo ?_;first | refine aP F ?_ | refine aE F ?_) | refine ff F F (fun _=>?_) (fun _=>?_))
 all_goals refine jY (vs:=[_]) ?_
 all_goals (rw [aM];simp [*])
def qN (xs : List ael) : List Value:=xs.map fun x=>S x
theorem ro (xs : List ael) (x : ael) : qN (xs ++ [x]) = qN xs ++ [S x]:=by simp [qN]
abbrev v7 : TypeId:=9
theorem bC {α : Type} [Inhabited α] {a : List α} {i : Nat} (h : i < a.length) : ab a i ∈ a:=by rw [aI h];exact List.getElem_mem h
theorem nY {α : Type} [Inhabited α] {a : List α} {x : α} (h : x ∈ a) : ∃ i,i < a.length ∧ ab a i = x:=by
 obtain ⟨i,hi,e⟩:=List.mem_iff_getElem.1 h
 exact ⟨i,hi,by rw [aI hi,e]⟩
theorem p9 (p s : ael) : p.isPrefixOf s = decide (p.length ≤ s.length ∧ s.take p.length = p):=by
 by_cases h : p <+: s
 ·have h1:=List.isPrefixOf_iff_prefix.2 h
  rw [h1];obtain ⟨r,rfl⟩:=h;simp
 ·have h1 : p.isPrefixOf s = false:=by
   cases hb : p.isPrefixOf s with
   | false=>rfl
   | true=>exact absurd (List.isPrefixOf_iff_prefix.1 hb) h
  rw [h1];symm;refine decide_eq_false fun ⟨_,h3⟩=>h ?_
  rw [← h3];exact List.take_prefix _ _
theorem iN {s p : ael} : a7 aek 122 [S s,S p] G (· = Bo (p.isPrefixOf s)):=by
 rw [p9]
 refine jE [(0,_),(1,_)] Tryz.func122 Tryz.ntmps122 fun B hB=>?_
 repeat' (first | refine jM ?_ | (refine jo ?_;first | refine aP F ?_ | refine aE F ?_) | refine ff F F (fun _=>?_) (fun _=>?_))
 all_goals refine jY (vs:=[_]) ?_
 all_goals (rw [aM];simp;omega)
theorem g7 {s p : ael} : a7 aek 77 [S s,S p] G (· = Bo (p.isPrefixOf s)):=by
 refine jE [(0,_),(1,_)] Tryz.func77 Tryz.ntmps77 fun B hB=>?_
 repeat' (first | refine jR ?_ | (refine jo ?_;refine ae F F F iN F ?_))
 all_goals refine jY (vs:=[_]) ?_
 all_goals rfl
def kZ (c : UInt8) : Bool:=decide (97 ≤ c.toNat ∧ c.toNat ≤ 122)
def cW (s : ael) : Bool:=s.all kZ && decide (1 ≤ s.length ∧ s.length ≤ 3)
def fm : ael → Bool
 | []=>false
 | c :: r=>if c.toNat = 91 ∨ c.toNat = 63 then fm r
  else if c.toNat = 64 then decide (((bt (c :: r) r.length : Nat) : Int) = 59) && cW (r.take (r.length - 1))
  else decide (r = []) && (decide (c.toNat = 110) || decide (c.toNat = 116) || decide (c.toNat = 102))
def b7 (s : ael) : Bool:=decide (s.length ≤ 12) && fm s
def bV : ael → ael
 | []=>[]
 | c :: r=>if c.toNat = 91 ∨ c.toNat = 63 then bV r else c :: r
theorem vv {s : ael} {i : Nat} (h : i < s.length) (h2 : ¬ (97 ≤ bt s i ∧ bt s i ≤ 122)) : cW s = false:=by
 have e : bt s i = (s[i]).toNat:=by simp [bt,List.getD,List.getElem?_eq_getElem h]
 have : s.all kZ = false:=by
  rw [List.all_eq_false]
  exact ⟨s[i],List.getElem_mem h,by rw [e] at h2;simpa [kZ] using h2⟩
 rw [cW,this,Bool.false_and]
theorem yG {s : ael} (h : ∀ i,i < s.length → 97 ≤ bt s i ∧ bt s i ≤ 122) : cW s = decide (1 ≤ s.length ∧ s.length ≤ 3):=by
 have : s.all kZ = true:=by
  rw [List.all_eq_true]
  intro c hc
  obtain ⟨i,hi,rfl⟩:=List.mem_iff_getElem.1 hc
  have e : bt s i = (s[i]).toNat:=by simp [bt,List.getD,List.getElem?_eq_getElem hi]
  have:=h i hi
  rw [e] at this
  simpa [kZ] using this
 rw [cW,this,Bool.true_and]
def r6 (n : Nat) : ael:=if h : n < 10 then [u8 (48 + n : Nat)] else r6 (n / 10) ++ [u8 (48 + n % 10 : Nat)]
termination_by n
decreasing_by omega
def bi (n : Int) : ael:=r6 n.toNat
theorem er {n : Int} (h : n < 10) (h0 : 0 ≤ n) : bi n = [u8 (48 + n)]:=by
 unfold bi;rw [r6,dif_pos oM];congr 1;congr 1;omega
theorem kl {n : Int} (h : ¬ n < 10) : bi n = bi (n / 10) ++ [u8 (48 + n % 10)]:=by
 unfold bi;rw [r6,dif_neg oM]
 have e1 : n.toNat / 10 = (n / 10).toNat:=oM
 have e2 : ((48 + n.toNat % 10 : Nat) : Int) = 48 + n % 10:=oM
 rw [e1,e2]
theorem vE (n : Nat) : ∀ k,n < 10 ^ (k + 1) → (r6 n).length ≤ k + 1:=by
 intro k
 induction k generalizing n with
 | zero=>intro h;rw [r6,dif_pos (by simpa using h)];simp
 | succ k ih =>
  intro h
  by_cases h1 : n < 10
  ·rw [r6,dif_pos h1];simp
  ·rw [r6,dif_neg h1]
   have:=ih (n / 10) (Nat.div_lt_of_lt_mul (by rw [Nat.pow_succ] at h;omega))
   simp;omega
theorem ii {n : Int} (h : n ≤ 9223372036854775807) : (bi n).length ≤ 19:=vE _ 18 oM
theorem gL {s : ael} (h : s.length ≤ 9000000000000000000) : a7 aek 85 [S s] G (· = Bo (cW s)):=by
 refine jE [(0,_)] Tryz.func85 Tryz.ntmps85 fun B hB=>?_
 repeat' (refine jR ?_)
 refine aW (ι:=Nat) (fun i=>i ≤ s.length ∧ ∀ k,k < i → 97 ≤ bt s k ∧ bt s k ≤ 122) (fun i=>[(0,S s),(3,I i)]) (fun _=>G) (fun i=>[]) (fun i=>s.length - i) 0 ?_ tU F bc (fun i Hi=>?_)
 ·exact ⟨oM,fun k hk=>absurd hk oM⟩
 by_cases hi : i < s.length
 ·repeat' (first | refine jM ?_ | (refine jo ?_;first | refine aP F ?_ | refine aE F ?_) | refine ff F F (fun _=>?_) (fun _=>?_) | (refine ac F (by first | rfl | (refine decide_eq_true ?_;(omega))) ?_) | refine eG F (fun _=>?_) (fun _=>?_))
  ·rename_i hc
   refine jY (vs:=[_]) ?_
   have hc : ((bt s i : Nat) : Int) < 97:=hc
   rw [aM,vv hi oM]
  ·rename_i _ hc
   refine jY (vs:=[_]) ?_
   have hc : (122 : Int) < ((bt s i : Nat) : Int):=hc
   rw [aM,vv hi oM]
  ·rename_i h1 h2
   have h1 : ¬ ((bt s i : Nat) : Int) < 97:=h1
   have h2 : ¬ (122 : Int) < ((bt s i : Nat) : Int):=h2
   refine br (i + 1) ⟨oM,fun k hk=>?_⟩ oM tU F bc
   rcases Nat.lt_or_ge k i with h3 | h3
   ·exact Hi.2 k h3
   ·have : k = i:=oM
    subst this;omega
 ·repeat' (first | refine jR ?_ | (refine jo ?_;refine ae F F F acy F ?_) | refine ad F (aH oM) ?_)
  refine jY (vs:=[_]) ?_
  rw [aM,yG fun k hk=>Hi.2 k oM]
  refine congrArg Bo ?_
  rw [Bool.decide_and]
  exact congr (congrArg and (decide_eq_decide.2 oM)) (decide_eq_decide.2 oM)
theorem mL (c : UInt8) (r : ael) : bt (c :: r) 0 = c.toNat:=by simp [bt,List.getD]
theorem aa1 {c : UInt8} {r : ael} (h : r ≠ []) (hl : r.length ≤ 1000000) : a7 aek 93 [S (c :: r)] G (· = Tu [S (if c.toNat = 64 then r.take (r.length - 1) else []),Bo (decide (c.toNat = 64))]):=by
 have hp:=List.length_pos_iff.2 h
 have e0:=mL c r
 refine jE [(0,_)] Tryz.func93 Tryz.ntmps93 fun B hB=>?_
 repeat' (first | refine jX ?_ | refine eG F (fun _=>?_) (fun _=>?_))
 ·rename_i hc
  refine jY (vs:=[_,_]) ?_
  have hc : ((bt (c :: r) 0 : Nat) : Int) ≠ 64:=hc
  have hc : ¬ c.toNat = 64:=oM
  rw [gD,if_neg hc,decide_eq_false hc]
 ·rename_i hc
  refine jY (vs:=[_,_]) ?_
  have hc : ¬ ((bt (c :: r) 0 : Nat) : Int) ≠ 64:=hc
  have hc : c.toNat = 64:=oM
  have e : ((((c :: r).length : Nat) : Int) - 1).toNat = (r.length - 1) + 1:=by simp only [List.length_cons];omega
  rw [gD,if_pos hc,decide_eq_true hc,e,List.take_succ_cons];rfl
theorem nO {s : ael} : a7 aek 92 [S s] G (· = Bo (b7 s)):=by
 induction s with
 | nil =>
  refine jE [(0,_)] Tryz.func92 Tryz.ntmps92 fun B hB=>?_
  repeat' (first | refine jR ?_ | (refine jo ?_;refine aE F ?_) | refine aw F F F ?_ | refine ac F F ?_)
  all_goals refine jY (vs:=[_]) ?_
  all_goals rfl
 | cons c r ih =>
  have e0 : bt (c :: r) (Int.toNat 0) = c.toNat:=mL c r
  by_cases hl : (c :: r).length ≤ 12
  ·have hl2 : r.length ≤ 12:=by simp at hl;omega
   rw [b7,decide_eq_true hl,Bool.true_and,fm]
   rw [b7,decide_eq_true hl2,Bool.true_and] at ih
   have hcons : (c :: r).length = r.length + 1:=rfl
   by_cases h1 : c.toNat = 91
   ·rw [if_pos (.inl h1)]
    refine jE [(0,_)] Tryz.func92 Tryz.ntmps92 fun B hB=>?_
    repeat' (first | refine jM ?_ | (refine jo ?_;first | refine aE F ?_ | refine ae F F F ih F ?_) | refine aw F F (aH oM) ?_ | refine ac F (aA oM) ?_ | refine ad F F ?_)
    refine jY (vs:=[_]) ?_
    rfl
   by_cases h2 : c.toNat = 63
   ·rw [if_pos (.inr h2)]
    refine jE [(0,_)] Tryz.func92 Tryz.ntmps92 fun B hB=>?_
    repeat' (first | refine jM ?_ | (refine jo ?_;first | refine aE F ?_ | refine ae F F F ih F ?_) | refine aw F F (aH oM) ?_ | refine ac F (aA oM) ?_ | (refine ad F (by first | rfl | (refine decide_eq_false ?_;(omega))) ?_))
    refine jY (vs:=[_]) ?_
    rfl
   rw [if_neg oM]
   by_cases h3 : c.toNat = 64
   ·rw [if_pos h3]
    have h5 : ((((c :: r).length : Nat) : Int) - 1).toNat = r.length:=oM
    by_cases h4 : ((bt (c :: r) r.length : Nat) : Int) = 59
    ·have h6 : ((bt (c :: r) ((((c :: r).length : Nat) : Int) - 1).toNat : Nat) : Int) = 59:=by rw [h5];exact h4
     have hp : 0 < r.length:=by
      rcases Nat.eq_zero_or_pos r.length with h0 | h0
      ·have : r = []:=List.length_eq_zero_iff.1 h0
       subst this
       have : ((bt [c] (Int.toNat 0) : Nat) : Int) = 59:=h4
       omega
      ·exact h0
     have e1 : ((((c :: r).length : Nat) : Int) - 1).toNat = (r.length - 1) + 1:=oM
     refine jE [(0,_)] Tryz.func92 Tryz.ntmps92 fun B hB=>?_
     repeat' (first | refine jM ?_ | (refine jo ?_;first | refine aP F ?_ | refine aE F ?_ | (refine ae F F F (gL ?_) F ?_;(focus ((simp;omega);done)))) | refine aF F F (aA ‹_›) ?_ | refine aw F F (aH oM) ?_ | refine ac F (aA oM) ?_ | (refine ad F (by first | rfl | (refine decide_eq_false ?_;(omega))) ?_))
     refine jY (vs:=[_]) ?_
     rw [aM,decide_eq_true h4,Bool.true_and,e1,List.take_succ_cons];rfl
    ·have h6 : ¬ ((bt (c :: r) ((((c :: r).length : Nat) : Int) - 1).toNat : Nat) : Int) = 59:=by rw [h5];exact h4
     refine jE [(0,_)] Tryz.func92 Tryz.ntmps92 fun B hB=>?_
     repeat' (first | refine jM ?_ | (refine jo ?_;refine aE F ?_) | (refine aw F F (by refine decide_eq_false ?_;first | assumption | omega) ?_) | refine ac F (aA oM) ?_ | (refine ad F (by first | rfl | (refine decide_eq_false ?_;(omega))) ?_))
     refine jY (vs:=[_]) ?_
     rw [aM,decide_eq_false h4,Bool.false_and]
   ·rw [if_neg h3]
    have n1 : ∀ x : UInt8,(c :: r = [x]) = (c.toNat = x.toNat ∧ r = []):=fun x=>by
     rw [List.cons.injEq];exact propext ⟨fun h=>⟨by rw [h.1],h.2⟩,fun h=>⟨UInt8.toNat_inj.1 h.1,h.2⟩⟩
    refine jE [(0,_)] Tryz.func92 Tryz.ntmps92 fun B hB=>?_
    repeat' (first | refine jM ?_ | (refine jo ?_;first | refine aP F ?_ | refine aE F ?_) | refine aF F F F ?_ | refine aw F F (aH oM) ?_ | refine ff F F (fun _=>?_) (fun _=>?_) | (refine ad F (by first | rfl | (refine decide_eq_false ?_;(omega))) ?_))
    all_goals refine jY (vs:=[_]) ?_
    all_goals rw [aM]
    ·rename_i h;rw [n1] at h;rw [decide_eq_true h.2,decide_eq_true (p:=c.toNat = 110) h.1];rfl
    ·rename_i h;rw [n1] at h;rw [decide_eq_true h.2,decide_eq_true (p:=c.toNat = 116) h.1];simp
    ·rename_i ha hb
     refine congrArg Bo ?_
     rw [n1] at ha hb
     simp only [n1]
     by_cases hr : r = []
     ·have hx : ¬ c.toNat = 110:=fun h=>ha ⟨h,hr⟩
      have hy : ¬ c.toNat = 116:=fun h=>hb ⟨h,hr⟩
      simp [hr,hx,hy]
     ·simp [hr]
  ·rw [b7,decide_eq_false hl,Bool.false_and]
   refine jE [(0,_)] Tryz.func92 Tryz.ntmps92 fun B hB=>?_
   repeat' (first | refine jR ?_ | (refine jo ?_;refine aP F ?_) | refine aF F F (aA oM) ?_ | refine ac F F ?_)
   all_goals refine jY (vs:=[_]) ?_
   all_goals rfl
theorem un {s : ael} (h : fm s = true) : a7 aek 94 [S s] G (· = S (bV s)):=by
 refine jE [(0,_)] Tryz.func94 Tryz.ntmps94 fun B hB=>?_
 repeat' (refine jR ?_)
 refine aW (ι:=ael) (fun t=>fm t = true ∧ bV t = bV s) (fun t=>[(0,S t)]) (fun _=>G) (fun t=>[]) (fun t=>t.length) s ?_ tU F bc (fun t Ht=>?_)
 ·exact ⟨h,F⟩
 match t,Ht with
 | c :: r,Ht =>
  have e0 : bt (c :: r) (Int.toNat 0) = c.toNat:=mL c r
  have hcons : (c :: r).length = r.length + 1:=rfl
  by_cases h1 : c.toNat = 91 ∨ c.toNat = 63
  ·have hk : fm r = true:=by have:=Ht.1;rw [fm,if_pos h1] at this;exact this
   have hc : bV r = bV s:=by rw [← Ht.2,bV,if_pos h1]
   rcases h1 with h1 | h1
   all_goals repeat' (first | refine jM ?_ | (refine jo ?_;first | refine aP F ?_ | refine aE F ?_) | refine aF F F (aA oM) ?_ | refine aw F F (aH oM) ?_ | (refine ac F (by first | rfl | (refine decide_eq_true ?_;(omega))) ?_))
   all_goals exact br r ⟨hk,hc⟩ oM tU F bc
  ·repeat' (first | refine jM ?_ | (refine jo ?_;refine aE F ?_) | refine aw F F (aH oM) ?_ | refine ad F (aH oM) ?_)
   refine jY (vs:=[_]) ?_
   rw [aM,← Ht.2,bV,if_neg h1]
theorem zg : ∀ (k : Nat) {n : Int},n.toNat ≤ k → 0 ≤ n ∧ n ≤ 9223372036854775807 → a7 aek 103 [I n] G (· = S (bi n)):=by
 intro k
 induction k with
 | zero =>
  intro n hk hn
  have h1 : n < 10:=oM
  refine jE [(0,_)] Tryz.func103 Tryz.ntmps103 fun B hB=>?_
  repeat' (first | refine jM ?_ | (refine jo ?_;first | refine jF fun _=>?_ | refine jV (iF F F (by (repeat (first | exact BL.nil | apply BL.cons));done)) ?_) | refine ac F (aA ‹_›) ?_ | refine ad F (aH oM) ?_)
  refine jY (vs:=[_]) ?_
  rw [aM,er h1 hn.1]
 | succ k ih =>
  intro n hk hn
  have hl:=ii (n:=n / 10) oM
  by_cases h1 : n < 10
  ·refine jE [(0,_)] Tryz.func103 Tryz.ntmps103 fun B hB=>?_
   repeat' (first | refine jM ?_ | (refine jo ?_;first | refine jF fun _=>?_ | refine jV (iF F F (by (repeat (first | exact BL.nil | apply BL.cons));done)) ?_) | refine ac F (aA ‹_›) ?_ | refine ad F (aH oM) ?_)
   refine jY (vs:=[_]) ?_
   rw [aM,er h1 hn.1]
  ·refine jE [(0,_)] Tryz.func103 Tryz.ntmps103 fun B hB=>?_
   repeat' (first | refine jR ?_ | (refine ad F (by refine decide_eq_false ?_;first | assumption | omega) ?_) | (refine an (ao (id:=7) _ (fun _ h=>h) am ?_);refine jW 5 [0,1,3,4,5,6] (aa 11 123) ?_;refine b8 [2,7] kR dC ⟨?_,?_,trivial⟩;(focus (refine aO F F ?_;((refine ae F F F (ih ?_ ?_) F ?_;(focus omega);focus omega));refine jS (aa 11 127) ?_;refine jA 7 F ?_;(refine jF fun _=>?_);refine jS (aa 11 255) ?_;((refine jG (aa 11 511) 8 F (iF F F (by (repeat (first | exact BL.nil | apply BL.cons));done)) ?_));refine jW 0 [9,10] (aa 11 2047) ?_;refine jQ ?_));rotate_left 1;(focus (refine aO F F ?_;(refine jF fun _=>?_);refine jS (aa 11 251) ?_;((refine jG (aa 11 507) 8 F (iF F F (by (repeat (first | exact BL.nil | apply BL.cons));done)) ?_));refine jA 2 F ?_;((refine ae F F F (ih ?_ ?_) F ?_;(focus omega);focus omega));refine jS (aa 11 511) ?_;refine jW 0 [9,10] (aa 11 2047) ?_;refine jQ ?_));rotate_left 1))
   all_goals refine jY (vs:=[_]) ?_
   all_goals rw [aM,kl (n:=n) h1]
theorem fU {n : Int} (hn : 0 ≤ n ∧ n ≤ 9223372036854775807) : a7 aek 103 [I n] G (· = S (bi n)):=zg n.toNat (Nat.le_refl _) hn
def gO (s : ael) : ael:=if s = [110] then [48] else if s = [116] then [39,39] else if s = [102] then [110,111] else []
theorem sf {s : ael} : a7 aek 169 [S s] G (· = S (gO s)):=by
 refine jE [(0,_)] Tryz.func169 Tryz.ntmps169 fun B hB=>?_
 repeat' (first | refine jR ?_ | refine eG F (fun _=>?_) (fun _=>?_))
 all_goals refine jY (vs:=[_]) ?_
 all_goals (rw [aM,gO];simp [*])
def jP (x : Nat) : Prop:=x = 32 ∨ (48 ≤ x ∧ x ≤ 57) ∨ (97 ≤ x ∧ x ≤ 122)
instance (x : Nat) : Decidable (jP x):=inferInstanceAs (Decidable (_ ∨ _))
def TxP (s : ael) : Prop:=(2 ≤ s.length ∧ s.length ≤ 14) ∧ bt s 0 = 39 ∧ bt s (s.length - 1) = 39 ∧ ∀ i,i < s.length - 1 → i = 0 ∨ jP (bt s i)
instance (s : ael) : Decidable (TxP s):=inferInstanceAs (Decidable (_ ∧ _ ∧ _ ∧ _))
def ec (s : ael) : Bool:=decide (TxP s)
theorem ij {s : ael} (h : s.length ≤ 100000000) : a7 aek 140 [S s] G (· = Bo (ec s)):=by
 by_cases h1 : 2 ≤ s.length ∧ s.length ≤ 14
 case neg =>
  have e : ec s = false:=decide_eq_false fun x=>h1 x.1
  rw [e]
  refine jE [(0,_)] Tryz.func140 Tryz.ntmps140 fun B hB=>?_
  repeat' (first | refine jR ?_ | (refine jo ?_;first | refine aP F ?_ | refine aE F ?_) | (refine aF F F (by first | rfl | (refine decide_eq_true ?_;(omega))) ?_) | refine ff F F (fun _=>?_) (fun _=>?_) | refine ac F F ?_)
  all_goals refine jY (vs:=[_]) ?_
  all_goals rfl
 by_cases h2 : bt s 0 = 39
 case neg =>
  have e : ec s = false:=decide_eq_false fun x=>h2 x.2.1
  have h3 : ¬ bt s (Int.toNat 0) = 39:=h2
  rw [e]
  refine jE [(0,_)] Tryz.func140 Tryz.ntmps140 fun B hB=>?_
  repeat' (first | refine jM ?_ | (refine jo ?_;first | refine aP F ?_ | refine aE F ?_) | refine aF F F (aA oM) ?_ | refine aw F F (aH oM) ?_ | refine ac F F ?_)
  all_goals refine jY (vs:=[_]) ?_
  all_goals rfl
 have h3 : bt s (Int.toNat 0) = 39:=h2
 have h4 : (((s.length : Nat) : Int) - 1).toNat = s.length - 1:=oM
 by_cases h5 : bt s (s.length - 1) = 39
 case neg =>
  have e : ec s = false:=decide_eq_false fun x=>h5 x.2.2.1
  have h6 : ¬ bt s (((s.length : Nat) : Int) - 1).toNat = 39:=by rw [h4];exact h5
  rw [e]
  refine jE [(0,_)] Tryz.func140 Tryz.ntmps140 fun B hB=>?_
  repeat' (first | refine jM ?_ | (refine jo ?_;refine aE F ?_) | refine aw F F (aH oM) ?_ | refine ac F (aA oM) ?_)
  all_goals refine jY (vs:=[_]) ?_
  all_goals rfl
 have h6 : bt s (((s.length : Nat) : Int) - 1).toNat = 39:=by rw [h4];exact h5
 refine jE [(0,_)] Tryz.func140 Tryz.ntmps140 fun B hB=>?_
 repeat' (first | refine jM ?_ | (refine jo ?_;refine aE F ?_) | refine aw F F (aH oM) ?_ | refine ad F (aH oM) ?_)
 refine aW (ι:=Nat) (fun i=>(1 ≤ i ∧ i ≤ s.length - 1) ∧ ∀ k,k < i → k = 0 ∨ jP (bt s k)) (fun i=>[(0,S s),(3,I i)]) (fun _=>G) (fun i=>[]) (fun i=>s.length - i) 1 ?_ tU F bc (fun i Hi=>?_)
 ·exact ⟨⟨Nat.le_refl _,oM⟩,fun k hk=>.inl oM⟩
 by_cases hi : i < s.length - 1
 ·by_cases ht : jP (bt s i)
  ·have ht2 : jP (bt s ((i : Int).toNat)):=ht
   unfold jP at ht2
   repeat' (first | refine jM ?_ | (refine jo ?_;first | refine aP F ?_ | refine aE F ?_) | (refine aw F F (by first | rfl | (refine decide_eq_false ?_;(omega))) ?_) | refine ff F F (fun _=>?_) (fun _=>?_) | refine ac F (aA oM) ?_ | (refine ad F (by first | rfl | (refine decide_eq_false ?_;(omega))) ?_))
   all_goals refine br (i + 1) ⟨⟨oM,oM⟩,fun k hk=>?_⟩ oM tU F bc
   all_goals (rcases Nat.lt_or_ge k i with h7 | h7;· exact Hi.2 k h7)
   all_goals (have : k = i:=by omega)
   all_goals (subst this;exact .inr ht)
  ·have ht2 : ¬ jP (bt s ((i : Int).toNat)):=ht
   unfold jP at ht2
   have e : ec s = false:=decide_eq_false fun x=>(x.2.2.2 i hi).elim (fun h8=>by omega) ht
   rw [e]
   repeat' (first | refine jM ?_ | (refine jo ?_;first | refine aP F ?_ | refine aE F ?_) | (refine aF F F (by first | rfl | (refine decide_eq_true ?_;(omega))) ?_) | refine ff F F (fun _=>?_) (fun _=>?_) | (refine ac F (by first | rfl | (refine decide_eq_true ?_;(omega))) ?_))
   all_goals refine jY (vs:=[_]) ?_
   all_goals rfl
 ·have e : ec s = true:=decide_eq_true ⟨h1,h2,h5,fun k hk=>Hi.2 k oM⟩
  rw [e]
  repeat' (first | refine jM ?_ | refine ad F (aH oM) ?_)
  refine jY (vs:=[_]) ?_
  rfl
def eI (k : Nat) (acc : ael) : ael → List ael
 | []=>[acc]
 | c :: r=>if c.toNat = k then acc :: eI k [] r else eI k (acc ++ [c]) r
def a8 (k : Nat) (s : ael) : List ael:=eI k [] s
theorem vN {s : ael} {k : Nat} (h : s.length ≤ 100000000) : d9 aek 56 [S s,U8 k] G [] (fun v L'=>L' = [.acc v v7 1 (a8 k s).length (qN (a8 k s))] ∧ vU v (a8 k s).length):=by
 refine jH [(0,_),(1,_)] Tryz.func56 Tryz.ntmps56 fun B hB hW=>?_
 repeat' (first | refine jR ?_ | (refine jo ?_;refine jF fun _=>?_))
 rename_i x
 refine Nx.blkAcc (m:=0) (sz:=1) .here F ?_
 refine aW (ι:=Value × List ael × Nat × Nat) (fun i=>(i.2.2.1 ≤ i.2.2.2 ∧ i.2.2.2 ≤ s.length ∧ i.2.1.length ≤ i.2.2.2) ∧ i.2.1 ++ eI k ((s.take i.2.2.2).drop i.2.2.1) (s.drop i.2.2.2) = a8 k s) (fun i=>[(0,S s),(1,U8 k),(5,i.1),(6,I i.2.2.1),(7,I i.2.2.2)]) (fun _=>G) (fun i=>[.acc i.1 v7 1 i.2.1.length (qN i.2.1)]) (fun i=>s.length - i.2.2.2) (.slice (some ⟨x,0,none⟩) 0 0,[],0,0) ?_ tU F bc (fun i Hi=>?_)
 ·exact ⟨⟨Nat.le_refl _,Nat.zero_le _,Nat.zero_le _⟩,F⟩
 obtain ⟨u,xs,fr,i⟩:=i
 dsimp only at Hi ⊢
 by_cases hi : i < s.length
 ·obtain ⟨c,hc1,hc2⟩:=lC hi
  have hn : s.drop i ≠ []:=by rw [hc1];simp
  have ht : (s.take (i + 1)).drop fr = (s.take i).drop fr ++ [c]:=by
   have e : s[i] = c:=by have:=List.getElem_cons_drop (h:=hi);rw [hc1] at this;exact (List.cons.inj this).1
   rw [List.take_succ_eq_append_getElem hi,e,List.drop_append_of_le_length (by simp;omega)]
  have hcut:=Hi.2
  rw [hc1,eI] at hcut
  by_cases hk : c.toNat = k
  ·have hk2 : bt s i = k:=oM
   rw [if_pos hk] at hcut
   repeat' (first | refine jM ?_ | (refine jo ?_;first | refine jF fun _=>?_ | refine wM F F F F F F F F oM fun _=>?_) | (refine ac F ?_ ?_;(focus ((first | (refine decide_eq_true ?_;(omega)) | (simp [*];done));done))))
   refine br (_,xs ++ [(s.take i).drop fr],i + 1,i + 1) ⟨⟨by dsimp only;omega,by dsimp only;omega,by simp;omega⟩,?_⟩ (by dsimp only;omega) tU rfl (by dsimp only;simp only [ro,List.length_append,List.length_cons,List.length_nil,Nat.zero_add];repeat (first | exact List.nil_sublist _ | apply List.Sublist.cons_cons))
   have e0 : (s.take (i + 1)).drop (i + 1) = []:=by simp
   dsimp only;rw [e0,← hcut];simp
  ·have hk2 : ¬ bt s i = k:=oM
   rw [if_neg hk] at hcut
   repeat' (first | refine jM ?_ | refine ac F (aA oM) ?_ | (refine ad F ?_ ?_;(focus ((simp;omega);done))))
   refine br (u,xs,fr,i + 1) ⟨⟨by dsimp only;omega,by dsimp only;omega,by dsimp only;omega⟩,?_⟩ (by dsimp only;omega) tU rfl bc
   dsimp only;rw [ht];exact hcut
 ·have e : a8 k s = xs ++ [s.drop fr]:=by
   have ei : i = s.length:=oM
   rw [← Hi.2,ei,List.take_length,List.drop_length];rfl
  repeat' (first | refine jM ?_ | (refine jo ?_;first | refine jF fun _=>?_ | refine wM F F F F F F F F oM fun _=>?_) | refine ad F (aH oM) ?_)
  refine Nx.shp (.head _) fun hsh=>aX (vs:=[_]) F ⟨F,trivial⟩ F (List.Sublist.cons_cons _ (List.nil_sublist _)) ⟨F,?_,?_⟩
  ·rw [e,ro,List.length_append];rfl
  ·rw [e,List.length_append];exact hsh
def dA (n : Int) : ael → Option Int
 | []=>some n
 | c :: r=>if 48 ≤ c.toNat ∧ c.toNat ≤ 57 then dA (10 * n + ((c.toNat : Int) - 48)) r else none
def aQ (s : ael) (top : Int) : Option Int :=
 if s.length ≤ 6 then
  match dA 0 s with
  | some n=>if s = bi n ∧ n ≤ top then some n else none
  | none=>none
 else none
theorem yB (i : Nat) (hi : i ≤ 5) : (10 : Int) ^ (i + 1) = 10 * 10 ^ i ∧ (10 : Int) ^ i ≤ 100000 ∧ (0 : Int) < 10 ^ i:=by
 refine ⟨by rw [Int.pow_succ,Int.mul_comm],?_⟩
 rcases (show i = 0 ∨ i = 1 ∨ i = 2 ∨ i = 3 ∨ i = 4 ∨ i = 5 by omega) with rfl | rfl | rfl | rfl | rfl | rfl <;> decide
theorem iu {s : ael} {top : Int} (h : s.length ≤ 100000000) : a7 aek 57 [S s,I top] G (fun v=>∃ n,v = Tu [I n,Bo (aQ s top).isSome] ∧ (∀ m,aQ s top = some m → n = m)):=by
 refine jE [(0,_),(1,_)] Tryz.func57 Tryz.ntmps57 fun B hB=>?_
 repeat' (refine jR ?_)
 refine aW (ι:=Nat × Int) (fun i=>(i.1 ≤ s.length ∧ i.1 ≤ 6) ∧ (0 ≤ i.2 ∧ i.2 + 1 ≤ 10 ^ i.1) ∧ dA i.2 (s.drop i.1) = dA 0 s) (fun i=>[(0,S s),(1,I top),(6,I i.2),(7,I i.1)]) (fun _=>G) (fun i=>[]) (fun i=>s.length - i.1) (0,0) ?_ tU F bc (fun i Hi=>?_)
 ·exact ⟨⟨by dsimp only;omega,by dsimp only;omega⟩,⟨by dsimp only;omega,by dsimp only;decide⟩,rfl⟩
 obtain ⟨i,n⟩:=i
 dsimp only at Hi ⊢
 by_cases hi : i < s.length
 ·obtain ⟨c,hc1,hc2⟩:=lC hi
  have hc3 : bt s ((i : Int).toNat) = c.toNat:=hc2
  have hd:=Hi.2.2
  rw [hc1,dA] at hd
  by_cases h5 : i ≤ 5
  ·have hp:=yB i h5
   by_cases hdig : 48 ≤ c.toNat ∧ c.toNat ≤ 57
   ·rw [if_pos hdig] at hd
    repeat' (first | refine jM ?_ | (refine jo ?_;refine aE F ?_) | refine aw F F (aH oM) ?_ | refine ac F (aA oM) ?_ | refine ad F (aH oM) ?_)
    refine br (i + 1,10 * n + ((c.toNat : Int) - 48)) ⟨⟨by dsimp only;omega,by dsimp only;omega⟩,⟨by dsimp only;omega,by dsimp only;rw [hp.1];omega⟩,hd⟩ (by dsimp only;omega) ?_ rfl bc
    rw [← hc2];repeat (first | exact trivial | refine ⟨F,?_⟩)
   ·rw [if_neg hdig] at hd
    have hno : aQ s top = none:=by unfold aQ;rw [← hd];split <;> rfl
    repeat' (first | refine jM ?_ | (refine jo ?_;first | refine aP F ?_ | refine aE F ?_) | (refine aF F F (by first | rfl | (refine decide_eq_true ?_;(omega))) ?_) | refine ff F F (fun _=>?_) (fun _=>?_) | (refine ac F (by first | rfl | (refine decide_eq_true ?_;(omega))) ?_))
    all_goals refine jY (vs:=[_,_]) ?_
    all_goals exact ⟨_,by rw [hno];rfl,fun m hm=>by rw [hno] at hm;cases hm⟩
  ·have hno : aQ s top = none:=by unfold aQ;rw [if_neg oM]
   have e6 : i = 6:=oM
   subst e6
   repeat' (first | refine jM ?_ | (refine jo ?_;first | refine aP F ?_ | refine aE F ?_) | refine aF F F F ?_ | refine ff F F (fun _=>?_) (fun _=>?_) | (refine ac F (by first | rfl | (refine decide_eq_true ?_;(omega))) ?_))
   all_goals refine jY (vs:=[_,_]) ?_
   all_goals exact ⟨_,by rw [hno];rfl,fun m hm=>by rw [hno] at hm;cases hm⟩
 ·have ei : i = s.length:=oM
  have hd:=Hi.2.2
  rw [ei,List.drop_length,dA] at hd
  have hp : n ≤ 9223372036854775807:=by
   rcases Nat.lt_or_ge i 6 with h1 | h1
   ·have:=yB i oM;omega
   ·have e6 : i = 6:=oM
    subst e6
    have:=Hi.2.1.2
    have e : (10 : Int) ^ 6 = 1000000:=by decide
    omega
  have hno : aQ s top = if s = bi n ∧ n ≤ top then some n else none:=by unfold aQ;rw [if_pos oM,← hd]
  repeat' (first | refine jR ?_ | (refine jo ?_;first | refine aP F ?_ | refine aE F ?_ | refine ae F F F (fU oM) F ?_) | refine ff F F (fun _=>?_) (fun _=>?_) | refine ad F (aH oM) ?_)
  ·rename_i hs
   refine jY (vs:=[_,_]) ?_
   refine ⟨n,?_,fun m hm=>?_⟩
   ·rw [hno,gD]
    by_cases ht : n ≤ top
    ·rw [if_pos ⟨hs,ht⟩,decide_eq_true ht];rfl
    ·rw [if_neg (fun h=>ht h.2),decide_eq_false ht];rfl
   ·rw [hno] at hm
    split at hm
    ·exact Option.some.inj hm
    ·cases hm
  ·rename_i hs
   refine jY (vs:=[_,_]) ?_
   refine ⟨n,by rw [hno,if_neg (fun h=>hs h.1)];rfl,fun m hm=>?_⟩
   rw [hno,if_neg (fun h=>hs h.1)] at hm;cases hm
def cd (k s : ael) : Bool :=
 if k = [110] then (aQ s 999999).isSome && decide (s ≠ [48])
 else if k = [116] then ec s && decide (s ≠ [39,39])
 else if k = [102] then decide (s = [121,101,115])
 else false
theorem xQ {k s : ael} (h : s.length ≤ 100000000) : a7 aek 177 [S k,S s] G (· = Bo (cd k s)):=by
 by_cases h1 : k = [110]
 ·have e : cd k s = ((aQ s 999999).isSome && decide (s ≠ [48])):=by rw [cd,if_pos h1]
  rw [e]
  refine jE [(0,_),(1,_)] Tryz.func177 Tryz.ntmps177 fun B hB=>?_
  repeat' (first | refine jR ?_ | (refine jo ?_;first | refine aP F ?_ | refine aE F ?_ | (refine eE F F F (iu oM) F ?_;rintro _ ⟨n,rfl,hnum⟩)) | refine me F F (fun _=>?_) (fun _=>?_) | refine ac F (aA ‹_›) ?_)
  all_goals refine jY (vs:=[_]) ?_
  all_goals (rw [aM];simp [*])
 by_cases h2 : k = [116]
 ·have e : cd k s = (ec s && decide (s ≠ [39,39])):=by rw [cd,if_neg h1,if_pos h2]
  rw [e]
  refine jE [(0,_),(1,_)] Tryz.func177 Tryz.ntmps177 fun B hB=>?_
  repeat' (first | refine jR ?_ | (refine jo ?_;first | refine aP F ?_ | refine aE F ?_ | refine ae F F F (ij ‹_›) F ?_) | refine ff F F (fun _=>?_) (fun _=>?_) | refine ac F (aA ‹_›) ?_ | refine ad F (aH ‹_›) ?_)
  all_goals refine jY (vs:=[_]) ?_
  all_goals (rw [aM];simp [*,ec])
 by_cases h3 : k = [102]
 ·have e : cd k s = decide (s = [121,101,115]):=by rw [cd,if_neg h1,if_neg h2,if_pos h3]
  rw [e]
  refine jE [(0,_),(1,_)] Tryz.func177 Tryz.ntmps177 fun B hB=>?_
  repeat' (first | refine jR ?_ | refine ac F (aA ‹_›) ?_ | refine ad F (aH ‹_›) ?_)
  all_goals refine jY (vs:=[_]) ?_
  all_goals rfl
 ·have e : cd k s = false:=by rw [cd,if_neg h1,if_neg h2,if_neg h3]
  rw [e]
  refine jE [(0,_),(1,_)] Tryz.func177 Tryz.ntmps177 fun B hB=>?_
  repeat' (first | refine jR ?_ | refine ad F (aH ‹_›) ?_)
  all_goals refine jY (vs:=[_]) ?_
  all_goals rfl
structure Fld where
 tag : Int
 name : ael
 kind : ael
 stand : ael
deriving Inhabited
def ig (f : Fld) : List Value:=[I f.tag,S f.name,S f.kind,S f.stand]
instance : RowF ig 4:=⟨fun _=>rfl⟩
def cx (s : ael) (k : Nat) : Option Fld :=
 match a8 58 s with
 | [a,b]=>if k = 69 then
   match aQ a 200 with
   | some n=>if 1 ≤ n ∧ cW b = true then some ⟨n,b,[],[]⟩ else none
   | none=>none
  else none
 | [a,b,c]=>if k = 69 then none else
   match aQ a 200 with
   | some n=>if 1 ≤ n ∧ cW b = true then
     match a8 61 c with
     | [d]=>if b7 d = true then some ⟨n,b,d,[]⟩ else none
     | [d,e]=>if k = 82 ∧ cd d e = true then some ⟨n,b,d,e⟩ else none
     | _=>none
    else none
   | none=>none
 | _=>none
theorem pi {k : Nat} : ∀ {s acc : ael} {x : ael},x ∈ eI k acc s → x.length ≤ acc.length + s.length
 | [],acc,x,h=>by simp [eI] at h;subst h;simp
 | c :: r,acc,x,h=>by
  unfold eI at h
  split at h
  ·rcases List.mem_cons.1 h with rfl | h
   ·simp
   ·have:=pi h;simp at this ⊢;omega
  ·have:=pi h;simp at this ⊢;omega
theorem dD {k : Nat} {s x : ael} (h : x ∈ a8 k s) : x.length ≤ s.length:=by have:=pi h;simpa using this
theorem pl {k : Nat} : ∀ {s acc : ael},0 < (eI k acc s).length
 | [],acc=>by simp [eI]
 | c :: r,acc=>by
  unfold eI
  split
  ·simp
  ·exact pl
theorem eH {k : Nat} {s : ael} : 0 < (a8 k s).length:=pl
theorem jJ {k : Nat} : ∀ {s acc : ael},(eI k acc s).length ≤ s.length + 1
 | [],acc=>by simp [eI]
 | c :: r,acc=>by
  unfold eI
  split
  ·have:=jJ (k:=k) (s:=r) (acc:=[]);simp;omega
  ·have:=jJ (k:=k) (s:=r) (acc:=acc ++ [c]);simp;omega
theorem ir {k : Nat} {s : ael} : (a8 k s).length ≤ s.length + 1:=jJ
def aG (k : Nat) : ael → ael × ael × Bool
 | []=>([],[],false)
 | c :: r=>if c.toNat = k then ([],r,true) else (c :: (aG k r).1,(aG k r).2.1,(aG k r).2.2)
theorem eS (c : UInt8) (r : ael) (i : Nat) : bt (c :: r) (i + 1) = bt r i:=by simp [bt,List.getD]
theorem bH (c : UInt8) (r : ael) : bt (c :: r) 0 = c.toNat:=by simp [bt,List.getD]
theorem rb {k : Nat} : ∀ {s : ael},(∀ j,j < s.length → bt s j ≠ k) → aG k s = (s,[],false)
 | [],_=>rfl
 | c :: r,h=>by
  have h0:=h 0 (by simp)
  rw [bH] at h0
  have ih:=rb (k:=k) (s:=r) fun j hj=>by have:=h (j + 1) (by simpa using hj);rwa [eS] at this
  rw [aG,if_neg h0,ih]
theorem n4 {k : Nat} : ∀ {s : ael} {i : Nat},i < s.length → (∀ j,j < i → bt s j ≠ k) → bt s i = k → aG k s = (s.take i,s.drop (i + 1),true)
 | [],i,h,_,_=>by simp at h
 | c :: r,0,_,_,h=>by rw [bH] at h;rw [aG,if_pos h];rfl
 | c :: r,i + 1,hl,h,hi=>by
  have h0:=h 0 oM
  rw [bH] at h0
  rw [eS] at hi
  have ih:=n4 (k:=k) (s:=r) (i:=i) (by simpa using hl) (fun j hj=>by have:=h (j + 1) oM;rwa [eS] at this) hi
  rw [aG,if_neg h0,ih];rfl
structure Ty where
 sort : Nat
 name : ael
 fields : List Fld
deriving Inhabited
def fresh (f : Fld) (fs : List Fld) : Bool:=fs.all fun g=>decide (g.tag < f.tag ∧ g.name ≠ f.name)
def dv (k : Nat) : List ael → List Fld → Option (List Fld)
 | [],fs=>some fs
 | x :: xs,fs=>match cx x k with
  | none=>none
  | some f=>if fresh f fs = true then dv k xs (fs ++ [f]) else none
def eV (k : Nat) : Prop:=k = 82 ∨ k = 85 ∨ k = 69
instance (k : Nat) : Decidable (eV k):=inferInstanceAs (Decidable (_ ∨ _ ∨ _))
def dG : ael → Option Ty
 | []=>none
 | c :: r=>match aG 61 r with
  | (name,rest,true)=>if cW name = true ∧ eV c.toNat then
    if rest = [] then (if c.toNat = 82 then some ⟨82,name,[]⟩ else none)
    else match dv c.toNat (a8 44 rest) [] with
     | some fs=>if fs.length ≤ 8 then some ⟨c.toNat,name,fs⟩ else none
     | none=>none
   else none
  | _=>none
def cr : ael → Option ael
 | []=>none
 | c :: r=>if c.toNat = 64 then some (r.take (r.length - 1)) else none
def iG (ts : List Ty) (name : ael) : Option Ty:=ts.find? fun t=>decide (t.name = name)
def aZ (ts : List Ty) (k : ael) : Option Ty:=(cr k).bind (iG ts)
def e7 (t : Ty) : ael:=(t.fields.headD default).kind
def cq (ts : List Ty) : Nat → Ty → Bool
 | 0,_=>false
 | n + 1,t=>if t.sort ≠ 85 then true else match aZ ts (e7 t) with
  | none=>true
  | some u=>cq ts n u
def fu (ts : List Ty) (k : ael) : Bool:=match cr (bV k) with
 | none=>true
 | some n=>(iG ts n).isSome
def lM (ts : List Ty) (i : Nat) : Prop:=∀ k,k < i → (ab ts k).name ≠ (ab ts i).name
def jf (ts : List Ty) (t : Ty) : Prop:=t.sort = 69 ∨ ∀ j,j < t.fields.length → fu ts (ab t.fields j).kind = true
def jw (ts : List Ty) : Prop:=(∀ i,i < ts.length → lM ts i ∧ jf ts (ab ts i)) ∧ ∀ i,i < ts.length → cq ts (ts.length + 1) (ab ts i) = true
instance (ts : List Ty) (i : Nat) : Decidable (lM ts i):=inferInstanceAs (Decidable (∀ k,k < i → _))
instance (ts : List Ty) (t : Ty) : Decidable (jf ts t):=inferInstanceAs (Decidable (_ ∨ ∀ j,j < t.fields.length → _))
instance (ts : List Ty) : Decidable (jw ts):=inferInstanceAs (Decidable ((∀ i,i < ts.length → _) ∧ ∀ i,i < ts.length → _))
def cI : List ael → Option (List Ty)
 | []=>some []
 | x :: xs=>match dG x with
  | none=>none
  | some t=>(cI xs).map (t :: ·)
def a9 (s : ael) : Option (List Ty) :=
 if s.length ≤ 400 ∧ (a8 10 s).length ≤ 9 ∧ (a8 10 s).getLastD [] = [] then
  match cI (a8 10 s).dropLast with
  | some ts=>if jw ts then some ts else none
  | none=>none
 else none
structure FldW (k : Nat) (f : Fld) : Prop where
 tag : 1 ≤ f.tag ∧ f.tag ≤ 200
 name : cW f.name = true
 kind : k ≠ 69 → b7 f.kind = true
 enm : k = 69 → f.kind = [] ∧ f.stand = []
 stand : f.stand ≠ [] → k = 82 ∧ cd f.kind f.stand = true
theorem en {s : ael} {top n : Int} (h : aQ s top = some n) : n ≤ top ∧ s = bi n ∧ s.length ≤ 6:=by
 unfold aQ at h
 split at h
 ·split at h
  ·split at h
   ·rename_i h1 _ _ _ h2;simp only [Option.some.injEq] at h;subst h;exact ⟨h2.2,h2.1,h1⟩
   ·cases h
  ·cases h
 ·cases h
theorem mZ {k s : ael} (h : cd k s = true) : b7 k = true:=by
 unfold cd at h
 split at h
 ·subst_vars;decide
 ·split at h
  ·subst_vars;decide
  ·split at h
   ·subst_vars;decide
   ·cases h
theorem aaz {s : ael} {k : Nat} {f : Fld} (h : cx s k = some f) : FldW k f:=by
 unfold cx at h
 split at h
 ·split at h
  ·rename_i hk
   split at h
   ·rename_i n hn
    split at h
    ·rename_i hg
     simp only [Option.some.injEq] at h;subst h
     exact ⟨⟨hg.1,(en hn).1⟩,hg.2,fun h=>absurd hk h,fun _=>⟨F,F⟩,fun h=>absurd F h⟩
    ·cases h
   ·cases h
  ·cases h
 ·split at h
  ·cases h
  ·rename_i hk
   split at h
   ·rename_i n hn
    split at h
    ·rename_i hg
     split at h
     ·split at h
      ·rename_i hd
       simp only [Option.some.injEq] at h;subst h
       exact ⟨⟨hg.1,(en hn).1⟩,hg.2,fun _=>hd,fun h=>absurd h hk,fun h=>absurd F h⟩
      ·cases h
     ·split at h
      ·rename_i hd
       simp only [Option.some.injEq] at h;subst h
       exact ⟨⟨hg.1,(en hn).1⟩,hg.2,fun _=>mZ hd.2,fun h=>absurd h hk,fun _=>hd⟩
      ·cases h
     ·cases h
    ·cases h
   ·cases h
 ·cases h
structure TyW (t : Ty) : Prop where
 sort : eV t.sort
 name : cW t.name = true
 ne : t.sort ≠ 82 → t.fields ≠ []
 len : t.fields.length ≤ 8
 fld : ∀ f ∈ t.fields,FldW t.sort f
 asc : t.fields.Pairwise fun g f=>g.tag < f.tag ∧ g.name ≠ f.name
theorem qi {k : Nat} : ∀ {xs : List ael} {fs gs : List Fld},dv k xs fs = some gs → (∀ f ∈ fs,FldW k f) → fs.Pairwise (fun g f=>g.tag < f.tag ∧ g.name ≠ f.name) →
  (∀ f ∈ gs,FldW k f) ∧ gs.Pairwise (fun g f=>g.tag < f.tag ∧ g.name ≠ f.name) ∧ gs.length = fs.length + xs.length
 | [],fs,gs,h,h1,h2=>by
  simp only [dv,Option.some.injEq] at h;subst h;exact ⟨h1,h2,by simp⟩
 | x :: xs,fs,gs,h,h1,h2=>by
  unfold dv at h
  split at h
  ·cases h
  ·rename_i f hf
   split at h
   ·rename_i hfr
    simp only [fresh,List.all_eq_true,decide_eq_true_eq] at hfr
    have:=qi h (fun g hg=>by
     rcases List.mem_append.1 hg with hg | hg
     ·exact h1 g hg
     ·simp only [List.mem_singleton] at hg;subst hg;exact aaz hf) (List.pairwise_append.2 ⟨h2,by simp,fun a ha b hb=>by
      simp only [List.mem_singleton] at hb;subst hb;exact hfr a ha⟩)
    refine ⟨this.1,this.2.1,?_⟩
    rw [this.2.2];simp;omega
   ·cases h
theorem abh {s : ael} {t : Ty} (h : dG s = some t) : TyW t:=by
 unfold dG at h
 split at h
 ·cases h
 ·split at h
  ·split at h
   ·rename_i hn
    split at h
    ·split at h
     ·simp only [Option.some.injEq] at h;subst h
      exact ⟨.inl F,hn.1,fun h=>absurd F h,by simp,by simp,by simp⟩
     ·cases h
    ·split at h
     ·rename_i fs hfs
      split at h
      ·rename_i hl
       simp only [Option.some.injEq] at h;subst h
       have hw:=qi hfs (by simp) (by simp)
       refine ⟨hn.2,hn.1,fun _ h0=>?_,hl,hw.1,hw.2.1⟩
       have:=hw.2.2
       dsimp only at h0
       rw [h0] at this
       have:=eH (k:=44) (s:=‹ael›)
       simp at *;omega
      ·cases h
     ·cases h
   ·cases h
  ·cases h
theorem jn : ∀ {xs : List ael} {ts : List Ty},cI xs = some ts → (∀ t ∈ ts,TyW t) ∧ ts.length = xs.length
 | [],ts,h=>by simp only [cI,Option.some.injEq] at h;subst h;simp
 | x :: xs,ts,h=>by
  unfold cI at h
  split at h
  ·cases h
  ·rename_i t ht
   cases hr : cI xs with
   | none=>rw [hr] at h;cases h
   | some us =>
    rw [hr] at h
    simp only [Option.map_some,Option.some.injEq] at h;subst h
    have:=jn hr
    exact ⟨fun u hu=>by rcases List.mem_cons.1 hu with rfl | hu;exact abh ht;exact this.1 u hu,by simp [this.2]⟩
structure SchW (ts : List Ty) : Prop where
 ty : ∀ t ∈ ts,TyW t
 len : ts.length ≤ 8
 valid : jw ts
theorem dV {s : ael} {ts : List Ty} (h : a9 s = some ts) : SchW ts:=by
 unfold a9 at h
 split at h
 ·rename_i hc
  split at h
  ·rename_i us hus
   split at h
   ·rename_i hv
    simp only [Option.some.injEq] at h;subst h
    have:=jn hus
    exact ⟨this.1,by rw [this.2,List.length_dropLast];omega,hv⟩
   ·cases h
  ·cases h
 ·cases h
def ax (ts : List Ty) (k : ael) : Bool:=b7 k && fu ts k
theorem xt {ts : List Ty} {n : ael} {t : Ty} (h : iG ts n = some t) : t ∈ ts:=List.mem_of_find?_eq_some h
theorem bj {ts : List Ty} {k : ael} {t : Ty} (h : aZ ts k = some t) : t ∈ ts:=by
 unfold aZ at h
 cases hr : cr k with
 | none=>rw [hr] at h;cases h
 | some n=>rw [hr] at h;exact xt h
theorem mr (ts : List Ty) : ∀ (k : Nat) (t : Ty),cq ts k t = true → cq ts (k + 1) t = true
 | 0,t,h=>by cases h
 | k + 1,t,h=>by
  unfold cq at h ⊢
  split
  ·rfl
  ·rename_i hs
   rw [if_neg hs] at h
   cases hr : aZ ts (e7 t) with
   | none=>rfl
   | some u=>rw [hr] at h;exact mr ts k u h
def fK (ts : List Ty) (k : Nat) : Prop:=∀ t ∈ ts,cq ts (k + 1) t = cq ts k t
theorem oh {ts : List Ty} {k : Nat} (h : fK ts k) : fK ts (k + 1):=by
 intro t ht
 rw [cq,cq]
 split
 ·rfl
 ·cases hr : aZ ts (e7 t) with
  | none=>rfl
  | some u=>exact h u (bj hr)
theorem pK {ts : List Ty} {k : Nat} (h : fK ts k) : ∀ (m : Nat) (t : Ty),t ∈ ts → cq ts (k + m) t = cq ts k t:=by
 have hs : ∀ m,fK ts (k + m):=fun m=>by
  induction m with
  | zero=>exact h
  | succ m ih=>exact oh ih
 intro m t ht
 induction m with
 | zero=>rfl
 | succ m ih=>rw [← ih];exact hs m t ht
theorem ud {α : Type} {p q : α → Bool} : ∀ {l : List α},(∀ x ∈ l,p x = true → q x = true) → (∃ x ∈ l,q x = true ∧ p x = false) → l.countP p < l.countP q
 | [],_,h=>by obtain ⟨x,hx,_⟩:=h;cases hx
 | a :: l,h1,h2=>by
  have hle : ∀ l : List α,(∀ x ∈ l,p x = true → q x = true) → l.countP p ≤ l.countP q:=fun l h=>List.countP_mono_left h
  rw [List.countP_cons,List.countP_cons]
  have h3:=hle l fun x hx=>h1 x (List.mem_cons_of_mem _ hx)
  obtain ⟨x,hx,h4,h5⟩:=h2
  rcases List.mem_cons.1 hx with rfl | hx
  ·simp [h4,h5];omega
  ·have h6:=ud (fun x hx=>h1 x (List.mem_cons_of_mem _ hx)) ⟨x,hx,h4,h5⟩
   by_cases hp : p a = true
   ·simp [hp,h1 a (List.mem_cons_self ..) hp];exact h6
   ·simp [hp];split <;> omega
theorem n8 {ts : List Ty} {k : Nat} (h : ¬ fK ts k) : ts.countP (cq ts k) < ts.countP (cq ts (k + 1)):=by
 refine ud (fun x _=>mr ts k x) ?_
 unfold fK at h
 simp only [Classical.not_forall] at h
 obtain ⟨t,ht,hne⟩:=h
 refine ⟨t,ht,?_⟩
 cases h1 : cq ts k t with
 | false =>
  refine ⟨?_,F⟩
  cases h2 : cq ts (k + 1) t with
  | false=>rw [h1,h2] at hne;exact absurd F hne
  | true=>rfl
 | true=>rw [mr ts k t h1,h1] at hne;exact absurd F hne
theorem w6 (ts : List Ty) (k : Nat) : fK ts k ∨ k + 1 ≤ ts.countP (cq ts (k + 1)):=by
 induction k with
 | zero =>
  by_cases h : fK ts 0
  ·exact .inl h
  ·have:=n8 h;exact .inr oM
 | succ k ih =>
  by_cases h : fK ts (k + 1)
  ·exact .inl h
  ·have:=n8 h
   rcases ih with h3 | h3
   ·exact absurd (oh h3) h
   ·exact .inr oM
theorem aaB {ts : List Ty} {t : Ty} (hl : ts.length ≤ 8) (ht : t ∈ ts) : cq ts 9 t = cq ts (ts.length + 1) t:=by
 have hs : fK ts ts.length:=by
  rcases w6 ts ts.length with h | h
  ·exact h
  ·have:=List.countP_le_length (p:=cq ts (ts.length + 1)) (l:=ts)
   omega
 have h1:=pK hs (9 - ts.length) t ht
 have h2:=pK hs 1 t ht
 rw [show ts.length + (9 - ts.length) = 9 by omega] at h1
 rw [h1,h2]
def gq (k : Nat) (s : ael) : Int:=if (aG k s).2.2 = true then ((aG k s).1.length : Int) else -1
theorem it {k : Nat} : ∀ {s a b : ael},aG k s = (a,b,true) → ∃ c : UInt8,c.toNat = k ∧ s = a ++ c :: b
 | [],a,b,h=>by simp [aG] at h
 | c :: r,a,b,h=>by
  unfold aG at h
  split at h
  ·rename_i hc
   simp only [Prod.mk.injEq,and_true] at h
   obtain ⟨rfl,rfl⟩:=h
   exact ⟨c,hc,F⟩
  ·simp only [Prod.mk.injEq] at h
   obtain ⟨rfl,h2,h3⟩:=h
   obtain ⟨d,hd,hr⟩:=it (k:=k) (s:=r) (a:=(aG k r).1) (b:=b) (by rw [← h2,← h3])
   exact ⟨d,hd,by rw [List.cons_append,← hr]⟩
theorem fW {k : Nat} : ∀ {s : ael},(aG k s).2.2 = false → aG k s = (s,[],false)
 | [],h=>rfl
 | c :: r,h=>by
  unfold aG at h ⊢
  split at h
  ·cases h
  ·rename_i hc
   rw [if_neg hc,fW (s:=r) h]
theorem kG {k : Nat} {s : ael} : (aG k s).1.length ≤ s.length ∧ (aG k s).2.1.length ≤ s.length:=by
 cases h : (aG k s).2.2 with
 | false=>rw [fW h];simp
 | true =>
  obtain ⟨c,_,e⟩:=it (k:=k) (s:=s) (a:=(aG k s).1) (b:=(aG k s).2.1) (by rw [← h])
  have:=congrArg List.length e
  simp at this
  omega
theorem qT (s : ael) (c : UInt8) : Lib.indexByte s c = gq c.toNat s:=by
 induction s with
 | nil=>rfl
 | cons b r ih =>
  unfold Lib.indexByte
  by_cases hb : b = c
  ·subst hb;simp [gq,aG]
  ·have hb2 : ¬ b.toNat = c.toNat:=fun h=>hb (UInt8.toNat_inj.1 h)
   have hb3 : (b == c) = false:=by simpa using hb
   rw [hb3,ih]
   unfold gq
   rw [aG,if_neg hb2]
   dsimp only
   cases (aG c.toNat r).2.2 <;> simp
theorem uz {s : ael} {c : UInt8} : a7 aek 190 [S s,U8 c.toNat] G (· = I (gq c.toNat s)):=by
 have hx : ∀ w,(callFunc 197 [S s,U8 c.toNat].toArray).run aek w = .ok (.value (I (gq c.toNat s))) w:=fun w=>by
  rw [run_callFunc_extern Tryz.func197 kR kR kR (e:=Extern.BytealgIndexByte.indexByte) kR]
  have:=Lib.run_indexByteString (P:=aek) ⟨s.toArray⟩ (c.toNat : Int) w
  rw [this]
  simp only [Result.andThen]
  rw [qT]
  simp
 refine jE [(0,_),(1,_)] Tryz.func190 Tryz.ntmps190 fun B hB=>?_
 repeat' (refine jR ?_)
 refine wr F (jx (o6 F F F hx) F F ?_)
 repeat' (refine jR ?_)
 refine jY (vs:=[_]) ?_
 rfl
theorem xj (c : UInt8) : gq c.toNat [c] = 0:=by simp [gq,aG]
theorem uy {s : ael} {c : UInt8} : a7 aek 182 [S s,S [c]] G (· = I (gq c.toNat s)):=by
 have e0 : ((bt [c] (Int.toNat 0) : Nat) : Int) = c.toNat:=by rw [show Int.toNat 0 = 0 from rfl,bH]
 by_cases hs : [c] = s
 ·subst hs
  rw [xj]
  refine jE [(0,_),(1,_)] Tryz.func182 Tryz.ntmps182 fun B hB=>?_
  repeat' (first | refine jR ?_ | (refine jo ?_;refine aE F ?_) | refine aw F F F ?_ | refine ac F (aA F) ?_)
  all_goals refine jY (vs:=[_]) ?_
  all_goals rfl
 ·have cx_ib : a7 aek 190 [S s,U8 (bt [c] (Int.toNat 0))] G (· = I (gq c.toNat s)):=by rw [show (bt [c] (Int.toNat 0)) = c.toNat from bH c []];exact uz
  refine jE [(0,_),(1,_)] Tryz.func182 Tryz.ntmps182 fun B hB=>?_
  repeat' (first | refine jX ?_ | (refine jo ?_;first | refine aE F ?_ | refine ae F F F cx_ib F ?_) | refine aw F F F ?_ | refine ac F F ?_ | refine ad F (aH ‹_›) ?_)
  all_goals refine jY (vs:=[_]) ?_
  all_goals rfl
theorem vS {s : ael} {c : UInt8} : a7 aek 176 [S s,S [c]] G (· = I (gq c.toNat s)):=by
 refine jE [(0,_),(1,_)] Tryz.func176 Tryz.ntmps176 fun B hB=>?_
 repeat' (first | refine jR ?_ | (refine jo ?_;refine ae F F F uy F ?_))
 refine jY (vs:=[_]) ?_
 rfl
theorem qc (k : Nat) (s : ael) : (gq k s = -1 ∧ aG k s = (s,[],false)) ∨ ∃ i : Nat,gq k s = i ∧ i < s.length ∧ aG k s = (s.take i,s.drop (i + 1),true):=by
 cases h : (aG k s).2.2 with
 | false=>exact .inl ⟨by simp [gq,h],fW h⟩
 | true =>
  obtain ⟨c,_,e⟩:=it (k:=k) (s:=s) (a:=(aG k s).1) (b:=(aG k s).2.1) (by rw [← h])
  have h5 : aG k s = ((aG k s).1,(aG k s).2.1,true):=by rw [← h]
  have h6 : gq k s = ((aG k s).1.length : Int):=by simp [gq,h]
  generalize (aG k s).1 = a at *
  generalize (aG k s).2.1 = b at *
  refine .inr ⟨a.length,h6,?_,?_⟩
  ·have:=congrArg List.length e
   simp at this
   omega
  ·rw [h5,e];simp
theorem acD {s : ael} {c : UInt8} (h : s.length ≤ 9000000000000000000) : a7 aek 165 [S s,S [c]] G (· = Tu [S (aG c.toNat s).1,S (aG c.toNat s).2.1,Bo (aG c.toNat s).2.2]):=by
 have hix:=uy (G:=G) (s:=s) (c:=c)
 rcases qc c.toNat s with ⟨h1,h2⟩ | ⟨i,h1,h3,h2⟩
 ·rw [h2]
  have cx_ix : a7 aek 182 [S s,S [c]] G (· = I (-1)):=by rwa [h1] at hix
  refine jE [(0,_),(1,_)] Tryz.func165 Tryz.ntmps165 fun B hB=>?_
  repeat' (first | refine jR ?_ | (refine jo ?_;refine ae F F F cx_ix F ?_) | refine ad F F ?_)
  all_goals refine jY (vs:=[_,_,_]) ?_
  all_goals rfl
 ·rw [h2]
  have cx_ix : a7 aek 182 [S s,S [c]] G (· = I (i : Int)):=by rwa [h1] at hix
  have e2 : ((i : Int) + (([c] : ael).length : Nat)).toNat = i + 1:=by simp only [List.length_cons,List.length_nil];omega
  refine jE [(0,_),(1,_)] Tryz.func165 Tryz.ntmps165 fun B hB=>?_
  repeat' (first | refine jR ?_ | (refine jo ?_;refine ae F F F cx_ix F ?_) | refine ac F F ?_ | (refine an (ao (id:=3) _ (fun _ h=>h) am ?_);refine jW 0 [0,1,2,3,4,5,6,7,8,9,10,11] (aa 12 4095) ?_;refine jQ ?_))
  all_goals refine jY (vs:=[_,_,_]) ?_
  all_goals (rfl)
theorem qA {s : ael} {c : UInt8} (h : s.length ≤ 9000000000000000000) : a7 aek 130 [S s,S [c]] G (· = Tu [S (aG c.toNat s).1,S (aG c.toNat s).2.1,Bo (aG c.toNat s).2.2]):=by
 refine jE [(0,_),(1,_)] Tryz.func130 Tryz.ntmps130 fun B hB=>?_
 repeat' (first | refine jR ?_ | (refine jo ?_;refine ae F F F (acD oM) F ?_))
 all_goals refine jY (vs:=[_,_,_]) ?_
 all_goals rfl
theorem wP {s : ael} {c : UInt8} : a7 aek 166 [S s,S [c]] G (· = Bo (decide (0 ≤ gq c.toNat s))):=by
 refine jE [(0,_),(1,_)] Tryz.func166 Tryz.ntmps166 fun B hB=>?_
 repeat' (first | refine jR ?_ | (refine jo ?_;refine ae F F F vS F ?_))
 all_goals refine jY (vs:=[_]) ?_
 all_goals rfl
def fk (k : Nat) (s : ael) : Prop:=∀ c ∈ s,c.toNat ≠ k
def aR (c : UInt8) : List ael → ael
 | []=>[]
 | [x]=>x
 | x :: y :: r=>x ++ c :: aR c (y :: r)
theorem mh (c : UInt8) (x : ael) {xs : List ael} (h : xs ≠ []) : aR c (x :: xs) = x ++ c :: aR c xs:=by
 cases xs with
 | nil=>exact absurd F h
 | cons y r=>rfl
theorem k6 {c : UInt8} : ∀ {s acc : ael},fk c.toNat acc → aR c (eI c.toNat acc s) = acc ++ s ∧ ∀ x ∈ eI c.toNat acc s,fk c.toNat x
 | [],acc,h=>by simp [eI,aR];exact h
 | d :: r,acc,h=>by
  unfold eI
  split
  ·rename_i hd
   have hd : d = c:=UInt8.toNat_inj.1 hd
   subst hd
   have ih:=k6 (c:=d) (s:=r) (acc:=[]) (by intro x hx;cases hx)
   have hp : eI d.toNat [] r ≠ []:=fun e=>by have:=pl (k:=d.toNat) (s:=r) (acc:=[]);rw [e] at this;simp at this
   refine ⟨by rw [mh d acc hp,ih.1];rfl,fun x hx=>?_⟩
   rcases List.mem_cons.1 hx with rfl | hx
   ·exact h
   ·exact ih.2 x hx
  ·rename_i hd
   have ih:=k6 (c:=c) (s:=r) (acc:=acc ++ [d]) (by
    intro x hx
    rcases List.mem_append.1 hx with hx | hx
    ·exact h x hx
    ·simp only [List.mem_singleton] at hx;subst hx;exact hd)
   exact ⟨by rw [ih.1];simp,ih.2⟩
theorem mv (c : UInt8) (s : ael) : aR c (a8 c.toNat s) = s:=by have:=(k6 (c:=c) (s:=s) (acc:=[]) (by intro x hx;cases hx)).1;simpa [a8] using this
theorem aaD {c : UInt8} {s x : ael} (h : x ∈ a8 c.toNat s) : fk c.toNat x:=(k6 (c:=c) (s:=s) (acc:=[]) (by intro x hx;cases hx)).2 x h
theorem pk {k : Nat} : ∀ {s acc t : ael},fk k s → eI k acc (s ++ t) = eI k (acc ++ s) t
 | [],acc,t,_=>by simp
 | d :: r,acc,t,h=>by
  rw [List.cons_append,eI,if_neg (h d (by simp)),pk (fun c hc=>h c (by simp [hc]))];simp
theorem ql {k : Nat} {s : ael} (h : fk k s) : a8 k s = [s]:=by
 have:=pk (k:=k) (s:=s) (acc:=[]) (t:=[]) h
 simpa [a8,eI] using this
theorem ra {k : Nat} {s t : ael} {c : UInt8} (h : fk k s) (hc : c.toNat = k) : a8 k (s ++ c :: t) = s :: a8 k t:=by
 unfold a8
 rw [pk h,eI,if_pos hc];rfl
theorem mf {c : UInt8} : ∀ {xs : List ael},xs ≠ [] → (∀ x ∈ xs,fk c.toNat x) → a8 c.toNat (aR c xs) = xs
 | [],h,_=>absurd rfl h
 | [x],_,h=>ql (h x (by simp))
 | x :: y :: r,_,h=>by
  rw [aR,ra (h x (by simp)) rfl,mf (by simp) fun z hz=>h z (by simp at hz ⊢;exact .inr hz)]
theorem yT {k : Nat} {s t : ael} {c : UInt8} (h : fk k s) (hc : c.toNat = k) : aG k (s ++ c :: t) = (s,t,true):=by
 induction s with
 | nil=>rw [List.nil_append,aG,if_pos hc]
 | cons d r ih=>rw [List.cons_append,aG,if_neg (h d (by simp)),ih fun x hx=>h x (by simp [hx])]
theorem ub {k : Nat} {s : ael} (h : fk k s) : aG k s = (s,[],false):=by
 induction s with
 | nil=>rfl
 | cons d r ih=>rw [aG,if_neg (h d (by simp)),ih fun x hx=>h x (by simp [hx])]
theorem pn {k : Nat} : ∀ {s : ael},fk k (aG k s).1
 | []=>by intro c hc;cases hc
 | d :: r=>by
  unfold aG
  split
  ·intro c hc;cases hc
  ·rename_i hd
   intro c hc
   rcases List.mem_cons.1 hc with rfl | hc
   ·exact hd
   ·exact pn c hc
theorem mw {k : Nat} (s : ael) : a8 k s = if (aG k s).2.2 = true then (aG k s).1 :: a8 k (aG k s).2.1 else [s]:=by
 cases h : (aG k s).2.2 with
 | false =>
  rw [if_neg (by simp)]
  have h1:=fW h
  refine ql ?_
  have:=pn (k:=k) (s:=s)
  rwa [h1] at this
 | true =>
  rw [if_pos rfl]
  obtain ⟨c,hc,e⟩:=it (k:=k) (s:=s) (a:=(aG k s).1) (b:=(aG k s).2.1) (by rw [← h])
  conv=>{ lhs;rw [e] }
  exact ra pn hc
theorem mj {s : ael} {k : Nat} (h : cW s = true) (hk : k < 97) : fk k s:=by
 intro c hc
 simp only [cW,Bool.and_eq_true,List.all_eq_true] at h
 have:=h.1 c hc
 simp only [kZ,decide_eq_true_eq] at this
 omega
theorem t7 {n m : Int} : ∀ {s : ael},dA n s = some m → ∀ c ∈ s,48 ≤ c.toNat ∧ c.toNat ≤ 57
 | [],_,c,hc=>by cases hc
 | d :: r,h,c,hc=>by
  unfold dA at h
  split at h
  ·rename_i hd
   rcases List.mem_cons.1 hc with rfl | hc
   ·exact hd
   ·exact t7 h c hc
  ·cases h
theorem rH {s : ael} {top n : Int} (h : aQ s top = some n) : ∀ c ∈ s,48 ≤ c.toNat ∧ c.toNat ≤ 57:=by
 unfold aQ at h
 split at h
 ·split at h
  ·rename_i hd;exact t7 hd
  ·cases h
 ·cases h
theorem ns {s : ael} {top n : Int} {k : Nat} (h : aQ s top = some n) (hk : 57 < k) : fk k s:=fun c hc=>by
 have:=rH h c hc;omega
theorem xi {s : ael} (h : ec s = true) {c : UInt8} (hc : c ∈ s) : c.toNat = 39 ∨ jP c.toNat:=by
 unfold ec at h
 simp only [decide_eq_true_eq] at h
 obtain ⟨h1,h2,h3,h4⟩:=h
 obtain ⟨i,hi,rfl⟩:=List.mem_iff_getElem.1 hc
 have e : bt s i = (s[i]).toNat:=by simp [bt,List.getD,List.getElem?_eq_getElem hi]
 rw [← e]
 rcases Nat.lt_or_ge i (s.length - 1) with h5 | h5
 ·rcases h4 i h5 with h6 | h6
  ·subst h6;exact .inl h2
  ·exact .inr h6
 ·have : i = s.length - 1:=oM
  subst this;exact .inl h3
theorem og {d v : ael} {k : Nat} (h : cd d v = true) (hk : k = 58 ∨ k = 61) : fk k v:=by
 intro c hc
 unfold cd at h
 split at h
 ·simp only [Bool.and_eq_true] at h
  obtain ⟨n,hn⟩:=Option.isSome_iff_exists.1 h.1
  have:=rH hn c hc;omega
 ·split at h
  ·simp only [Bool.and_eq_true] at h
   have:=xi h.1 hc
   unfold jP at this;omega
  ·split at h
   ·simp only [decide_eq_true_eq] at h
    subst h
    simp only [List.mem_cons,List.not_mem_nil,or_false] at hc
    rcases hc with rfl | rfl | rfl <;> (rcases hk with rfl | rfl <;> decide)
   ·cases h
theorem mz : ∀ s : ael,(bV s).length ≤ s.length
 | []=>Nat.le_refl _
 | c :: r=>by
  unfold bV
  split
  ·have:=mz r;simp;omega
  ·exact Nat.le_refl _
def sg (s : ael) : ael:=s.take (s.length - (bV s).length)
def qB : ael → ael
 | []=>[]
 | c :: r=>if c.toNat = 64 then [64] else c :: r
def bs (s : ael) : ael:=qB (bV s)
def nm (s : ael) : ael:=(cr (bV s)).getD []
theorem vu {k : Nat} (hk : k = 58 ∨ k = 61) : ∀ {s : ael},fm s = true → fk k s
 | [],h=>by cases h
 | c :: r,h=>by
  unfold fm at h
  split at h
  ·rename_i hc
   intro d hd
   rcases List.mem_cons.1 hd with rfl | hd
   ·omega
   ·exact vu hk h d hd
  ·split at h
   ·rename_i hc
    simp only [Bool.and_eq_true,decide_eq_true_eq] at h
    intro d hd
    rcases List.mem_cons.1 hd with rfl | hd
    ·omega
    ·obtain ⟨i,hi,rfl⟩:=List.mem_iff_getElem.1 hd
     rcases Nat.lt_or_ge i (r.length - 1) with h5 | h5
     ·refine mj h.2 oM _ ?_
      exact List.mem_iff_getElem.2 ⟨i,by simp;omega,by simp⟩
     ·have h1 : bt (c :: r) r.length = 59:=oM
      have e : i = r.length - 1:=oM
      obtain ⟨m,hm⟩ : ∃ m,r.length = m + 1:=⟨r.length - 1,oM⟩
      rw [hm,eS] at h1
      have : bt r m = (r[m]'oM).toNat:=by simp [bt,List.getD,List.getElem?_eq_getElem (show m < r.length by omega)]
      have e2 : i = m:=oM
      subst e2
      omega
   ·simp only [Bool.and_eq_true,Bool.or_eq_true,decide_eq_true_eq] at h
    intro d hd
    obtain ⟨rfl,h⟩:=h
    simp only [List.mem_singleton] at hd
    subst hd;omega
theorem iD {k : Nat} (hk : k = 58 ∨ k = 61) {s : ael} (h : b7 s = true) : fk k s:=by
 unfold b7 at h;simp only [Bool.and_eq_true] at h;exact vu hk h.2
def nA (s : ael) (k : Nat) : Option Fld :=
 match a8 58 (aG 61 s).1 with
 | [a,b]=>if k = 69 ∧ (aG 61 s).2.2 = false then
   match aQ a 200 with
   | some n=>if 1 ≤ n ∧ cW b = true then some ⟨n,b,[],[]⟩ else none
   | none=>none
  else none
 | [a,b,c]=>if k = 69 then none else
   match aQ a 200 with
   | some n=>if (1 ≤ n ∧ cW b = true) ∧ b7 c = true ∧ ((aG 61 s).2.2 = true → k = 82 ∧ cd c (aG 61 s).2.1 = true) then some ⟨n,b,c,(aG 61 s).2.1⟩ else none
   | none=>none
 | _=>none
theorem gS {k : Nat} {a b : ael} : fk k (a ++ b) ↔ fk k a ∧ fk k b:=by
 constructor
 ·intro h;exact ⟨fun c hc=>h c (by simp [hc]),fun c hc=>h c (by simp [hc])⟩
 ·intro h c hc
  rcases List.mem_append.1 hc with hc | hc
  ·exact h.1 c hc
  ·exact h.2 c hc
theorem i6 {k : Nat} {c : UInt8} {b : ael} : fk k (c :: b) ↔ c.toNat ≠ k ∧ fk k b:=by
 constructor
 ·intro h;exact ⟨h c (by simp),fun d hd=>h d (by simp [hd])⟩
 ·intro h d hd
  rcases List.mem_cons.1 hd with rfl | hd
  ·exact h.1
  ·exact h.2 d hd
theorem wE {s : ael} {xs : List ael} (h : a8 58 s = xs) : s = aR 58 xs ∧ ∀ x ∈ xs,fk 58 x:=by
 subst h
 exact ⟨(mv 58 s).symm,fun x hx=>aaD (c:=58) hx⟩
theorem qW (s : ael) (k : Nat) : nA s k = cx s k:=by
 apply Option.ext
 intro f
 constructor
 ·intro h
  unfold nA at h
  split at h
  ·rename_i a b e
   split at h
   ·rename_i hk
    have hs:=fW hk.2
    rw [hs] at e
    unfold cx
    rw [e]
    simp only [hk.1,if_true]
    exact h
   ·cases h
  ·rename_i a b c e
   split at h
   ·cases h
   ·rename_i hk
    split at h
    ·rename_i n hn
     split at h
     ·rename_i hg
      simp only [Option.some.injEq] at h;subst h
      cases ht : (aG 61 s).2.2 with
      | false =>
       have hs:=fW ht
       rw [hs] at e ⊢
       have hc61 : a8 61 c = [c]:=ql (iD (.inr rfl) hg.2.1)
       unfold cx
       rw [e]
       simp [hk,hn,hg.1.1,hg.1.2,hc61,hg.2.1]
      | true =>
       have hst:=hg.2.2 ht
       obtain ⟨d,hd,es⟩:=it (k:=61) (s:=s) (a:=(aG 61 s).1) (b:=(aG 61 s).2.1) (by rw [← ht])
       generalize (aG 61 s).1 = hd1 at *
       generalize (aG 61 s).2.1 = v at *
       have hd : d = 61:=UInt8.toNat_inj.1 hd
       subst hd
       obtain ⟨e1,e2⟩:=wE e
       have e3 : s = aR 58 [a,b,c ++ 61 :: v]:=by rw [es,e1];simp [aR]
       have e4 : a8 58 s = [a,b,c ++ 61 :: v]:=by
        rw [e3]
        refine mf (c:=58) (by simp) fun x hx=>?_
        simp only [List.mem_cons,List.not_mem_nil,or_false] at hx
        rcases hx with rfl | rfl | rfl
        ·exact e2 _ (by simp)
        ·exact e2 _ (by simp)
        ·exact gS.2 ⟨e2 _ (by simp),i6.2 ⟨by decide,og hst.2 (.inl F)⟩⟩
       have e5 : a8 61 (c ++ 61 :: v) = [c,v]:=by
        rw [ra (k:=61) (iD (.inr rfl) hg.2.1) rfl,ql (og hst.2 (.inr rfl))]
       unfold cx
       rw [e4]
       simp [hk,hn,hg.1.1,hg.1.2,e5,hst.1,hst.2]
     ·cases h
    ·cases h
  ·cases h
 ·intro h
  unfold cx at h
  split at h
  ·rename_i a b e
   split at h
   ·rename_i hk
    split at h
    ·rename_i n hn
     split at h
     ·rename_i hg
      obtain ⟨e1,e2⟩:=wE e
      have hno : fk 61 s:=by rw [e1];simp only [aR];exact gS.2 ⟨ns hn oM,i6.2 ⟨by decide,mj hg.2 oM⟩⟩
      unfold nA
      rw [ub hno,e]
      simp only [hk,hn,hg,and_self,if_true]
      exact h
     ·cases h
    ·cases h
   ·cases h
  ·rename_i a b c e
   split at h
   ·cases h
   ·rename_i hk
    split at h
    ·rename_i n hn
     split at h
     ·rename_i hg
      obtain ⟨e1,e2⟩:=wE e
      split at h
      ·rename_i d e3
       split at h
       ·rename_i hd
        simp only [Option.some.injEq] at h;subst h
        have e4 : c = d:=by have:=mv 61 c;rw [show (61 : UInt8).toNat = 61 from rfl,e3] at this;exact this.symm
        subst e4
        have hno : fk 61 s:=by rw [e1];simp only [aR];exact gS.2 ⟨ns hn oM,i6.2 ⟨by decide,gS.2 ⟨mj hg.2 oM,i6.2 ⟨by decide,iD (.inr F) hd⟩⟩⟩⟩
        unfold nA
        rw [ub hno,e]
        simp [hk,hn,hg.1,hg.2,hd]
       ·cases h
      ·rename_i d v e3
       split at h
       ·rename_i hd
        simp only [Option.some.injEq] at h;subst h
        have e4 : c = d ++ 61 :: v:=by have:=mv 61 c;rw [show (61 : UInt8).toNat = 61 from rfl,e3] at this;exact this.symm
        subst e4
        have hkd:=mZ hd.2
        have es : s = aR 58 [a,b,d] ++ 61 :: v:=by rw [e1];simp [aR]
        have hno : fk 61 (aR 58 [a,b,d]):=by simp only [aR];exact gS.2 ⟨ns hn oM,i6.2 ⟨by decide,gS.2 ⟨mj hg.2 oM,i6.2 ⟨by decide,iD (.inr F) hkd⟩⟩⟩⟩
        have e5 : a8 58 (aR 58 [a,b,d]) = [a,b,d]:=by
         refine mf (c:=58) (by simp) fun x hx=>?_
         simp only [List.mem_cons,List.not_mem_nil,or_false] at hx
         rcases hx with rfl | rfl | rfl
         ·exact e2 _ (by simp)
         ·exact e2 _ (by simp)
         ·exact iD (.inl F) hkd
        unfold nA
        rw [es,yT (k:=61) hno rfl,e5]
        simp [hn,hg.1,hg.2,hkd,hd.1,hd.2]
       ·cases h
      ·cases h
     ·cases h
    ·cases h
  ·cases h
def tag0 (t : Ty) : Int:=(t.fields.headD default).tag
def bW (ts : List Ty) : Nat → ael → ael
 | 0,_=>[]
 | _ + 1,[]=>[]
 | n + 1,c :: r=>if c.toNat = 91 then [91,93] else if c.toNat = 63 then [45] else
   match aZ ts (c :: r) with
   | none=>gO (c :: r)
   | some t=>if t.sort = 82 then [123,125] else if t.sort = 69 then 35 :: bi (tag0 t) else 60 :: (bi (tag0 t) ++ 61 :: (bW ts n (e7 t) ++ [62]))
def pJ (ts : List Ty) (k : ael) : ael:=bW ts (ts.length + 2) k
def bT (ts : List Ty) (f : Fld) : ael:=if f.stand = [] then pJ ts f.kind else f.stand
def cm (fs : List Fld) (tag : Int) : Option Fld:=fs.find? fun f=>decide (f.tag = tag)
structure AskW (ts us : List Ty) (m : List Pr) : Prop where
 nd : m.Nodup
 mem : ∀ p ∈ m,(∃ t ∈ ts,t.name = p.1) ∧ ∃ u ∈ us,u.name = p.2
theorem AskW.nil {ts us : List Ty} : AskW ts us []:=⟨List.nodup_nil,by simp⟩
theorem tI {α : Type} [DecidableEq α] : ∀ {l l' : List α},l.Nodup → (∀ x ∈ l,x ∈ l') → l.length ≤ l'.length
 | [],_,_,_=>Nat.zero_le _
 | a :: l,l',hn,hs=>by
  rw [List.nodup_cons] at hn
  have ha:=hs a (.head _)
  have:=tI (l:=l) (l':=l'.erase a) hn.2 fun x hx=>by
   have hx':=hs x (.tail _ hx)
   exact (List.mem_erase_of_ne (fun e=>hn.1 (by rw [← e];exact hx))).2 hx'
  rw [List.length_erase_of_mem ha] at this
  have hp : 0 < l'.length:=List.length_pos_of_mem ha
  simp only [List.length_cons];omega
theorem AskW.len {ts us : List Ty} {m : List Pr} (h : AskW ts us m) : m.length ≤ ts.length * us.length:=by
 have h1 : m.length ≤ (ts.flatMap fun t=>us.map fun u=>(t.name,u.name)).length:=tI h.nd fun p hp=>by
  obtain ⟨⟨t,ht,e1⟩,u,hu,e2⟩:=h.mem p hp
  exact List.mem_flatMap.2 ⟨t,ht,List.mem_map.2 ⟨u,hu,by rw [e1,e2]⟩⟩
 have h2 : ∀ ts : List Ty,(ts.flatMap fun t=>us.map fun u=>(t.name,u.name)).length = ts.length * us.length:=fun ts=>by
  induction ts with
  | nil=>simp
  | cons t ts ih=>rw [List.flatMap_cons,List.length_append,ih,List.length_map,List.length_cons,Nat.succ_mul,Nat.add_comm]
 rw [h2] at h1;exact h1
theorem nw {ts : List Ty} {k : ael} (h : ax ts k = true) (hr : (cr (bV k)).isSome = true) : ∃ t,aZ ts (bV k) = some t:=by
 unfold ax fu at h
 unfold aZ
 cases hc : cr (bV k) with
 | none=>rw [hc] at hr;cases hr
 | some n =>
  rw [hc] at h
  simp only [Bool.and_eq_true] at h
  obtain ⟨_,h⟩:=h
  exact Option.isSome_iff_exists.1 h
inductive V where
 | nd (what : Nat) (text : ael) (tag : Int) (kids : List V)
instance : Inhabited V:=⟨.nd 0 [] 0 []⟩
def V.what : V → Nat | .nd w _ _ _=>w
def V.text : V → ael | .nd _ x _ _=>x
def V.tag : V → Int | .nd _ _ t _=>t
def V.kids : V → List V | .nd _ _ _ ks=>ks
def c7 (w : Nat) (x : ael) (t : Int) (e : Bool) (j : ael) : ael :=
 if w = 116 then 39 :: (x ++ [39]) else if w = 91 then 91 :: (j ++ [93]) else if w = 63 then (if e = true then [45] else 43 :: j)
 else if w = 61 then bi t ++ 61 :: j else if w = 82 then 123 :: (j ++ [125]) else if w = 85 then 60 :: (bi t ++ 61 :: (j ++ [62])) else if w = 69 then 35 :: bi t else x
mutual
def V.out : V → ael
 | .nd w x t ks=>c7 w x t ks.isEmpty (aR 44 (V.outs ks))
def V.outs : List V → List ael
 | []=>[]
 | v :: r=>V.out v :: V.outs r
end
mutual
def V.deep : V → Nat
 | .nd w _ _ ks=>if w = 61 then V.deeps ks else V.deeps ks + 1
def V.deeps : List V → Nat
 | []=>0
 | v :: r=>max (V.deep v) (V.deeps r)
end
def gr (w : Nat) (e : Bool) : Bool:=(decide (w = 110) || decide (w = 116) || decide (w = 102) || decide (w = 69)) || (decide (w = 63) && e)
mutual
def V.size : V → Nat
 | .nd w _ _ ks=>if gr w ks.isEmpty = true then 1 else V.sizes ks
def V.sizes : List V → Nat
 | []=>0
 | v :: r=>V.size v + V.sizes r
end
theorem V.outs_map : ∀ ks : List V,V.outs ks = ks.map V.out
 | []=>rfl
 | v :: r=>by rw [V.outs,V.outs_map r];rfl
def bn (c : UInt8) : Bool:=decide (48 ≤ c.toNat ∧ c.toNat ≤ 57)
def cP (top : Int) (s : ael) : Option (Int × ael):=(aQ (s.takeWhile bn) top).map fun n=>(n,s.dropWhile bn)
def bL (f : ael → Option (V × ael)) : Nat → ael → List V → Option (List V × ael)
 | 0,_,_=>none
 | m + 1,s,acc=>match f s with
  | none=>none
  | some (v,r)=>match r with
   | []=>none
   | c :: r'=>if c.toNat = 44 then bL f m r' (acc ++ [v]) else if c.toNat = 93 then some (acc ++ [v],r') else none
def aY (f : ael → ael → Option (V × ael)) (t : Ty) (s : ael) : Option ((Fld × V) × ael) :=
 match cP 200 s with
 | none=>none
 | some (n,r)=>match cm t.fields n with
  | none=>none
  | some d=>match r with
   | []=>none
   | c :: r'=>if c.toNat = 61 then (f d.kind r').map fun x=>((d,x.1),x.2) else none
def ck (ts : List Ty) (f : ael → ael → Option (V × ael)) (t : Ty) : Nat → Int → ael → List V → Option (List V × ael)
 | 0,_,_,_=>none
 | m + 1,last,s,acc=>match aY f t s with
  | none=>none
  | some ((d,v),r)=>if d.tag ≤ last ∨ v.out = bT ts d then none else match r with
   | []=>none
   | c :: r'=>if c.toNat = 44 then ck ts f t m d.tag r' (acc ++ [.nd 61 [] d.tag [v]]) else if c.toNat = 125 then some (acc ++ [.nd 61 [] d.tag [v]],r') else none
def bA (ts : List Ty) (f : ael → ael → Option (V × ael)) (t : Ty) : ael → Option (V × ael)
 | []=>none
 | c :: s=>if t.sort = 82 then
   (if c.toNat = 123 then (match s with
    | []=>none
    | c' :: r=>if c'.toNat = 125 then some (.nd 82 [] 0 [],r) else (ck ts f t (s.length + 1) 0 s []).map fun x=>(.nd 82 [] 0 x.1,x.2)) else none)
  else if t.sort = 69 then
   (if c.toNat = 35 then (match cP 200 s with
    | none=>none
    | some (n,r)=>if (cm t.fields n).isSome = true then some (.nd 69 [] n [],r) else none) else none)
  else if c.toNat = 60 then (match aY f t s with
    | none=>none
    | some ((d,v),r)=>match r with
     | []=>none
     | c' :: r'=>if c'.toNat = 62 then some (.nd 85 [] d.tag [v],r') else none)
   else none
def dS : ael → Option (V × ael)
 | []=>none
 | c :: s=>if c.toNat = 39 then (match aG 39 s with
   | (x,r,true)=>if ec (39 :: (x ++ [39])) = true then some (.nd 116 x 0 [],r) else none
   | _=>none) else none
def eX (s : ael) : Option (V × ael) :=
 if [121,101,115].isPrefixOf s = true then some (.nd 102 [121,101,115] 0 [],s.drop 3) else if [110,111].isPrefixOf s = true then some (.nd 102 [110,111] 0 [],s.drop 2) else none
def fO (ts : List Ty) (f : ael → ael → Option (V × ael)) : ael → ael → Option (V × ael)
 | [],_=>none
 | c :: k,s =>
  if c.toNat = 91 then (match s with
   | []=>none
   | d :: s'=>if d.toNat = 91 then (match s' with
     | []=>none
     | e :: r=>if e.toNat = 93 then some (.nd 91 [] 0 [],r) else (bL (f k) 20 s' []).map fun x=>(.nd 91 [] 0 x.1,x.2)) else none)
  else if c.toNat = 63 then (match s with
   | []=>none
   | d :: s'=>if d.toNat = 45 then some (.nd 63 [] 0 [],s') else if d.toNat = 43 then (f k s').map fun x=>(.nd 63 [] 0 [x.1],x.2) else none)
  else match aZ ts (c :: k) with
   | some t=>bA ts f t s
   | none=>if c.toNat = 110 then (cP 999999 s).map fun x=>(.nd 110 (bi x.1) 0 [],x.2) else if c.toNat = 116 then dS s else if c.toNat = 102 then eX s else none
def rd (ts : List Ty) : Nat → ael → ael → Option (V × ael)
 | 0,_,_=>none
 | n + 1,k,s=>fO ts (rd ts n) k s
def co (ts : List Ty) (k s : ael) : Option V:=if s.length ≤ 400 then (match rd ts 12 k s with
 | some (v,[])=>some v
 | _=>none) else none
theorem m8 {f g : ael → Option (V × ael)} (h : ∀ s x,f s = some x → g s = some x) : ∀ (m : Nat) (s : ael) (acc : List V) {x : List V × ael},bL f m s acc = some x → bL g m s acc = some x
 | 0,_,_,_,e=>by cases e
 | m + 1,s,acc,x,e=>by
  unfold bL at e ⊢
  cases hf : f s with
  | none=>rw [hf] at e;cases e
  | some y =>
   rw [hf] at e
   rw [h s y hf]
   obtain ⟨v,r⟩:=y
   cases r with
   | nil=>exact e
   | cons c r =>
    dsimp only at e ⊢
    split at e
    ·rename_i hc;rw [if_pos hc];exact m8 h m r _ e
    ·rename_i hc;rw [if_neg hc];exact e
theorem m9 {f g : ael → ael → Option (V × ael)} (h : ∀ k s x,f k s = some x → g k s = some x) (t : Ty) (s : ael) {x : (Fld × V) × ael} (e : aY f t s = some x) : aY g t s = some x:=by
 unfold aY at e ⊢
 cases hn : cP 200 s with
 | none=>rw [hn] at e;cases e
 | some y =>
  rw [hn] at e
  obtain ⟨n,r⟩:=y
  dsimp only at e ⊢
  cases hd : cm t.fields n with
  | none=>rw [hd] at e;cases e
  | some d =>
   rw [hd] at e
   cases r with
   | nil=>cases e
   | cons c r' =>
    dsimp only at e ⊢
    by_cases hc : c.toNat = 61
    ·rw [if_pos hc] at e ⊢
     cases hf : f d.kind r' with
     | none=>rw [hf] at e;cases e
     | some y=>rw [hf] at e;rw [h _ _ y hf];exact e
    ·rw [if_neg hc] at e;cases e
theorem oy {ts : List Ty} {f g : ael → ael → Option (V × ael)} (h : ∀ k s x,f k s = some x → g k s = some x) (t : Ty) : ∀ (m : Nat) (last : Int) (s : ael) (acc : List V) {x : List V × ael},ck ts f t m last s acc = some x → ck ts g t m last s acc = some x
 | 0,_,_,_,_,e=>by cases e
 | m + 1,last,s,acc,x,e=>by
  unfold ck at e ⊢
  cases hf : aY f t s with
  | none=>rw [hf] at e;cases e
  | some y =>
   rw [hf] at e
   rw [m9 h t s hf]
   obtain ⟨⟨d,v⟩,r⟩:=y
   dsimp only at e ⊢
   split at e
   ·cases e
   ·rename_i hd
    rw [if_neg hd]
    cases r with
    | nil=>exact e
    | cons c r =>
     dsimp only at e ⊢
     split at e
     ·rename_i hc;rw [if_pos hc];exact oy h t m _ r _ e
     ·rename_i hc;rw [if_neg hc];exact e
theorem s5 {ts : List Ty} {f g : ael → ael → Option (V × ael)} (h : ∀ k s x,f k s = some x → g k s = some x) (t : Ty) : ∀ (s : ael) {x : V × ael},bA ts f t s = some x → bA ts g t s = some x
 | [],_,e=>by cases e
 | c :: s,x,e=>by
  unfold bA at e ⊢
  dsimp only at e ⊢
  by_cases h82 : t.sort = 82
  ·rw [if_pos h82] at e ⊢
   by_cases hc : c.toNat = 123
   ·rw [if_pos hc] at e ⊢
    cases s with
    | nil=>exact e
    | cons c' r =>
     dsimp only at e ⊢
     by_cases hc' : c'.toNat = 125
     ·rw [if_pos hc'] at e ⊢;exact e
     ·rw [if_neg hc'] at e ⊢
      cases hf : ck ts f t ((c' :: r).length + 1) 0 (c' :: r) [] with
      | none=>rw [hf] at e;cases e
      | some y=>rw [hf] at e;rw [oy h t _ _ _ _ hf];exact e
   ·rw [if_neg hc] at e;cases e
  ·rw [if_neg h82] at e ⊢
   by_cases h69 : t.sort = 69
   ·rw [if_pos h69] at e ⊢;exact e
   ·rw [if_neg h69] at e ⊢
    by_cases hc : c.toNat = 60
    ·rw [if_pos hc] at e ⊢
     cases hf : aY f t s with
     | none=>rw [hf] at e;cases e
     | some y=>rw [hf] at e;rw [m9 h t s hf];exact e
    ·rw [if_neg hc] at e;cases e
theorem yx {ts : List Ty} {f g : ael → ael → Option (V × ael)} (ih : ∀ k s x,f k s = some x → g k s = some x) : ∀ (k s : ael) {x : V × ael},fO ts f k s = some x → fO ts g k s = some x
 | [],_,_,e=>by cases e
 | c :: k,s,x,e=>by
  unfold fO at e ⊢
  dsimp only at e ⊢
  by_cases h91 : c.toNat = 91
  ·rw [if_pos h91] at e ⊢
   cases s with
   | nil=>exact e
   | cons d s' =>
    dsimp only at e ⊢
    by_cases hd : d.toNat = 91
    ·rw [if_pos hd] at e ⊢
     cases s' with
     | nil=>exact e
     | cons e' r =>
      dsimp only at e ⊢
      by_cases he : e'.toNat = 93
      ·rw [if_pos he] at e ⊢;exact e
      ·rw [if_neg he] at e ⊢
       cases hf : bL (f k) 20 (e' :: r) [] with
       | none=>rw [hf] at e;cases e
       | some y=>rw [hf] at e;rw [m8 (ih k) _ _ _ hf];exact e
    ·rw [if_neg hd] at e;cases e
  ·rw [if_neg h91] at e ⊢
   by_cases h63 : c.toNat = 63
   ·rw [if_pos h63] at e ⊢
    cases s with
    | nil=>exact e
    | cons d s' =>
     dsimp only at e ⊢
     by_cases hd : d.toNat = 45
     ·rw [if_pos hd] at e ⊢;exact e
     ·rw [if_neg hd] at e ⊢
      by_cases hd2 : d.toNat = 43
      ·rw [if_pos hd2] at e ⊢
       cases hf : f k s' with
       | none=>rw [hf] at e;cases e
       | some y=>rw [hf] at e;rw [ih k s' y hf];exact e
      ·rw [if_neg hd2] at e;cases e
   ·rw [if_neg h63] at e ⊢
    cases hr : aZ ts (c :: k) with
    | none=>rw [hr] at e;exact e
    | some t=>rw [hr] at e;exact s5 ih t s e
theorem vd {ts : List Ty} : ∀ (n : Nat) (k s : ael) {x : V × ael},rd ts n k s = some x → rd ts (n + 1) k s = some x
 | 0,_,_,_,e=>by cases e
 | n + 1,k,s,_,e=>yx (fun k s _ e=>vd n k s e) k s e
theorem zB {ts : List Ty} {n m : Nat} (h : n ≤ m) {k s : ael} {x : V × ael} (e : rd ts n k s = some x) : rd ts m k s = some x:=by
  induction m with
  | zero => have : n = 0 := oM
            subst this;exact e
  | succ m ih =>
    by_cases hn : n = m + 1
    · subst hn;exact e
    · exact vd m k s (ih oM)
theorem V.deep_mem : ∀ {ks : List V} {v : V},v ∈ ks → V.deep v ≤ V.deeps ks
 | [],_,h=>by cases h
 | u :: ks,v,h=>by
  rw [V.deeps]
  rcases List.mem_cons.1 h with rfl | h
  ·exact Nat.le_max_left _ _
  ·exact Nat.le_trans (V.deep_mem h) (Nat.le_max_right _ _)
theorem V.deeps_le : ∀ {ks : List V} {n : Nat},(∀ v ∈ ks,V.deep v ≤ n) → V.deeps ks ≤ n
 | [],_,_=>by rw [V.deeps];exact Nat.zero_le _
 | u :: ks,n,h=>by
  rw [V.deeps]
  exact Nat.max_le.2 ⟨h u (.head _),V.deeps_le fun v hv=>h v (.tail _ hv)⟩
theorem eo {w : Nat} {x : ael} {t : Int} {ks : List V} (h : ¬ w = 61) : V.deep (.nd w x t ks) = V.deeps ks + 1:=by rw [V.deep,if_neg h]
theorem kE {t : Int} {v : V} : V.deep (.nd 61 [] t [v]) = V.deep v:=by rw [V.deep,if_pos rfl,V.deeps,V.deeps,Nat.max_zero]
theorem jj {f : ael → Option (V × ael)} {p : V → Prop} (h : ∀ s x,f s = some x → p x.1) : ∀ (m : Nat) (s : ael) (acc : List V) {x : List V × ael},bL f m s acc = some x → (∀ v ∈ acc,p v) → ∀ v ∈ x.1,p v
 | 0,_,_,_,e,_=>by cases e
 | m + 1,s,acc,x,e,ha=>by
  unfold bL at e
  cases hf : f s with
  | none=>rw [hf] at e;cases e
  | some y =>
   rw [hf] at e
   have hy:=h s y hf
   obtain ⟨v,r⟩:=y
   have ha' : ∀ u ∈ acc ++ [v],p u:=fun u hu=>by
    rcases List.mem_append.1 hu with hu | hu
    ·exact ha u hu
    ·simp only [List.mem_singleton] at hu;subst hu;exact hy
   cases r with
   | nil=>cases e
   | cons c r =>
    dsimp only at e
    split at e
    ·exact jj h m r _ e ha'
    ·split at e
     ·simp only [Option.some.injEq] at e;subst e;exact ha'
     ·cases e
theorem ox {f g : ael → Option (V × ael)} : ∀ (m : Nat) (s : ael) (acc : List V) {x : List V × ael},bL f m s acc = some x → (∀ s y,f s = some y → y.1 ∈ x.1 → g s = some y) → bL g m s acc = some x ∧ ∀ v ∈ acc,v ∈ x.1
 | 0,_,_,_,e,_=>by cases e
 | m + 1,s,acc,x,e,h=>by
  unfold bL at e ⊢
  cases hf : f s with
  | none=>rw [hf] at e;cases e
  | some y =>
   rw [hf] at e
   have hy:=h s y hf
   obtain ⟨v,r⟩:=y
   cases r with
   | nil=>cases e
   | cons c r =>
    dsimp only at e hy
    split at e
    ·rename_i hc
     obtain ⟨h1,h2⟩:=ox m r _ e h
     rw [hy (h2 v (by simp))]
     dsimp only
     rw [if_pos hc]
     exact ⟨h1,fun u hu=>h2 u (List.mem_append_left _ hu)⟩
    ·rename_i hc
     split at e
     ·rename_i hc2
      simp only [Option.some.injEq] at e;subst e
      rw [hy (by simp)]
      dsimp only
      rw [if_neg hc,if_pos hc2]
      exact ⟨F,fun u hu=>List.mem_append_left _ hu⟩
     ·cases e
theorem gm {f : ael → ael → Option (V × ael)} {t : Ty} {s : ael} {x : (Fld × V) × ael} (e : aY f t s = some x) : x.1.1 ∈ t.fields ∧ ∃ s',f x.1.1.kind s' = some (x.1.2,x.2):=by
 unfold aY at e
 cases hn : cP 200 s with
 | none=>rw [hn] at e;cases e
 | some y =>
  rw [hn] at e
  obtain ⟨n,r⟩:=y
  dsimp only at e
  cases hd : cm t.fields n with
  | none=>rw [hd] at e;cases e
  | some d =>
   rw [hd] at e
   cases r with
   | nil=>cases e
   | cons c r' =>
    dsimp only at e
    by_cases hc : c.toNat = 61
    ·rw [if_pos hc] at e
     cases hf : f d.kind r' with
     | none=>rw [hf] at e;cases e
     | some y =>
      rw [hf] at e
      simp only [Option.map_some,Option.some.injEq] at e
      subst e
      exact ⟨List.mem_of_find?_eq_some hd,r',hf⟩
    ·rw [if_neg hc] at e;cases e
theorem li {f g : ael → ael → Option (V × ael)} {t : Ty} {s : ael} {x : (Fld × V) × ael} (e : aY f t s = some x) (h : ∀ k s y,f k s = some y → y.1 = x.1.2 → g k s = some y) : aY g t s = some x:=by
 unfold aY at e ⊢
 cases hn : cP 200 s with
 | none=>rw [hn] at e;cases e
 | some y =>
  rw [hn] at e
  obtain ⟨n,r⟩:=y
  dsimp only at e ⊢
  cases hd : cm t.fields n with
  | none=>rw [hd] at e;cases e
  | some d =>
   rw [hd] at e
   cases r with
   | nil=>cases e
   | cons c r' =>
    dsimp only at e ⊢
    by_cases hc : c.toNat = 61
    ·rw [if_pos hc] at e ⊢
     cases hf : f d.kind r' with
     | none=>rw [hf] at e;cases e
     | some y =>
      rw [hf] at e
      simp only [Option.map_some,Option.some.injEq] at e
      subst e
      rw [h _ _ _ hf rfl];rfl
    ·rw [if_neg hc] at e;cases e
theorem pV {ts : List Ty} {f : ael → ael → Option (V × ael)} {t : Ty} {p : V → Prop} (h : ∀ k s x,f k s = some x → ∀ n,p (.nd 61 [] n [x.1])) : ∀ (m : Nat) (last : Int) (s : ael) (acc : List V) {x : List V × ael},ck ts f t m last s acc = some x → (∀ v ∈ acc,p v) → ∀ v ∈ x.1,p v
 | 0,_,_,_,_,e,_=>by cases e
 | m + 1,last,s,acc,x,e,ha=>by
  unfold ck at e
  cases hf : aY f t s with
  | none=>rw [hf] at e;cases e
  | some y =>
   rw [hf] at e
   obtain ⟨_,s',hs'⟩:=gm hf
   have hy:=h _ s' _ hs'
   obtain ⟨⟨d,v⟩,r⟩:=y
   dsimp only at e hy
   have ha' : ∀ u ∈ acc ++ [V.nd 61 [] d.tag [v]],p u:=fun u hu=>by
    rcases List.mem_append.1 hu with hu | hu
    ·exact ha u hu
    ·simp only [List.mem_singleton] at hu;subst hu;exact hy d.tag
   split at e
   ·cases e
   ·cases r with
    | nil=>cases e
    | cons c r =>
     dsimp only at e
     split at e
     ·exact pV h m _ r _ e ha'
     ·split at e
      ·simp only [Option.some.injEq] at e;subst e;exact ha'
      ·cases e
theorem pU {ts : List Ty} {f g : ael → ael → Option (V × ael)} {t : Ty} : ∀ (m : Nat) (last : Int) (s : ael) (acc : List V) {x : List V × ael},ck ts f t m last s acc = some x → (∀ k s y,f k s = some y → (∃ n,V.nd 61 [] n [y.1] ∈ x.1) → g k s = some y) → ck ts g t m last s acc = some x ∧ ∀ v ∈ acc,v ∈ x.1
 | 0,_,_,_,_,e,_=>by cases e
 | m + 1,last,s,acc,x,e,h=>by
  unfold ck at e ⊢
  cases hf : aY f t s with
  | none=>rw [hf] at e;cases e
  | some y =>
   rw [hf] at e
   obtain ⟨⟨d,v⟩,r⟩:=y
   dsimp only at e
   split at e
   ·cases e
   ·rename_i hd
    cases r with
    | nil=>cases e
    | cons c r =>
     dsimp only at e
     split at e
     ·rename_i hc
      obtain ⟨h1,h2⟩:=pU m _ r _ e h
      have hg:=li (g:=g) hf (fun k s y hy e2=>h k s y hy ⟨d.tag,by rw [e2];exact h2 _ (by simp)⟩)
      rw [hg]
      dsimp only
      rw [if_neg hd,if_pos hc]
      exact ⟨h1,fun u hu=>h2 u (List.mem_append_left _ hu)⟩
     ·rename_i hc
      split at e
      ·rename_i hc2
       simp only [Option.some.injEq] at e;subst e
       have hg:=li (g:=g) hf (fun k s y hy e2=>h k s y hy ⟨d.tag,by rw [e2];simp⟩)
       rw [hg]
       dsimp only
       rw [if_neg hd,if_neg hc,if_pos hc2]
       exact ⟨F,fun u hu=>List.mem_append_left _ hu⟩
      ·cases e
theorem ve {ts : List Ty} {f g : ael → ael → Option (V × ael)} : ∀ (k s : ael) {x : V × ael},fO ts f k s = some x → ∃ w tx tg ks,x.1 = .nd w tx tg ks ∧ ¬ w = 61 ∧ ((∀ k s y,f k s = some y → V.deep y.1 ≤ V.deeps ks → g k s = some y) → fO ts g k s = some x) ∧ ∀ n,(∀ k s y,f k s = some y → V.deep y.1 ≤ n) → V.deeps ks ≤ n
 | [],_,_,e=>by cases e
 | c :: k,s,x,e=>by
  unfold fO at e ⊢
  dsimp only at e ⊢
  have leaf : ∀ {w : Nat} {tx : ael} {tg : Int} {q : Prop},x.1 = .nd w tx tg [] → ¬ w = 61 → q → ∃ w tx tg ks,x.1 = .nd w tx tg ks ∧ ¬ w = 61 ∧ ((∀ k s y,f k s = some y → V.deep y.1 ≤ V.deeps ks → g k s = some y) → q) ∧ ∀ n,(∀ k s y,f k s = some y → V.deep y.1 ≤ n) → V.deeps ks ≤ n :=
   fun h1 h2 h3=>⟨_,_,_,[],h1,h2,fun _=>h3,fun n _=>by rw [V.deeps];exact Nat.zero_le n⟩
  by_cases h91 : c.toNat = 91
  ·simp only [if_pos h91] at e ⊢
   cases s with
   | nil=>cases e
   | cons d s' =>
    dsimp only at e ⊢
    by_cases hd : d.toNat = 91
    ·simp only [if_pos hd] at e ⊢
     cases s' with
     | nil=>cases e
     | cons e' r =>
      dsimp only at e ⊢
      by_cases he : e'.toNat = 93
      ·simp only [if_pos he] at e ⊢
       have e2:=e
       simp only [Option.some.injEq] at e2;subst e2
       exact leaf F dC F
      ·simp only [if_neg he] at e ⊢
       cases hf : bL (f k) 20 (e' :: r) [] with
       | none=>rw [hf] at e;cases e
       | some y =>
        rw [hf] at e
        simp only [Option.map_some,Option.some.injEq] at e;subst e
        refine ⟨91,[],0,y.1,F,by decide,fun h=>?_,fun n h=>?_⟩
        ·rw [(ox (g:=g k) _ _ _ hf fun s u hu hm=>h k s u hu (V.deep_mem hm)).1];rfl
        ·exact V.deeps_le fun v hv=>jj (p:=fun v=>V.deep v ≤ n) (fun s u hu=>h k s u hu) _ _ _ hf (by simp) v hv
    ·simp only [if_neg hd] at e;cases e
  ·simp only [if_neg h91] at e ⊢
   by_cases h63 : c.toNat = 63
   ·simp only [if_pos h63] at e ⊢
    cases s with
    | nil=>cases e
    | cons d s' =>
     dsimp only at e ⊢
     by_cases hd : d.toNat = 45
     ·simp only [if_pos hd] at e ⊢
      have e2:=e
      simp only [Option.some.injEq] at e2;subst e2
      exact leaf F dC F
     ·simp only [if_neg hd] at e ⊢
      by_cases hd2 : d.toNat = 43
      ·simp only [if_pos hd2] at e ⊢
       cases hf : f k s' with
       | none=>rw [hf] at e;cases e
       | some y =>
        rw [hf] at e
        simp only [Option.map_some,Option.some.injEq] at e;subst e
        refine ⟨63,[],0,[y.1],F,by decide,fun h=>?_,fun n h=>?_⟩
        ·rw [h k s' y hf (V.deep_mem (by simp))];rfl
        ·exact V.deeps_le fun v hv=>by simp only [List.mem_singleton] at hv;subst hv;exact h k s' y hf
      ·simp only [if_neg hd2] at e;cases e
   ·simp only [if_neg h63] at e ⊢
    cases hr : aZ ts (c :: k) with
    | none =>
     rw [hr] at e
     dsimp only at e ⊢
     by_cases h1 : c.toNat = 110
     ·simp only [if_pos h1] at e ⊢
      cases hn : cP 999999 s with
      | none=>rw [hn] at e;cases e
      | some y =>
       rw [hn] at e
       have e2:=e
       simp only [Option.map_some,Option.some.injEq] at e2;subst e2
       exact leaf F dC F
     ·simp only [if_neg h1] at e ⊢
      by_cases h2 : c.toNat = 116
      ·simp only [if_pos h2] at e ⊢
       refine leaf (w:=116) (tx:=x.1.text) (tg:=0) ?_ dC e
       unfold dS at e
       split at e
       ·cases e
       ·split at e
        ·split at e
         ·split at e
          ·simp only [Option.some.injEq] at e;subst e;rfl
          ·cases e
         ·cases e
        ·cases e
      ·simp only [if_neg h2] at e ⊢
       by_cases h3 : c.toNat = 102
       ·simp only [if_pos h3] at e ⊢
        refine leaf (w:=102) (tx:=x.1.text) (tg:=0) ?_ dC e
        unfold eX at e
        split at e
        ·simp only [Option.some.injEq] at e;subst e;rfl
        ·split at e
         ·simp only [Option.some.injEq] at e;subst e;rfl
         ·cases e
       ·simp only [if_neg h3] at e;cases e
    | some t =>
     rw [hr] at e
     dsimp only at e ⊢
     unfold bA at e ⊢
     cases s with
     | nil=>cases e
     | cons d s =>
      dsimp only at e ⊢
      by_cases h82 : t.sort = 82
      ·simp only [if_pos h82] at e ⊢
       by_cases hd : d.toNat = 123
       ·simp only [if_pos hd] at e ⊢
        cases s with
        | nil=>cases e
        | cons d' r =>
         dsimp only at e ⊢
         by_cases hd' : d'.toNat = 125
         ·simp only [if_pos hd'] at e ⊢
          have e2:=e
          simp only [Option.some.injEq] at e2;subst e2
          exact leaf F dC F
         ·simp only [if_neg hd'] at e ⊢
          cases hf : ck ts f t ((d' :: r).length + 1) 0 (d' :: r) [] with
          | none=>rw [hf] at e;cases e
          | some y =>
           rw [hf] at e
           simp only [Option.map_some,Option.some.injEq] at e;subst e
           refine ⟨82,[],0,y.1,F,by decide,fun h=>?_,fun n h=>?_⟩
           ·rw [(pU (g:=g) _ _ _ _ hf fun k s u hu hm=>h k s u hu (by obtain ⟨n,hm⟩:=hm;have:=V.deep_mem hm;rwa [kE] at this)).1];rfl
           ·exact V.deeps_le fun v hv=>pV (p:=fun v=>V.deep v ≤ n) (fun k s u hu m=>by rw [kE];exact h k s u hu) _ _ _ _ hf (by simp) v hv
       ·simp only [if_neg hd] at e;cases e
      ·simp only [if_neg h82] at e ⊢
       by_cases h69 : t.sort = 69
       ·simp only [if_pos h69] at e ⊢
        refine leaf (w:=69) (tx:=[]) (tg:=x.1.tag) ?_ dC e
        split at e
        ·split at e
         ·cases e
         ·split at e
          ·simp only [Option.some.injEq] at e;subst e;rfl
          ·cases e
        ·cases e
       ·simp only [if_neg h69] at e ⊢
        by_cases hd : d.toNat = 60
        ·simp only [if_pos hd] at e ⊢
         cases hf : aY f t s with
         | none=>rw [hf] at e;cases e
         | some y =>
          rw [hf] at e
          obtain ⟨⟨fd,v⟩,r⟩:=y
          cases r with
          | nil=>cases e
          | cons c' r =>
           dsimp only at e
           by_cases hc' : c'.toNat = 62
           ·simp only [if_pos hc',Option.some.injEq] at e;subst e
            refine ⟨85,[],fd.tag,[v],F,by decide,fun h=>?_,fun n h=>?_⟩
            ·rw [li (g:=g) hf fun k s u hu e2=>h k s u hu (by rw [e2];exact V.deep_mem (by simp))]
             dsimp only
             rw [if_pos hc']
            ·obtain ⟨_,s',hs'⟩:=gm hf
             exact V.deeps_le fun u hu=>by simp only [List.mem_singleton] at hu;subst hu;exact h _ _ _ hs'
           ·simp only [if_neg hc'] at e;cases e
        ·simp only [if_neg hd] at e;cases e
theorem j5 {ts : List Ty} : ∀ (n : Nat) (k s : ael) (x : V × ael),rd ts n k s = some x → V.deep x.1 ≤ n
 | 0,_,_,_,e=>by cases e
 | n + 1,k,s,x,e=>by
  obtain ⟨w,tx,tg,ks,h1,h2,_,h4⟩:=ve (g:=rd ts n) k s e
  rw [h1,eo h2]
  have:=h4 n fun k s y hy=>j5 n k s y hy
  omega
theorem zC {ts : List Ty} : ∀ (n m : Nat) (k s : ael) (x : V × ael),rd ts n k s = some x → V.deep x.1 ≤ m → rd ts m k s = some x
 | 0,_,_,_,_,e,_=>by cases e
 | n + 1,m,k,s,x,e,hm=>by
  obtain ⟨w,tx,tg,ks,h1,h2,h3,_⟩:=ve (g:=rd ts (m - 1)) k s e
  rw [h1,eo h2] at hm
  obtain ⟨m,rfl⟩ : ∃ j,m = j + 1:=⟨m - 1,oM⟩
  exact h3 fun k s y hy hd=>zC n m k s y hy oM
theorem bY {c : UInt8} {n : Nat} (h : c.toNat = n) (hn : n < 256) : c = UInt8.ofNat n:=by
 apply UInt8.toNat_inj.1;rw [h,UInt8.toNat_ofNat'];omega
theorem kU {top : Int} {s r : ael} {n : Int} (h : cP top s = some (n,r)) : s = bi n ++ r:=by
 unfold cP at h
 cases hn : aQ (s.takeWhile bn) top with
 | none=>rw [hn] at h;cases h
 | some q =>
  rw [hn] at h
  simp only [Option.map_some,Option.some.injEq,Prod.mk.injEq] at h
  obtain ⟨rfl,rfl⟩:=h
  rw [← (en hn).2.1,List.takeWhile_append_dropWhile]
theorem ou {f : ael → Option (V × ael)} (h : ∀ s y,f s = some y → s = y.1.out ++ y.2) : ∀ (m : Nat) (s : ael) (acc : List V) {x : List V × ael},bL f m s acc = some x → ∃ vs,vs ≠ [] ∧ x.1 = acc ++ vs ∧ s = aR 44 (vs.map V.out) ++ 93 :: x.2
 | 0,_,_,_,e=>by cases e
 | m + 1,s,acc,x,e=>by
  unfold bL at e
  cases hf : f s with
  | none=>rw [hf] at e;cases e
  | some y =>
   rw [hf] at e
   have hy:=h s y hf
   obtain ⟨v,r⟩:=y
   cases r with
   | nil=>cases e
   | cons c r =>
    dsimp only at e hy
    split at e
    ·rename_i hc
     obtain ⟨vs,h1,h2,h3⟩:=ou h m r _ e
     have hc2:=bY hc dC
     refine ⟨v :: vs,by simp,by rw [h2];simp,?_⟩
     rw [hy,h3,List.map_cons,mh _ _ (by simpa using h1),hc2]
     simp
    ·split at e
     ·rename_i hc2
      have hc3:=bY hc2 dC
      simp only [Option.some.injEq] at e;subst e
      exact ⟨[v],by simp,F,by rw [hy,hc3];rfl⟩
     ·cases e
theorem gn {t : Int} {v : V} : V.out (.nd 61 [] t [v]) = bi t ++ 61 :: v.out:=by
 rw [V.out,V.outs,V.outs];simp [c7,aR]
theorem oA {f : ael → ael → Option (V × ael)} (h : ∀ k s y,f k s = some y → s = y.1.out ++ y.2) {t : Ty} {s : ael} {x : (Fld × V) × ael} (e : aY f t s = some x) : s = bi x.1.1.tag ++ 61 :: (x.1.2.out ++ x.2):=by
 unfold aY at e
 cases hn : cP 200 s with
 | none=>rw [hn] at e;cases e
 | some y =>
  rw [hn] at e
  obtain ⟨n,r⟩:=y
  have h1:=kU hn
  dsimp only at e
  cases hd : cm t.fields n with
  | none=>rw [hd] at e;cases e
  | some d =>
   rw [hd] at e
   have h2 : d.tag = n:=by have:=List.find?_some hd;simpa using this
   cases r with
   | nil=>cases e
   | cons c r' =>
    dsimp only at e
    by_cases hc : c.toNat = 61
    ·rw [if_pos hc] at e
     cases hf : f d.kind r' with
     | none=>rw [hf] at e;cases e
     | some y =>
      rw [hf] at e
      simp only [Option.map_some,Option.some.injEq] at e
      subst e
      have h3:=h _ _ _ hf
      dsimp only
      rw [h1,h2,h3,bY hc dC];rfl
    ·rw [if_neg hc] at e;cases e
theorem pT {ts : List Ty} {f : ael → ael → Option (V × ael)} (h : ∀ k s y,f k s = some y → s = y.1.out ++ y.2) {t : Ty} : ∀ (m : Nat) (last : Int) (s : ael) (acc : List V) {x : List V × ael},ck ts f t m last s acc = some x → ∃ vs,vs ≠ [] ∧ x.1 = acc ++ vs ∧ s = aR 44 (vs.map V.out) ++ 125 :: x.2
 | 0,_,_,_,_,e=>by cases e
 | m + 1,last,s,acc,x,e=>by
  unfold ck at e
  cases hf : aY f t s with
  | none=>rw [hf] at e;cases e
  | some y =>
   rw [hf] at e
   have hy:=oA h hf
   obtain ⟨⟨d,v⟩,r⟩:=y
   dsimp only at e hy
   split at e
   ·cases e
   ·cases r with
    | nil=>cases e
    | cons c r =>
     dsimp only at e
     split at e
     ·rename_i hc
      obtain ⟨vs,h1,h2,h3⟩:=pT h m _ r _ e
      have hc2:=bY hc dC
      refine ⟨V.nd 61 [] d.tag [v] :: vs,by simp,by rw [h2];simp,?_⟩
      rw [hy,h3,List.map_cons,mh _ _ (by simpa using h1),hc2,gn]
      simp
     ·split at e
      ·rename_i hc2
       have hc3:=bY hc2 dC
       simp only [Option.some.injEq] at e;subst e
       exact ⟨[V.nd 61 [] d.tag [v]],by simp,F,by rw [hy,hc3];simp [aR,gn]⟩
      ·cases e
theorem r7 {k : Nat} {c : UInt8} (hc : c.toNat = k) : ∀ {s x r : ael},aG k s = (x,r,true) → s = x ++ c :: r
 | [],_,_,h=>by cases h
 | d :: s,x,r,h=>by
  unfold aG at h
  split at h
  ·rename_i hd
   simp only [Prod.mk.injEq,and_true] at h
   obtain ⟨rfl,rfl⟩:=h
   have : d = c:=UInt8.toNat_inj.1 (by rw [hd,hc])
   rw [this];rfl
  ·simp only [Prod.mk.injEq] at h
   obtain ⟨h1,h2,h3⟩:=h
   have ih:=r7 hc (s:=s) (x:=(aG k s).1) (r:=(aG k s).2.1) (by rw [← h3])
   rw [← h1,← h2,List.cons_append,← ih]
theorem qR {p s : ael} (h : p.isPrefixOf s = true) : s = p ++ s.drop p.length:=by
 rw [List.isPrefixOf_iff_prefix] at h
 obtain ⟨t,rfl⟩:=h
 simp
theorem oo {s : ael} {x : V × ael} (e : dS s = some x) : s = x.1.out ++ x.2:=by
 unfold dS at e
 cases s with
 | nil=>cases e
 | cons c s =>
  dsimp only at e
  by_cases hc : c.toNat = 39
  ·rw [if_pos hc] at e
   rcases hq : aG 39 s with ⟨y,r,b⟩
   rw [hq] at e
   cases b with
   | false=>cases e
   | true =>
    dsimp only at e
    split at e
    ·simp only [Option.some.injEq] at e;subst e
     have h1:=r7 (c:=39) rfl hq
     rw [h1,bY hc dC]
     simp [V.out,c7]
    ·cases e
  ·rw [if_neg hc] at e;cases e
theorem pW {s : ael} {x : V × ael} (e : eX s = some x) : s = x.1.out ++ x.2:=by
 unfold eX at e
 split at e
 ·rename_i h
  simp only [Option.some.injEq] at e;subst e
  have:=qR h
  simpa [V.out,c7] using this
 ·split at e
  ·rename_i h
   simp only [Option.some.injEq] at e;subst e
   have:=qR h
   simpa [V.out,c7] using this
  ·cases e
theorem oZ {ks : List V} {r : ael} : V.out (.nd 91 [] 0 ks) ++ r = 91 :: (aR 44 (ks.map V.out) ++ 93 :: r):=by
 rw [V.out,V.outs_map];simp [c7]
theorem qS {ks : List V} {r : ael} : V.out (.nd 82 [] 0 ks) ++ r = 123 :: (aR 44 (ks.map V.out) ++ 125 :: r):=by
 rw [V.out,V.outs_map];simp [c7]
theorem vo {v : V} {r : ael} : V.out (.nd 63 [] 0 [v]) ++ r = 43 :: (v.out ++ r):=by
 rw [V.out,V.outs_map];simp [c7,aR]
theorem nX {v : V} {n : Int} {r : ael} : V.out (.nd 85 [] n [v]) ++ r = 60 :: (bi n ++ 61 :: (v.out ++ 62 :: r)):=by
 rw [V.out,V.outs_map];simp [c7,aR]
theorem aad {ts : List Ty} {f : ael → ael → Option (V × ael)} (h : ∀ k s y,f k s = some y → s = y.1.out ++ y.2) : ∀ (k s : ael) {x : V × ael},fO ts f k s = some x → s = x.1.out ++ x.2
 | [],_,_,e=>by cases e
 | c :: k,s,x,e=>by
  unfold fO at e
  dsimp only at e
  by_cases h91 : c.toNat = 91
  ·simp only [if_pos h91] at e
   cases s with
   | nil=>cases e
   | cons d s' =>
    dsimp only at e
    by_cases hd : d.toNat = 91
    ·simp only [if_pos hd] at e
     cases s' with
     | nil=>cases e
     | cons e' r =>
      dsimp only at e
      by_cases he : e'.toNat = 93
      ·simp only [if_pos he,Option.some.injEq] at e;subst e
       rw [oZ,bY hd dC,bY he dC];rfl
      ·simp only [if_neg he] at e
       cases hf : bL (f k) 20 (e' :: r) [] with
       | none=>rw [hf] at e;cases e
       | some y =>
        rw [hf] at e
        simp only [Option.map_some,Option.some.injEq] at e;subst e
        obtain ⟨vs,_,h2,h3⟩:=ou (h k) _ _ _ hf
        rw [oZ,h2,h3,bY hd dC];rfl
    ·simp only [if_neg hd] at e;cases e
  ·simp only [if_neg h91] at e
   by_cases h63 : c.toNat = 63
   ·simp only [if_pos h63] at e
    cases s with
    | nil=>cases e
    | cons d s' =>
     dsimp only at e
     by_cases hd : d.toNat = 45
     ·simp only [if_pos hd,Option.some.injEq] at e;subst e
      rw [bY hd dC];simp [V.out,c7]
     ·simp only [if_neg hd] at e
      by_cases hd2 : d.toNat = 43
      ·simp only [if_pos hd2] at e
       cases hf : f k s' with
       | none=>rw [hf] at e;cases e
       | some y =>
        rw [hf] at e
        simp only [Option.map_some,Option.some.injEq] at e;subst e
        rw [vo,← h k s' y hf,bY hd2 dC];rfl
      ·simp only [if_neg hd2] at e;cases e
   ·simp only [if_neg h63] at e
    cases hr : aZ ts (c :: k) with
    | none =>
     rw [hr] at e
     dsimp only at e
     by_cases h1 : c.toNat = 110
     ·simp only [if_pos h1] at e
      cases hn : cP 999999 s with
      | none=>rw [hn] at e;cases e
      | some y =>
       rw [hn] at e
       simp only [Option.map_some,Option.some.injEq] at e;subst e
       rw [kU hn];simp [V.out,c7]
     ·simp only [if_neg h1] at e
      by_cases h2 : c.toNat = 116
      ·simp only [if_pos h2] at e;exact oo e
      ·simp only [if_neg h2] at e
       by_cases h3 : c.toNat = 102
       ·simp only [if_pos h3] at e;exact pW e
       ·simp only [if_neg h3] at e;cases e
    | some t =>
     rw [hr] at e
     dsimp only at e
     unfold bA at e
     cases s with
     | nil=>cases e
     | cons d s =>
      dsimp only at e
      by_cases h82 : t.sort = 82
      ·simp only [if_pos h82] at e
       by_cases hd : d.toNat = 123
       ·simp only [if_pos hd] at e
        cases s with
        | nil=>cases e
        | cons d' r =>
         dsimp only at e
         by_cases hd' : d'.toNat = 125
         ·simp only [if_pos hd',Option.some.injEq] at e;subst e
          rw [qS,bY hd dC,bY hd' dC];rfl
         ·simp only [if_neg hd'] at e
          cases hf : ck ts f t ((d' :: r).length + 1) 0 (d' :: r) [] with
          | none=>rw [hf] at e;cases e
          | some y =>
           rw [hf] at e
           simp only [Option.map_some,Option.some.injEq] at e;subst e
           obtain ⟨vs,_,h2,h3⟩:=pT h _ _ _ _ hf
           rw [qS,h2,h3,bY hd dC];rfl
       ·simp only [if_neg hd] at e;cases e
      ·simp only [if_neg h82] at e
       by_cases h69 : t.sort = 69
       ·simp only [if_pos h69] at e
        by_cases hd : d.toNat = 35
        ·simp only [if_pos hd] at e
         cases hn : cP 200 s with
         | none=>rw [hn] at e;cases e
         | some y =>
          rw [hn] at e
          obtain ⟨n,r⟩:=y
          dsimp only at e
          split at e
          ·simp only [Option.some.injEq] at e;subst e
           rw [kU hn,bY hd dC];simp [V.out,c7]
          ·cases e
        ·simp only [if_neg hd] at e;cases e
       ·simp only [if_neg h69] at e
        by_cases hd : d.toNat = 60
        ·simp only [if_pos hd] at e
         cases hf : aY f t s with
         | none=>rw [hf] at e;cases e
         | some y =>
          rw [hf] at e
          have h3:=oA h hf
          obtain ⟨⟨fd,v⟩,r⟩:=y
          cases r with
          | nil=>cases e
          | cons c' r =>
           dsimp only at e h3
           by_cases hc' : c'.toNat = 62
           ·simp only [if_pos hc',Option.some.injEq] at e;subst e
            rw [nX,h3,bY hd dC,bY hc' dC];rfl
           ·simp only [if_neg hc'] at e;cases e
        ·simp only [if_neg hd] at e;cases e
theorem pP {ts : List Ty} : ∀ (n : Nat) (k s : ael) (x : V × ael),rd ts n k s = some x → s = x.1.out ++ x.2
 | 0,_,_,_,e=>by cases e
 | n + 1,k,s,x,e=>aad (fun k s y hy=>pP n k s y hy) k s e
theorem eA {ts : List Ty} {k s : ael} {v : V} (h : co ts k s = some v) : v.out = s ∧ s.length ≤ 400 ∧ V.deep v ≤ 12:=by
 unfold co at h
 split at h
 ·rename_i hl
  split at h
  ·rename_i w hw
   simp only [Option.some.injEq] at h;subst h
   have h1:=pP _ _ _ _ hw
   have h2:=j5 _ _ _ _ hw
   simp only [List.append_nil] at h1
   exact ⟨h1.symm,hl,h2⟩
  ·cases h
 ·cases h
inductive RdK (ts : List Ty) (f : ael → ael → Option (V × ael)) : ael → ael → V → ael → Prop
 | lst0 (k r : ael) : RdK ts f (91 :: k) (91 :: 93 :: r) (.nd 91 [] 0 []) r
 | lst (k s r : ael) (vs : List V) : bL (f k) 20 s [] = some (vs,r) → RdK ts f (91 :: k) (91 :: s) (.nd 91 [] 0 vs) r
 | non (k r : ael) : RdK ts f (63 :: k) (45 :: r) (.nd 63 [] 0 []) r
 | opt (k s r : ael) (v : V) : f k s = some (v,r) → RdK ts f (63 :: k) (43 :: s) (.nd 63 [] 0 [v]) r
 | num (k s r : ael) (n : Int) : aZ ts (110 :: k) = none → cP 999999 s = some (n,r) → RdK ts f (110 :: k) s (.nd 110 (bi n) 0 []) r
 | txt (k s r : ael) (v : V) : aZ ts (116 :: k) = none → dS s = some (v,r) → RdK ts f (116 :: k) s v r
 | flg (k s r : ael) (v : V) : aZ ts (102 :: k) = none → eX s = some (v,r) → RdK ts f (102 :: k) s v r
 | recd0 (k r : ael) (t : Ty) : aZ ts k = some t → t.sort = 82 → RdK ts f k (123 :: 125 :: r) (.nd 82 [] 0 []) r
 | recd (k s r : ael) (t : Ty) (vs : List V) : aZ ts k = some t → t.sort = 82 → ck ts f t (s.length + 1) 0 s [] = some (vs,r) → RdK ts f k (123 :: s) (.nd 82 [] 0 vs) r
 | enm (k s r : ael) (t : Ty) (n : Int) : aZ ts k = some t → t.sort = 69 → cP 200 s = some (n,r) → (cm t.fields n).isSome = true → RdK ts f k (35 :: s) (.nd 69 [] n []) r
 | uni (k s r : ael) (t : Ty) (d : Fld) (v : V) : aZ ts k = some t → t.sort ≠ 82 → t.sort ≠ 69 → aY f t s = some ((d,v),62 :: r) → RdK ts f k (60 :: s) (.nd 85 [] d.tag [v]) r
theorem qP {ts : List Ty} {f : ael → ael → Option (V × ael)} : ∀ (k s : ael) {x : V × ael},fO ts f k s = some x → RdK ts f k s x.1 x.2
 | [],_,_,e=>by cases e
 | c :: k,s,x,e=>by
  unfold fO at e
  dsimp only at e
  by_cases h91 : c.toNat = 91
  ·simp only [if_pos h91] at e
   obtain rfl:=bY h91 dC
   cases s with
   | nil=>cases e
   | cons d s' =>
    dsimp only at e
    by_cases hd : d.toNat = 91
    ·simp only [if_pos hd] at e
     obtain rfl:=bY hd dC
     cases s' with
     | nil=>cases e
     | cons e' r =>
      dsimp only at e
      by_cases he : e'.toNat = 93
      ·simp only [if_pos he,Option.some.injEq] at e;subst e
       obtain rfl:=bY he dC
       exact .lst0 _ _
      ·simp only [if_neg he] at e
       cases hf : bL (f k) 20 (e' :: r) [] with
       | none=>rw [hf] at e;cases e
       | some y =>
        rw [hf] at e
        simp only [Option.map_some,Option.some.injEq] at e;subst e
        exact .lst _ _ _ _ hf
    ·simp only [if_neg hd] at e;cases e
  ·simp only [if_neg h91] at e
   by_cases h63 : c.toNat = 63
   ·simp only [if_pos h63] at e
    obtain rfl:=bY h63 dC
    cases s with
    | nil=>cases e
    | cons d s' =>
     dsimp only at e
     by_cases hd : d.toNat = 45
     ·simp only [if_pos hd,Option.some.injEq] at e;subst e
      obtain rfl:=bY hd dC
      exact .non _ _
     ·simp only [if_neg hd] at e
      by_cases hd2 : d.toNat = 43
      ·simp only [if_pos hd2] at e
       obtain rfl:=bY hd2 dC
       cases hf : f k s' with
       | none=>rw [hf] at e;cases e
       | some y =>
        rw [hf] at e
        simp only [Option.map_some,Option.some.injEq] at e;subst e
        exact .opt _ _ _ _ hf
      ·simp only [if_neg hd2] at e;cases e
   ·simp only [if_neg h63] at e
    cases hr : aZ ts (c :: k) with
    | none =>
     rw [hr] at e
     dsimp only at e
     by_cases h1 : c.toNat = 110
     ·simp only [if_pos h1] at e
      obtain rfl:=bY h1 dC
      cases hn : cP 999999 s with
      | none=>rw [hn] at e;cases e
      | some y =>
       rw [hn] at e
       simp only [Option.map_some,Option.some.injEq] at e;subst e
       exact .num _ _ _ _ hr hn
     ·simp only [if_neg h1] at e
      by_cases h2 : c.toNat = 116
      ·simp only [if_pos h2] at e
       obtain rfl:=bY h2 dC
       exact .txt _ _ _ _ hr e
      ·simp only [if_neg h2] at e
       by_cases h3 : c.toNat = 102
       ·simp only [if_pos h3] at e
        obtain rfl:=bY h3 dC
        exact .flg _ _ _ _ hr e
       ·simp only [if_neg h3] at e;cases e
    | some t =>
     rw [hr] at e
     dsimp only at e
     unfold bA at e
     cases s with
     | nil=>cases e
     | cons d s =>
      dsimp only at e
      by_cases h82 : t.sort = 82
      ·simp only [if_pos h82] at e
       by_cases hd : d.toNat = 123
       ·simp only [if_pos hd] at e
        obtain rfl:=bY hd dC
        cases s with
        | nil=>cases e
        | cons d' r =>
         dsimp only at e
         by_cases hd' : d'.toNat = 125
         ·simp only [if_pos hd',Option.some.injEq] at e;subst e
          obtain rfl:=bY hd' dC
          exact .recd0 _ _ t hr h82
         ·simp only [if_neg hd'] at e
          cases hf : ck ts f t ((d' :: r).length + 1) 0 (d' :: r) [] with
          | none=>rw [hf] at e;cases e
          | some y =>
           rw [hf] at e
           simp only [Option.map_some,Option.some.injEq] at e;subst e
           exact .recd _ _ _ t _ hr h82 hf
       ·simp only [if_neg hd] at e;cases e
      ·simp only [if_neg h82] at e
       by_cases h69 : t.sort = 69
       ·simp only [if_pos h69] at e
        by_cases hd : d.toNat = 35
        ·simp only [if_pos hd] at e
         obtain rfl:=bY hd dC
         cases hn : cP 200 s with
         | none=>rw [hn] at e;cases e
         | some y =>
          rw [hn] at e
          obtain ⟨n,r⟩:=y
          dsimp only at e
          split at e
          ·rename_i hs
           simp only [Option.some.injEq] at e;subst e
           exact .enm _ _ _ t _ hr h69 hn hs
          ·cases e
        ·simp only [if_neg hd] at e;cases e
       ·simp only [if_neg h69] at e
        by_cases hd : d.toNat = 60
        ·simp only [if_pos hd] at e
         obtain rfl:=bY hd dC
         cases hf : aY f t s with
         | none=>rw [hf] at e;cases e
         | some y =>
          rw [hf] at e
          obtain ⟨⟨fd,v⟩,r⟩:=y
          cases r with
          | nil=>cases e
          | cons c' r =>
           dsimp only at e
           by_cases hc' : c'.toNat = 62
           ·simp only [if_pos hc',Option.some.injEq] at e;subst e
            obtain rfl:=bY hc' dC
            exact .uni _ _ _ t _ _ hr h82 h69 hf
           ·simp only [if_neg hc'] at e;cases e
        ·simp only [if_neg hd] at e;cases e
mutual
def V.tot : V → Nat
 | .nd _ x _ ks=>20 + x.length + V.tots ks
def V.tots : List V → Nat
 | []=>0
 | v :: r=>V.tot v + V.tots r
end
theorem fI : ∀ (a b : List V),V.tots (a ++ b) = V.tots a + V.tots b
 | [],b=>by simp [V.tots]
 | v :: a,b=>by simp only [List.cons_append,V.tots,fI a b];omega
theorem iT (v : V) : 20 ≤ v.tot:=by obtain ⟨w,x,t,ks⟩:=v;rw [V.tot];omega
theorem oO : ∀ {ks : List V} {v : V},v ∈ ks → V.tot v ≤ V.tots ks
 | u :: ks,v,h=>by
  rw [V.tots]
  rcases List.mem_cons.1 h with rfl | h
  ·omega
  ·have:=oO h;omega
theorem dq : ∀ (ks : List V),20 * ks.length ≤ V.tots ks
 | []=>by simp [V.tots]
 | u :: ks=>by rw [V.tots,List.length_cons];have:=dq ks;have:=iT u;omega
theorem gH (n : Int) : 1 ≤ (bi n).length:=by
 by_cases h : n < 10
 ·by_cases h0 : 0 ≤ n
  ·rw [er h h0];simp
  ·have : n.toNat = (0 : Int).toNat:=oM
   have e : bi n = bi 0:=by unfold bi;rw [this]
   rw [e,er dC dC];simp
 ·rw [kl h];simp
theorem m6 {top : Int} {s r : ael} {n : Int} (h : cP top s = some (n,r)) : (bi n).length + r.length = s.length ∧ 1 ≤ (bi n).length:=by
 have:=kU h
 exact ⟨by rw [this];simp,gH n⟩
theorem ot {f : ael → Option (V × ael)} (h : ∀ s y,f s = some y → y.1.tot + 100 * y.2.length ≤ 100 * s.length) : ∀ (m : Nat) (s : ael) (acc : List V) {x : List V × ael},bL f m s acc = some x → V.tots x.1 + 100 * (x.2.length + 1) ≤ V.tots acc + 100 * s.length
 | 0,_,_,_,e=>by cases e
 | m + 1,s,acc,x,e=>by
  unfold bL at e
  cases hf : f s with
  | none=>rw [hf] at e;cases e
  | some y =>
   rw [hf] at e
   have hy:=h s y hf
   obtain ⟨v,r⟩:=y
   cases r with
   | nil=>cases e
   | cons c r =>
    dsimp only at e hy
    have e2 : V.tots (acc ++ [v]) = V.tots acc + v.tot:=by simp [fI,V.tots]
    rw [List.length_cons] at hy
    split at e
    ·have:=ot h m r _ e
     omega
    ·split at e
     ·simp only [Option.some.injEq] at e;subst e
      dsimp only;omega
     ·cases e
theorem oz {f : ael → ael → Option (V × ael)} (h : ∀ k s y,f k s = some y → y.1.tot + 100 * y.2.length ≤ 100 * s.length) {t : Ty} {s : ael} {x : (Fld × V) × ael} (e : aY f t s = some x) : x.1.2.tot + 100 * x.2.length + 200 ≤ 100 * s.length:=by
 unfold aY at e
 cases hn : cP 200 s with
 | none=>rw [hn] at e;cases e
 | some y =>
  rw [hn] at e
  obtain ⟨n,r⟩:=y
  obtain ⟨h1,h2⟩:=m6 hn
  dsimp only at e
  cases hd : cm t.fields n with
  | none=>rw [hd] at e;cases e
  | some d =>
   rw [hd] at e
   cases r with
   | nil=>cases e
   | cons c r' =>
    dsimp only at e
    rw [List.length_cons] at h1
    by_cases hc : c.toNat = 61
    ·rw [if_pos hc] at e
     cases hf : f d.kind r' with
     | none=>rw [hf] at e;cases e
     | some y =>
      rw [hf] at e
      simp only [Option.map_some,Option.some.injEq] at e
      subst e
      have h3:=h _ _ _ hf
      dsimp only
      omega
    ·rw [if_neg hc] at e;cases e
theorem pS {ts : List Ty} {f : ael → ael → Option (V × ael)} (h : ∀ k s y,f k s = some y → y.1.tot + 100 * y.2.length ≤ 100 * s.length) {t : Ty} : ∀ (m : Nat) (last : Int) (s : ael) (acc : List V) {x : List V × ael},ck ts f t m last s acc = some x → V.tots x.1 + 100 * (x.2.length + 1) ≤ V.tots acc + 100 * s.length
 | 0,_,_,_,_,e=>by cases e
 | m + 1,last,s,acc,x,e=>by
  unfold ck at e
  cases hf : aY f t s with
  | none=>rw [hf] at e;cases e
  | some y =>
   rw [hf] at e
   have hy:=oz h hf
   obtain ⟨⟨d,v⟩,r⟩:=y
   dsimp only at e hy
   split at e
   ·cases e
   ·cases r with
    | nil=>cases e
    | cons c r =>
     dsimp only at e
     have e2 : V.tots (acc ++ [V.nd 61 [] d.tag [v]]) = V.tots acc + (20 + v.tot):=by simp [fI,V.tots,V.tot]
     rw [List.length_cons] at hy
     split at e
     ·have:=pS h m _ r _ e
      omega
     ·split at e
      ·simp only [Option.some.injEq] at e;subst e
       dsimp only;omega
      ·cases e
theorem gB {ts : List Ty} : ∀ (n : Nat) (k s : ael) (x : V × ael),rd ts n k s = some x → x.1.tot + 100 * x.2.length ≤ 100 * s.length
 | 0,_,_,_,e=>by cases e
 | n + 1,k,s,x,e=>by
  have ih : ∀ k s y,rd ts n k s = some y → y.1.tot + 100 * y.2.length ≤ 100 * s.length:=fun k s y hy=>gB n k s y hy
  have h:=qP k s (x:=x) e
  obtain ⟨v,r⟩:=x
  dsimp only at h ⊢
  cases h with
  | lst0=>simp only [V.tot,V.tots,List.length_cons,List.length_nil];omega
  | lst k s r vs h =>
   have:=ot (ih k) _ _ _ h
   simp only [V.tot,V.tots,List.length_cons,List.length_nil] at this ⊢;omega
  | non=>simp only [V.tot,V.tots,List.length_cons,List.length_nil];omega
  | opt k s r v h =>
   have:=ih _ _ _ h
   simp only [V.tot,V.tots,List.length_cons,List.length_nil] at this ⊢;omega
  | num k s r n _ h =>
   have:=m6 h
   simp only [V.tot,V.tots];omega
  | txt k s r v _ h =>
   have e1:=oo h
   have h2 : v.out.length = 2 + v.text.length ∧ v.tot = 20 + v.text.length:=by
    unfold dS at h
    split at h
    ·cases h
    ·split at h
     ·split at h
      ·split at h
       ·simp only [Option.some.injEq,Prod.mk.injEq] at h
        obtain ⟨rfl,_⟩:=h
        simp [V.out,c7,V.text,V.tot,V.tots];omega
       ·cases h
      ·cases h
     ·cases h
   rw [e1]
   simp only [List.length_append]
   omega
  | flg k s r v _ h =>
   have e1:=pW h
   have h2 : 2 ≤ v.out.length ∧ v.tot ≤ 23:=by
    unfold eX at h
    split at h
    ·simp only [Option.some.injEq,Prod.mk.injEq] at h
     obtain ⟨rfl,_⟩:=h
     simp [V.out,c7,V.tot,V.tots]
    ·split at h
     ·simp only [Option.some.injEq,Prod.mk.injEq] at h
      obtain ⟨rfl,_⟩:=h
      simp [V.out,c7,V.tot,V.tots]
     ·cases h
   rw [e1]
   simp only [List.length_append]
   omega
  | recd0=>simp only [V.tot,V.tots,List.length_cons,List.length_nil];omega
  | recd k s r t vs _ _ h =>
   have:=pS ih _ _ _ _ h
   simp only [V.tot,V.tots,List.length_cons,List.length_nil] at this ⊢;omega
  | enm k s r t n _ _ h _ =>
   have:=m6 h
   simp only [V.tot,V.tots,List.length_cons,List.length_nil];omega
  | uni k s r t d v _ _ _ h =>
   have:=oz ih h
   simp only [V.tot,V.tots,List.length_cons,List.length_nil] at this ⊢;omega
abbrev hZ : TypeId:=178
abbrev lT : TypeId:=5
theorem acu {n : Nat} {D : List Deferred} {E : bQ} {B : Base} {L : List Own} {K : Act → World → Prop} {Q : Exit → Act → World → Prop} {ty : TypeId} {pos : String} {aft : Array Edge} {gd : Option (Nat × Bool)} {d : Nat} {fo x : Operand} {ah : Array TypeId} {m : Nat}
  (hf : ev E fo = some (.func (.func 173) #[] #[])) (hx : ev E x = some (I (m : Nat))) (hlt : Nat.blt d n = true) (hm : 0 < m ∧ m ≤ 1000000000)
  (k : ∀ b cap,m ≤ cap + 1 → Nx n D ((d,.slice (some ⟨b,0,none⟩) m (cap + 1)) :: E) B G (.acc (.slice (some ⟨b,0,none⟩) 0 (cap + 1)) lT 1 0 [] :: L) K) : Nx n D E B G L (ow aek ⟨some d,.call ⟨.value fo,[x].toArray,ah⟩,ty,pos,aft,gd⟩ Q K) :=
 ads (ps:=#[3]) hf hx hlt Tryz.func173 kR kR kR kR (TI.und (T:=28)) hm k
theorem adv {b : Nat} {v : Value} : d9 aek 150 [Pt b 0] G [.blk b (.cells (List.toArray [.pointer none,v]) hZ (0,0))] (fun r L'=>L' = [.blk b (.cells (List.toArray [Pt b 0,v]) hZ (0,0))]):=by
 have hx : ∀ w,(callFunc 172 [Pt b 0].toArray).run aek w = .ok (.value (Pt b 0)) w:=fun w=>by
  rw [run_callFunc_extern Tryz.func172 kR kR kR (e:=Extern.AbiNoEscape.same) kR]
  rw [Lib.run_noEscape];rfl
 refine jH [(0,_)] Tryz.func150 Tryz.ntmps150 fun B hB hW=>?_
 repeat' (first | refine jR ?_ | (refine jo ?_;first | refine aC F ?_ | refine jV (dn F F) ?_ | refine jV (ac1 kR F F F) ?_) | refine ac F F ?_)
 refine wr F (jx (o6 F F F hx) F F ?_)
 repeat' (first | refine jR ?_ | (refine jo ?_;first | refine jV (aar kR F kR) ?_ | refine jD F F F ?_))
 exact kC (vs:=[]) F trivial F bc ⟨F,F⟩
theorem adu {b : Nat} {v : Value} : d9 aek 150 [Pt b 0] G [.blk b (.cells (List.toArray [Pt b 0,v]) hZ (0,0))] (fun r L'=>L' = [.blk b (.cells (List.toArray [Pt b 0,v]) hZ (0,0))]):=by
 refine jH [(0,_)] Tryz.func150 Tryz.ntmps150 fun B hB hW=>?_
 repeat' (first | refine jR ?_ | (refine jo ?_;first | refine aC F ?_ | refine jV (dn F F) ?_ | refine jV (abQ F F) ?_) | refine ad F F ?_)
 exact kC (vs:=[]) F trivial F bc ⟨F,F⟩
theorem aa3 {b m : Nat} (hm : 0 < m ∧ m ≤ 1000000000) : d9 aek 151 [Pt b 0,I (m : Nat)] G [.blk b (.cells (List.toArray [Pt b 0,aK]) hZ (0,0))] (fun r L'=>∃ b2 c2,L' = [.acc (.slice (some ⟨b2,0,none⟩) 0 (c2 + 1)) lT 1 0 [],.blk b (.cells (List.toArray [Pt b 0,.slice (some ⟨b2,0,none⟩) 0 (c2 + 1)]) hZ (0,0))]):=by
 refine jH [(0,_),(1,_)] Tryz.func151 Tryz.ntmps151 fun B hB hW=>?_
 repeat' (first | refine jR ?_ | (refine jo ?_;first | refine aC F ?_ | refine jV (aau F F) ?_ | refine jD F F F ?_) | (refine an (ao (id:=0) _ (fun _ h=>h) am ?_);refine jT 9 [0,1,2,6,9,10,11] (aa 16 3655) ?_;(refine jG (aa 16 3663) 3 F (aV F F F) ?_);(refine jG (aa 16 3679) 4 F (zS F) ?_);refine jW 5 [5,7] (aa 16 3839) ?_;(refine jG (aa 16 7935) 12 F (aV F F F) ?_);(refine jG (aa 16 16127) 13 F (af F) ?_);refine jA 8 F ?_;(refine acu F F F oM (fun _ _ _=>?_));refine jS (aa 16 16383) ?_;(refine jG (aa 16 32767) 14 F (qe F F oM) ?_);refine jT 0 [15] (aa 16 65535) ?_;refine jQ ?_))
 exact kC (vs:=[]) F trivial F (List.Sublist.refl _) ⟨F,_,_,F⟩
theorem aa6 {b m : Nat} (hm : 0 < m ∧ m ≤ 1000000000) : d9 aek 112 [Pt b 0,I (m : Nat)] G [.blk b (.cells (List.toArray [.pointer none,aK]) hZ (0,0))] (fun r L'=>∃ b2 c2,L' = [.acc (.slice (some ⟨b2,0,none⟩) 0 (c2 + 1)) lT 1 0 [],.blk b (.cells (List.toArray [Pt b 0,.slice (some ⟨b2,0,none⟩) 0 (c2 + 1)]) hZ (0,0))]):=by
 refine jH [(0,_),(1,_)] Tryz.func112 Tryz.ntmps112 fun B hB hW=>?_
 repeat' (first | refine jR ?_ | (refine jo ?_;first | (refine aL F F F adv F ?_;rintro _ _ rfl;dsimp only [zA,fA]) | (refine aL F F F (aa3 oM) F ?_;rintro _ _ ⟨b2,c2,hb2,rfl⟩;dsimp only [zA,fA])) | refine ac F (aA oM) ?_ | refine ad F F ?_ | (refine an (ao (id:=3) _ (fun _ h=>h) am ?_);refine jT 6 [0,1,2,5,6,7,11] (aa 13 2279) ?_;(refine jG (aa 13 2287) 3 F (aV F F F) ?_);(refine jG (aa 13 2303) 4 F (zS F) ?_);(refine jG (aa 13 2559) 8 F (aV F F F) ?_);(refine jG (aa 13 3071) 9 F (af F) ?_);refine jW 0 [10,12] (aa 13 8191) ?_;refine jQ ?_))
 exact kC (vs:=[]) F trivial F (List.Sublist.refl _) ⟨F,_,_,F⟩
theorem xD {b b1 c1 m : Nat} {xs : List Value} {l : ael} (hm : m + l.length ≤ 1000000000) : d9 aek 113 [Pt b 0,S l] G [.blk b (.cells (List.toArray [Pt b 0,.slice (some ⟨b1,0,none⟩) m (c1 + 1)]) hZ (0,0)),.acc (.slice (some ⟨b1,0,none⟩) m (c1 + 1)) lT 1 m xs]
  (fun r L'=>∃ b2 c2,r = Tu [I l.length,.nilIface] ∧ L' = [.acc (.slice (some ⟨b2,0,none⟩) (m + l.length) (c2 + 1)) lT 1 (m + l.length) (xs ++ cy l),.blk b (.cells (List.toArray [Pt b 0,.slice (some ⟨b2,0,none⟩) (m + l.length) (c2 + 1)]) hZ (0,0))]):=by
 refine jH [(0,_),(1,_)] Tryz.func113 Tryz.ntmps113 fun B hB hW=>?_
 repeat' (first | refine jR ?_ | (refine jo ?_;first | refine aC F ?_ | refine adA F F F oM fun _ _=>?_ | refine jD F F F ?_ | (refine aL F F F adu F ?_;rintro _ _ rfl;dsimp only [zA,fA])))
 exact aX (vs:=[_,_]) F ⟨F,F,trivial⟩ F (List.Sublist.refl _) ⟨F,_,_,F,F⟩
theorem acB {b b1 c1 m : Nat} {l : ael} (hm : m ≤ 1000000000) : d9 aek 114 [Pt b 0] G [.blk b (.cells (List.toArray [Pt b 0,.slice (some ⟨b1,0,none⟩) m (c1 + 1)]) hZ (0,0)),.acc (.slice (some ⟨b1,0,none⟩) m (c1 + 1)) lT 1 m (cy l)]
  (fun r L'=>r = S l ∧ L' = []):=by
 refine jH [(0,_)] Tryz.func114 Tryz.ntmps114 fun B hB hW=>?_
 repeat' (refine jR ?_)
 (refine an (ao (id:=1) [.blk b (.cells (List.toArray [Pt b 0,.slice (some ⟨b1,0,none⟩) m (c1 + 1)]) hZ (0,0))] (by intro y hy;simp only [List.mem_cons,List.not_mem_nil,or_false] at hy ⊢;simp [hy]) am ?_);refine jW 6 [0,1,2,5,6,7] (aa 12 231) ?_;(refine jG (aa 12 239) 3 F (aV F F F) ?_);(refine jG (aa 12 255) 4 F (abO F F) ?_);(refine jG (aa 12 511) 8 F (aV F F F) ?_);(refine jG (aa 12 1023) 9 F (af F) ?_);refine jA 10 F ?_;(refine acl kR F F F oM ?_);refine jS (aa 12 2047) ?_;refine jT 0 [11] (aa 12 4095) ?_;refine jQ ?_)
 repeat' (refine jR ?_)
 refine jZ (vs:=[_]) F ⟨F,trivial⟩ F ⟨F,F,?_⟩
 rfl
def dw (xs : List ael) : Nat:=(xs.map List.length).sum
theorem wo (xs : List ael) (x : ael) : dw (xs ++ [x]) = dw xs + x.length:=by simp [dw]
theorem fD : ∀ (xs : List ael) (i : Nat),dw (xs.take i) ≤ dw xs
 | [],i=>by simp [dw]
 | x :: xs,0=>by simp [dw]
 | x :: xs,i + 1=>by
  have:=fD xs i
  simp only [dw,List.take_succ_cons,List.map_cons,List.sum_cons] at this ⊢;omega
theorem mg (c : UInt8) (y : ael) : ∀ (xs : List ael),xs ≠ [] → aR c (xs ++ [y]) = aR c xs ++ c :: y
 | [],h=>absurd rfl h
 | [x],_=>by simp [aR]
 | x :: z :: r,_=>by
  have:=mg c y (z :: r) (by simp)
  simp only [List.cons_append,aR] at this ⊢
  rw [this];simp
theorem gE (c : UInt8) : ∀ (xs : List ael),(aR c xs).length ≤ dw xs + xs.length
 | []=>by simp [aR]
 | [x]=>by simp [aR,dw]
 | x :: z :: r=>by
  have:=gE c (z :: r)
  simp only [aR,dw,List.map_cons,List.sum_cons,List.length_append,List.length_cons] at this ⊢;omega
theorem Nx.cast {n : Nat} {D : List Deferred} {E : bQ} {B : Base} {L L' : List Own} {K : Act → World → Prop} (e : L = L') (h : Nx n D E B G L' K) : Nx n D E B G L K:=by subst e;exact h
theorem aN.cap {G : Gh} {p : Option Addr} {c sz m : Nat} {xs : List Value} (h : aN G (.slice p m c) sz m xs) : m ≤ c:=by
 obtain ⟨_,⟨h1,h2⟩ | ⟨b,o,cap,e,h1,_⟩⟩:=h
 ·omega
 ·simp only [Value.slice.injEq,true_and] at e;omega
theorem bU.tailS {G : Gh} {b o : Nat} {xs : List ael} (h : bU G b o (ag dc xs)) : bU G b (o + 1) (ag dc (xs.drop 1)):=by
 cases xs with
 | nil=>obtain ⟨cs,h1,_⟩:=h;exact ⟨cs,h1,fun i v hv=>by simp [ag] at hv⟩
 | cons x r =>
  obtain ⟨cs,h1,h2⟩:=h
  refine ⟨cs,h1,fun i v hv=>?_⟩
  have:=h2 (i + 1) v (by simpa [ag,dc] using hv)
  rw [show o + 1 + i = o + (i + 1) by omega];exact this
theorem rI (xs : List ael) (i : Nat) : ab (xs.drop 1) i = ab xs (i + 1):=by
 cases xs with
 | nil=>simp [ab]
 | cons x r=>simp [ab,List.getD]
theorem nv {xs : List ael} {i : Nat} (h : i < xs.length) : dw (xs.take (i + 1)) = dw (xs.take i) + (ab xs i).length:=by
 rw [dO h,wo]
theorem xZ {v : Value} {xs : List ael} {c : UInt8} (hs : aN G v 1 xs.length (ag dc xs)) (hl : dw xs + xs.length ≤ 100000000) : a7 aek 68 [v,S [c]] G (· = S (aR c xs)):=by
 by_cases h0 : xs = []
 ·subst h0
  refine jE [(0,_),(1,_)] Tryz.func68 Tryz.ntmps68 fun B hB=>?_
  repeat' (first | refine jR ?_ | (refine jo ?_;refine jV (eL F aS) ?_) | refine ac F F ?_)
  refine jY (vs:=[_]) ?_
  rfl
 have hpos:=List.length_pos_iff.2 h0
 obtain ⟨bv,ov,cv,rfl,hsv⟩:=hs.expl oM
 by_cases h1 : xs.length = 1
 ·obtain ⟨x,rfl⟩:=List.length_eq_one_iff.1 h1
  refine jE [(0,_),(1,_)] Tryz.func68 Tryz.ntmps68 fun B hB=>?_
  repeat' (first | refine jR ?_ | (refine jo ?_;first | refine jV (af F) ?_ | refine jV (ak F F oM) ?_ | refine jV (aj F F aS F F) ?_) | refine ac F F ?_ | refine ad F F ?_)
  refine jY (vs:=[_]) ?_
  rfl
 have hcap:=hs.cap
 have hq : ¬ (9223372036854775807 / ((xs.length : Int) - 1) ≤ ((([c] : ael).length : Nat) : Int)):=by
  have : (2 : Int) ≤ 9223372036854775807 / ((xs.length : Int) - 1):=Int.le_ediv_of_mul_le oM oM
  have e : ((([c] : ael).length : Nat) : Int) = 1:=rfl
  omega
 have e1 : ((([c] : ael).length : Nat) : Int) * ((xs.length : Int) - 1) = (xs.length : Int) - 1:=by
  have e : ((([c] : ael).length : Nat) : Int) = 1:=rfl
  rw [e];omega
 have p1 : ((([c] : ael).length : Nat) : Int) * ((xs.length : Int) - 1) ≤ 9223372036854775807:=by rw [e1];omega
 have p2 : -9223372036854775808 ≤ ((([c] : ael).length : Nat) : Int) * ((xs.length : Int) - 1):=by rw [e1];omega
 have p3 : 0 + ((([c] : ael).length : Nat) : Int) * ((xs.length : Int) - 1) ≤ 9223372036854775807:=by rw [e1];omega
 have p4 : -9223372036854775808 ≤ 0 + ((([c] : ael).length : Nat) : Int) * ((xs.length : Int) - 1):=by rw [e1];omega
 refine jE [(0,_),(1,_)] Tryz.func68 Tryz.ntmps68 fun B hB=>?_
 repeat' (first | refine jM ?_ | (refine jo ?_;refine jV (af F) ?_) | refine ac F F ?_ | (refine ad F (by refine decide_eq_false ?_;first | assumption | omega) ?_))
 refine Nx.re (d:=5) (v':=I ((xs.length : Int) - 1 + (dw (xs.take 0) : Nat))) F (congrArg (Value.int .i64) (by rw [e1];simp [dw])) ?_
 refine aW (ι:=Nat) (fun i=>i ≤ xs.length) (fun i=>[(0,.slice (some ⟨bv,ov,none⟩) xs.length cv),(1,S [c]),(39,.slice (some ⟨bv,ov,none⟩) xs.length cv),(40,I xs.length),(41,I i),(5,I ((xs.length : Int) - 1 + (dw (xs.take i) : Nat)))]) (fun _=>G) (fun i=>[]) (fun i=>xs.length - i) 0 ?_ tU F bc (fun i Hi=>?_)
 ·exact Nat.zero_le _
 have hb1:=fD xs i
 by_cases hi : i < xs.length
 ·have hb2:=nv hi
  have hb3:=fD xs (i + 1)
  repeat' (first | refine jM ?_ | (refine jo ?_;first | refine jV (ak F F oM) ?_ | (refine jV (fR F F aS ?_) ?_;focus omega)) | refine ac F (aA oM) ?_ | refine ad F (aH oM) ?_)
  refine Nx.re (d:=5) (v':=I ((xs.length : Int) - 1 + (dw (xs.take (i + 1)) : Nat))) F (congrArg (Value.int .i64) (by rw [hb2];omega)) ?_
  exact br (i + 1) oM oM tU F bc
 have hin : i = xs.length:=oM
 subst hin
 rw [List.take_length] at *
 refine Nx.re (d:=5) (v':=I ((xs.length - 1 + dw xs : Nat) : Int)) F (congrArg (Value.int .i64) oM) ?_
 have hb0 : (ab xs 0).length ≤ dw xs:=by have:=nv (i:=0) hpos;have:=fD xs (0 + 1);omega
 have hw0 : 0 + (ab xs 0).length ≤ 1000000000:=oM
 have hsv1:=hsv.tailS
 have hdl : (xs.drop 1).length = xs.length - 1:=by rw [List.length_drop]
 have eJ0 : aR c (xs.take (0 + 1)) = ab xs 0:=by rw [dO hpos];rfl
 repeat' (first | refine jR ?_ | (refine jo ?_;first | refine jV (af F) ?_ | refine jV (ak F F oM) ?_ | (refine jV (fR F F aS ?_) ?_;focus omega) | refine jL fun _=>?_ | refine jV (ac4 F F oM) ?_ | (refine aL F F F (aa6 oM) F ?_;rintro _ _ ⟨b2,c2,rfl⟩;dsimp only [zA,fA]) | (refine wH F F F (xD (by (repeat (assumption));done)) rfl ?_;rintro _ _ ⟨b3,c3,rfl,rfl⟩;dsimp only [zA,fA])) | refine ad F (aH oM) ?_)
 rename_i x _
 refine Nx.cast (L':=[.acc (.slice (some ⟨b3,0,none⟩) (aR c (xs.take (0 + 1))).length (c3 + 1)) lT 1 (aR c (xs.take (0 + 1))).length (cy (aR c (xs.take (0 + 1)))),.blk x (.cells (List.toArray [Pt x 0,.slice (some ⟨b3,0,none⟩) (aR c (xs.take (0 + 1))).length (c3 + 1)]) hZ (0,0))]) (by rw [eJ0];simp only [Nat.zero_add]) ?_
 refine aW (ι:=Nat × Nat × Nat) (fun q=>q.1 ≤ xs.length - 1) (fun q=>[(1,S [c]),(63,.slice (some ⟨bv,ov + 1,none⟩) (xs.length - 1) (cv - 1)),(64,I (xs.length - 1 : Nat)),(65,I q.1),(8,Pt x 0)]) (fun _=>G) (fun q=>[.acc (.slice (some ⟨q.2.1,0,none⟩) (aR c (xs.take (q.1 + 1))).length (q.2.2 + 1)) lT 1 (aR c (xs.take (q.1 + 1))).length (cy (aR c (xs.take (q.1 + 1)))),.blk x (.cells (List.toArray [Pt x 0,.slice (some ⟨q.2.1,0,none⟩) (aR c (xs.take (q.1 + 1))).length (q.2.2 + 1)]) hZ (0,0))]) (fun q=>xs.length - q.1) (0,b3,c3) ?_ tU F bc (fun q Hq=>?_)
 ·exact Nat.zero_le _
 obtain ⟨i,b4,c4⟩:=q
 dsimp only at Hq ⊢
 have hj1:=gE c (xs.take (i + 1))
 have hj2:=fD xs (i + 1)
 have hj3 : (xs.take (i + 1)).length ≤ xs.length:=by rw [List.length_take];omega
 by_cases hi2 : i < xs.length - 1
 ·have hwA : (aR c (xs.take (i + 1))).length + ([c] : ael).length ≤ 1000000000:=by rw [List.length_singleton];omega
  have hy1:=nv (xs:=xs) (i:=i + 1) oM
  have hy2:=fD xs (i + 1 + 1)
  have hwB : (aR c (xs.take (i + 1))).length + ([c] : ael).length + (ab (xs.drop 1) i).length ≤ 1000000000:=by rw [rI,List.length_singleton];omega
  have ej : aR c (xs.take (i + 1 + 1)) = aR c (xs.take (i + 1)) ++ c :: ab (xs.drop 1) i:=by
   rw [dO oM,mg c _ _ (by rw [ne_eq,List.take_eq_nil_iff];simp [h0]),rI]
  repeat' (first | refine jM ?_ | (refine jo ?_;first | refine jV (ak F F oM) ?_ | (refine jV (fR F F aS ?_) ?_;focus omega) | (refine wH F F F (xD (by (repeat (assumption));done)) rfl ?_;rintro _ _ ⟨b3,c3,rfl,rfl⟩;dsimp only [zA,fA])) | refine ac F (aA oM) ?_)
  refine Nx.cast (L':=[.acc (.slice (some ⟨b3,0,none⟩) (aR c (xs.take (i + 1 + 1))).length (c3 + 1)) lT 1 (aR c (xs.take (i + 1 + 1))).length (cy (aR c (xs.take (i + 1 + 1)))),.blk x (.cells (List.toArray [Pt x 0,.slice (some ⟨b3,0,none⟩) (aR c (xs.take (i + 1 + 1))).length (c3 + 1)]) hZ (0,0))]) (by
   have e2 : (aR c (xs.take (i + 1 + 1))).length = (aR c (xs.take (i + 1))).length + ([c] : ael).length + (ab (xs.drop 1) i).length:=by rw [ej];simp;omega
   have e3 : cy (aR c (xs.take (i + 1 + 1))) = cy (aR c (xs.take (i + 1))) ++ cy [c] ++ cy (ab (xs.drop 1) i):=by rw [ej];simp [cy]
   rw [e2,e3]) ?_
  exact br (i + 1,b3,c3) (by dsimp only;omega) (by dsimp only;omega) tU rfl bc
 ·have ei : xs.take (i + 1) = xs:=List.take_of_length_le oM
  rw [ei] at hj1 ⊢
  repeat' (first | refine jR ?_ | (refine jo ?_;(refine wH F F F (acB oM) F ?_;rintro _ _ ⟨rfl,rfl⟩;dsimp only [zA,fA])) | refine ad F (aH oM) ?_)
  refine jY (vs:=[_]) ?_
  rfl
structure VC where
 what : Nat
 text : ael
 tag : Int
 a : Option Addr
 n : Nat
 c : Nat
instance : Inhabited VC:=⟨⟨0,[],0,none,0,0⟩⟩
abbrev VC.sl (v : VC) : Value:=.slice v.a v.n v.c
def be (v : VC) : List Value:=[U8 (v.what : Nat),S v.text,I v.tag,v.sl]
instance : RowF be 4:=⟨fun _=>rfl⟩
mutual
def V.rep (G : Gh) : V → VC → Prop
 | .nd w x t ks,c=>(c.what = w ∧ w ≤ 255) ∧ c.text = x ∧ (c.tag = t ∧ 0 ≤ t ∧ t ≤ 999999) ∧ (c.n = ks.length ∧ (w = 61 → ks.length = 1)) ∧ ∃ cs,aN G c.sl 4 cs.length (ag be cs) ∧ V.reps G ks cs
def V.reps (G : Gh) : List V → List VC → Prop
 | [],cs=>cs = []
 | v :: r,cs=>∃ c cs',cs = c :: cs' ∧ V.rep G v c ∧ V.reps G r cs'
end
theorem gy {G : Gh} : ∀ {ks : List V} {cs : List VC},V.reps G ks cs → cs.length = ks.length
 | [],cs,h=>by rw [V.reps] at h;subst h;rfl
 | v :: r,cs,h=>by
  rw [V.reps] at h
  obtain ⟨c,cs',rfl,_,h2⟩:=h
  rw [List.length_cons,List.length_cons,gy h2]
theorem fZ {G : Gh} : ∀ {ks : List V} {cs : List VC},V.reps G ks cs → ∀ i,i < ks.length → V.rep G (ab ks i) (ab cs i)
 | [],_,_,i,hi=>by simp at hi
 | v :: r,cs,h,i,hi=>by
  rw [V.reps] at h
  obtain ⟨c,cs',rfl,h1,h2⟩:=h
  cases i with
  | zero=>exact h1
  | succ i=>exact fZ h2 i (by simpa using hi)
theorem io {G : Gh} {v : V} {c : VC} (h2 : V.rep G v c) : ∀ {ks : List V} {cs : List VC},V.reps G ks cs → V.reps G (ks ++ [v]) (cs ++ [c])
 | [],cs,h=>by
  rw [V.reps] at h;subst h
  exact ⟨c,[],F,h2,F⟩
 | u :: r,cs,h=>by
  rw [V.reps] at h
  obtain ⟨d,cs',rfl,h1,h3⟩:=h
  exact ⟨d,cs' ++ [c],F,h1,io h2 h3⟩
mutual
theorem aD {G G' : Gh} (hl : Gh.le G G') : ∀ {v : V} {c : VC},V.rep G v c → V.rep G' v c
 | .nd w x t ks,c,h=>by
  rw [V.rep] at h ⊢
  obtain ⟨h1,h2,h3,h4,cs,h5,h6⟩:=h
  exact ⟨h1,h2,h3,h4,cs,h5.mono hl,cO hl h6⟩
theorem cO {G G' : Gh} (hl : Gh.le G G') : ∀ {ks : List V} {cs : List VC},V.reps G ks cs → V.reps G' ks cs
 | [],cs,h=>h
 | v :: r,cs,h=>by
  rw [V.reps] at h ⊢
  obtain ⟨c,cs',e,h1,h2⟩:=h
  exact ⟨c,cs',e,aD hl h1,cO hl h2⟩
end
theorem cU {G : Gh} {w : Nat} {x : ael} {t : Int} {ks : List V} {c : VC} (h : V.rep G (.nd w x t ks) c) : ∃ (a : Option Addr) (k : Nat) (cs : List VC),c = ⟨w,x,t,a,ks.length,k⟩ ∧ w ≤ 255 ∧ (0 ≤ t ∧ t ≤ 999999) ∧ (w = 61 → ks.length = 1) ∧ cs.length = ks.length ∧ aN G (.slice a ks.length k) 4 cs.length (ag be cs) ∧ V.reps G ks cs:=by
 rw [V.rep] at h
 obtain ⟨⟨h1,h1'⟩,h2,⟨h3,h3'⟩,⟨h4,h4'⟩,cs,h5,h6⟩:=h
 obtain ⟨w',x',t',a,n,k⟩:=c
 dsimp only at h1 h2 h3 h4 h5
 subst h1;subst h2;subst h3;subst h4
 exact ⟨a,k,cs,F,h1',h3',h4',gy h6,h5,h6⟩
theorem d4 {G : Gh} {w : Nat} {x : ael} {t : Int} {ks : List V} {a : Option Addr} {k m : Nat} {cs : List VC} (hw : w ≤ 255) (ht : 0 ≤ t ∧ t ≤ 999999) (h61 : w = 61 → ks.length = 1) (hm : m = ks.length) (hs : aN G (.slice a m k) 4 cs.length (ag be cs)) (hk : V.reps G ks cs) : V.rep G (.nd w x t ks) ⟨w,x,t,a,m,k⟩:=by
 rw [V.rep];exact ⟨⟨F,hw⟩,F,⟨F,ht⟩,⟨hm,h61⟩,cs,hs,hk⟩
theorem z7 {G : Gh} : aN G aK 4 ([] : List VC).length (ag be []):=⟨rfl,.inl ⟨rfl,rfl⟩⟩
theorem da {G : Gh} {w : Nat} {x : ael} {t : Int} (hw : w ≤ 255 ∧ w ≠ 61) (ht : 0 ≤ t ∧ t ≤ 999999) : V.rep G (.nd w x t []) ⟨w,x,t,none,0,0⟩:=d4 hw.1 ht (fun h=>absurd h hw.2) rfl z7 rfl
theorem l6 : ∀ {ks : List V} {i : Nat},i < ks.length → ab (V.outs ks) i = (ab ks i).out
 | [],i,h=>by simp at h
 | v :: r,0,_=>rfl
 | v :: r,i + 1,h=>by
  have:=l6 (ks:=r) (i:=i) (by simpa using h)
  simpa [V.outs,ab] using this
theorem kA (ks : List V) : (V.outs ks).length = ks.length:=by rw [V.outs_map];simp
theorem ke {ks : List V} {i : Nat} (h : i < ks.length) : V.tot (ab ks i) ≤ V.tots ks:=by
 rw [aI h];exact oO (List.getElem_mem h)
theorem gT {t : Int} (h : t ≤ 999999) : (bi t).length ≤ 19:=ii oM
theorem tG {w : Nat} {x : ael} {t : Int} {e : Bool} {j : ael} (ht : t ≤ 999999) : (c7 w x t e j).length ≤ 25 + x.length + j.length:=by
 have hd:=gT ht
 unfold c7
 split
 ·simp;omega
 split
 ·simp;omega
 split
 ·split
  ·simp;omega
  ·simp;omega
 split
 ·simp;omega
 split
 ·simp;omega
 split
 ·simp;omega
 split
 ·simp;omega
 ·omega
mutual
theorem vn {G : Gh} : ∀ {v : V} {c : VC},V.rep G v c → v.out.length + 1 ≤ 2 * v.tot
 | .nd w x t ks,c,h=>by
  rw [V.rep] at h
  obtain ⟨_,_,⟨_,h3⟩,_,cs,_,h6⟩:=h
  have h1:=oY h6
  have h2:=gE 44 (V.outs ks)
  rw [kA] at h2
  have h4:=tG (w:=w) (x:=x) (e:=ks.isEmpty) (j:=aR 44 (V.outs ks)) h3.2
  have h5:=dq ks
  rw [V.out,V.tot]
  omega
theorem oY {G : Gh} : ∀ {ks : List V} {cs : List VC},V.reps G ks cs → dw (V.outs ks) + ks.length ≤ 2 * V.tots ks
 | [],cs,h=>by simp [V.outs,dw]
 | v :: r,cs,h=>by
  rw [V.reps] at h
  obtain ⟨c,cs',_,h1,h2⟩:=h
  have h3:=vn h1
  have h4:=oY h2
  simp only [V.outs,dw,List.map_cons,List.sum_cons,V.tots,List.length_cons] at *
  omega
end
end Go.E
