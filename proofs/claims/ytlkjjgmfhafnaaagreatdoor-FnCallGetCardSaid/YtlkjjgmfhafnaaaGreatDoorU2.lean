/- Contracts and plain laws that the statement rests on, part 2. Conditions: as each says. -/
import Derived.Test.YtlkjjgmfhafnaaaGreatDoorU1
set_option linter.unusedVariables false
set_option linter.unusedSimpArgs false
namespace Go.E
section
variable {P : Program} {n : Nat} {D : List Deferred} {E : bn} {M : World → Prop} {d : Option Nat} {ty : TypeId} {pos : String} {aft : Array Edge} {gd : Option (Nat × Bool)}
theorem xn {x : Operand} {T el : TypeId} {size bytes : Nat} {zero : Value} {p : Option Addr} {len cap : Nat} [TI P T (.slice el) size bytes zero] (hx : ev E x = some (.slice p len cap)) : Gives P n D E M ⟨d,.call ⟨.builtin .cap,[x].toArray,[T].toArray⟩,ty,pos,aft,gd⟩ (I cap):=Gives.mk fun a w hs _=>by
 simp [execOp,resolve,hs.ev hx,invoke,builtin,Builtin.cap_,cd (T:=T) (desc:=.slice el) (size:=size) (bytes:=bytes) (zero:=zero),goInt]
theorem abg {T el : TypeId} {x lo : Operand} {desc' : TypeDesc} {size bytes size' bytes' : Nat} {zero zero' : Value} {k : IntKind} {m : Int} {b o len cap : Nat} [TI P T (.slice el) size bytes zero] [TI P el desc' size' bytes' zero']
  (hx : ev E x = some (.slice (some ⟨b,o,none⟩) len cap)) (hl : ev E lo = some (.int k m)) (h0 : 0 ≤ m ∧ m ≤ len ∧ m < cap) :
  Gives P n D E M ⟨d,.slice T x (some lo) none none,ty,pos,aft,gd⟩ (.slice (some ⟨b,o + m.toNat * size',none⟩) (len - m.toNat) (cap - m.toNat)):=by
 obtain ⟨o',h1,h2⟩:=wx (P:=P) (n:=n) (D:=D) (M:=M) (d:=d) (ty:=ty) (pos:=pos) (aft:=aft) (gd:=gd) (T:=T) (el:=el) (desc':=desc') (size':=size') (bytes':=bytes') (zero':=zero') (size:=size) (bytes:=bytes) (zero:=zero) hx hl ⟨h0.1,h0.2.1⟩
 rw [← h1 h0.2.2];exact h2
theorem pJ {S : World → Prop} {G0 : Gh} {L0 : List Own} [k : Kn S G0 L0] {b : Nat} {cs : List Value} {T0 : TypeId} {fr : Nat × Nat} (hm : Own.blk b (.cells cs.toArray T0 fr) ∈ L0) {w : World} (hw : S w) : w.shape? b = some (T0,cs.length):=by
 obtain ⟨B,G,L,_,hL,hst⟩:=k.kn w hw
 have h : w.heap[b]? = some (.cells cs.toArray T0 fr):=hst.own _ (hL _ hm)
 simp [World.shape?,h]
theorem abe {T T' t T0 : TypeId} {x : Operand} {b s1 b1 js jb : Nat} {z1 jz : Value} {jd : TypeDesc} {G0 : Gh} {L0 : List Own} {cs : List Value} {fr : Nat × Nat} [t1 : TI P T (.pointer t) s1 b1 z1] [t2 : TI P t jd js jb jz] [Kn M G0 L0] [h : BlkI L0 b cs T0 fr]
  (hd : P.underlying T' = some .unsafePointer) (hx : ev E x = some (Pt b 0)) (hj : Nat.beq js 0 = false) (hc : cs.isEmpty = false) : Gives P n D E M ⟨d,.convert T T' x,ty,pos,aft,gd⟩ (Pt b 0):=Gives.mk fun a w hs hw=>by
 obtain ⟨j,hj1,hj2,_,_⟩:=t2.inf
 have hl : 0 < cs.length:=by cases cs with | nil=>cases hc | cons=>simp
 have:=Lib.run_to_unsafe (P:=P) w (src:=T) (dst:=T') (t:=t) (j:=j) ⟨b,0,none⟩ t1.und hd hj1 (by rw [hj2];intro e;subst e;simp at hj) (pJ (S:=M) h.mem hw) hl
 simp only [execOp,hs.ev hx,Sem.run_bind,this,Result.andThen_ok,Sem.run_pure]
theorem x9 {T T' t T0 : TypeId} {x : Operand} {b s1 b1 js jb : Nat} {z1 jz : Value} {jd : TypeDesc} {G0 : Gh} {L0 : List Own} {cs : List Value} {fr : Nat × Nat} [t1 : TI P T' (.pointer t) s1 b1 z1] [t2 : TI P t jd js jb jz] [Kn M G0 L0] [h : BlkI L0 b cs T0 fr]
  (hd : P.underlying T = some .unsafePointer) (hx : ev E x = some (Pt b 0)) (hl : liesAt P P.depth T0 (cs.length / P.cellsOf T0) 0 t 1 = true) : Gives P n D E M ⟨d,.convert T T' x,ty,pos,aft,gd⟩ (Pt b 0):=Gives.mk fun a w hs hw=>by
 obtain ⟨j,hj1,_,_,_⟩:=t2.inf
 have:=Lib.run_from_unsafe (P:=P) w (src:=T) (dst:=T') (u:=t) (j:=j) ⟨b,0,none⟩ hd t1.und hj1 (pJ (S:=M) h.mem hw) hl
 simp only [execOp,hs.ev hx,Sem.run_bind,this,Result.andThen_ok,Sem.run_pure]
theorem zW {T T' el : TypeId} {x y : Operand} {size bytes js jb : Nat} {zero jz : Value} {jd : TypeDesc} {p : Addr} [t1 : TI P T (.pointer el) size bytes zero] [t2 : TI P el jd js jb jz] (hx : ev E x = some (.pointer (some p))) (hy : ev E y = some (.pointer (some p))) : Gives P n D E M ⟨d,.binOp .neq T x y T',ty,pos,aft,gd⟩ (Bo false):=dm hx hy rfl fun w=>by
 obtain ⟨j,hj1,_,_,_⟩:=t2.inf
 exact Lib.run_neq_ptr_same w p t1.und hj1
theorem yd {T T' el : TypeId} {x y : Operand} {s1 b1 js jb : Nat} {z1 jz : Value} {jd : TypeDesc} {b o m c : Nat} [t1 : TI P T (.slice el) s1 b1 z1] [t2 : TI P el jd js jb jz] (hx : ev E x = some (.slice (some ⟨b,o,none⟩) m c)) (hy : ev E y = some aL) :
  Gives P n D E M ⟨d,.call ⟨.builtin .copy,[x,y].toArray,[T,T'].toArray⟩,ty,pos,aft,gd⟩ (I (0 : Nat)):=Gives.mk fun a w hs _=>by
 obtain ⟨j,hj1,_,_,_⟩:=t2.inf
 have h1:=run_copy_nil (P:=P) w T T' ty el ⟨b,o,none⟩ m c t1.und (by rw [hj1];rfl)
 have e1 : ([x,y].toArray.map a.eval) = #[.slice (some ⟨b,o,none⟩) m c,aL]:=by simp [hs.ev hx,hs.ev hy]
 simp only [execOp,resolve,e1,Sem.run_bind,Sem.run_pure,Result.andThen_ok,invoke,builtin,h1]
 rfl
theorem zU {T : TypeId} {x : Operand} {b o m c : Nat} (hx : ev E x = some (.slice (some ⟨b,o,none⟩) m c)) (hc : Nat.beq c 0 = false) : Gives P n D E M ⟨d,.call ⟨.builtin .unsafeSliceData,[x].toArray,[T].toArray⟩,ty,pos,aft,gd⟩ (Pt b o):=Gives.mk fun a w hs _=>by
 have h1:=Lib.run_unsafeSliceData_row (P:=P) w #[T] ty ⟨b,o,none⟩ m c (by rintro rfl;simp at hc)
 have e1 : ([x].toArray.map a.eval) = #[.slice (some ⟨b,o,none⟩) m c]:=by simp [hs.ev hx]
 simp only [execOp,resolve,e1,Sem.run_bind,Sem.run_pure,Result.andThen_ok,invoke,builtin,h1]
theorem xZ {T : TypeId} {x : Operand} (hx : ev E x = some aL) : Gives P n D E M ⟨d,.call ⟨.builtin .unsafeSliceData,[x].toArray,[T].toArray⟩,ty,pos,aft,gd⟩ (.pointer none):=Gives.mk fun a w hs _=>by
 have h1:=Lib.run_unsafeSliceData_nil (P:=P) w #[T] ty 0 0
 have e1 : ([x].toArray.map a.eval) = #[aL]:=by simp [hs.ev hx]
 simp only [execOp,resolve,e1,Sem.run_bind,Sem.run_pure,Result.andThen_ok,invoke,builtin,h1]
theorem xV {T T' : TypeId} {x y : Operand} {p : Option Addr} (hx : ev E x = some (.pointer p)) (hy : ev E y = some (I (0 : Nat))) : Gives P n D E M ⟨d,.call ⟨.builtin .unsafeString,[x,y].toArray,[T,T'].toArray⟩,ty,pos,aft,gd⟩ (S []):=Gives.mk fun a w hs _=>by
 have h1:=Lib.run_unsafeString_none (P:=P) w T T' ty p
 have e1 : ([x,y].toArray.map a.eval) = #[.pointer p,.int .i64 0]:=by simp [hs.ev hx,hs.ev hy]
 simp only [execOp,resolve,e1,Sem.run_bind,Sem.run_pure,Result.andThen_ok,invoke,builtin,h1]
 rfl
end
section
variable {P : Program} {n : Nat} {D : List Deferred} {E : bn} {B : Base} {G : Gh} {L : List Own} {K : Act → World → Prop} {Q : Exit → Act → World → Prop} {ty : TypeId} {pos : String} {aft : Array Edge} {gd : Option (Nat × Bool)} {d : Nat}
theorem St.freeze {w : World} {b m cap : Nat} {T : TypeId} {xs : List Value} (h : St B G (.acc (.slice (some ⟨b,0,none⟩) m cap) T 1 m xs :: L) w) (k : Nat) : St B G L (w.freeze ⟨b,0,none⟩ k):=by
 obtain ⟨h1,⟨h2,_⟩ | ⟨b',cap',rest,e,hc,hl,hb⟩⟩ : fQ w _ T 1 m xs:=h.own _ List.mem_cons_self
 ·cases h2
 simp only [Value.slice.injEq,Option.some.injEq,Addr.mk.injEq,and_true,true_and] at e
 obtain ⟨rfl,rfl⟩:=e
 unfold World.freeze
 by_cases hk : k = 0
 ·rw [if_pos hk];exact h.weaken (List.sublist_cons_self _ _)
 ·rw [if_neg hk]
  have h2:=h.upd (y:=.blk b (.cells (xs ++ rest).toArray T (0,k))) (w':={ w with heap:=w.heap.modify b fun | .cells c elem (lo,hi)=>.cells c elem (if lo == hi then (0,0 + k) else (min lo 0,max hi (0 + k))) | o=>o }) (b:=b) rfl rfl (by
   show (w.heap.modify b _)[b]? = _
   rw [Array.getElem?_modify,if_pos rfl,hb]
   simp) (fun c hc=>by
    show (w.heap.modify b _)[c]? = _
    rw [Array.getElem?_modify,if_neg (fun e=>hc e.symm)]) rfl rfl rfl (by simp)
  exact h2.weaken (List.sublist_cons_self _ _)
class AccD (L : List Own) (b : Nat) (m cap : outParam Nat) (T : outParam TypeId) (sz : outParam Nat) (xs : outParam (List Value)) (L' : outParam (List Own)) : Prop where
 del : Del (.acc (.slice (some ⟨b,0,none⟩) m cap) T sz m xs) L L'
instance {b m cap : Nat} {T : TypeId} {sz : Nat} {xs : List Value} {r : List Own} : AccD (.acc (.slice (some ⟨b,0,none⟩) m cap) T sz m xs :: r) b m cap T sz xs r:=⟨.here⟩
instance {b m cap : Nat} {T : TypeId} {sz : Nat} {xs : List Value} {z : Own} {r r' : List Own} [h : AccD r b m cap T sz xs r'] : AccD (z :: r) b m cap T sz xs (z :: r'):=⟨.there h.del⟩
theorem aas {T T' el : TypeId} {x y : Operand} {b m cap s1 b1 s2 b2 : Nat} {z1 z2 : Value} {l : acA} {L' : List Own} [t1 : TI P T (.pointer el) s1 b1 z1] [t2 : TI P el (.int .u8) s2 b2 z2] [ha : AccD L b m cap el 1 (bz l) L']
  (hc1 : P.cellsOf el = 1) (hx : ev E x = some (Pt b 0)) (hy : ev E y = some (I (m : Nat))) (hlt : Nat.blt d n = true) (hm : m ≤ 9223372036854775807)
  (k : Nx n D ((d,S l) :: E) B G L' K) : Nx n D E B G L (ow P ⟨some d,.call ⟨.builtin .unsafeString,[x,y].toArray,[T,T'].toArray⟩,ty,pos,aft,gd⟩ Q K):=Nx.mk fun a w hs hw=>by
 have hw1:=hw.perm ha.del.perm
 have hat : fQ w (.slice (some ⟨b,0,none⟩) m cap) el 1 m (bz l):=hw1.own _ List.mem_cons_self
 obtain ⟨h1,⟨h2,_⟩ | ⟨b',cap',rest,e,hc,hl,hb⟩⟩:=hat
 ·cases h2
 simp only [Value.slice.injEq,Option.some.injEq,Addr.mk.injEq,and_true,true_and] at e
 obtain ⟨rfl,rfl⟩:=e
 have hlm : l.length = m:=by simpa [bz] using h1
 have e1 : ([x,y].toArray.map a.eval) = #[.pointer (some ⟨b,0,none⟩),.int .i64 (m : Nat)]:=by simp [hs.ev hx,hs.ev hy]
 unfold ow Oper.wp
 by_cases h0 : l = []
 ·subst h0
  have hm0 : m = 0:=by simpa using hlm.symm
  subst hm0
  have hr:=Lib.run_unsafeString_none (P:=P) w T T' ty (some ⟨b,0,none⟩)
  have : (execOp a.eval ⟨some d,.call ⟨.builtin .unsafeString,[x,y].toArray,[T,T'].toArray⟩,ty,pos,aft,gd⟩).run P w = .ok (.value (S [])) w:=by
   simp only [execOp,resolve,e1,Sem.run_bind,Sem.run_pure,Result.andThen_ok,invoke,builtin]
   have hr' : (Builtin.unsafeString_ [T,T'].toArray ty #[.pointer (some ⟨b,0,none⟩),.int .i64 ((0 : Nat) : Int)]).run P w = .ok (.string .empty) w:=hr
   rw [hr'];rfl
  rw [this,Oper.upon_value]
  exact k.go _ w (hs.put (by simpa using hlt)) (hw1.weaken (List.sublist_cons_self _ _))
 ·have hcell : ∀ j x,l[j]? = some x → w.cell? ((⟨b,0,none⟩ : Addr).add j) = some (.int .u8 x.toNat):=fun j x hj=>by
   have hv : (bz l)[j]? = some (.int .u8 x.toNat):=by simp [bz,hj]
   rw [lu]
   exact ((eO (S:=St B G (.acc (.slice (some ⟨b,0,none⟩) m cap) el 1 m (bz l) :: L')) (m:=m) (cap:=cap) (T:=el) (sz:=1) (xs:=bz l) List.mem_cons_self).go j _ hv).go w hw1
  have hsh : w.shape? b = some (el,(bz l ++ rest).length):=by simp [World.shape?,hb]
  have hr:=Lib.run_unsafeString_row (P:=P) w T T' ty el t1.und hc1 b _ hsh l h0 (by simp [bz]) oM hcell
  have : (execOp a.eval ⟨some d,.call ⟨.builtin .unsafeString,[x,y].toArray,[T,T'].toArray⟩,ty,pos,aft,gd⟩).run P w = .ok (.value (S l)) (w.freeze ⟨b,0,none⟩ l.length):=by
   simp only [execOp,resolve,e1,Sem.run_bind,Sem.run_pure,Result.andThen_ok,invoke,builtin]
   have hr' : (Builtin.unsafeString_ [T,T'].toArray ty #[.pointer (some ⟨b,0,none⟩),.int .i64 (m : Nat)]).run P w = .ok (S l) (w.freeze ⟨b,0,none⟩ l.length):=by rw [← hlm];exact hr
   rw [hr'];rfl
  rw [this,Oper.upon_value]
  exact k.go _ _ (hs.put (by simpa using hlt)) (hw1.freeze _)
theorem lE (l : acA) : Lib.strCells ⟨l.toArray⟩ = bz l:=by simp [Lib.strCells,bz]
theorem sJ {v : Value} {m : Nat} {T T2 el : TypeId} {s1 b1 s2 b2 : Nat} {z1 z2 : Value} {xs : List Value} {l : acA} {w : World} {R : List Own} [h1' : TI P T (.slice el) s1 b1 z1] [h2' : TI P T2 .string s2 b2 z2] [he : TI P el (.int .u8) 1 1 (.int .u8 0)]
  (hb : m + l.length ≤ 1000000000) (hw : St B G (.acc v el 1 m xs :: R) w) :
  ∃ v' w',(Builtin.append_ #[T,T2] ty #[v,S l]).run P w = .ok v' w' ∧ St B G (.acc v' el 1 (m + l.length) (xs ++ bz l) :: R) w' ∧ (v = aL → l = [] → v' = aL) ∧ ((v ≠ aL ∨ l ≠ []) → ∃ b cap,v' = .slice (some ⟨b,0,none⟩) (m + l.length) cap ∧ ((∀ p q,v ≠ .slice p q 0) ∨ l ≠ [] → 0 < cap)):=by
 obtain ⟨hxl,hacc⟩ : fQ w v el 1 m xs:=hw.own _ List.mem_cons_self
 obtain ⟨ie,hi,hsz,hby,hze⟩:=he.inf
 have ht:=h1'.und
 have hu:=h2'.und
 have hss : (⟨l.toArray⟩ : ByteArray).size = l.length:=nb l
 have hul : (bz l).length = l.length:=by simp [bz]
 have mk : ∀ nc,m + l.length ≤ nc →
   St B G (.acc (.slice (some ⟨w.heap.size,0,none⟩) (m + l.length) nc) el 1 (m + l.length) (xs ++ bz l) :: R) (w.drew.alloc (.cells (xs ++ bz l ++ bQ [.int .u8 0] (nc - (m + l.length))).toArray el)):=by
  intro nc hnc
  have h2:=hw.drew.alloc (.cells (xs ++ bz l ++ bQ [.int .u8 0] (nc - (m + l.length))).toArray el)
  have h3 : St B G (.blk w.drew.heap.size (.cells (xs ++ bz l ++ bQ [.int .u8 0] (nc - (m + l.length))).toArray el) :: R) _:=h2.weaken (.cons_cons _ (List.sublist_cons_self _ _))
  refine h3.conv F ⟨by simp [hxl,hul],.inr ⟨_,nc,bQ [.int .u8 0] (nc - (m + l.length)),F,hnc,?_,h3.own _ List.mem_cons_self⟩⟩
  simp only [List.length_append,hxl,hul,fV,List.length_cons,List.length_nil]
  omega
 have ez : (Builtin.zeroCells (Value.int .u8 0).cells) = fun k=>(bQ [.int .u8 0] k).toArray:=by
  funext k;rw [← iQ];rfl
 rcases hacc with ⟨rfl,rfl⟩ | ⟨b,cap,rest,rfl,hmc,hrl,hblk⟩
 ·have hx0 : xs = []:=by simpa using hxl
  subst hx0
  by_cases hk : l = []
  ·subst hk
   refine ⟨aL,w,?_,by simpa [bz] using hw,fun _ _=>rfl,fun h=>by rcases h with h | h <;> exact absurd F h⟩
   have hf : (Builtin.firstCells 1 0 (S [])).run P w = .ok #[] w:=by
    have:=Lib.run_firstCells_string (P:=P) w 1 ⟨([] : acA).toArray⟩
    rw [nb] at this;simpa [Lib.strCells] using this
   simp [Builtin.append_,run_underlying ht,run_underlying hu,sizeOf,typeInfo,hi,hsz,Builtin.lenOf,nb,hf]
  ·have hpos : 0 < l.length:=List.length_pos_iff.2 hk
   have hr:=run_append_nil_string (P:=P) w T T2 ty el ie (.int .u8 0) ht hu hi hze ⟨l.toArray⟩ (by rw [hss];exact hpos) (by rw [hss];omega) (by rw [hss,hby];omega)
   rw [hss] at hr
   have hg:=grownCap_ge w l.length 0 el
   have:=mk (grownCap w l.length 0 el) (by simpa using hg)
   have e1 : (⟨l.toArray⟩ : ByteArray).data.map (fun b=>Value.int .u8 b.toNat) ++ Builtin.zeroCells (Value.int .u8 0).cells (grownCap w l.length 0 el - l.length) = (bz l ++ bQ [.int .u8 0] (grownCap w l.length 0 el - l.length)).toArray:=by
    rw [ez];simp [bz]
   rw [e1] at hr
   simp only [Nat.zero_add,List.nil_append] at this ⊢
   exact ⟨_,_,hr,this,fun _ h=>absurd h hk,fun _=>⟨_,_,F,fun _=>by omega⟩⟩
 ·by_cases hfit : m + l.length ≤ cap
  ·have hr:=Lib.run_append_room_string (P:=P) w T T2 ty el ie ht hu hi hsz b m cap (xs ++ rest).toArray hblk ⟨l.toArray⟩ (by rw [hss];exact hfit) (by rw [hss];simp only [List.size_toArray];omega)
   have hcells : (List.take m (xs ++ rest) ++ bz l ++ List.drop (m + l.length) (xs ++ rest)) = xs ++ bz l ++ rest.drop l.length:=by
    have : m = xs.length:=oM
    rw [this];simp [List.drop_append]
   rw [hss,lE] at hr
   simp only [hcells] at hr
   refine ⟨_,_,hr,hw.upd (b:=b) F F ⟨by simp [hxl,hul],.inr ⟨b,cap,rest.drop l.length,F,hfit,?_,setRow_heap w b _ _ el _ hblk⟩⟩ (fun c hc=>setRow_other w b c _ hc) F F F (by simp),fun h=>(by cases h),fun _=>⟨b,cap,F,fun h=>?_⟩⟩
   ·simp only [List.length_append,List.length_drop] at *;omega
   ·rcases h with h | h
    ·rcases Nat.eq_zero_or_pos cap with h0 | h0
     ·subst h0;exact absurd F (h _ _)
     ·exact h0
    ·have:=List.length_pos_iff.2 h;omega
  ·have hnsc:=jq (m + l.length) cap oM
   have hold : ∀ j u,xs[j]? = some u → w.cell? ((⟨b,0,none⟩ : Addr).add j) = some u:=fun j u hj=>by
    rw [lu]
    exact ((eO (S:=St B G (.acc (.slice (some ⟨b,0,none⟩) m cap) el 1 m xs :: R)) (m:=m) (cap:=cap) (T:=el) (sz:=1) (xs:=xs) List.mem_cons_self).go j u hj).go w hw
   have hr:=Lib.run_append_grow_string (P:=P) w T T2 ty el ie (.int .u8 0) ht hu hi hze ⟨b,0,none⟩ m cap xs (by rw [hsz];simpa using hxl) hold ⟨l.toArray⟩ (by rw [hss];omega) (by rw [hss];omega) (by rw [hss,hby];omega)
   rw [hss,lE,ez] at hr
   have hg:=grownCap_ge w (m + l.length) cap el
   have:=mk (grownCap w (m + l.length) cap el) hg
   simp only [List.append_toArray] at hr this ⊢
   exact ⟨_,_,hr,this,fun h=>(by cases h),fun _=>⟨_,_,F,fun _=>by omega⟩⟩
theorem abP {m b cap : Nat} {s x : Operand} {T T2 el : TypeId} {s1 b1 s2 b2 : Nat} {z1 z2 : Value} {xs : List Value} {l : acA} {L' : List Own} [TI P T (.slice el) s1 b1 z1] [TI P T2 .string s2 b2 z2] [TI P el (.int .u8) 1 1 (.int .u8 0)] [ha : AccI L (.slice (some ⟨b,0,none⟩) m (cap + 1)) el 1 m xs L']
  (hs : ev E s = some (.slice (some ⟨b,0,none⟩) m (cap + 1))) (hx : ev E x = some (S l)) (hlt : Nat.blt d n = true) (hb : m + l.length ≤ 1000000000)
  (kk : ∀ b' cap',Nx n D ((d,.slice (some ⟨b',0,none⟩) (m + l.length) (cap' + 1)) :: E) B G (.acc (.slice (some ⟨b',0,none⟩) (m + l.length) (cap' + 1)) el 1 (m + l.length) (xs ++ bz l) :: L') K) :
  Nx n D E B G L (ow P ⟨some d,.call ⟨.builtin .append,[s,x].toArray,[T,T2].toArray⟩,ty,pos,aft,gd⟩ Q K):=Nx.mk fun a w hsat hw=>by
 obtain ⟨v',w',hr,hst,_,h2⟩:=sJ (P:=P) (ty:=ty) (T:=T) (T2:=T2) (el:=el) (s1:=s1) (b1:=b1) (z1:=z1) (s2:=s2) (b2:=b2) (z2:=z2) hb (hw.perm ha.del.perm)
 obtain ⟨b',cap',rfl,h3⟩:=h2 (.inl (by simp))
 obtain ⟨c,rfl⟩ : ∃ c,cap' = c + 1:=⟨cap' - 1,by have:=h3 (.inl (by simp));omega⟩
 have hrun : (execOp a.eval ⟨some d,.call ⟨.builtin .append,[s,x].toArray,[T,T2].toArray⟩,ty,pos,aft,gd⟩).run P w = .ok (.value (.slice (some ⟨b',0,none⟩) (m + l.length) (c + 1))) w':=by
  have e1 : ([s,x].toArray.map a.eval) = #[.slice (some ⟨b,0,none⟩) m (cap + 1),S l]:=by simp [hsat.ev hs,hsat.ev hx]
  simp only [execOp,resolve,e1,Sem.run_bind,Sem.run_pure,Result.andThen_ok,invoke,builtin,hr]
 unfold ow Oper.wp
 rw [hrun,Oper.upon_value]
 exact (kk b' c).go _ w' (hsat.put (by simpa using hlt)) hst
theorem aaN {s x : Operand} {T T2 el : TypeId} {s1 b1 s2 b2 : Nat} {z1 z2 : Value} {l : acA} [TI P T (.slice el) s1 b1 z1] [TI P T2 .string s2 b2 z2] [TI P el (.int .u8) 1 1 (.int .u8 0)]
  (hs : ev E s = some aL) (hx : ev E x = some (S l)) (hlt : Nat.blt d n = true) (hb : 0 < l.length ∧ l.length ≤ 1000000000)
  (kk : ∀ b' cap',Nx n D ((d,.slice (some ⟨b',0,none⟩) l.length (cap' + 1)) :: E) B G (.acc (.slice (some ⟨b',0,none⟩) l.length (cap' + 1)) el 1 l.length (bz l) :: L) K) :
  Nx n D E B G L (ow P ⟨some d,.call ⟨.builtin .append,[s,x].toArray,[T,T2].toArray⟩,ty,pos,aft,gd⟩ Q K):=Nx.mk fun a w hsat hw=>by
 obtain ⟨v',w',hr,hst,_,h2⟩:=sJ (P:=P) (ty:=ty) (T:=T) (T2:=T2) (el:=el) (s1:=s1) (b1:=b1) (z1:=z1) (s2:=s2) (b2:=b2) (z2:=z2) (l:=l) oM (hw.addNil el 1)
 have hne : l ≠ []:=List.length_pos_iff.1 hb.1
 obtain ⟨b',cap',rfl,h3⟩:=h2 (.inr hne)
 obtain ⟨c,rfl⟩ : ∃ c,cap' = c + 1:=⟨cap' - 1,by have:=h3 (.inr hne);omega⟩
 simp only [Nat.zero_add,List.nil_append] at hr hst
 have hrun : (execOp a.eval ⟨some d,.call ⟨.builtin .append,[s,x].toArray,[T,T2].toArray⟩,ty,pos,aft,gd⟩).run P w = .ok (.value (.slice (some ⟨b',0,none⟩) l.length (c + 1))) w':=by
  have e1 : ([s,x].toArray.map a.eval) = #[aL,S l]:=by simp [hsat.ev hs,hsat.ev hx]
  simp only [execOp,resolve,e1,Sem.run_bind,Sem.run_pure,Result.andThen_ok,invoke,builtin,hr]
 unfold ow Oper.wp
 rw [hrun,Oper.upon_value]
 exact (kk b' c).go _ w' (hsat.put (by simpa using hlt)) hst
theorem abJ {fo x : Operand} {ag : Array TypeId} {f : FuncId} {fn : Func} {t el : TypeId} {m : Nat} {ps : Array TypeId}
  (hf : ev E fo = some (.func (.func f) #[] #[])) (hx : ev E x = some (I (m : Nat))) (hlt : Nat.blt d n = true) (hfn : P.funcs[f]? = some fn) (hname : (fn.name == "runtime.NumGoroutine") = false) (hbd : fn.body.isNone = true) (hnx : Extern.findNext fn = none) (he : Extern.find fn = some (Extern.BytealgMakeNoZero.makeNoZero ps #[t])) (ht : P.underlying t = some (.slice el)) (hm : 0 < m ∧ m ≤ 1000000000)
  (k : ∀ b cap,m ≤ cap + 1 → Nx n D ((d,.slice (some ⟨b,0,none⟩) m (cap + 1)) :: E) B G (.acc (.slice (some ⟨b,0,none⟩) 0 (cap + 1)) el 1 0 [] :: L) K) : Nx n D E B G L (ow P ⟨some d,.call ⟨.value fo,[x].toArray,ag⟩,ty,pos,aft,gd⟩ Q K):=Nx.mk fun a w hs hw=>by
 obtain ⟨cs,hr,hcs,_⟩:=Lib.run_makeNoZero (P:=P) w ps t el ht m oM
 have e1 : ([x].toArray.map a.eval) = #[.int .i64 (m : Nat)]:=by simp [hs.ev hx]
 have hrun : (execOp a.eval ⟨some d,.call ⟨.value fo,[x].toArray,ag⟩,ty,pos,aft,gd⟩).run P w = .ok (.value (.slice (some ⟨w.heap.size,0,none⟩) m cs.size)) (w.drew.drew.alloc (.cells cs el)):=by
  simp only [execOp,resolve,hs.ev hf,e1,Deferred.ofValue,Sem.run_bind,Sem.run_pure,Result.andThen_ok,invoke]
  rw [show (#[] ++ #[Value.int .i64 (m : Nat)] ++ #[] : Array Value) = #[Value.int .i64 (m : Nat)] from rfl,run_callFunc_extern hfn hname hbd hnx he,hr]
  rfl
 unfold ow Oper.wp
 rw [hrun,Oper.upon_value]
 have h1:=hw.drew.drew.alloc (.cells cs el)
 obtain ⟨c,hc⟩ : ∃ c,cs.size = c + 1:=⟨cs.size - 1,oM⟩
 have h2 : St B G (.acc (.slice (some ⟨w.heap.size,0,none⟩) 0 (c + 1)) el 1 0 [] :: L) (w.drew.drew.alloc (.cells cs el)):=h1.conv rfl ⟨rfl,.inr ⟨w.heap.size,c + 1,cs.toList,rfl,Nat.zero_le _,by simp [hc],h1.own _ List.mem_cons_self⟩⟩
 rw [hc]
 exact (k w.heap.size c oM).go _ _ (hs.put (by simpa using hlt)) h2
end
def di (P : Program) (f : FuncId) (args : List Value) (G : Gh) (L : List Own) (R : Value → Gh → List Own → Prop) : Prop:=Fn P f args G L (fun v G' L'=>Gh.le G G' ∧ R v G' L')
section
variable {P : Program} {n : Nat} {D : List Deferred} {E : bn} {B : Base} {G : Gh} {L : List Own} {K : Act → World → Prop} {Q : Exit → Act → World → Prop}
theorem cP {fo : Operand} {l : List Operand} {ag : Array TypeId} {d : Nat} {ty : TypeId} {pos : String} {aft : Array Edge} {g : Option (Nat × Bool)} {f : FuncId} {fi ca az vs : List Value} {b : Nat} {cs : List Value} {T : TypeId} {R : List Own} {Post : Value → Gh → List Own → Prop}
  [hd : DelB L b cs T R] (hf : ev E fo = some (.func (.func f) fi.toArray ca.toArray)) (ha : evs E l = some az) (hv : fi ++ az ++ ca = vs) (hc : di P f vs G [.blk b (.cells cs.toArray T (0,0))] Post) (hlt : Nat.blt d n = true)
  (k : ∀ v G' L',Gh.le G G' → Post v G' L' → Nx n D ((d,v) :: E) B G' (L' ++ R) K) : Nx n D E B G L (ow P ⟨some d,.call ⟨.value fo,l.toArray,ag⟩,ty,pos,aft,g⟩ Q K) :=
 aaA hf ha hv hc hlt fun v G' L' h=>k v G' L' h.1 h.2
theorem bI {f : FuncId} {fn : Func} {c : Code} {args : List Value} {R : Value → Gh → List Own → Prop} (E0 : bn) (hf : P.funcs[f]? = some fn) (hok : dM P f = true) (hn : fn.ntmps = n) (hb : fn.body = some c)
  (hlen : Nat.ble args.length n = true) (hE : gk E0 (params 0 args))
  (h : ∀ B,B.G = G → B.W = ch L → Nx n [] E0 B G L (cu P (.code c) [] (bp P fn (dw B (fun v G' L'=>Gh.le G G' ∧ R v G' L'))))) : di P f args G L R:=tv E0 hf hok hn hb hlen hE h
end
def zm (n : Nat) (cs : List Value) : Bool:=cs.all fun v=>match v with | .string b=>Nat.ble b.size n | _=>false
section
variable {P : Program} {n : Nat} {D : List Deferred} {E : bn} {B : Base} {G : Gh} {L : List Own} {K : Act → World → Prop} {Q : Exit → Act → World → Prop}
theorem eK (m : Nat) {T T0 : TypeId} {x : Operand} {desc : TypeDesc} {size bytes : Nat} {zero : Value} {b o d : Nat} {cs : List Value} {fr : Nat × Nat} {ty : TypeId} {pos : String} {aft : Array Edge} {g : Option (Nat × Bool)} [TI P T desc size bytes zero] [h : BlkI L b cs T0 fr] (hx : ev E x = some (Pt b o)) (ha : c9 desc = false) (hlt : Nat.blt d n = true) (ho : o < cs.length) (hs : zm m cs = true)
  (k : ∀ l : acA,l.length ≤ m → Nx n D ((d,S l) :: E) B G L K) : Nx n D E B G L (ow P ⟨some d,.load T x,ty,pos,aft,g⟩ Q K) :=
 xv hx ha hlt ho fun v hv=>by
  have h1:=List.all_eq_true.1 hs v hv
  split at h1
  ·rename_i b
   have e : Value.string b = S b.data.toList:=by simp [S]
   rw [e]
   exact k _ (by rw [Array.length_toList];exact Nat.le_of_ble_eq_true h1)
  ·cases h1
def kw (m : Int) : List Value → Prop
 | []=>True
 | v :: r=>(∃ i : Int,v = I i ∧ 0 ≤ i ∧ i ≤ m) ∧ kw m r
theorem oD {m : Int} : ∀ {cs : List Value},kw m cs → ∀ v ∈ cs,∃ i : Int,v = I i ∧ 0 ≤ i ∧ i ≤ m
 | [],_,_,h=>absurd h (by simp)
 | w :: r,h,v,hv=>by
  rcases List.mem_cons.1 hv with rfl | hv
  ·exact h.1
  ·exact oD h.2 v hv
theorem tZ {m : Int} : kw m []:=trivial
theorem sm {m i : Int} {r : List Value} (h : 0 ≤ i ∧ i ≤ m) (h2 : kw m r) : kw m (I i :: r):=⟨⟨i,rfl,h.1,h.2⟩,h2⟩
theorem aaC (m : Int) {T T0 : TypeId} {x : Operand} {desc : TypeDesc} {size bytes : Nat} {zero : Value} {b o d : Nat} {cs : List Value} {fr : Nat × Nat} {ty : TypeId} {pos : String} {aft : Array Edge} {g : Option (Nat × Bool)} [TI P T desc size bytes zero] [h : BlkI L b cs T0 fr] (hx : ev E x = some (Pt b o)) (ha : c9 desc = false) (hlt : Nat.blt d n = true) (ho : o < cs.length) (hs : kw m cs)
  (k : ∀ i : Int,0 ≤ i → i ≤ m → Nx n D ((d,I i) :: E) B G L K) : Nx n D E B G L (ow P ⟨some d,.load T x,ty,pos,aft,g⟩ Q K) :=
 xv hx ha hlt ho fun v hv=>by
  obtain ⟨i,rfl,h0,h1⟩:=oD hs v hv
  exact k i h0 h1
end
theorem PutsR.len {cs vs cs' : List Value} {o : Nat} (h : PutsR cs o vs cs') : cs'.length = cs.length:=by
 induction h with
 | nil=>rfl
 | here _ ih=>simp [ih]
 | there _ ih=>simp [ih]
class UpdA (b : Nat) (xs' : List Value) (L : List Own) (m cap : outParam Nat) (T0 : outParam TypeId) (sz : outParam Nat) (xs : outParam (List Value)) (L' : outParam (List Own)) : Prop where
 upd : UpdO (.acc (.slice (some ⟨b,0,none⟩) m cap) T0 sz m xs) (.acc (.slice (some ⟨b,0,none⟩) m cap) T0 sz m xs') L L'
instance {b m cap : Nat} {T0 : TypeId} {sz : Nat} {xs xs' : List Value} {r : List Own} : UpdA b xs' (.acc (.slice (some ⟨b,0,none⟩) m cap) T0 sz m xs :: r) m cap T0 sz xs (.acc (.slice (some ⟨b,0,none⟩) m cap) T0 sz m xs' :: r):=⟨.here⟩
instance {b m cap : Nat} {T0 : TypeId} {sz : Nat} {xs xs' : List Value} {z : Own} {r r' : List Own} [h : UpdA b xs' r m cap T0 sz xs r'] : UpdA b xs' (z :: r) m cap T0 sz xs (z :: r'):=⟨.there h.upd⟩
section
variable {P : Program} {n : Nat} {D : List Deferred} {E : bn} {B : Base} {G : Gh} {L : List Own} {K : Act → World → Prop} {Q : Exit → Act → World → Prop} {ty : TypeId} {pos : String} {aft : Array Edge} {gd : Option (Nat × Bool)} {dd : Nat}
end
section
variable {P : Program} {n : Nat} {D : List Deferred} {E : bn} {B : Base} {G : Gh} {L : List Own} {K : Act → World → Prop} {Q : Exit → Act → World → Prop} {ty : TypeId} {pos : String} {aft : Array Edge} {gd : Option (Nat × Bool)} {dd : Nat}
end
def v2 (P : Program) (fn : Func) (R : Ending → World → Prop) : Exit → Act → World → Prop
 | .normal,a,w | .ret,a,w=>Leaves P fn a.tmps R a.defers .returning w
 | .outgrown,_,w=>R .outgrown w
 | _,_,_=>False
instance {P : Program} {fn : Func} {R : Ending → World → Prop} : PQ (v2 P fn R):=⟨fun _ _ _ _ _ h=>h⟩
structure FnD (P : Program) (f : FuncId) (args : List Value) (G : Gh) (L : List Own) (Post : Value → Gh → List Own → Prop) : Prop where
 ok : dM P f = true
 go : ∀ w,St ⟨w,G,ch L⟩ G L w → CallsD P f args.toArray .returning w fun e u w'=>u = .returning ∧ dw ⟨w,G,ch L⟩ Post e w'
section
variable {P : Program} {n : Nat} {D : List Deferred} {E : bn} {B : Base} {G : Gh} {L : List Own} {K : Act → World → Prop} {Q : Exit → Act → World → Prop}
theorem cn {f : FuncId} {fn : Func} {c : Code} {args : List Value} {Post : Value → Gh → List Own → Prop} (E0 : bn) (hf : P.funcs[f]? = some fn) (hok : dM P f = true) (hn : fn.ntmps = n) (hb : fn.body = some c)
  (hlen : Nat.ble args.length n = true) (hE : gk E0 (params 0 args))
  (h : ∀ B,BOk B → B.G = G → B.W = ch L → Nx n [] E0 B G L (cu P (.code c) [] (v2 P fn (dw B Post)))) : Fn P f args G L Post:=by
 refine ⟨hok,fun w hw=>calls_of_wp_defers hf hb ?_⟩
 rw [hn]
 have:=(h ⟨w,G,ch L⟩ ⟨hw.ok,fun b hb=>(hw.fresh b hb).1⟩ rfl rfl).go _ w ((iA args (by simpa using hlen)).sub hE) hw
 unfold cu at this
 dsimp only at this
 unfold kk cw at this
 refine wp_mono this fun e a' w' q=>?_
 cases e <;> first | exact q | exact q.elim
theorem yv {f : FuncId} {fn : Func} {c : Code} {args : List Value} {Post : Value → Gh → List Own → Prop} (E0 : bn) (hf : P.funcs[f]? = some fn) (hok : dM P f = true) (hn : fn.ntmps = n) (hb : fn.body = some c)
  (hlen : Nat.ble args.length n = true) (hE : gk E0 (params 0 args))
  (h : ∀ B,BOk B → B.G = G → B.W = ch L → Nx n [] E0 B G L (cu P (.code c) [] (bp P fn (dw B Post)))) : FnD P f args G L Post:=by
 refine ⟨hok,fun w hw=>callsD_of_wp hf hb ?_⟩
 rw [hn]
 have:=(h ⟨w,G,ch L⟩ ⟨hw.ok,fun b hb=>(hw.fresh b hb).1⟩ rfl rfl).go _ w ((iA args (by simpa using hlen)).sub hE) hw
 unfold cu at this
 dsimp only at this
 unfold kk cw bp at this
 exact this
def rz (f : FuncId) (fi ca az : List Value) : Deferred:=⟨.fn (.func f) ca.toArray,(fi ++ az).toArray⟩
theorem co {fo : Operand} {l : List Operand} {ag : Array TypeId} {ty : TypeId} {pos : String} {aft : Array Edge} {g : Option (Nat × Bool)} {f : FuncId} {fi ca az : List Value}
  (hf : ev E fo = some (.func (.func f) fi.toArray ca.toArray)) (ha : evs E l = some az)
  (k : Nx n (rz f fi ca az :: D) E B G L K) : Nx n D E B G L (ow P ⟨none,.defer ⟨.value fo,l.toArray,ag⟩,ty,pos,aft,g⟩ Q K):=Nx.mk fun a w hs hw=>by
 unfold ow Oper.wp
 have h1 : l.toArray.map a.eval = az.toArray:=by rw [List.map_toArray,hs.evs ha]
 have : (execOp a.eval ⟨none,.defer ⟨.value fo,l.toArray,ag⟩,ty,pos,aft,g⟩).run P w = .ok (.defer (rz f fi ca az)) w:=by
  simp only [execOp,resolve,hs.ev hf,h1,Deferred.ofValue,Sem.run_bind,Sem.run_pure,Result.andThen_ok,rz]
  simp
 rw [this,Oper.upon_defer]
 exact k.go _ w ⟨hs.size,by rw [show ({ a with defers:=rz f fi ca az :: a.defers } : Act).put none undef = { a with defers:=rz f fi ca az :: a.defers } from F];simp [hs.defers],hs.at'⟩ hw
theorem abc {e : Exit} {f : FuncId} {fi ca az xs : List Value} {Lp R : List Own} {PostD : Value → Gh → List Own → Prop} {fn : Func} {rs : List ResultVar} {Post : Value → Gh → List Own → Prop} (he : e = .ret ∨ e = .normal) (hv : fi ++ az ++ ca = xs) (hc : FnD P f xs G Lp PostD) (hL : L.Perm (Lp ++ R))
  (hr : fn.results = rs.toArray) (k : ∀ v G' L',PostD v G' L' → ∃ vs L'',iu P (St B G' (L' ++ R)) E rs vs ∧ L''.Sublist (L' ++ R) ∧ Post (eF vs) G' L'') :
  Nx n [rz f fi ca az] E B G L (cu P (.exit e) [] (v2 P fn (dw B Post))):=Nx.mk fun a w hs hw=>by
 have hw':=hw.perm hL
 have main : Leaves P fn a.tmps (dw B Post) a.defers .returning w:=by
  rw [hs.defers]
  refine ⟨(fun h=>by cases h),Fn.func f,ca.toArray,f,xs.toArray,F,?_,?_⟩
  ·subst hv
   show (invoke (.fn (.func f) ca.toArray) (fi ++ az).toArray).run P w = _
   simp only [invoke]
   rw [lI hc.ok]
   simp
  ·intro c cs hu
   obtain ⟨e',u',w',fr,⟨h1,v,G',L',h2,h3,h4⟩,h5,h6,h7⟩:=hc.go w hw'.enter c cs hu
   subst h1 h2
   refine ⟨_,_,w',fr,?_,h5,h6,h7⟩
   obtain ⟨vs,L'',g1,g2,g3⟩:=k v G' L' h4
   have h8:=hw'.back h3
   exact ⟨eF vs,ka hs h8 hr g1,_,_,_,F,h8.weaken g2,g3⟩
 rcases he with rfl | rfl
 ·unfold cu;dsimp only;unfold kk;exact main
 ·unfold cu;dsimp only;unfold kk;exact main
end
attribute [irreducible] v2
section
variable {P : Program} {n : Nat} {D : List Deferred} {E : bn} {B : Base} {G : Gh} {L : List Own} {K : Act → World → Prop} {Q : Exit → Act → World → Prop} {ty : TypeId} {pos : String} {aft : Array Edge} {gd : Option (Nat × Bool)}
end
open Go.Proofs
abbrev bF : Value:=.bool false
abbrev u0 : Value:=.int .u8 0
noncomputable abbrev acz : Program:=Tryz.prog
instance ti2 : TI acz 2 (.int .i64) 1 8 (.int .i64 0):=TI.mk' kR kR kR
instance ti3 : TI acz 3 (.int .i64) 1 8 (.int .i64 0):=TI.mk' kR kR kR
instance ti4 : TI acz 4 .bool 1 1 (.bool false):=TI.mk' kR kR kR
instance ti5 : TI acz 5 (.int .u8) 1 1 (.int .u8 0):=TI.mk' kR kR kR
instance ti6 : TI acz 6 (.int .u8) 1 1 (.int .u8 0):=TI.mk' kR kR kR
instance ti7 : TI acz 7 (.struct (bT acz 7)) 4 24 (Ag [(.int .i64 0),(.int .i64 0),(.bool false),(.int .u8 0)]):=TI.mk' kR kR kR
instance ti8 : TI acz 8 (.struct (bT acz 8)) 4 24 (Ag [(.int .i64 0),(.int .i64 0),(.bool false),(.int .u8 0)]):=TI.mk' kR kR kR
instance ti9 : TI acz 9 .string 1 16 (S []):=TI.mk' kR kR kR
instance ti12 : TI acz 12 (.int .u64) 1 8 (.int .u64 0):=TI.mk' kR kR kR
instance ti13 : TI acz 13 (.struct (bT acz 13)) 2 24 (Ag [(S []),(.int .u64 0)]):=TI.mk' kR kR kR
instance ti14 : TI acz 14 (.struct (bT acz 14)) 2 24 (Ag [(S []),(.int .u64 0)]):=TI.mk' kR kR kR
instance ti17 : TI acz 17 (.pointer 249) 1 8 (.pointer none):=TI.mk' kR kR kR
instance ti18 : TI acz 18 (.struct (bT acz 18)) 1 8 (Ag [(.pointer none)]):=TI.mk' kR kR kR
instance ti19 : TI acz 19 (.struct (bT acz 19)) 1 8 (Ag [(.pointer none)]):=TI.mk' kR kR kR
instance ti22 : TI acz 22 (.slice 5) 1 24 aL:=TI.mk' kR kR kR
instance ti34 : TI acz 34 (.slice 86) 1 24 aL:=TI.mk' kR kR kR
instance ti35 : TI acz 35 (.struct (bT acz 35)) 2 40 (Ag [(S []),aL]):=TI.mk' kR kR kR
instance ti36 : TI acz 36 (.struct (bT acz 36)) 2 40 (Ag [(S []),aL]):=TI.mk' kR kR kR
instance ti42 : TI acz 42 (.pointer 101) 1 8 (.pointer none):=TI.mk' kR kR kR
instance ti47 : TI acz 47 (.slice 9) 1 24 aL:=TI.mk' kR kR kR
instance ti59 : TI acz 59 (.slice 146) 1 24 aL:=TI.mk' kR kR kR
instance ti60 : TI acz 60 (.pointer 120) 1 8 (.pointer none):=TI.mk' kR kR kR
instance ti63 : TI acz 63 (.slice 3) 1 24 aL:=TI.mk' kR kR kR
instance ti69 : TI acz 69 (.pointer 158) 1 8 (.pointer none):=TI.mk' kR kR kR
instance ti70 : TI acz 70 (.struct (bT acz 70)) 3 48 (Ag [(S []),(S []),(S [])]):=TI.mk' kR kR kR
instance ti71 : TI acz 71 (.struct (bT acz 71)) 3 48 (Ag [(S []),(S []),(S [])]):=TI.mk' kR kR kR
instance ti74 : TI acz 74 (.slice 76) 1 24 aL:=TI.mk' kR kR kR
instance ti75 : TI acz 75 (.struct (bT acz 75)) 4 56 (Ag [(.int .u8 0),(S []),(.int .i64 0),aL]):=TI.mk' kR kR kR
instance ti76 : TI acz 76 (.struct (bT acz 76)) 4 56 (Ag [(.int .u8 0),(S []),(.int .i64 0),aL]):=TI.mk' kR kR kR
instance ti85 : TI acz 85 (.struct (bT acz 85)) 3 48 (Ag [(S []),(S []),(S [])]):=TI.mk' kR kR kR
instance ti86 : TI acz 86 (.struct (bT acz 86)) 3 48 (Ag [(S []),(S []),(S [])]):=TI.mk' kR kR kR
instance ti91 : TI acz 91 (.pointer 93) 1 8 (.pointer none):=TI.mk' kR kR kR
instance ti92 : TI acz 92 (.struct (bT acz 92)) 5 64 (Ag [(.pointer none),(S []),(.bool false),aL,(.int .i64 0)]):=TI.mk' kR kR kR
instance ti93 : TI acz 93 (.struct (bT acz 93)) 5 64 (Ag [(.pointer none),(S []),(.bool false),aL,(.int .i64 0)]):=TI.mk' kR kR kR
instance ti100 : TI acz 100 (.struct (bT acz 100)) 2 32 (Ag [aL,(.int .i64 0)]):=TI.mk' kR kR kR
instance ti101 : TI acz 101 (.struct (bT acz 101)) 2 32 (Ag [aL,(.int .i64 0)]):=TI.mk' kR kR kR
instance ti113 : TI acz 113 (.struct (bT acz 113)) 1 24 (Ag [aL]):=TI.mk' kR kR kR
instance ti114 : TI acz 114 (.struct (bT acz 114)) 1 24 (Ag [aL]):=TI.mk' kR kR kR
instance ti118 : TI acz 118 (.slice 60) 1 24 aL:=TI.mk' kR kR kR
instance ti119 : TI acz 119 (.struct (bT acz 119)) 4 80 (Ag [(S []),(S []),aL,aL]):=TI.mk' kR kR kR
instance ti120 : TI acz 120 (.struct (bT acz 120)) 4 80 (Ag [(S []),(S []),aL,aL]):=TI.mk' kR kR kR
instance ti144 : TI acz 144 (.slice 150) 1 24 aL:=TI.mk' kR kR kR
instance ti145 : TI acz 145 (.struct (bT acz 145)) 3 48 (Ag [(.int .u8 0),(S []),aL]):=TI.mk' kR kR kR
instance ti146 : TI acz 146 (.struct (bT acz 146)) 3 48 (Ag [(.int .u8 0),(S []),aL]):=TI.mk' kR kR kR
instance ti149 : TI acz 149 (.struct (bT acz 149)) 4 56 (Ag [(.int .i64 0),(S []),(S []),(S [])]):=TI.mk' kR kR kR
instance ti150 : TI acz 150 (.struct (bT acz 150)) 4 56 (Ag [(.int .i64 0),(S []),(S []),(S [])]):=TI.mk' kR kR kR
instance ti155 : TI acz 155 (.map 9 160) 1 8 (.map none):=TI.mk' kR kR kR
instance ti156 : TI acz 156 (.slice 160) 1 24 aL:=TI.mk' kR kR kR
instance ti157 : TI acz 157 (.struct (bT acz 157)) 2 32 (Ag [aL,(.map none)]):=TI.mk' kR kR kR
instance ti158 : TI acz 158 (.struct (bT acz 158)) 2 32 (Ag [aL,(.map none)]):=TI.mk' kR kR kR
instance ti160 : TI acz 160 (.pointer 165) 1 8 (.pointer none):=TI.mk' kR kR kR
instance ti163 : TI acz 163 (.slice 167) 1 24 aL:=TI.mk' kR kR kR
instance ti164 : TI acz 164 (.struct (bT acz 164)) 4 64 (Ag [(.int .u8 0),(S []),aL,(S [])]):=TI.mk' kR kR kR
instance ti165 : TI acz 165 (.struct (bT acz 165)) 4 64 (Ag [(.int .u8 0),(S []),aL,(S [])]):=TI.mk' kR kR kR
instance ti166 : TI acz 166 (.struct (bT acz 166)) 6 88 (Ag [(.int .i64 0),(S []),(S []),(S []),(S []),(S [])]):=TI.mk' kR kR kR
instance ti167 : TI acz 167 (.struct (bT acz 167)) 6 88 (Ag [(.int .i64 0),(S []),(S []),(S []),(S []),(S [])]):=TI.mk' kR kR kR
instance ti173 : TI acz 173 (.pointer 167) 1 8 (.pointer none):=TI.mk' kR kR kR
instance ti177 : TI acz 177 (.pointer 179) 1 8 (.pointer none):=TI.mk' kR kR kR
instance ti178 : TI acz 178 (.struct (bT acz 178)) 2 32 (Ag [(.pointer none),aL]):=TI.mk' kR kR kR
instance ti179 : TI acz 179 (.struct (bT acz 179)) 2 32 (Ag [(.pointer none),aL]):=TI.mk' kR kR kR
instance ti185 : TI acz 185 (.pointer 187) 1 8 (.pointer none):=TI.mk' kR kR kR
instance ti186 : TI acz 186 (.struct (bT acz 186)) 3 32 (Ag [(.pointer none),(S []),(.bool false)]):=TI.mk' kR kR kR
instance ti187 : TI acz 187 (.struct (bT acz 187)) 3 32 (Ag [(.pointer none),(S []),(.bool false)]):=TI.mk' kR kR kR
instance ti200 : TI acz 200 (.array 256 4) 256 256 (Ag [bF,bF,bF,bF,bF,bF,bF,bF,bF,bF,bF,bF,bF,bF,bF,bF,bF,bF,bF,bF,bF,bF,bF,bF,bF,bF,bF,bF,bF,bF,bF,bF,bF,bF,bF,bF,bF,bF,bF,bF,bF,bF,bF,bF,bF,bF,bF,bF,bF,bF,bF,bF,bF,bF,bF,bF,bF,bF,bF,bF,bF,bF,bF,bF,bF,bF,bF,bF,bF,bF,bF,bF,bF,bF,bF,bF,bF,bF,bF,bF,bF,bF,bF,bF,bF,bF,bF,bF,bF,bF,bF,bF,bF,bF,bF,bF,bF,bF,bF,bF,bF,bF,bF,bF,bF,bF,bF,bF,bF,bF,bF,bF,bF,bF,bF,bF,bF,bF,bF,bF,bF,bF,bF,bF,bF,bF,bF,bF,bF,bF,bF,bF,bF,bF,bF,bF,bF,bF,bF,bF,bF,bF,bF,bF,bF,bF,bF,bF,bF,bF,bF,bF,bF,bF,bF,bF,bF,bF,bF,bF,bF,bF,bF,bF,bF,bF,bF,bF,bF,bF,bF,bF,bF,bF,bF,bF,bF,bF,bF,bF,bF,bF,bF,bF,bF,bF,bF,bF,bF,bF,bF,bF,bF,bF,bF,bF,bF,bF,bF,bF,bF,bF,bF,bF,bF,bF,bF,bF,bF,bF,bF,bF,bF,bF,bF,bF,bF,bF,bF,bF,bF,bF,bF,bF,bF,bF,bF,bF,bF,bF,bF,bF,bF,bF,bF,bF,bF,bF,bF,bF,bF,bF,bF,bF,bF,bF,bF,bF,bF,bF,bF,bF,bF,bF,bF,(.bool false)]):=TI.mk' kR kR kR
instance ti204 : TI acz 204 (.pointer 200) 1 8 (.pointer none):=TI.mk' kR kR kR
instance ti206 : TI acz 206 (.pointer 5) 1 8 (.pointer none):=TI.mk' kR kR kR
instance ti234 : TI acz 234 (.struct (bT acz 234)) 2 2 (Ag [(.int .u8 0),(.int .u8 0)]):=TI.mk' kR kR kR
instance ti235 : TI acz 235 (.struct (bT acz 235)) 2 2 (Ag [(.int .u8 0),(.int .u8 0)]):=TI.mk' kR kR kR
instance ti238 : TI acz 238 (.struct (bT acz 238)) 4 40 (Ag [(.pointer none),(.pointer none),(.pointer none),(S [])]):=TI.mk' kR kR kR
instance ti239 : TI acz 239 (.struct (bT acz 239)) 4 40 (Ag [(.pointer none),(.pointer none),(.pointer none),(S [])]):=TI.mk' kR kR kR
instance fa7_0 : FA acz 7 0 0:=FA.mk' kR ti2 rfl
instance fv7_0 : FV acz 7 0 false 0 1:=FV.mk' kR ti2 rfl
instance fa7_1 : FA acz 7 1 1:=FA.mk' kR ti3 rfl
instance fv7_1 : FV acz 7 1 false 1 1:=FV.mk' kR ti3 rfl
instance fa7_2 : FA acz 7 2 2:=FA.mk' kR ti4 rfl
instance fv7_2 : FV acz 7 2 false 2 1:=FV.mk' kR ti4 rfl
instance fa7_3 : FA acz 7 3 3:=FA.mk' kR ti6 rfl
instance fv7_3 : FV acz 7 3 false 3 1:=FV.mk' kR ti6 rfl
instance fa8_0 : FA acz 8 0 0:=FA.mk' kR ti2 rfl
instance fv8_0 : FV acz 8 0 false 0 1:=FV.mk' kR ti2 rfl
instance fa8_1 : FA acz 8 1 1:=FA.mk' kR ti3 rfl
instance fv8_1 : FV acz 8 1 false 1 1:=FV.mk' kR ti3 rfl
instance fa8_2 : FA acz 8 2 2:=FA.mk' kR ti4 rfl
instance fv8_2 : FV acz 8 2 false 2 1:=FV.mk' kR ti4 rfl
instance fa8_3 : FA acz 8 3 3:=FA.mk' kR ti6 rfl
instance fv8_3 : FV acz 8 3 false 3 1:=FV.mk' kR ti6 rfl
instance fa13_0 : FA acz 13 0 0:=FA.mk' kR ti9 rfl
instance fv13_0 : FV acz 13 0 false 0 1:=FV.mk' kR ti9 rfl
instance fa13_1 : FA acz 13 1 1:=FA.mk' kR ti12 rfl
instance fv13_1 : FV acz 13 1 false 1 1:=FV.mk' kR ti12 rfl
instance fa14_0 : FA acz 14 0 0:=FA.mk' kR ti9 rfl
instance fv14_0 : FV acz 14 0 false 0 1:=FV.mk' kR ti9 rfl
instance fa14_1 : FA acz 14 1 1:=FA.mk' kR ti12 rfl
instance fv14_1 : FV acz 14 1 false 1 1:=FV.mk' kR ti12 rfl
instance fa18_0 : FA acz 18 0 0:=FA.mk' kR ti17 rfl
instance fv18_0 : FV acz 18 0 false 0 1:=FV.mk' kR ti17 rfl
instance fa19_0 : FA acz 19 0 0:=FA.mk' kR ti17 rfl
instance fv19_0 : FV acz 19 0 false 0 1:=FV.mk' kR ti17 rfl
instance fa35_0 : FA acz 35 0 0:=FA.mk' kR ti9 rfl
instance fv35_0 : FV acz 35 0 false 0 1:=FV.mk' kR ti9 rfl
instance fa35_1 : FA acz 35 1 1:=FA.mk' kR ti34 rfl
instance fv35_1 : FV acz 35 1 false 1 1:=FV.mk' kR ti34 rfl
instance fa36_0 : FA acz 36 0 0:=FA.mk' kR ti9 rfl
instance fv36_0 : FV acz 36 0 false 0 1:=FV.mk' kR ti9 rfl
instance fa36_1 : FA acz 36 1 1:=FA.mk' kR ti34 rfl
instance fv36_1 : FV acz 36 1 false 1 1:=FV.mk' kR ti34 rfl
instance : BT acz 36 [(0,1),(1,1)] [(S []),aL]:=BT.mk' [(9,0,1),(34,1,1)] rfl kR kR rfl
instance fa70_0 : FA acz 70 0 0:=FA.mk' kR ti9 rfl
instance fv70_0 : FV acz 70 0 false 0 1:=FV.mk' kR ti9 rfl
instance fa70_1 : FA acz 70 1 1:=FA.mk' kR ti9 rfl
instance fv70_1 : FV acz 70 1 false 1 1:=FV.mk' kR ti9 rfl
instance fa70_2 : FA acz 70 2 2:=FA.mk' kR ti9 rfl
instance fv70_2 : FV acz 70 2 false 2 1:=FV.mk' kR ti9 rfl
instance fa71_0 : FA acz 71 0 0:=FA.mk' kR ti9 rfl
instance fv71_0 : FV acz 71 0 false 0 1:=FV.mk' kR ti9 rfl
instance fa71_1 : FA acz 71 1 1:=FA.mk' kR ti9 rfl
instance fv71_1 : FV acz 71 1 false 1 1:=FV.mk' kR ti9 rfl
instance fa71_2 : FA acz 71 2 2:=FA.mk' kR ti9 rfl
instance fv71_2 : FV acz 71 2 false 2 1:=FV.mk' kR ti9 rfl
instance : BT acz 71 [(0,1),(1,1),(2,1)] [(S []),(S []),(S [])]:=BT.mk' [(9,0,1),(9,1,1),(9,2,1)] rfl kR kR rfl
instance fa75_0 : FA acz 75 0 0:=FA.mk' kR ti5 rfl
instance fv75_0 : FV acz 75 0 false 0 1:=FV.mk' kR ti5 rfl
instance fa75_1 : FA acz 75 1 1:=FA.mk' kR ti9 rfl
instance fv75_1 : FV acz 75 1 false 1 1:=FV.mk' kR ti9 rfl
instance fa75_2 : FA acz 75 2 2:=FA.mk' kR ti3 rfl
instance fv75_2 : FV acz 75 2 false 2 1:=FV.mk' kR ti3 rfl
instance fa75_3 : FA acz 75 3 3:=FA.mk' kR ti74 rfl
instance fv75_3 : FV acz 75 3 false 3 1:=FV.mk' kR ti74 rfl
instance fa76_0 : FA acz 76 0 0:=FA.mk' kR ti5 rfl
instance fv76_0 : FV acz 76 0 false 0 1:=FV.mk' kR ti5 rfl
instance fa76_1 : FA acz 76 1 1:=FA.mk' kR ti9 rfl
instance fv76_1 : FV acz 76 1 false 1 1:=FV.mk' kR ti9 rfl
instance fa76_2 : FA acz 76 2 2:=FA.mk' kR ti3 rfl
instance fv76_2 : FV acz 76 2 false 2 1:=FV.mk' kR ti3 rfl
instance fa76_3 : FA acz 76 3 3:=FA.mk' kR ti74 rfl
instance fv76_3 : FV acz 76 3 false 3 1:=FV.mk' kR ti74 rfl
instance : BT acz 76 [(0,1),(1,1),(2,1),(3,1)] [(.int .u8 0),(S []),(.int .i64 0),aL]:=BT.mk' [(5,0,1),(9,1,1),(3,2,1),(74,3,1)] rfl kR kR rfl
instance fa85_0 : FA acz 85 0 0:=FA.mk' kR ti9 rfl
instance fv85_0 : FV acz 85 0 false 0 1:=FV.mk' kR ti9 rfl
instance fa85_1 : FA acz 85 1 1:=FA.mk' kR ti9 rfl
instance fv85_1 : FV acz 85 1 false 1 1:=FV.mk' kR ti9 rfl
instance fa85_2 : FA acz 85 2 2:=FA.mk' kR ti9 rfl
instance fv85_2 : FV acz 85 2 false 2 1:=FV.mk' kR ti9 rfl
instance fa86_0 : FA acz 86 0 0:=FA.mk' kR ti9 rfl
instance fv86_0 : FV acz 86 0 false 0 1:=FV.mk' kR ti9 rfl
instance fa86_1 : FA acz 86 1 1:=FA.mk' kR ti9 rfl
instance fv86_1 : FV acz 86 1 false 1 1:=FV.mk' kR ti9 rfl
instance fa86_2 : FA acz 86 2 2:=FA.mk' kR ti9 rfl
instance fv86_2 : FV acz 86 2 false 2 1:=FV.mk' kR ti9 rfl
instance : BT acz 86 [(0,1),(1,1),(2,1)] [(S []),(S []),(S [])]:=BT.mk' [(9,0,1),(9,1,1),(9,2,1)] rfl kR kR rfl
instance fa92_0 : FA acz 92 0 0:=FA.mk' kR ti69 rfl
instance fv92_0 : FV acz 92 0 false 0 1:=FV.mk' kR ti69 rfl
instance fa92_1 : FA acz 92 1 1:=FA.mk' kR ti9 rfl
instance fv92_1 : FV acz 92 1 false 1 1:=FV.mk' kR ti9 rfl
instance fa92_2 : FA acz 92 2 2:=FA.mk' kR ti4 rfl
instance fv92_2 : FV acz 92 2 false 2 1:=FV.mk' kR ti4 rfl
instance fa92_3 : FA acz 92 3 3:=FA.mk' kR ti63 rfl
instance fv92_3 : FV acz 92 3 false 3 1:=FV.mk' kR ti63 rfl
instance fa92_4 : FA acz 92 4 4:=FA.mk' kR ti3 rfl
instance fv92_4 : FV acz 92 4 false 4 1:=FV.mk' kR ti3 rfl
instance fa93_0 : FA acz 93 0 0:=FA.mk' kR ti69 rfl
instance fv93_0 : FV acz 93 0 false 0 1:=FV.mk' kR ti69 rfl
instance fa93_1 : FA acz 93 1 1:=FA.mk' kR ti9 rfl
instance fv93_1 : FV acz 93 1 false 1 1:=FV.mk' kR ti9 rfl
instance fa93_2 : FA acz 93 2 2:=FA.mk' kR ti4 rfl
instance fv93_2 : FV acz 93 2 false 2 1:=FV.mk' kR ti4 rfl
instance fa93_3 : FA acz 93 3 3:=FA.mk' kR ti63 rfl
instance fv93_3 : FV acz 93 3 false 3 1:=FV.mk' kR ti63 rfl
instance fa93_4 : FA acz 93 4 4:=FA.mk' kR ti3 rfl
instance fv93_4 : FV acz 93 4 false 4 1:=FV.mk' kR ti3 rfl
instance : BT acz 93 [(0,1),(1,1),(2,1),(3,1),(4,1)] [(.pointer none),(S []),(.bool false),aL,(.int .i64 0)]:=BT.mk' [(69,0,1),(9,1,1),(4,2,1),(63,3,1),(3,4,1)] rfl kR kR rfl
instance fa100_0 : FA acz 100 0 0:=FA.mk' kR ti22 rfl
instance fv100_0 : FV acz 100 0 false 0 1:=FV.mk' kR ti22 rfl
instance fa100_1 : FA acz 100 1 1:=FA.mk' kR ti3 rfl
instance fv100_1 : FV acz 100 1 false 1 1:=FV.mk' kR ti3 rfl
instance fa101_0 : FA acz 101 0 0:=FA.mk' kR ti22 rfl
instance fv101_0 : FV acz 101 0 false 0 1:=FV.mk' kR ti22 rfl
instance fa101_1 : FA acz 101 1 1:=FA.mk' kR ti3 rfl
instance fv101_1 : FV acz 101 1 false 1 1:=FV.mk' kR ti3 rfl
instance : BT acz 101 [(0,1),(1,1)] [aL,(.int .i64 0)]:=BT.mk' [(22,0,1),(3,1,1)] rfl kR kR rfl
instance fa113_0 : FA acz 113 0 0:=FA.mk' kR ti59 rfl
instance fv113_0 : FV acz 113 0 false 0 1:=FV.mk' kR ti59 rfl
instance fa114_0 : FA acz 114 0 0:=FA.mk' kR ti59 rfl
instance fv114_0 : FV acz 114 0 false 0 1:=FV.mk' kR ti59 rfl
instance : BT acz 114 [(0,1)] [aL]:=BT.mk' [(59,0,1)] rfl kR kR rfl
instance fa119_0 : FA acz 119 0 0:=FA.mk' kR ti9 rfl
instance fv119_0 : FV acz 119 0 false 0 1:=FV.mk' kR ti9 rfl
instance fa119_1 : FA acz 119 1 1:=FA.mk' kR ti9 rfl
instance fv119_1 : FV acz 119 1 false 1 1:=FV.mk' kR ti9 rfl
instance fa119_2 : FA acz 119 2 2:=FA.mk' kR ti63 rfl
instance fv119_2 : FV acz 119 2 false 2 1:=FV.mk' kR ti63 rfl
instance fa119_3 : FA acz 119 3 3:=FA.mk' kR ti118 rfl
instance fv119_3 : FV acz 119 3 false 3 1:=FV.mk' kR ti118 rfl
instance fa120_0 : FA acz 120 0 0:=FA.mk' kR ti9 rfl
instance fv120_0 : FV acz 120 0 false 0 1:=FV.mk' kR ti9 rfl
instance fa120_1 : FA acz 120 1 1:=FA.mk' kR ti9 rfl
instance fv120_1 : FV acz 120 1 false 1 1:=FV.mk' kR ti9 rfl
instance fa120_2 : FA acz 120 2 2:=FA.mk' kR ti63 rfl
instance fv120_2 : FV acz 120 2 false 2 1:=FV.mk' kR ti63 rfl
instance fa120_3 : FA acz 120 3 3:=FA.mk' kR ti118 rfl
instance fv120_3 : FV acz 120 3 false 3 1:=FV.mk' kR ti118 rfl
instance : BT acz 120 [(0,1),(1,1),(2,1),(3,1)] [(S []),(S []),aL,aL]:=BT.mk' [(9,0,1),(9,1,1),(63,2,1),(118,3,1)] rfl kR kR rfl
instance fa145_0 : FA acz 145 0 0:=FA.mk' kR ti5 rfl
instance fv145_0 : FV acz 145 0 false 0 1:=FV.mk' kR ti5 rfl
instance fa145_1 : FA acz 145 1 1:=FA.mk' kR ti9 rfl
instance fv145_1 : FV acz 145 1 false 1 1:=FV.mk' kR ti9 rfl
instance fa145_2 : FA acz 145 2 2:=FA.mk' kR ti144 rfl
instance fv145_2 : FV acz 145 2 false 2 1:=FV.mk' kR ti144 rfl
instance fa146_0 : FA acz 146 0 0:=FA.mk' kR ti5 rfl
instance fv146_0 : FV acz 146 0 false 0 1:=FV.mk' kR ti5 rfl
instance fa146_1 : FA acz 146 1 1:=FA.mk' kR ti9 rfl
instance fv146_1 : FV acz 146 1 false 1 1:=FV.mk' kR ti9 rfl
instance fa146_2 : FA acz 146 2 2:=FA.mk' kR ti144 rfl
instance fv146_2 : FV acz 146 2 false 2 1:=FV.mk' kR ti144 rfl
instance : BT acz 146 [(0,1),(1,1),(2,1)] [(.int .u8 0),(S []),aL]:=BT.mk' [(5,0,1),(9,1,1),(144,2,1)] rfl kR kR rfl
instance fa149_0 : FA acz 149 0 0:=FA.mk' kR ti3 rfl
instance fv149_0 : FV acz 149 0 false 0 1:=FV.mk' kR ti3 rfl
instance fa149_1 : FA acz 149 1 1:=FA.mk' kR ti9 rfl
instance fv149_1 : FV acz 149 1 false 1 1:=FV.mk' kR ti9 rfl
instance fa149_2 : FA acz 149 2 2:=FA.mk' kR ti9 rfl
instance fv149_2 : FV acz 149 2 false 2 1:=FV.mk' kR ti9 rfl
instance fa149_3 : FA acz 149 3 3:=FA.mk' kR ti9 rfl
instance fv149_3 : FV acz 149 3 false 3 1:=FV.mk' kR ti9 rfl
instance fa150_0 : FA acz 150 0 0:=FA.mk' kR ti3 rfl
instance fv150_0 : FV acz 150 0 false 0 1:=FV.mk' kR ti3 rfl
instance fa150_1 : FA acz 150 1 1:=FA.mk' kR ti9 rfl
instance fv150_1 : FV acz 150 1 false 1 1:=FV.mk' kR ti9 rfl
instance fa150_2 : FA acz 150 2 2:=FA.mk' kR ti9 rfl
instance fv150_2 : FV acz 150 2 false 2 1:=FV.mk' kR ti9 rfl
instance fa150_3 : FA acz 150 3 3:=FA.mk' kR ti9 rfl
instance fv150_3 : FV acz 150 3 false 3 1:=FV.mk' kR ti9 rfl
instance : BT acz 150 [(0,1),(1,1),(2,1),(3,1)] [(.int .i64 0),(S []),(S []),(S [])]:=BT.mk' [(3,0,1),(9,1,1),(9,2,1),(9,3,1)] rfl kR kR rfl
instance fa157_0 : FA acz 157 0 0:=FA.mk' kR ti156 rfl
instance fv157_0 : FV acz 157 0 false 0 1:=FV.mk' kR ti156 rfl
instance fa157_1 : FA acz 157 1 1:=FA.mk' kR ti155 rfl
instance fv157_1 : FV acz 157 1 false 1 1:=FV.mk' kR ti155 rfl
instance fa158_0 : FA acz 158 0 0:=FA.mk' kR ti156 rfl
instance fv158_0 : FV acz 158 0 false 0 1:=FV.mk' kR ti156 rfl
instance fa158_1 : FA acz 158 1 1:=FA.mk' kR ti155 rfl
instance fv158_1 : FV acz 158 1 false 1 1:=FV.mk' kR ti155 rfl
instance : BT acz 158 [(0,1),(1,1)] [aL,(.map none)]:=BT.mk' [(156,0,1),(155,1,1)] rfl kR kR rfl
instance fa164_0 : FA acz 164 0 0:=FA.mk' kR ti5 rfl
instance fv164_0 : FV acz 164 0 false 0 1:=FV.mk' kR ti5 rfl
instance fa164_1 : FA acz 164 1 1:=FA.mk' kR ti9 rfl
instance fv164_1 : FV acz 164 1 false 1 1:=FV.mk' kR ti9 rfl
instance fa164_2 : FA acz 164 2 2:=FA.mk' kR ti163 rfl
instance fv164_2 : FV acz 164 2 false 2 1:=FV.mk' kR ti163 rfl
instance fa164_3 : FA acz 164 3 3:=FA.mk' kR ti9 rfl
instance fv164_3 : FV acz 164 3 false 3 1:=FV.mk' kR ti9 rfl
instance fa165_0 : FA acz 165 0 0:=FA.mk' kR ti5 rfl
instance fv165_0 : FV acz 165 0 false 0 1:=FV.mk' kR ti5 rfl
instance fa165_1 : FA acz 165 1 1:=FA.mk' kR ti9 rfl
instance fv165_1 : FV acz 165 1 false 1 1:=FV.mk' kR ti9 rfl
instance fa165_2 : FA acz 165 2 2:=FA.mk' kR ti163 rfl
instance fv165_2 : FV acz 165 2 false 2 1:=FV.mk' kR ti163 rfl
instance fa165_3 : FA acz 165 3 3:=FA.mk' kR ti9 rfl
instance fv165_3 : FV acz 165 3 false 3 1:=FV.mk' kR ti9 rfl
instance : BT acz 165 [(0,1),(1,1),(2,1),(3,1)] [(.int .u8 0),(S []),aL,(S [])]:=BT.mk' [(5,0,1),(9,1,1),(163,2,1),(9,3,1)] rfl kR kR rfl
instance fa166_0 : FA acz 166 0 0:=FA.mk' kR ti3 rfl
instance fv166_0 : FV acz 166 0 false 0 1:=FV.mk' kR ti3 rfl
instance fa166_1 : FA acz 166 1 1:=FA.mk' kR ti9 rfl
instance fv166_1 : FV acz 166 1 false 1 1:=FV.mk' kR ti9 rfl
instance fa166_2 : FA acz 166 2 2:=FA.mk' kR ti71 rfl
instance fv166_2 : FV acz 166 2 true 2 3:=FV.mk' kR ti71 rfl
instance fa166_3 : FA acz 166 3 5:=FA.mk' kR ti9 rfl
instance fv166_3 : FV acz 166 3 false 5 1:=FV.mk' kR ti9 rfl
instance fa167_0 : FA acz 167 0 0:=FA.mk' kR ti3 rfl
instance fv167_0 : FV acz 167 0 false 0 1:=FV.mk' kR ti3 rfl
instance fa167_1 : FA acz 167 1 1:=FA.mk' kR ti9 rfl
instance fv167_1 : FV acz 167 1 false 1 1:=FV.mk' kR ti9 rfl
instance fa167_2 : FA acz 167 2 2:=FA.mk' kR ti71 rfl
instance fv167_2 : FV acz 167 2 true 2 3:=FV.mk' kR ti71 rfl
instance fa167_3 : FA acz 167 3 5:=FA.mk' kR ti9 rfl
instance fv167_3 : FV acz 167 3 false 5 1:=FV.mk' kR ti9 rfl
instance : BT acz 167 [(0,1),(1,1),(2,3),(5,1)] [(.int .i64 0),(S []),(S []),(S []),(S []),(S [])]:=BT.mk' [(3,0,1),(9,1,1),(71,2,3),(9,5,1)] rfl kR kR rfl
instance fa178_0 : FA acz 178 0 0:=FA.mk' kR ti177 rfl
instance fv178_0 : FV acz 178 0 false 0 1:=FV.mk' kR ti177 rfl
instance fa178_1 : FA acz 178 1 1:=FA.mk' kR ti22 rfl
instance fv178_1 : FV acz 178 1 false 1 1:=FV.mk' kR ti22 rfl
instance fa179_0 : FA acz 179 0 0:=FA.mk' kR ti177 rfl
instance fv179_0 : FV acz 179 0 false 0 1:=FV.mk' kR ti177 rfl
instance fa179_1 : FA acz 179 1 1:=FA.mk' kR ti22 rfl
instance fv179_1 : FV acz 179 1 false 1 1:=FV.mk' kR ti22 rfl
instance : BT acz 179 [(0,1),(1,1)] [(.pointer none),aL]:=BT.mk' [(177,0,1),(22,1,1)] rfl kR kR rfl
instance fa186_0 : FA acz 186 0 0:=FA.mk' kR ti69 rfl
instance fv186_0 : FV acz 186 0 false 0 1:=FV.mk' kR ti69 rfl
instance fa186_1 : FA acz 186 1 1:=FA.mk' kR ti9 rfl
instance fv186_1 : FV acz 186 1 false 1 1:=FV.mk' kR ti9 rfl
instance fa186_2 : FA acz 186 2 2:=FA.mk' kR ti4 rfl
instance fv186_2 : FV acz 186 2 false 2 1:=FV.mk' kR ti4 rfl
instance fa187_0 : FA acz 187 0 0:=FA.mk' kR ti69 rfl
instance fv187_0 : FV acz 187 0 false 0 1:=FV.mk' kR ti69 rfl
instance fa187_1 : FA acz 187 1 1:=FA.mk' kR ti9 rfl
instance fv187_1 : FV acz 187 1 false 1 1:=FV.mk' kR ti9 rfl
instance fa187_2 : FA acz 187 2 2:=FA.mk' kR ti4 rfl
instance fv187_2 : FV acz 187 2 false 2 1:=FV.mk' kR ti4 rfl
instance : BT acz 187 [(0,1),(1,1),(2,1)] [(.pointer none),(S []),(.bool false)]:=BT.mk' [(69,0,1),(9,1,1),(4,2,1)] rfl kR kR rfl
instance fa234_0 : FA acz 234 0 0:=FA.mk' kR ti5 rfl
instance fv234_0 : FV acz 234 0 false 0 1:=FV.mk' kR ti5 rfl
instance fa234_1 : FA acz 234 1 1:=FA.mk' kR ti5 rfl
instance fv234_1 : FV acz 234 1 false 1 1:=FV.mk' kR ti5 rfl
instance fa235_0 : FA acz 235 0 0:=FA.mk' kR ti5 rfl
instance fv235_0 : FV acz 235 0 false 0 1:=FV.mk' kR ti5 rfl
instance fa235_1 : FA acz 235 1 1:=FA.mk' kR ti5 rfl
instance fv235_1 : FV acz 235 1 false 1 1:=FV.mk' kR ti5 rfl
instance fa238_0 : FA acz 238 0 0:=FA.mk' kR ti17 rfl
instance fv238_0 : FV acz 238 0 false 0 1:=FV.mk' kR ti17 rfl
instance fa238_1 : FA acz 238 1 1:=FA.mk' kR ti17 rfl
instance fv238_1 : FV acz 238 1 false 1 1:=FV.mk' kR ti17 rfl
instance fa238_2 : FA acz 238 2 2:=FA.mk' kR ti17 rfl
instance fv238_2 : FV acz 238 2 false 2 1:=FV.mk' kR ti17 rfl
instance fa238_3 : FA acz 238 3 3:=FA.mk' kR ti9 rfl
instance fv238_3 : FV acz 238 3 false 3 1:=FV.mk' kR ti9 rfl
instance fa239_0 : FA acz 239 0 0:=FA.mk' kR ti17 rfl
instance fv239_0 : FV acz 239 0 false 0 1:=FV.mk' kR ti17 rfl
instance fa239_1 : FA acz 239 1 1:=FA.mk' kR ti17 rfl
instance fv239_1 : FV acz 239 1 false 1 1:=FV.mk' kR ti17 rfl
instance fa239_2 : FA acz 239 2 2:=FA.mk' kR ti17 rfl
instance fv239_2 : FV acz 239 2 false 2 1:=FV.mk' kR ti17 rfl
instance fa239_3 : FA acz 239 3 3:=FA.mk' kR ti9 rfl
instance fv239_3 : FV acz 239 3 false 3 1:=FV.mk' kR ti9 rfl
def tb : Tbl:=⟨12,42404329554681223909999140017830044379859613525014854994918548831022874720,16,3584,128555092784112555274688629758034047715783940054155593454419968,[(7,[(false,0,1),(false,1,1),(false,2,1),(false,3,1)]),(8,[(false,0,1),(false,1,1),(false,2,1),(false,3,1)]),(13,[(false,0,1),(false,1,1)]),(14,[(false,0,1),(false,1,1)]),(18,[(false,0,1)]),(19,[(false,0,1)]),(35,[(false,0,1),(false,1,1)]),(36,[(false,0,1),(false,1,1)]),(70,[(false,0,1),(false,1,1),(false,2,1)]),(71,[(false,0,1),(false,1,1),(false,2,1)]),(75,[(false,0,1),(false,1,1),(false,2,1),(false,3,1)]),(76,[(false,0,1),(false,1,1),(false,2,1),(false,3,1)]),(85,[(false,0,1),(false,1,1),(false,2,1)]),(86,[(false,0,1),(false,1,1),(false,2,1)]),(92,[(false,0,1),(false,1,1),(false,2,1),(false,3,1),(false,4,1)]),(93,[(false,0,1),(false,1,1),(false,2,1),(false,3,1),(false,4,1)]),(100,[(false,0,1),(false,1,1)]),(101,[(false,0,1),(false,1,1)]),(113,[(false,0,1)]),(114,[(false,0,1)]),(119,[(false,0,1),(false,1,1),(false,2,1),(false,3,1)]),(120,[(false,0,1),(false,1,1),(false,2,1),(false,3,1)]),(145,[(false,0,1),(false,1,1),(false,2,1)]),(146,[(false,0,1),(false,1,1),(false,2,1)]),(149,[(false,0,1),(false,1,1),(false,2,1),(false,3,1)]),(150,[(false,0,1),(false,1,1),(false,2,1),(false,3,1)]),(157,[(false,0,1),(false,1,1)]),(158,[(false,0,1),(false,1,1)]),(164,[(false,0,1),(false,1,1),(false,2,1),(false,3,1)]),(165,[(false,0,1),(false,1,1),(false,2,1),(false,3,1)]),(166,[(false,0,1),(false,1,1),(true,2,3),(false,5,1)]),(167,[(false,0,1),(false,1,1),(true,2,3),(false,5,1)]),(178,[(false,0,1),(false,1,1)]),(179,[(false,0,1),(false,1,1)]),(186,[(false,0,1),(false,1,1),(false,2,1)]),(187,[(false,0,1),(false,1,1),(false,2,1)]),(234,[(false,0,1),(false,1,1)]),(235,[(false,0,1),(false,1,1)]),(238,[(false,0,1),(false,1,1),(false,2,1),(false,3,1)]),(239,[(false,0,1),(false,1,1),(false,2,1),(false,3,1)])]⟩
theorem ab9 : t7 acz tb.fl:=⟨⟨⟨fv7_0,fa7_0⟩,⟨fv7_1,fa7_1⟩,⟨fv7_2,fa7_2⟩,⟨fv7_3,fa7_3⟩,trivial⟩,⟨⟨fv8_0,fa8_0⟩,⟨fv8_1,fa8_1⟩,⟨fv8_2,fa8_2⟩,⟨fv8_3,fa8_3⟩,trivial⟩,⟨⟨fv13_0,fa13_0⟩,⟨fv13_1,fa13_1⟩,trivial⟩,⟨⟨fv14_0,fa14_0⟩,⟨fv14_1,fa14_1⟩,trivial⟩,⟨⟨fv18_0,fa18_0⟩,trivial⟩,⟨⟨fv19_0,fa19_0⟩,trivial⟩,⟨⟨fv35_0,fa35_0⟩,⟨fv35_1,fa35_1⟩,trivial⟩,⟨⟨fv36_0,fa36_0⟩,⟨fv36_1,fa36_1⟩,trivial⟩,⟨⟨fv70_0,fa70_0⟩,⟨fv70_1,fa70_1⟩,⟨fv70_2,fa70_2⟩,trivial⟩,⟨⟨fv71_0,fa71_0⟩,⟨fv71_1,fa71_1⟩,⟨fv71_2,fa71_2⟩,trivial⟩,⟨⟨fv75_0,fa75_0⟩,⟨fv75_1,fa75_1⟩,⟨fv75_2,fa75_2⟩,⟨fv75_3,fa75_3⟩,trivial⟩,⟨⟨fv76_0,fa76_0⟩,⟨fv76_1,fa76_1⟩,⟨fv76_2,fa76_2⟩,⟨fv76_3,fa76_3⟩,trivial⟩,⟨⟨fv85_0,fa85_0⟩,⟨fv85_1,fa85_1⟩,⟨fv85_2,fa85_2⟩,trivial⟩,⟨⟨fv86_0,fa86_0⟩,⟨fv86_1,fa86_1⟩,⟨fv86_2,fa86_2⟩,trivial⟩,⟨⟨fv92_0,fa92_0⟩,⟨fv92_1,fa92_1⟩,⟨fv92_2,fa92_2⟩,⟨fv92_3,fa92_3⟩,⟨fv92_4,fa92_4⟩,trivial⟩,⟨⟨fv93_0,fa93_0⟩,⟨fv93_1,fa93_1⟩,⟨fv93_2,fa93_2⟩,⟨fv93_3,fa93_3⟩,⟨fv93_4,fa93_4⟩,trivial⟩,⟨⟨fv100_0,fa100_0⟩,⟨fv100_1,fa100_1⟩,trivial⟩,⟨⟨fv101_0,fa101_0⟩,⟨fv101_1,fa101_1⟩,trivial⟩,⟨⟨fv113_0,fa113_0⟩,trivial⟩,⟨⟨fv114_0,fa114_0⟩,trivial⟩,⟨⟨fv119_0,fa119_0⟩,⟨fv119_1,fa119_1⟩,⟨fv119_2,fa119_2⟩,⟨fv119_3,fa119_3⟩,trivial⟩,⟨⟨fv120_0,fa120_0⟩,⟨fv120_1,fa120_1⟩,⟨fv120_2,fa120_2⟩,⟨fv120_3,fa120_3⟩,trivial⟩,⟨⟨fv145_0,fa145_0⟩,⟨fv145_1,fa145_1⟩,⟨fv145_2,fa145_2⟩,trivial⟩,⟨⟨fv146_0,fa146_0⟩,⟨fv146_1,fa146_1⟩,⟨fv146_2,fa146_2⟩,trivial⟩,⟨⟨fv149_0,fa149_0⟩,⟨fv149_1,fa149_1⟩,⟨fv149_2,fa149_2⟩,⟨fv149_3,fa149_3⟩,trivial⟩,⟨⟨fv150_0,fa150_0⟩,⟨fv150_1,fa150_1⟩,⟨fv150_2,fa150_2⟩,⟨fv150_3,fa150_3⟩,trivial⟩,⟨⟨fv157_0,fa157_0⟩,⟨fv157_1,fa157_1⟩,trivial⟩,⟨⟨fv158_0,fa158_0⟩,⟨fv158_1,fa158_1⟩,trivial⟩,⟨⟨fv164_0,fa164_0⟩,⟨fv164_1,fa164_1⟩,⟨fv164_2,fa164_2⟩,⟨fv164_3,fa164_3⟩,trivial⟩,⟨⟨fv165_0,fa165_0⟩,⟨fv165_1,fa165_1⟩,⟨fv165_2,fa165_2⟩,⟨fv165_3,fa165_3⟩,trivial⟩,⟨⟨fv166_0,fa166_0⟩,⟨fv166_1,fa166_1⟩,⟨fv166_2,fa166_2⟩,⟨fv166_3,fa166_3⟩,trivial⟩,⟨⟨fv167_0,fa167_0⟩,⟨fv167_1,fa167_1⟩,⟨fv167_2,fa167_2⟩,⟨fv167_3,fa167_3⟩,trivial⟩,⟨⟨fv178_0,fa178_0⟩,⟨fv178_1,fa178_1⟩,trivial⟩,⟨⟨fv179_0,fa179_0⟩,⟨fv179_1,fa179_1⟩,trivial⟩,⟨⟨fv186_0,fa186_0⟩,⟨fv186_1,fa186_1⟩,⟨fv186_2,fa186_2⟩,trivial⟩,⟨⟨fv187_0,fa187_0⟩,⟨fv187_1,fa187_1⟩,⟨fv187_2,fa187_2⟩,trivial⟩,⟨⟨fv234_0,fa234_0⟩,⟨fv234_1,fa234_1⟩,trivial⟩,⟨⟨fv235_0,fa235_0⟩,⟨fv235_1,fa235_1⟩,trivial⟩,⟨⟨fv238_0,fa238_0⟩,⟨fv238_1,fa238_1⟩,⟨fv238_2,fa238_2⟩,⟨fv238_3,fa238_3⟩,trivial⟩,⟨⟨fv239_0,fa239_0⟩,⟨fv239_1,fa239_1⟩,⟨fv239_2,fa239_2⟩,⟨fv239_3,fa239_3⟩,trivial⟩,trivial⟩
instance : Tab acz tb:=Tab.mk' 250 kR kR kR kR kR ab9
theorem ai : acz.follows .mixedOrders = true:=by kernel_rfl
section
variable {n : Nat} {D : List Deferred} {E : bn} {B : Base} {G : Gh} {L : List Own} {k : List Fr} {Q : Exit → Act → World → Prop} {K : Act → World → Prop}
theorem jT [PQ Q] {ops : List Oper} {G0 : Gh} {L0 : List Own} (fuel : Nat) (is : List Nat) {E' : bn} {p' : List Prop} {fuel' : Nat} {listed : Array Bool} (listed' : Array Bool) (hn : Nx n D E' B G L (xA acz ops.toArray Q (b5 B G0 L0) fuel listed'))
    (hf : Nat.beq (fuel + is.length) fuel' = true:=by exact F) (h : g6 tb n ops is E [] = some (E',p'):=by exact F) (hsel : Region.noSelect ops.toArray = true:=by kernel_rfl) (hb : lC ops.toArray is listed listed' = true:=by kernel_rfl)
    (hG : Gh.le G0 G:=by first | exact Gh.le.refl _ | assumption) (hL : L0.Sublist L:=by repeat (first | exact List.Sublist.refl _ | exact List.nil_sublist _ | apply List.Sublist.cons_cons | apply List.Sublist.cons)) (hp : g5 p':=by exact trivial) : Nx n D E B G L (xA acz ops.toArray Q (b5 B G0 L0) fuel' listed):=tD is listed' hsel hb hf h hG hL hp hn
theorem jU [PQ Q] {ops : List Oper} {G0 : Gh} {L0 : List Own} (fuel : Nat) (is : List Nat) {E' : bn} {p' : List Prop} {fuel' : Nat} {listed : Array Bool} (listed' : Array Bool) (hp : g5 p') (hn : Nx n D E' B G L (xA acz ops.toArray Q (b5 B G0 L0) fuel listed'))
    (hf : Nat.beq (fuel + is.length) fuel' = true:=by exact F) (h : g6 tb n ops is E [] = some (E',p'):=by exact F) (hsel : Region.noSelect ops.toArray = true:=by kernel_rfl) (hb : lC ops.toArray is listed listed' = true:=by kernel_rfl)
    (hG : Gh.le G0 G:=by first | exact Gh.le.refl _ | assumption) (hL : L0.Sublist L:=by repeat (first | exact List.Sublist.refl _ | exact List.nil_sublist _ | apply List.Sublist.cons_cons | apply List.Sublist.cons)) : Nx n D E B G L (xA acz ops.toArray Q (b5 B G0 L0) fuel' listed):=tD is listed' hsel hb hf h hG hL hp hn
theorem jN {ops : List Oper} {G0 : Gh} {L0 : List Own} {fuel : Nat} {listed : Array Bool} (listed' : Array Bool) [PQ Q] (i : Nat) {o : Oper} {d : Nat} (hi : ops.toArray[i]? = some o)
    (k : Nx n D ((d,undef) :: E) B G L (xA acz ops.toArray Q (b5 B G0 L0) fuel listed')) (hb : mK ops.toArray listed i listed' = true:=by kernel_rfl) (hgu : rc E ops o = some false:=by exact F) (hG : Gh.le G0 G:=by first | exact Gh.le.refl _ | assumption) (hL : L0.Sublist L:=by repeat (first | exact List.Sublist.refl _ | exact List.nil_sublist _ | apply List.Sublist.cons_cons | apply List.Sublist.cons)) (hd : o.dst = some d:=by exact F) (hlt : Nat.blt d n = true:=by exact F) :
    Nx n D E B G L (xA acz ops.toArray Q (b5 B G0 L0) (fuel + 1) listed):=w2 listed' i hi hb hgu hG hL hd hlt k
theorem jG {ops : List Oper} {G0 : Gh} {L0 : List Own} {fuel : Nat} {listed : Array Bool} (listed' : Array Bool) [PQ Q] (i : Nat) {o : Oper} {d : Nat} {v : Value} (hi : ops.toArray[i]? = some o) (hg : Gives acz n D E (b5 B G0 L0) o v)
    (k : Nx n D ((d,v) :: E) B G L (xA acz ops.toArray Q (b5 B G0 L0) fuel listed')) (hb : mK ops.toArray listed i listed' = true:=by kernel_rfl) (hgu : rc E ops o = some true:=by exact F) (hG : Gh.le G0 G:=by first | exact Gh.le.refl _ | assumption) (hL : L0.Sublist L:=by repeat (first | exact List.Sublist.refl _ | exact List.nil_sublist _ | apply List.Sublist.cons_cons | apply List.Sublist.cons)) (hd : o.dst = some d:=by exact F) (hlt : Nat.blt d n = true:=by exact F) :
    Nx n D E B G L (xA acz ops.toArray Q (b5 B G0 L0) (fuel + 1) listed):=tF listed' i hi hb hgu hG hL hg hd hlt k
theorem jV {o : Oper} {d : Nat} {v : Value} (hg : Gives acz n D E (St B G L) o v) (k : Nx n D ((d,v) :: E) B G L K) (hd : o.dst = some d:=by exact F) (hlt : Nat.blt d n = true:=by exact F) : Nx n D E B G L (ow acz o Q K):=j8 hg hd hlt k
theorem jR {E' : bn} {c c' : Cu} {k k' : List Fr} {p' : List Prop} (hn : Nx n D E' B G L (cu acz c' k' Q)) (h : qM tb n 400 E c k = some ⟨E',c',k',p'⟩:=by exact F) (hp : g5 p':=by exact trivial) : Nx n D E B G L (cu acz c k Q):=run 400 h hp hn
theorem jM {E' : bn} {c c' : Cu} {k k' : List Fr} {p' : List Prop} (hn : Nx n D E' B G L (cu acz c' k' Q)) (h : qM tb n 400 E c k = some ⟨E',c',k',p'⟩:=by exact F) (hp : g5 p':=by (repeat' (first | exact trivial | apply And.intro | omega));done) : Nx n D E B G L (cu acz c k Q):=run 400 h hp hn
theorem jE {f : FuncId} {fn : Func} {c : Code} {args : List Value} {R : Value → Prop} (E0 : bn) (hf : acz.funcs[f]? = some fn) (hn : fn.ntmps = n)
    (h : ∀ B,B.W = [] → Nx n [] E0 B G [] (cu acz (.code c) [] (bp acz fn (dw B (fun v G' L'=>G' = G ∧ L' = [] ∧ R v))))) (hb : fn.body = some c:=by exact F) (hok : dM acz f = true:=by kernel_rfl) (hlen : Nat.ble args.length n = true:=by exact F) (hE : gk E0 (params 0 args):=by repeat' constructor) : ao acz f args G R:=xR E0 hf hok hn hb hlen hE h
theorem jB {f : FuncId} {fn : Func} {c : Code} {args : List Value} {Post : Value → Gh → List Own → Prop} (E0 : bn) (hf : acz.funcs[f]? = some fn) (hn : fn.ntmps = n)
    (h : ∀ B,BOk B → B.G = G → B.W = ch L → Nx n [] E0 B G L (cu acz (.code c) [] (bp acz fn (dw B Post)))) (hb : fn.body = some c:=by exact F) (hok : dM acz f = true:=by kernel_rfl) (hlen : Nat.ble args.length n = true:=by exact F) (hE : gk E0 (params 0 args):=by repeat' constructor) : Fn acz f args G L Post:=yX E0 hf hok hn hb hlen hE h
theorem jH {f : FuncId} {fn : Func} {c : Code} {args : List Value} {R : Value → List Own → Prop} (E0 : bn) (hf : acz.funcs[f]? = some fn) (hn : fn.ntmps = n)
    (h : ∀ B,B.G = G → B.W = ch L → Nx n [] E0 B G L (cu acz (.code c) [] (bp acz fn (dw B (fun v G' L'=>G' = G ∧ R v L'))))) (hb : fn.body = some c:=by exact F) (hok : dM acz f = true:=by kernel_rfl) (hlen : Nat.ble args.length n = true:=by exact F) (hE : gk E0 (params 0 args):=by repeat' constructor) : bV acz f args G L R:=yb E0 hf hok hn hb hlen hE h
theorem jK {ops : Array Oper} {G0 : Gh} {L0 : List Own} {fuel : Nat} {listed : Array Bool} (listed' : Array Bool) (h : Nx n D E B G L (xA acz ops Q (b5 B G0 L0) fuel listed')) (hG : Gh.le G0 G:=by first | exact Gh.le.refl _ | assumption) (hL : L0.Sublist L:=by repeat (first | exact List.Sublist.refl _ | exact List.nil_sublist _ | apply List.Sublist.cons_cons | apply List.Sublist.cons)) (hl : (listed == listed') = true:=by kernel_rfl) : Nx n D E B G L (xK acz ops Q (b5 B G0 L0) fuel listed):=ab8 hG hL hl h
theorem jS {ops : Array Oper} {G0 : Gh} {L0 : List Own} {fuel : Nat} {listed : Array Bool} (listed' : Array Bool) (h : Nx n D E B G L (xA acz ops Q (b5 B G L) fuel listed')) (hG : Gh.le G0 G:=by first | exact Gh.le.refl _ | assumption) (hL : L0.Sublist L:=by repeat (first | exact List.Sublist.refl _ | exact List.nil_sublist _ | apply List.Sublist.cons_cons | apply List.Sublist.cons)) (hl : (listed == listed') = true:=by kernel_rfl) : Nx n D E B G L (xK acz ops Q (b5 B G0 L0) fuel listed):=ab7 hG hL hl h
theorem jA {ops : List Oper} {S : World → Prop} {fuel : Nat} {listed : Array Bool} (i : Nat) {o : Oper} (hi : ops.toArray[i]? = some o) (h : Nx n D E B G L (ow acz o Q (xK acz ops.toArray Q S fuel (listed.setIfInBounds i true)))) (hr : Region.ready .any ops.toArray listed = [i]:=by kernel_rfl) (hgu : rc E ops o = some true:=by exact F) : Nx n D E B G L (xA acz ops.toArray Q S (fuel + 1) listed) :=
  cl [i] hr (by simp) ⟨bc hi hgu h,trivial⟩
theorem jZ {fn : Func} {rs : List ResultVar} {vs : List Value} {v : Value} {L' : List Own} {Post : Value → Gh → List Own → Prop} (hr : fn.results = rs.toArray) (h : iu acz (St B G L) E rs vs) (hv : eF vs = v) (hP : Post v G L')
    (hL : L'.Sublist L:=by exact List.nil_sublist _) : Nx n [] E B G L (cu acz (.exit .ret) [] (bp acz fn (dw B Post))):=aN hr h hv hL hP
theorem jX {E' : bn} {c c' : Cu} {k k' : List Fr} {p' : List Prop} (hn : Nx n D E' B G L (cu acz c' k' Q)) (h : qM tb n 400 E c k = some ⟨E',c',k',p'⟩:=by exact F) (hp : g5 p':=by (repeat' (first | exact trivial | apply And.intro | omega | assumption | (simp only [List.length_append,List.length_cons,List.length_nil,Int.toNat_natCast];omega) | (simp only [List.length_append,List.length_cons,List.length_nil,List.length_take,List.length_drop];omega) | (with_reducible exact (qB _ _).1) | (with_reducible exact (qB _ _).2)));done) : Nx n D E B G L (cu acz c k Q):=run 400 h hp hn
theorem jW [PQ Q] {ops : List Oper} {G0 : Gh} {L0 : List Own} (fuel : Nat) (is : List Nat) {E' : bn} {p' : List Prop} {fuel' : Nat} {listed : Array Bool} (listed' : Array Bool) (hn : Nx n D E' B G L (xA acz ops.toArray Q (b5 B G0 L0) fuel listed'))
    (hf : Nat.beq (fuel + is.length) fuel' = true:=by exact F) (h : g6 tb n ops is E [] = some (E',p'):=by exact F) (hsel : Region.noSelect ops.toArray = true:=by kernel_rfl) (hb : lC ops.toArray is listed listed' = true:=by kernel_rfl)
    (hG : Gh.le G0 G:=by first | exact Gh.le.refl _ | assumption) (hL : L0.Sublist L:=by repeat (first | exact List.Sublist.refl _ | exact List.nil_sublist _ | apply List.Sublist.cons_cons | apply List.Sublist.cons)) (hp : g5 p':=by (repeat' (first | exact trivial | apply And.intro | omega | assumption | (simp only [List.length_append,List.length_cons,List.length_nil,Int.toNat_natCast];omega) | (simp only [List.length_append,List.length_cons,List.length_nil,List.length_take,List.length_drop];omega) | (with_reducible exact (qB _ _).1) | (with_reducible exact (qB _ _).2)));done) : Nx n D E B G L (xA acz ops.toArray Q (b5 B G0 L0) fuel' listed):=tD is listed' hsel hb hf h hG hL hp hn
section
variable {d : Nat} {ty : TypeId} {pos : String} {aft : Array Edge} {gd : Option (Nat × Bool)} {K2 : Act → World → Prop}
theorem ah {T T0 : TypeId} {x : Operand} {desc : TypeDesc} {size bytes : Nat} {zero : Value} {b o : Nat} {v : Value} {cs : List Value} {fr : Nat × Nat} [TI acz T desc size bytes zero] [BlkI L b cs T0 fr] (hx : ev E x = some (Pt b o)) (k : Nx n D ((d,v) :: E) B G L K)
    (ha : c9 desc = false:=by exact F) (hc : cs[o]? = some v:=by exact F) (hlt : Nat.blt d n = true:=by exact F) : Nx n D E B G L (ow acz ⟨some d,.load T x,ty,pos,aft,gd⟩ Q K):=j8 (aq hx ha hc) F hlt k
theorem aK {T T0 : TypeId} {x : Operand} {desc : TypeDesc} {size bytes : Nat} {zero : Value} {b o : Nat} {vs : List Value} {cs : List Value} {fr : Nat × Nat} [TI acz T desc size bytes zero] [BlkI L b cs T0 fr] (hx : ev E x = some (Pt b o)) (k : Nx n D ((d,Ag vs) :: E) B G L K)
    (ha : c9 desc = true:=by exact F) (hc : jj cs o size = some vs:=by exact F) (hl : Nat.beq vs.length size = true:=by exact F) (hlt : Nat.blt d n = true:=by exact F) : Nx n D E B G L (ow acz ⟨some d,.load T x,ty,pos,aft,gd⟩ Q K):=j8 (bB hx ha hc hl) F hlt k
theorem aH {c x y : Operand} {b : Bool} {v : Value} (hc : ev E c = some (.bool b)) (k : Nx n D ((d,v) :: E) B G L K) (hx : ev E x = some v:=by exact F) (hb : b = true:=by exact F) (hlt : Nat.blt d n = true:=by exact F) : Nx n D E B G L (ow acz ⟨some d,.pick c x y,ty,pos,aft,gd⟩ Q K):=j8 (aY hc hx hb) F hlt k
theorem av {c x y : Operand} {b : Bool} {v : Value} (hc : ev E c = some (.bool b)) (k : Nx n D ((d,v) :: E) B G L K) (hy : ev E y = some v:=by exact F) (hb : b = false:=by exact F) (hlt : Nat.blt d n = true:=by exact F) : Nx n D E B G L (ow acz ⟨some d,.pick c x y,ty,pos,aft,gd⟩ Q K):=j8 (aG hc hy hb) F hlt k
theorem jC {T T0 : TypeId} {x y : Operand} {desc : TypeDesc} {size bytes : Nat} {zero : Value} {b o : Nat} {cs vs cs' : List Value} {fr : Nat × Nat} {L' : List Own} [TI acz T desc size bytes zero] [BlkI L b cs T0 fr] [hu : UpdI b cs' L cs T0 L'] (hx : ev E x = some (Pt b o)) (hy : ev E y = some (Ag vs)) (hp : f4 cs o vs = some cs') (k : Nx n D E B G L' K)
    (hl : Nat.beq vs.length size = true:=by exact F) (hne : vs.isEmpty = false:=by exact F) (h1 : f7 vs = true:=by exact F) : Nx n D E B G L (ow acz ⟨none,.store T x y,ty,pos,aft,gd⟩ Q K):=abD hx hy hl hne h1 hp k
theorem jD {T T0 : TypeId} {x y : Operand} {desc : TypeDesc} {bytes : Nat} {zero v : Value} {b o : Nat} {cs cs' : List Value} {fr : Nat × Nat} {L' : List Own} [TI acz T desc 1 bytes zero] [BlkI L b cs T0 fr] [hu : UpdI b cs' L cs T0 L'] (hx : ev E x = some (Pt b o)) (hy : ev E y = some v) (hp : f4 cs o [v] = some cs') (k : Nx n D E B G L' K) (h1 : v.oneCell' = true:=by exact F) : Nx n D E B G L (ow acz ⟨none,.store T x y,ty,pos,aft,gd⟩ Q K):=abE hx hy h1 hp k
end
theorem jY {fn : Func} {rs : List ResultVar} {vs : List Value} {R : Value → Prop} (hP : R (eF vs)) (hr : fn.results = rs.toArray:=by exact F) (h : iu acz (St B G L) E rs vs:=by repeat' (first | exact trivial | refine ⟨F,?_⟩)) : Nx n [] E B G L (cu acz (.exit .ret) [] (bp acz fn (dw B (fun v G' L'=>G' = G ∧ L' = [] ∧ R v)))):=aN hr h F (List.nil_sublist _) ⟨F,F,hP⟩
theorem jo {a l : List Oper} {i : Nat} {pm : List Nat} {o : Oper} (h : Nx n D E B G L (ow acz o (kk acz k Q) (cu acz (.ops a l (i + 1) pm) k Q))) (hg : mY E a pm o = some true:=by exact F) : Nx n D E B G L (cu acz (.ops a (o :: l) i pm) k Q):=tX hg h
section
variable {d : Nat} {ty : TypeId} {pos : String} {aft : Array Edge} {gd : Option (Nat × Bool)}
theorem jF {T el : TypeId} {len : Nat} {ps : List (Nat × Operand)} {qs : List (Nat × List Value)} {desc : TypeDesc} {size bytes size' bytes' : Nat} {zero zero' : Value} {zs cs : List Value} [TI acz T (.slice el) size' bytes' zero'] [TI acz el desc size bytes zero] (k : ∀ b,Nx n D ((d,.slice (some ⟨b,0,none⟩) len len) :: E) B G (.blk b (.cells cs.toArray el (0,0)) :: L) K) (hz : eJ zero = some zs:=by exact F)
    (hsz : Nat.beq zs.length size = true:=by exact F) (he : qb E ps = some qs:=by exact F) (hf : oP (iB (o3 size) (bQ zs len) qs) = some cs:=by exact F) (hsm : Nat.ble (len * size) 16777216 = true:=by exact F) (hlt : Nat.blt d n = true:=by exact F) : Nx n D E B G L (ow acz ⟨some d,.buildSlice T len ps.toArray,ty,pos,aft,gd⟩ Q K):=abN hz hsz hsm hlt he hf k
theorem jL {T : TypeId} {desc : TypeDesc} {size bytes : Nat} {zero : Value} {cs : List Value} [TI acz T desc size bytes zero] (k : ∀ b,Nx n D ((d,Pt b 0) :: E) B G (.blk b (.cells cs.toArray T (0,0)) :: L) K) (hz : eJ zero = some cs:=by exact F) (hlt : Nat.blt d n = true:=by exact F) : Nx n D E B G L (ow acz ⟨some d,.alloc T,ty,pos,aft,gd⟩ Q K):=acp hz hlt k
theorem jO {T : TypeId} {x : Operand} {v : Value} {cs : List Value} (k : ∀ b,Nx n D ((d,Pt b 0) :: E) B G (.blk b (.cells cs.toArray T (0,0)) :: L) K) (hx : ev E x = some v:=by exact F) (hz : eJ v = some cs:=by exact F) (hlt : Nat.blt d n = true:=by exact F) : Nx n D E B G L (ow acz ⟨some d,.box T x,ty,pos,aft,gd⟩ Q K):=aco hx hz hlt k
end
theorem jQ {ops : Array Oper} {S : World → Prop} {fuel : Nat} {listed : Array Bool} (h : Nx n D E B G L (cu acz (.exit .normal) k Q)) (hr : Region.ready .any ops listed = []:=by kernel_rfl) : Nx n D E B G L (xA acz ops (kk acz k Q) S fuel listed):=y5 hr (acm h)
theorem zA {α : Type _} {a : α} {l m : List α} : a :: l ++ m = a :: (l ++ m):=rfl
theorem fA {α : Type _} {l : List α} : [] ++ l = l:=rfl
end
set_option maxRecDepth 20000
set_option maxHeartbeats 2000000
theorem v9 (l : acA) (c : UInt8) : bz (l ++ [c]) = bz l ++ [U8 c.toNat]:=by simp [bz]
def num (n : Nat) : acA:=if h : n < 128 then [u8 n] else u8 (128 + n % 128 : Nat) :: num (n / 128)
termination_by n
decreasing_by omega
theorem qV {n : Nat} (h : n < 128) : num n = [u8 n]:=by rw [num];simp [h]
theorem uT {n : Nat} (h : ¬ n < 128) : num n = u8 (128 + n % 128 : Nat) :: num (n / 128):=by rw [num];simp [h]
def a6 (n : Int) : acA:=num n.toNat
theorem ff {n : Int} (h : n < 128) (h0 : 0 ≤ n) : a6 n = [u8 n]:=by
 unfold a6;rw [qV oM,Int.toNat_of_nonneg h0]
theorem gK {n : Int} (h : ¬ n < 128) : a6 n = u8 (128 + n % 128) :: a6 (n / 128):=by
 unfold a6;rw [uT oM]
 congr 2
 ·omega
 ·omega
theorem sQ (n : Nat) : ∀ k,n < 128 ^ (k + 1) → (num n).length ≤ k + 1:=by
 intro k
 induction k generalizing n with
 | zero=>intro h;rw [qV (by simpa using h)];simp
 | succ k ih =>
  intro h
  by_cases h1 : n < 128
  ·rw [qV h1];simp
  ·rw [uT h1]
   have:=ih (n / 128) (Nat.div_lt_of_lt_mul (by rw [Nat.pow_succ] at h;omega))
   simp;omega
theorem wq (n : Nat) (h : n ≤ 9223372036854775807) : (num n).length ≤ 9:=sQ n 8 oM
theorem wr (n : Int) (h : n ≤ 9223372036854775807) : (a6 n).length ≤ 9:=wq _ oM
def pa (n : Int) : acA → Int
 | []=>n
 | c :: l=>pa ((n * 31 + (c.toNat : Int)) % 9973) l
def er (l : acA) : Int:=pa 1 l
theorem tM (l : acA) : ∀ n : Int,0 ≤ n → n < 9973 → 0 ≤ pa n l ∧ pa n l < 9973:=by
 induction l with
 | nil=>intro n h1 h2;exact ⟨h1,h2⟩
 | cons c l ih=>intro n h1 h2;exact ih _ (Int.emod_nonneg _ dC) (Int.emod_lt_of_pos _ dC)
theorem iy (l : acA) : 0 ≤ er l ∧ er l < 9973:=tM l 1 dC dC
theorem fL {l : acA} {i : Nat} (h : i < l.length) : ∃ c : UInt8,l.drop i = c :: l.drop (i + 1) ∧ bt l i = c.toNat:=by
 refine ⟨l[i],(List.getElem_cons_drop (h:=h)).symm,?_⟩
 simp [bt,List.getD,List.getElem?_eq_getElem h]
def frame (s : acA) : acA:=[u8 126] ++ a6 s.length ++ s ++ a6 (er s)
theorem bO {n : Int} (h : n ≤ 999999) : (a6 n).length ≤ 3:=sQ _ 2 oM
theorem kG (l : acA) : (a6 (er l)).length ≤ 3:=bO (by have:=iy l;omega)
theorem gh (s : acA) (h : s.length ≤ 999999) : (frame s).length ≤ s.length + 7:=by
 have h1:=bO (n:=s.length) oM
 have h2:=kG s
 simp [frame];omega
def gi (s : acA) : acA:=if s.length ≤ 100 then frame s else []
def mZ (s : acA) : Bool:=decide (s.length ≤ 100)
theorem xo {s : acA} (h : ¬ s.length ≤ 100) : Tu [S [],Bo false] = Tu [S (gi s),Bo (mZ s)]:=by simp [gi,mZ,h]
theorem vg {s : acA} (h : s.length ≤ 100) : Tu [S (frame s),Bo true] = Tu [S (gi s),Bo (mZ s)]:=by simp [gi,mZ,h]
variable {G : Gh}
theorem rK {n lo hi : Int} : ao acz 76 [I n,I lo,I hi] G (· = Bo (decide (lo ≤ n) && decide (n ≤ hi))):=by
 refine jE [(0,_),(1,_),(2,_)] Tryz.func76 Tryz.ntmps76 fun B hB=>?_
 repeat' (first | refine jR ?_ | (refine jo ?_;first | refine aH F ?_ | refine av F ?_) | refine dF F F (fun _=>?_) (fun _=>?_))
 all_goals refine jY (vs:=[_]) ?_
 all_goals (rw [ax];simp [*])
theorem iE {n : Int} : ao acz 66 [I n] G (· = Bo (decide (0 ≤ n) && decide (n ≤ 999))):=by
 refine jE [(0,_)] Tryz.func66 Tryz.ntmps66 fun B hB=>?_
 repeat' (first | refine jR ?_ | (refine jo ?_;first | refine aH F ?_ | refine av F ?_) | refine dF F F (fun _=>?_) (fun _=>?_))
 all_goals refine jY (vs:=[_]) ?_
 all_goals (rw [ax];simp [*])
theorem wN : ∀ (k : Nat) {n : Int},n.toNat ≤ k → 0 ≤ n ∧ n ≤ 9223372036854775807 → ao acz 36 [I n] G (· = S (a6 n)):=by
 intro k
 induction k with
 | zero =>
  intro n hk hn
  have h1 : n < 128:=oM
  refine jE [(0,_)] Tryz.func36 Tryz.ntmps36 fun B hB=>?_
  repeat' (first | refine jR ?_ | (refine jo ?_;first | refine jF fun _=>?_ | refine jV (dc F F (by (repeat (first | exact BL.nil | apply BL.cons));done)) ?_) | refine ac F (ay ‹_›) ?_)
  refine jY (vs:=[_]) ?_
  rw [ax,ff h1 hn.1]
 | succ k ih =>
  intro n hk hn
  have hl:=wr (n / 128) oM
  refine jE [(0,_)] Tryz.func36 Tryz.ntmps36 fun B hB=>?_
  repeat' (first | refine jR ?_ | (refine jo ?_;first | refine jF fun _=>?_ | refine jV (dc F F (by (repeat (first | exact BL.nil | apply BL.cons));done)) ?_) | refine cB F (fun _=>?_) (fun _=>?_) | (refine aj (am (id:=3) _ (fun _ h=>h) ai ?_);refine jW 5 [0,1,2,3,6,7] (aa 11 207) ?_;refine cl [4,8] kR dC ⟨?_,?_,trivial⟩;(focus (refine bc F F ?_;(refine jF fun _=>?_);refine jS (aa 11 223) ?_;((refine jG (aa 11 255) 5 F (dc F F (by (repeat (first | exact BL.nil | apply BL.cons));done)) ?_));refine jA 8 F ?_;((refine ab F F F (ih ?_ ?_) F ?_;(focus omega);focus omega));refine jS (aa 11 511) ?_;refine jW 0 [9,10] (aa 11 2047) ?_;refine jQ ?_));rotate_left 1;(focus (refine bc F F ?_;((refine ab F F F (ih ?_ ?_) F ?_;(focus omega);focus omega));refine jS (aa 11 463) ?_;refine jA 4 F ?_;(refine jF fun _=>?_);refine jS (aa 11 479) ?_;((refine jG (aa 11 511) 5 F (dc F F (by (repeat (first | exact BL.nil | apply BL.cons));done)) ?_));refine jW 0 [9,10] (aa 11 2047) ?_;refine jQ ?_));rotate_left 1))
  ·refine jY (vs:=[_]) ?_
   rw [ax,ff aS hn.1]
  all_goals refine jY (vs:=[_]) ?_
  all_goals (rw [ax,gK (n:=n) aS];rfl)
theorem dE {n : Int} (hn : 0 ≤ n ∧ n ≤ 9223372036854775807) : ao acz 36 [I n] G (· = S (a6 n)):=wN n.toNat (Nat.le_refl _) hn
def iq (xs : List acA) : List Value:=xs.map fun x=>S x
theorem jk (xs : List acA) (x : acA) : iq (xs ++ [x]) = iq xs ++ [S x]:=by simp [iq]
abbrev j9 : TypeId:=9
theorem bL {α : Type} [Inhabited α] {a : List α} {i : Nat} (h : i < a.length) : ae a i ∈ a:=by rw [aV h];exact List.getElem_mem h
theorem mz {α : Type} [Inhabited α] {a : List α} {x : α} (h : x ∈ a) : ∃ i,i < a.length ∧ ae a i = x:=by
 obtain ⟨i,hi,e⟩:=List.mem_iff_getElem.1 h
 exact ⟨i,hi,by rw [aV hi,e]⟩
theorem oC (p s : acA) : p.isPrefixOf s = decide (p.length ≤ s.length ∧ s.take p.length = p):=by
 by_cases h : p <+: s
 ·have h1:=List.isPrefixOf_iff_prefix.2 h
  rw [h1];obtain ⟨r,rfl⟩:=h;simp
 ·have h1 : p.isPrefixOf s = false:=by
   cases hb : p.isPrefixOf s with
   | false=>rfl
   | true=>exact absurd (List.isPrefixOf_iff_prefix.1 hb) h
  rw [h1];symm;refine decide_eq_false fun ⟨_,h3⟩=>h ?_
  rw [← h3];exact List.take_prefix _ _
theorem gC {s p : acA} : ao acz 170 [S s,S p] G (· = Bo (p.isPrefixOf s)):=by
 rw [oC]
 refine jE [(0,_),(1,_)] Tryz.func170 Tryz.ntmps170 fun B hB=>?_
 repeat' (first | refine jM ?_ | (refine jo ?_;first | refine aH F ?_ | refine av F ?_) | refine dF F F (fun _=>?_) (fun _=>?_))
 all_goals refine jY (vs:=[_]) ?_
 all_goals (rw [ax];simp;omega)
theorem fU {s p : acA} : ao acz 130 [S s,S p] G (· = Bo (p.isPrefixOf s)):=by
 refine jE [(0,_),(1,_)] Tryz.func130 Tryz.ntmps130 fun B hB=>?_
 repeat' (first | refine jR ?_ | (refine jo ?_;refine ab F F F gC F ?_))
 all_goals refine jY (vs:=[_]) ?_
 all_goals rfl
def jt (c : UInt8) : Bool:=decide (97 ≤ c.toNat ∧ c.toNat ≤ 122)
def b8 (s : acA) : Bool:=s.all jt && decide (1 ≤ s.length ∧ s.length ≤ 3)
def dW : acA → Bool
 | []=>false
 | c :: r=>if c.toNat = 91 ∨ c.toNat = 63 then dW r
  else if c.toNat = 64 then decide (((bt (c :: r) r.length : Nat) : Int) = 59) && b8 (r.take (r.length - 1))
  else decide (r = []) && (decide (c.toNat = 110) || decide (c.toNat = 116) || decide (c.toNat = 102))
def bx (s : acA) : Bool:=decide (s.length ≤ 12) && dW s
def br : acA → acA
 | []=>[]
 | c :: r=>if c.toNat = 91 ∨ c.toNat = 63 then br r else c :: r
theorem sU {s : acA} {i : Nat} (h : i < s.length) (h2 : ¬ (97 ≤ bt s i ∧ bt s i ≤ 122)) : b8 s = false:=by
 have e : bt s i = (s[i]).toNat:=by simp [bt,List.getD,List.getElem?_eq_getElem h]
 have : s.all jt = false:=by
  rw [List.all_eq_false]
  exact ⟨s[i],List.getElem_mem h,by rw [e] at h2;simpa [jt] using h2⟩
 rw [b8,this,Bool.false_and]
theorem wu {s : acA} (h : ∀ i,i < s.length → 97 ≤ bt s i ∧ bt s i ≤ 122) : b8 s = decide (1 ≤ s.length ∧ s.length ≤ 3):=by
 have : s.all jt = true:=by
  rw [List.all_eq_true]
  intro c hc
  obtain ⟨i,hi,rfl⟩:=List.mem_iff_getElem.1 hc
  have e : bt s i = (s[i]).toNat:=by simp [bt,List.getD,List.getElem?_eq_getElem hi]
  have:=h i hi
  rw [e] at this
  simpa [jt] using this
 rw [b8,this,Bool.true_and]
def qh (n : Nat) : acA:=if h : n < 10 then [u8 (48 + n : Nat)] else qh (n / 10) ++ [u8 (48 + n % 10 : Nat)]
termination_by n
decreasing_by omega
def bw (n : Int) : acA:=qh n.toNat
theorem dB {n : Int} (h : n < 10) (h0 : 0 ≤ n) : bw n = [u8 (48 + n)]:=by
 unfold bw;rw [qh,dif_pos oM];congr 1;congr 1;omega
theorem iL {n : Int} (h : ¬ n < 10) : bw n = bw (n / 10) ++ [u8 (48 + n % 10)]:=by
 unfold bw;rw [qh,dif_neg oM]
 have e1 : n.toNat / 10 = (n / 10).toNat:=oM
 have e2 : ((48 + n.toNat % 10 : Nat) : Int) = 48 + n % 10:=oM
 rw [e1,e2]
theorem s8 (n : Nat) : ∀ k,n < 10 ^ (k + 1) → (qh n).length ≤ k + 1:=by
 intro k
 induction k generalizing n with
 | zero=>intro h;rw [qh,dif_pos (by simpa using h)];simp
 | succ k ih =>
  intro h
  by_cases h1 : n < 10
  ·rw [qh,dif_pos h1];simp
  ·rw [qh,dif_neg h1]
   have:=ih (n / 10) (Nat.div_lt_of_lt_mul (by rw [Nat.pow_succ] at h;omega))
   simp;omega
theorem f5 {n : Int} (h : n ≤ 9223372036854775807) : (bw n).length ≤ 19:=s8 _ 18 oM
theorem eX {s : acA} (h : s.length ≤ 9000000000000000000) : ao acz 108 [S s] G (· = Bo (b8 s)):=by
 refine jE [(0,_)] Tryz.func108 Tryz.ntmps108 fun B hB=>?_
 repeat' (refine jR ?_)
 refine aR (ι:=Nat) (fun i=>i ≤ s.length ∧ ∀ k,k < i → 97 ≤ bt s k ∧ bt s k ≤ 122) (fun i=>[(0,S s),(3,I i)]) (fun _=>G) (fun i=>[]) (fun i=>s.length - i) 0 ?_ tU F aX (fun i Hi=>?_)
 ·exact ⟨oM,fun k hk=>absurd hk oM⟩
 by_cases hi : i < s.length
 ·repeat' (first | refine jM ?_ | (refine jo ?_;first | refine aH F ?_ | refine av F ?_) | refine dF F F (fun _=>?_) (fun _=>?_) | (refine ac F (by first | rfl | (refine decide_eq_true ?_;(omega))) ?_) | refine cB F (fun _=>?_) (fun _=>?_))
  ·rename_i hc
   refine jY (vs:=[_]) ?_
   have hc : ((bt s i : Nat) : Int) < 97:=hc
   rw [ax,sU hi oM]
  ·rename_i _ hc
   refine jY (vs:=[_]) ?_
   have hc : (122 : Int) < ((bt s i : Nat) : Int):=hc
   rw [ax,sU hi oM]
  ·rename_i h1 h2
   have h1 : ¬ ((bt s i : Nat) : Int) < 97:=h1
   have h2 : ¬ (122 : Int) < ((bt s i : Nat) : Int):=h2
   refine aW (i + 1) ⟨oM,fun k hk=>?_⟩ oM tU F aX
   rcases Nat.lt_or_ge k i with h3 | h3
   ·exact Hi.2 k h3
   ·have : k = i:=oM
    subst this;omega
 ·repeat' (first | refine jR ?_ | (refine jo ?_;refine ab F F F rK F ?_) | refine ad F (aB oM) ?_)
  refine jY (vs:=[_]) ?_
  rw [ax,wu fun k hk=>Hi.2 k oM]
  refine congrArg Bo ?_
  rw [Bool.decide_and]
  exact congr (congrArg and (decide_eq_decide.2 oM)) (decide_eq_decide.2 oM)
theorem lr (c : UInt8) (r : acA) : bt (c :: r) 0 = c.toNat:=by simp [bt,List.getD]
theorem yO {c : UInt8} {r : acA} (h : r ≠ []) (hl : r.length ≤ 1000000) : ao acz 118 [S (c :: r)] G (· = Tu [S (if c.toNat = 64 then r.take (r.length - 1) else []),Bo (decide (c.toNat = 64))]):=by
 have hp:=List.length_pos_iff.2 h
 have e0:=lr c r
 refine jE [(0,_)] Tryz.func118 Tryz.ntmps118 fun B hB=>?_
 repeat' (first | refine jX ?_ | refine cB F (fun _=>?_) (fun _=>?_))
 ·rename_i hc
  refine jY (vs:=[_,_]) ?_
  have hc : ((bt (c :: r) 0 : Nat) : Int) ≠ 64:=hc
  have hc : ¬ c.toNat = 64:=oM
  rw [dJ,if_neg hc,decide_eq_false hc]
 ·rename_i hc
  refine jY (vs:=[_,_]) ?_
  have hc : ¬ ((bt (c :: r) 0 : Nat) : Int) ≠ 64:=hc
  have hc : c.toNat = 64:=oM
  have e : ((((c :: r).length : Nat) : Int) - 1).toNat = (r.length - 1) + 1:=by simp only [List.length_cons];omega
  rw [dJ,if_pos hc,decide_eq_true hc,e,List.take_succ_cons];rfl
theorem me {s : acA} : ao acz 117 [S s] G (· = Bo (bx s)):=by
 induction s with
 | nil =>
  refine jE [(0,_)] Tryz.func117 Tryz.ntmps117 fun B hB=>?_
  repeat' (first | refine jR ?_ | (refine jo ?_;refine av F ?_) | refine an F F F ?_ | refine ac F F ?_)
  all_goals refine jY (vs:=[_]) ?_
  all_goals rfl
 | cons c r ih =>
  have e0 : bt (c :: r) (Int.toNat 0) = c.toNat:=lr c r
  by_cases hl : (c :: r).length ≤ 12
  ·have hl2 : r.length ≤ 12:=by simp at hl;omega
   rw [bx,decide_eq_true hl,Bool.true_and,dW]
   rw [bx,decide_eq_true hl2,Bool.true_and] at ih
   have hcons : (c :: r).length = r.length + 1:=rfl
   by_cases h1 : c.toNat = 91
   ·rw [if_pos (.inl h1)]
    refine jE [(0,_)] Tryz.func117 Tryz.ntmps117 fun B hB=>?_
    repeat' (first | refine jM ?_ | (refine jo ?_;first | refine av F ?_ | refine ab F F F ih F ?_) | refine an F F (aB oM) ?_ | refine ac F (ay oM) ?_ | refine ad F F ?_)
    refine jY (vs:=[_]) ?_
    rfl
   by_cases h2 : c.toNat = 63
   ·rw [if_pos (.inr h2)]
    refine jE [(0,_)] Tryz.func117 Tryz.ntmps117 fun B hB=>?_
    repeat' (first | refine jM ?_ | (refine jo ?_;first | refine av F ?_ | refine ab F F F ih F ?_) | refine an F F (aB oM) ?_ | refine ac F (ay oM) ?_ | (refine ad F (by first | rfl | (refine decide_eq_false ?_;(omega))) ?_))
    refine jY (vs:=[_]) ?_
    rfl
   rw [if_neg oM]
   by_cases h3 : c.toNat = 64
   ·rw [if_pos h3]
    have h5 : ((((c :: r).length : Nat) : Int) - 1).toNat = r.length:=oM
    by_cases h4 : ((bt (c :: r) r.length : Nat) : Int) = 59
    ·have h6 : ((bt (c :: r) ((((c :: r).length : Nat) : Int) - 1).toNat : Nat) : Int) = 59:=by rw [h5];exact h4
     have hp : 0 < r.length:=by
      rcases Nat.eq_zero_or_pos r.length with h0 | h0
      ·have : r = []:=List.length_eq_zero_iff.1 h0
       subst this
       have : ((bt [c] (Int.toNat 0) : Nat) : Int) = 59:=h4
       omega
      ·exact h0
     have e1 : ((((c :: r).length : Nat) : Int) - 1).toNat = (r.length - 1) + 1:=oM
     refine jE [(0,_)] Tryz.func117 Tryz.ntmps117 fun B hB=>?_
     repeat' (first | refine jM ?_ | (refine jo ?_;first | refine aH F ?_ | refine av F ?_ | (refine ab F F F (eX ?_) F ?_;(focus ((simp;omega);done)))) | refine aA F F (ay ‹_›) ?_ | refine an F F (aB oM) ?_ | refine ac F (ay oM) ?_ | (refine ad F (by first | rfl | (refine decide_eq_false ?_;(omega))) ?_))
     refine jY (vs:=[_]) ?_
     rw [ax,decide_eq_true h4,Bool.true_and,e1,List.take_succ_cons];rfl
    ·have h6 : ¬ ((bt (c :: r) ((((c :: r).length : Nat) : Int) - 1).toNat : Nat) : Int) = 59:=by rw [h5];exact h4
     refine jE [(0,_)] Tryz.func117 Tryz.ntmps117 fun B hB=>?_
     repeat' (first | refine jM ?_ | (refine jo ?_;refine av F ?_) | (refine an F F (by refine decide_eq_false ?_;first | assumption | omega) ?_) | refine ac F (ay oM) ?_ | (refine ad F (by first | rfl | (refine decide_eq_false ?_;(omega))) ?_))
     refine jY (vs:=[_]) ?_
     rw [ax,decide_eq_false h4,Bool.false_and]
   ·rw [if_neg h3]
    have n1 : ∀ x : UInt8,(c :: r = [x]) = (c.toNat = x.toNat ∧ r = []):=fun x=>by
     rw [List.cons.injEq];exact propext ⟨fun h=>⟨by rw [h.1],h.2⟩,fun h=>⟨UInt8.toNat_inj.1 h.1,h.2⟩⟩
    refine jE [(0,_)] Tryz.func117 Tryz.ntmps117 fun B hB=>?_
    repeat' (first | refine jM ?_ | (refine jo ?_;first | refine aH F ?_ | refine av F ?_) | refine aA F F F ?_ | refine an F F (aB oM) ?_ | refine dF F F (fun _=>?_) (fun _=>?_) | (refine ad F (by first | rfl | (refine decide_eq_false ?_;(omega))) ?_))
    all_goals refine jY (vs:=[_]) ?_
    all_goals rw [ax]
    ·rename_i h;rw [n1] at h;rw [decide_eq_true h.2,decide_eq_true (p:=c.toNat = 110) h.1];rfl
    ·rename_i h;rw [n1] at h;rw [decide_eq_true h.2,decide_eq_true (p:=c.toNat = 116) h.1];simp
    ·rename_i ha hb
     refine congrArg Bo ?_
     rw [n1] at ha hb
     simp only [n1]
     by_cases hr : r = []
     ·have hx : ¬ c.toNat = 110:=fun h=>ha ⟨h,hr⟩
      have hy : ¬ c.toNat = 116:=fun h=>hb ⟨h,hr⟩
      simp [hr,hx,hy]
     ·simp [hr]
  ·rw [bx,decide_eq_false hl,Bool.false_and]
   refine jE [(0,_)] Tryz.func117 Tryz.ntmps117 fun B hB=>?_
   repeat' (first | refine jR ?_ | (refine jo ?_;refine aH F ?_) | refine aA F F (ay oM) ?_ | refine ac F F ?_)
   all_goals refine jY (vs:=[_]) ?_
   all_goals rfl
theorem rO {s : acA} (h : dW s = true) : ao acz 119 [S s] G (· = S (br s)):=by
 refine jE [(0,_)] Tryz.func119 Tryz.ntmps119 fun B hB=>?_
 repeat' (refine jR ?_)
 refine aR (ι:=acA) (fun t=>dW t = true ∧ br t = br s) (fun t=>[(0,S t)]) (fun _=>G) (fun t=>[]) (fun t=>t.length) s ?_ tU F aX (fun t Ht=>?_)
 ·exact ⟨h,F⟩
 match t,Ht with
 | c :: r,Ht =>
  have e0 : bt (c :: r) (Int.toNat 0) = c.toNat:=lr c r
  have hcons : (c :: r).length = r.length + 1:=rfl
  by_cases h1 : c.toNat = 91 ∨ c.toNat = 63
  ·have hk : dW r = true:=by have:=Ht.1;rw [dW,if_pos h1] at this;exact this
   have hc : br r = br s:=by rw [← Ht.2,br,if_pos h1]
   rcases h1 with h1 | h1
   all_goals repeat' (first | refine jM ?_ | (refine jo ?_;first | refine aH F ?_ | refine av F ?_) | refine aA F F (ay oM) ?_ | refine an F F (aB oM) ?_ | (refine ac F (by first | rfl | (refine decide_eq_true ?_;(omega))) ?_))
   all_goals exact aW r ⟨hk,hc⟩ oM tU F aX
  ·repeat' (first | refine jM ?_ | (refine jo ?_;refine av F ?_) | refine an F F (aB oM) ?_ | refine ad F (aB oM) ?_)
   refine jY (vs:=[_]) ?_
   rw [ax,← Ht.2,br,if_neg h1]
theorem wM : ∀ (k : Nat) {n : Int},n.toNat ≤ k → 0 ≤ n ∧ n ≤ 9223372036854775807 → ao acz 122 [I n] G (· = S (bw n)):=by
 intro k
 induction k with
 | zero =>
  intro n hk hn
  have h1 : n < 10:=oM
  refine jE [(0,_)] Tryz.func122 Tryz.ntmps122 fun B hB=>?_
  repeat' (first | refine jM ?_ | (refine jo ?_;first | refine jF fun _=>?_ | refine jV (dc F F (by (repeat (first | exact BL.nil | apply BL.cons));done)) ?_) | refine ac F (ay ‹_›) ?_ | refine ad F (aB oM) ?_)
  refine jY (vs:=[_]) ?_
  rw [ax,dB h1 hn.1]
 | succ k ih =>
  intro n hk hn
  have hl:=f5 (n:=n / 10) oM
  by_cases h1 : n < 10
  ·refine jE [(0,_)] Tryz.func122 Tryz.ntmps122 fun B hB=>?_
   repeat' (first | refine jM ?_ | (refine jo ?_;first | refine jF fun _=>?_ | refine jV (dc F F (by (repeat (first | exact BL.nil | apply BL.cons));done)) ?_) | refine ac F (ay ‹_›) ?_ | refine ad F (aB oM) ?_)
   refine jY (vs:=[_]) ?_
   rw [ax,dB h1 hn.1]
  ·refine jE [(0,_)] Tryz.func122 Tryz.ntmps122 fun B hB=>?_
   repeat' (first | refine jR ?_ | (refine ad F (by refine decide_eq_false ?_;first | assumption | omega) ?_) | (refine aj (am (id:=7) _ (fun _ h=>h) ai ?_);refine jW 5 [0,1,3,4,5,6] (aa 11 123) ?_;refine cl [2,7] kR dC ⟨?_,?_,trivial⟩;(focus (refine bc F F ?_;((refine ab F F F (ih ?_ ?_) F ?_;(focus omega);focus omega));refine jS (aa 11 127) ?_;refine jA 7 F ?_;(refine jF fun _=>?_);refine jS (aa 11 255) ?_;((refine jG (aa 11 511) 8 F (dc F F (by (repeat (first | exact BL.nil | apply BL.cons));done)) ?_));refine jW 0 [9,10] (aa 11 2047) ?_;refine jQ ?_));rotate_left 1;(focus (refine bc F F ?_;(refine jF fun _=>?_);refine jS (aa 11 251) ?_;((refine jG (aa 11 507) 8 F (dc F F (by (repeat (first | exact BL.nil | apply BL.cons));done)) ?_));refine jA 2 F ?_;((refine ab F F F (ih ?_ ?_) F ?_;(focus omega);focus omega));refine jS (aa 11 511) ?_;refine jW 0 [9,10] (aa 11 2047) ?_;refine jQ ?_));rotate_left 1))
   all_goals refine jY (vs:=[_]) ?_
   all_goals rw [ax,iL (n:=n) h1]
theorem eL {n : Int} (hn : 0 ≤ n ∧ n ≤ 9223372036854775807) : ao acz 122 [I n] G (· = S (bw n)):=wM n.toNat (Nat.le_refl _) hn
def fD (s : acA) : acA:=if s = [110] then [48] else if s = [116] then [39,39] else if s = [102] then [110,111] else []
theorem qn {s : acA} : ao acz 195 [S s] G (· = S (fD s)):=by
 refine jE [(0,_)] Tryz.func195 Tryz.ntmps195 fun B hB=>?_
 repeat' (first | refine jR ?_ | refine cB F (fun _=>?_) (fun _=>?_))
 all_goals refine jY (vs:=[_]) ?_
 all_goals (rw [ax,fD];simp [*])
def iv (x : Nat) : Prop:=x = 32 ∨ (48 ≤ x ∧ x ≤ 57) ∨ (97 ≤ x ∧ x ≤ 122)
instance (x : Nat) : Decidable (iv x):=inferInstanceAs (Decidable (_ ∨ _))
def xx (s : acA) : Prop:=(2 ≤ s.length ∧ s.length ≤ 14) ∧ bt s 0 = 39 ∧ bt s (s.length - 1) = 39 ∧ ∀ i,i < s.length - 1 → i = 0 ∨ iv (bt s i)
instance (s : acA) : Decidable (xx s):=inferInstanceAs (Decidable (_ ∧ _ ∧ _ ∧ _))
def c6 (s : acA) : Bool:=decide (xx s)
theorem eW {s : acA} (h : s.length ≤ 100000000) : ao acz 157 [S s] G (· = Bo (c6 s)):=by
 by_cases h1 : 2 ≤ s.length ∧ s.length ≤ 14
 case neg =>
  have e : c6 s = false:=decide_eq_false fun x=>h1 x.1
  rw [e]
  refine jE [(0,_)] Tryz.func157 Tryz.ntmps157 fun B hB=>?_
  repeat' (first | refine jR ?_ | (refine jo ?_;first | refine aH F ?_ | refine av F ?_) | (refine aA F F (by first | rfl | (refine decide_eq_true ?_;(omega))) ?_) | refine dF F F (fun _=>?_) (fun _=>?_) | refine ac F F ?_)
  all_goals refine jY (vs:=[_]) ?_
  all_goals rfl
 by_cases h2 : bt s 0 = 39
 case neg =>
  have e : c6 s = false:=decide_eq_false fun x=>h2 x.2.1
  have h3 : ¬ bt s (Int.toNat 0) = 39:=h2
  rw [e]
  refine jE [(0,_)] Tryz.func157 Tryz.ntmps157 fun B hB=>?_
  repeat' (first | refine jM ?_ | (refine jo ?_;first | refine aH F ?_ | refine av F ?_) | refine aA F F (ay oM) ?_ | refine an F F (aB oM) ?_ | refine ac F F ?_)
  all_goals refine jY (vs:=[_]) ?_
  all_goals rfl
 have h3 : bt s (Int.toNat 0) = 39:=h2
 have h4 : (((s.length : Nat) : Int) - 1).toNat = s.length - 1:=oM
 by_cases h5 : bt s (s.length - 1) = 39
 case neg =>
  have e : c6 s = false:=decide_eq_false fun x=>h5 x.2.2.1
  have h6 : ¬ bt s (((s.length : Nat) : Int) - 1).toNat = 39:=by rw [h4];exact h5
  rw [e]
  refine jE [(0,_)] Tryz.func157 Tryz.ntmps157 fun B hB=>?_
  repeat' (first | refine jM ?_ | (refine jo ?_;refine av F ?_) | refine an F F (aB oM) ?_ | refine ac F (ay oM) ?_)
  all_goals refine jY (vs:=[_]) ?_
  all_goals rfl
 have h6 : bt s (((s.length : Nat) : Int) - 1).toNat = 39:=by rw [h4];exact h5
 refine jE [(0,_)] Tryz.func157 Tryz.ntmps157 fun B hB=>?_
 repeat' (first | refine jM ?_ | (refine jo ?_;refine av F ?_) | refine an F F (aB oM) ?_ | refine ad F (aB oM) ?_)
 refine aR (ι:=Nat) (fun i=>(1 ≤ i ∧ i ≤ s.length - 1) ∧ ∀ k,k < i → k = 0 ∨ iv (bt s k)) (fun i=>[(0,S s),(3,I i)]) (fun _=>G) (fun i=>[]) (fun i=>s.length - i) 1 ?_ tU F aX (fun i Hi=>?_)
 ·exact ⟨⟨Nat.le_refl _,oM⟩,fun k hk=>.inl oM⟩
 by_cases hi : i < s.length - 1
 ·by_cases ht : iv (bt s i)
  ·have ht2 : iv (bt s ((i : Int).toNat)):=ht
   unfold iv at ht2
   repeat' (first | refine jM ?_ | (refine jo ?_;first | refine aH F ?_ | refine av F ?_) | (refine an F F (by first | rfl | (refine decide_eq_false ?_;(omega))) ?_) | refine dF F F (fun _=>?_) (fun _=>?_) | refine ac F (ay oM) ?_ | (refine ad F (by first | rfl | (refine decide_eq_false ?_;(omega))) ?_))
   all_goals refine aW (i + 1) ⟨⟨oM,oM⟩,fun k hk=>?_⟩ oM tU F aX
   all_goals (rcases Nat.lt_or_ge k i with h7 | h7;· exact Hi.2 k h7)
   all_goals (have : k = i:=by omega)
   all_goals (subst this;exact .inr ht)
  ·have ht2 : ¬ iv (bt s ((i : Int).toNat)):=ht
   unfold iv at ht2
   have e : c6 s = false:=decide_eq_false fun x=>(x.2.2.2 i hi).elim (fun h8=>by omega) ht
   rw [e]
   repeat' (first | refine jM ?_ | (refine jo ?_;first | refine aH F ?_ | refine av F ?_) | (refine aA F F (by first | rfl | (refine decide_eq_true ?_;(omega))) ?_) | refine dF F F (fun _=>?_) (fun _=>?_) | (refine ac F (by first | rfl | (refine decide_eq_true ?_;(omega))) ?_))
   all_goals refine jY (vs:=[_]) ?_
   all_goals rfl
 ·have e : c6 s = true:=decide_eq_true ⟨h1,h2,h5,fun k hk=>Hi.2 k oM⟩
  rw [e]
  repeat' (first | refine jM ?_ | refine ad F (aB oM) ?_)
  refine jY (vs:=[_]) ?_
  rfl
def dD (k : Nat) (acc : acA) : acA → List acA
 | []=>[acc]
 | c :: r=>if c.toNat = k then acc :: dD k [] r else dD k (acc ++ [c]) r
def a9 (k : Nat) (s : acA) : List acA:=dD k [] s
theorem tr {s : acA} {k : Nat} (h : s.length ≤ 100000000) : bV acz 82 [S s,U8 k] G [] (fun v L'=>L' = [.acc v j9 1 (a9 k s).length (iq (a9 k s))] ∧ qq v (a9 k s).length):=by
 refine jH [(0,_),(1,_)] Tryz.func82 Tryz.ntmps82 fun B hB hW=>?_
 repeat' (first | refine jR ?_ | (refine jo ?_;refine jF fun _=>?_))
 rename_i x
 refine Nx.blkAcc (m:=0) (sz:=1) .here F ?_
 refine aR (ι:=Value × List acA × Nat × Nat) (fun i=>(i.2.2.1 ≤ i.2.2.2 ∧ i.2.2.2 ≤ s.length ∧ i.2.1.length ≤ i.2.2.2) ∧ i.2.1 ++ dD k ((s.take i.2.2.2).drop i.2.2.1) (s.drop i.2.2.2) = a9 k s) (fun i=>[(0,S s),(1,U8 k),(5,i.1),(6,I i.2.2.1),(7,I i.2.2.2)]) (fun _=>G) (fun i=>[.acc i.1 j9 1 i.2.1.length (iq i.2.1)]) (fun i=>s.length - i.2.2.2) (.slice (some ⟨x,0,none⟩) 0 0,[],0,0) ?_ tU F aX (fun i Hi=>?_)
 ·exact ⟨⟨Nat.le_refl _,Nat.zero_le _,Nat.zero_le _⟩,F⟩
 obtain ⟨u,xs,fr,i⟩:=i
 dsimp only at Hi ⊢
 by_cases hi : i < s.length
 ·obtain ⟨c,hc1,hc2⟩:=fL hi
  have hn : s.drop i ≠ []:=by rw [hc1];simp
  have ht : (s.take (i + 1)).drop fr = (s.take i).drop fr ++ [c]:=by
   have e : s[i] = c:=by have:=List.getElem_cons_drop (h:=hi);rw [hc1] at this;exact (List.cons.inj this).1
   rw [List.take_succ_eq_append_getElem hi,e,List.drop_append_of_le_length (by simp;omega)]
  have hcut:=Hi.2
  rw [hc1,dD] at hcut
  by_cases hk : c.toNat = k
  ·have hk2 : bt s i = k:=oM
   rw [if_pos hk] at hcut
   repeat' (first | refine jM ?_ | (refine jo ?_;first | refine jF fun _=>?_ | refine mG F F F F F F F F oM fun _=>?_) | (refine ac F ?_ ?_;(focus ((first | (refine decide_eq_true ?_;(omega)) | (simp [*];done));done))))
   refine aW (_,xs ++ [(s.take i).drop fr],i + 1,i + 1) ⟨⟨by dsimp only;omega,by dsimp only;omega,by simp;omega⟩,?_⟩ (by dsimp only;omega) tU rfl (by dsimp only;simp only [jk,List.length_append,List.length_cons,List.length_nil,Nat.zero_add];repeat (first | exact List.nil_sublist _ | apply List.Sublist.cons_cons))
   have e0 : (s.take (i + 1)).drop (i + 1) = []:=by simp
   dsimp only;rw [e0,← hcut];simp
  ·have hk2 : ¬ bt s i = k:=oM
   rw [if_neg hk] at hcut
   repeat' (first | refine jM ?_ | refine ac F (ay oM) ?_ | (refine ad F ?_ ?_;(focus ((simp;omega);done))))
   refine aW (u,xs,fr,i + 1) ⟨⟨by dsimp only;omega,by dsimp only;omega,by dsimp only;omega⟩,?_⟩ (by dsimp only;omega) tU rfl aX
   dsimp only;rw [ht];exact hcut
 ·have e : a9 k s = xs ++ [s.drop fr]:=by
   have ei : i = s.length:=oM
   rw [← Hi.2,ei,List.take_length,List.drop_length];rfl
  repeat' (first | refine jM ?_ | (refine jo ?_;first | refine jF fun _=>?_ | refine mG F F F F F F F F oM fun _=>?_) | refine ad F (aB oM) ?_)
  refine Nx.shp (.head _) fun hsh=>aN (vs:=[_]) F ⟨F,trivial⟩ F (List.Sublist.cons_cons _ (List.nil_sublist _)) ⟨F,?_,?_⟩
  ·rw [e,jk,List.length_append];rfl
  ·rw [e,List.length_append];exact hsh
def cX (n : Int) : acA → Option Int
 | []=>some n
 | c :: r=>if 48 ≤ c.toNat ∧ c.toNat ≤ 57 then cX (10 * n + ((c.toNat : Int) - 48)) r else none
def aP (s : acA) (top : Int) : Option Int :=
 if s.length ≤ 6 then
  match cX 0 s with
  | some n=>if s = bw n ∧ n ≤ top then some n else none
  | none=>none
 else none
theorem wn (i : Nat) (hi : i ≤ 5) : (10 : Int) ^ (i + 1) = 10 * 10 ^ i ∧ (10 : Int) ^ i ≤ 100000 ∧ (0 : Int) < 10 ^ i:=by
 refine ⟨by rw [Int.pow_succ,Int.mul_comm],?_⟩
 rcases (show i = 0 ∨ i = 1 ∨ i = 2 ∨ i = 3 ∨ i = 4 ∨ i = 5 by omega) with rfl | rfl | rfl | rfl | rfl | rfl <;> decide
theorem gV {s : acA} {top : Int} (h : s.length ≤ 100000000) : ao acz 86 [S s,I top] G (fun v=>∃ n,v = Tu [I n,Bo (aP s top).isSome] ∧ (∀ m,aP s top = some m → n = m)):=by
 refine jE [(0,_),(1,_)] Tryz.func86 Tryz.ntmps86 fun B hB=>?_
 repeat' (refine jR ?_)
 refine aR (ι:=Nat × Int) (fun i=>(i.1 ≤ s.length ∧ i.1 ≤ 6) ∧ (0 ≤ i.2 ∧ i.2 + 1 ≤ 10 ^ i.1) ∧ cX i.2 (s.drop i.1) = cX 0 s) (fun i=>[(0,S s),(1,I top),(6,I i.2),(7,I i.1)]) (fun _=>G) (fun i=>[]) (fun i=>s.length - i.1) (0,0) ?_ tU F aX (fun i Hi=>?_)
 ·exact ⟨⟨by dsimp only;omega,by dsimp only;omega⟩,⟨by dsimp only;omega,by dsimp only;decide⟩,rfl⟩
 obtain ⟨i,n⟩:=i
 dsimp only at Hi ⊢
 by_cases hi : i < s.length
 ·obtain ⟨c,hc1,hc2⟩:=fL hi
  have hc3 : bt s ((i : Int).toNat) = c.toNat:=hc2
  have hd:=Hi.2.2
  rw [hc1,cX] at hd
  by_cases h5 : i ≤ 5
  ·have hp:=wn i h5
   by_cases hdig : 48 ≤ c.toNat ∧ c.toNat ≤ 57
   ·rw [if_pos hdig] at hd
    repeat' (first | refine jM ?_ | (refine jo ?_;refine av F ?_) | refine an F F (aB oM) ?_ | refine ac F (ay oM) ?_ | refine ad F (aB oM) ?_)
    refine aW (i + 1,10 * n + ((c.toNat : Int) - 48)) ⟨⟨by dsimp only;omega,by dsimp only;omega⟩,⟨by dsimp only;omega,by dsimp only;rw [hp.1];omega⟩,hd⟩ (by dsimp only;omega) ?_ rfl aX
    rw [← hc2];repeat (first | exact trivial | refine ⟨F,?_⟩)
   ·rw [if_neg hdig] at hd
    have hno : aP s top = none:=by unfold aP;rw [← hd];split <;> rfl
    repeat' (first | refine jM ?_ | (refine jo ?_;first | refine aH F ?_ | refine av F ?_) | (refine aA F F (by first | rfl | (refine decide_eq_true ?_;(omega))) ?_) | refine dF F F (fun _=>?_) (fun _=>?_) | (refine ac F (by first | rfl | (refine decide_eq_true ?_;(omega))) ?_))
    all_goals refine jY (vs:=[_,_]) ?_
    all_goals exact ⟨_,by rw [hno];rfl,fun m hm=>by rw [hno] at hm;cases hm⟩
  ·have hno : aP s top = none:=by unfold aP;rw [if_neg oM]
   have e6 : i = 6:=oM
   subst e6
   repeat' (first | refine jM ?_ | (refine jo ?_;first | refine aH F ?_ | refine av F ?_) | refine aA F F F ?_ | refine dF F F (fun _=>?_) (fun _=>?_) | (refine ac F (by first | rfl | (refine decide_eq_true ?_;(omega))) ?_))
   all_goals refine jY (vs:=[_,_]) ?_
   all_goals exact ⟨_,by rw [hno];rfl,fun m hm=>by rw [hno] at hm;cases hm⟩
 ·have ei : i = s.length:=oM
  have hd:=Hi.2.2
  rw [ei,List.drop_length,cX] at hd
  have hp : n ≤ 9223372036854775807:=by
   rcases Nat.lt_or_ge i 6 with h1 | h1
   ·have:=wn i oM;omega
   ·have e6 : i = 6:=oM
    subst e6
    have:=Hi.2.1.2
    have e : (10 : Int) ^ 6 = 1000000:=by decide
    omega
  have hno : aP s top = if s = bw n ∧ n ≤ top then some n else none:=by unfold aP;rw [if_pos oM,← hd]
  repeat' (first | refine jR ?_ | (refine jo ?_;first | refine aH F ?_ | refine av F ?_ | refine ab F F F (eL oM) F ?_) | refine dF F F (fun _=>?_) (fun _=>?_) | refine ad F (aB oM) ?_)
  ·rename_i hs
   refine jY (vs:=[_,_]) ?_
   refine ⟨n,?_,fun m hm=>?_⟩
   ·rw [hno,dJ]
    by_cases ht : n ≤ top
    ·rw [if_pos ⟨hs,ht⟩,decide_eq_true ht];rfl
    ·rw [if_neg (fun h=>ht h.2),decide_eq_false ht];rfl
   ·rw [hno] at hm
    split at hm
    ·exact Option.some.inj hm
    ·cases hm
  ·rename_i hs
   refine jY (vs:=[_,_]) ?_
   refine ⟨n,by rw [hno,if_neg (fun h=>hs h.1)];rfl,fun m hm=>?_⟩
   rw [hno,if_neg (fun h=>hs h.1)] at hm;cases hm
def bH (k s : acA) : Bool :=
 if k = [110] then (aP s 999999).isSome && decide (s ≠ [48])
 else if k = [116] then c6 s && decide (s ≠ [39,39])
 else if k = [102] then decide (s = [121,101,115])
 else false
theorem vK {k s : acA} (h : s.length ≤ 100000000) : ao acz 209 [S k,S s] G (· = Bo (bH k s)):=by
 by_cases h1 : k = [110]
 ·have e : bH k s = ((aP s 999999).isSome && decide (s ≠ [48])):=by rw [bH,if_pos h1]
  rw [e]
  refine jE [(0,_),(1,_)] Tryz.func209 Tryz.ntmps209 fun B hB=>?_
  repeat' (first | refine jR ?_ | (refine jo ?_;first | refine aH F ?_ | refine av F ?_ | (refine cO F F F (gV oM) F ?_;rintro _ ⟨n,rfl,hnum⟩)) | refine i2 F F (fun _=>?_) (fun _=>?_) | refine ac F (ay ‹_›) ?_)
  all_goals refine jY (vs:=[_]) ?_
  all_goals (rw [ax];simp [*])
 by_cases h2 : k = [116]
 ·have e : bH k s = (c6 s && decide (s ≠ [39,39])):=by rw [bH,if_neg h1,if_pos h2]
  rw [e]
  refine jE [(0,_),(1,_)] Tryz.func209 Tryz.ntmps209 fun B hB=>?_
  repeat' (first | refine jR ?_ | (refine jo ?_;first | refine aH F ?_ | refine av F ?_ | refine ab F F F (eW ‹_›) F ?_) | refine dF F F (fun _=>?_) (fun _=>?_) | refine ac F (ay ‹_›) ?_ | refine ad F (aB ‹_›) ?_)
  all_goals refine jY (vs:=[_]) ?_
  all_goals (rw [ax];simp [*,c6])
 by_cases h3 : k = [102]
 ·have e : bH k s = decide (s = [121,101,115]):=by rw [bH,if_neg h1,if_neg h2,if_pos h3]
  rw [e]
  refine jE [(0,_),(1,_)] Tryz.func209 Tryz.ntmps209 fun B hB=>?_
  repeat' (first | refine jR ?_ | refine ac F (ay ‹_›) ?_ | refine ad F (aB ‹_›) ?_)
  all_goals refine jY (vs:=[_]) ?_
  all_goals rfl
 ·have e : bH k s = false:=by rw [bH,if_neg h1,if_neg h2,if_neg h3]
  rw [e]
  refine jE [(0,_),(1,_)] Tryz.func209 Tryz.ntmps209 fun B hB=>?_
  repeat' (first | refine jR ?_ | refine ad F (aB ‹_›) ?_)
  all_goals refine jY (vs:=[_]) ?_
  all_goals rfl
structure Fld where
 tag : Int
 name : acA
 kind : acA
 stand : acA
deriving Inhabited
def gQ (f : Fld) : List Value:=[I f.tag,S f.name,S f.kind,S f.stand]
instance : RowF gQ 4:=⟨fun _=>rfl⟩
def bR (s : acA) (k : Nat) : Option Fld :=
 match a9 58 s with
 | [a,b]=>if k = 69 then
   match aP a 200 with
   | some n=>if 1 ≤ n ∧ b8 b = true then some ⟨n,b,[],[]⟩ else none
   | none=>none
  else none
 | [a,b,c]=>if k = 69 then none else
   match aP a 200 with
   | some n=>if 1 ≤ n ∧ b8 b = true then
     match a9 61 c with
     | [d]=>if bx d = true then some ⟨n,b,d,[]⟩ else none
     | [d,e]=>if k = 82 ∧ bH d e = true then some ⟨n,b,d,e⟩ else none
     | _=>none
    else none
   | none=>none
 | _=>none
theorem nE {k : Nat} : ∀ {s acc : acA} {x : acA},x ∈ dD k acc s → x.length ≤ acc.length + s.length
 | [],acc,x,h=>by simp [dD] at h;subst h;simp
 | c :: r,acc,x,h=>by
  unfold dD at h
  split at h
  ·rcases List.mem_cons.1 h with rfl | h
   ·simp
   ·have:=nE h;simp at this ⊢;omega
  ·have:=nE h;simp at this ⊢;omega
theorem dg {k : Nat} {s x : acA} (h : x ∈ a9 k s) : x.length ≤ s.length:=by have:=nE h;simpa using this
theorem nI {k : Nat} : ∀ {s acc : acA},0 < (dD k acc s).length
 | [],acc=>by simp [dD]
 | c :: r,acc=>by
  unfold dD
  split
  ·simp
  ·exact nI
theorem dQ {k : Nat} {s : acA} : 0 < (a9 k s).length:=nI
theorem it {k : Nat} : ∀ {s acc : acA},(dD k acc s).length ≤ s.length + 1
 | [],acc=>by simp [dD]
 | c :: r,acc=>by
  unfold dD
  split
  ·have:=it (k:=k) (s:=r) (acc:=[]);simp;omega
  ·have:=it (k:=k) (s:=r) (acc:=acc ++ [c]);simp;omega
theorem jI {k : Nat} {s : acA} : (a9 k s).length ≤ s.length + 1:=it
def aE (k : Nat) : acA → acA × acA × Bool
 | []=>([],[],false)
 | c :: r=>if c.toNat = k then ([],r,true) else (c :: (aE k r).1,(aE k r).2.1,(aE k r).2.2)
theorem dR (c : UInt8) (r : acA) (i : Nat) : bt (c :: r) (i + 1) = bt r i:=by simp [bt,List.getD]
theorem bh (c : UInt8) (r : acA) : bt (c :: r) 0 = c.toNat:=by simp [bt,List.getD]
theorem py {k : Nat} : ∀ {s : acA},(∀ j,j < s.length → bt s j ≠ k) → aE k s = (s,[],false)
 | [],_=>rfl
 | c :: r,h=>by
  have h0:=h 0 (by simp)
  rw [bh] at h0
  have ih:=py (k:=k) (s:=r) fun j hj=>by have:=h (j + 1) (by simpa using hj);rwa [dR] at this
  rw [aE,if_neg h0,ih]
theorem mB {k : Nat} : ∀ {s : acA} {i : Nat},i < s.length → (∀ j,j < i → bt s j ≠ k) → bt s i = k → aE k s = (s.take i,s.drop (i + 1),true)
 | [],i,h,_,_=>by simp at h
 | c :: r,0,_,_,h=>by rw [bh] at h;rw [aE,if_pos h];rfl
 | c :: r,i + 1,hl,h,hi=>by
  have h0:=h 0 oM
  rw [bh] at h0
  rw [dR] at hi
  have ih:=mB (k:=k) (s:=r) (i:=i) (by simpa using hl) (fun j hj=>by have:=h (j + 1) oM;rwa [dR] at this) hi
  rw [aE,if_neg h0,ih];rfl
structure Ty where
 sort : Nat
 name : acA
 fields : List Fld
deriving Inhabited
def fresh (f : Fld) (fs : List Fld) : Bool:=fs.all fun g=>decide (g.tag < f.tag ∧ g.name ≠ f.name)
def cU (k : Nat) : List acA → List Fld → Option (List Fld)
 | [],fs=>some fs
 | x :: xs,fs=>match bR x k with
  | none=>none
  | some f=>if fresh f fs = true then cU k xs (fs ++ [f]) else none
def d7 (k : Nat) : Prop:=k = 82 ∨ k = 85 ∨ k = 69
instance (k : Nat) : Decidable (d7 k):=inferInstanceAs (Decidable (_ ∨ _ ∨ _))
def cY : acA → Option Ty
 | []=>none
 | c :: r=>match aE 61 r with
  | (name,rest,true)=>if b8 name = true ∧ d7 c.toNat then
    if rest = [] then (if c.toNat = 82 then some ⟨82,name,[]⟩ else none)
    else match cU c.toNat (a9 44 rest) [] with
     | some fs=>if fs.length ≤ 8 then some ⟨c.toNat,name,fs⟩ else none
     | none=>none
   else none
  | _=>none
def bG : acA → Option acA
 | []=>none
 | c :: r=>if c.toNat = 64 then some (r.take (r.length - 1)) else none
def gw (ts : List Ty) (name : acA) : Option Ty:=ts.find? fun t=>decide (t.name = name)
def aZ (ts : List Ty) (k : acA) : Option Ty:=(bG k).bind (gw ts)
def fI (t : Ty) : acA:=(t.fields.headD default).kind
def bS (ts : List Ty) : Nat → Ty → Bool
 | 0,_=>false
 | n + 1,t=>if t.sort ≠ 85 then true else match aZ ts (fI t) with
  | none=>true
  | some u=>bS ts n u
def eb (ts : List Ty) (k : acA) : Bool:=match bG (br k) with
 | none=>true
 | some n=>(gw ts n).isSome
def kA (ts : List Ty) (i : Nat) : Prop:=∀ k,k < i → (ae ts k).name ≠ (ae ts i).name
def gZ (ts : List Ty) (t : Ty) : Prop:=t.sort = 69 ∨ ∀ j,j < t.fields.length → eb ts (ae t.fields j).kind = true
def il (ts : List Ty) : Prop:=(∀ i,i < ts.length → kA ts i ∧ gZ ts (ae ts i)) ∧ ∀ i,i < ts.length → bS ts (ts.length + 1) (ae ts i) = true
instance (ts : List Ty) (i : Nat) : Decidable (kA ts i):=inferInstanceAs (Decidable (∀ k,k < i → _))
instance (ts : List Ty) (t : Ty) : Decidable (gZ ts t):=inferInstanceAs (Decidable (_ ∨ ∀ j,j < t.fields.length → _))
instance (ts : List Ty) : Decidable (il ts):=inferInstanceAs (Decidable ((∀ i,i < ts.length → _) ∧ ∀ i,i < ts.length → _))
def b6 : List acA → Option (List Ty)
 | []=>some []
 | x :: xs=>match cY x with
  | none=>none
  | some t=>(b6 xs).map (t :: ·)
def aO (s : acA) : Option (List Ty) :=
 if s.length ≤ 400 ∧ (a9 10 s).length ≤ 9 ∧ (a9 10 s).getLastD [] = [] then
  match b6 (a9 10 s).dropLast with
  | some ts=>if il ts then some ts else none
  | none=>none
 else none
structure FldW (k : Nat) (f : Fld) : Prop where
 tag : 1 ≤ f.tag ∧ f.tag ≤ 200
 name : b8 f.name = true
 kind : k ≠ 69 → bx f.kind = true
 enm : k = 69 → f.kind = [] ∧ f.stand = []
 stand : f.stand ≠ [] → k = 82 ∧ bH f.kind f.stand = true
theorem d8 {s : acA} {top n : Int} (h : aP s top = some n) : n ≤ top ∧ s = bw n ∧ s.length ≤ 6:=by
 unfold aP at h
 split at h
 ·split at h
  ·split at h
   ·rename_i h1 _ _ _ h2;simp only [Option.some.injEq] at h;subst h;exact ⟨h2.2,h2.1,h1⟩
   ·cases h
  ·cases h
 ·cases h
theorem lF {k s : acA} (h : bH k s = true) : bx k = true:=by
 unfold bH at h
 split at h
 ·subst_vars;decide
 ·split at h
  ·subst_vars;decide
  ·split at h
   ·subst_vars;decide
   ·cases h
theorem yt {s : acA} {k : Nat} {f : Fld} (h : bR s k = some f) : FldW k f:=by
 unfold bR at h
 split at h
 ·split at h
  ·rename_i hk
   split at h
   ·rename_i n hn
    split at h
    ·rename_i hg
     simp only [Option.some.injEq] at h;subst h
     exact ⟨⟨hg.1,(d8 hn).1⟩,hg.2,fun h=>absurd hk h,fun _=>⟨F,F⟩,fun h=>absurd F h⟩
    ·cases h
   ·cases h
  ·cases h
 ·split at h
  ·cases h
  ·rename_i hk
   split at h
   ·rename_i n hn
    split at h
    ·rename_i hg
     split at h
     ·split at h
      ·rename_i hd
       simp only [Option.some.injEq] at h;subst h
       exact ⟨⟨hg.1,(d8 hn).1⟩,hg.2,fun _=>hd,fun h=>absurd h hk,fun h=>absurd F h⟩
      ·cases h
     ·split at h
      ·rename_i hd
       simp only [Option.some.injEq] at h;subst h
       exact ⟨⟨hg.1,(d8 hn).1⟩,hg.2,fun _=>lF hd.2,fun h=>absurd h hk,fun _=>hd⟩
      ·cases h
     ·cases h
    ·cases h
   ·cases h
 ·cases h
structure TyW (t : Ty) : Prop where
 sort : d7 t.sort
 name : b8 t.name = true
 ne : t.sort ≠ 82 → t.fields ≠ []
 len : t.fields.length ≤ 8
 fld : ∀ f ∈ t.fields,FldW t.sort f
 asc : t.fields.Pairwise fun g f=>g.tag < f.tag ∧ g.name ≠ f.name
theorem oJ {k : Nat} : ∀ {xs : List acA} {fs gs : List Fld},cU k xs fs = some gs → (∀ f ∈ fs,FldW k f) → fs.Pairwise (fun g f=>g.tag < f.tag ∧ g.name ≠ f.name) →
  (∀ f ∈ gs,FldW k f) ∧ gs.Pairwise (fun g f=>g.tag < f.tag ∧ g.name ≠ f.name) ∧ gs.length = fs.length + xs.length
 | [],fs,gs,h,h1,h2=>by
  simp only [cU,Option.some.injEq] at h;subst h;exact ⟨h1,h2,by simp⟩
 | x :: xs,fs,gs,h,h1,h2=>by
  unfold cU at h
  split at h
  ·cases h
  ·rename_i f hf
   split at h
   ·rename_i hfr
    simp only [fresh,List.all_eq_true,decide_eq_true_eq] at hfr
    have:=oJ h (fun g hg=>by
     rcases List.mem_append.1 hg with hg | hg
     ·exact h1 g hg
     ·simp only [List.mem_singleton] at hg;subst hg;exact yt hf) (List.pairwise_append.2 ⟨h2,by simp,fun a ha b hb=>by
      simp only [List.mem_singleton] at hb;subst hb;exact hfr a ha⟩)
    refine ⟨this.1,this.2.1,?_⟩
    rw [this.2.2];simp;omega
   ·cases h
theorem zb {s : acA} {t : Ty} (h : cY s = some t) : TyW t:=by
 unfold cY at h
 split at h
 ·cases h
 ·split at h
  ·split at h
   ·rename_i hn
    split at h
    ·split at h
     ·simp only [Option.some.injEq] at h;subst h
      exact ⟨.inl F,hn.1,fun h=>absurd F h,by simp,by simp,by simp⟩
     ·cases h
    ·split at h
     ·rename_i fs hfs
      split at h
      ·rename_i hl
       simp only [Option.some.injEq] at h;subst h
       have hw:=oJ hfs (by simp) (by simp)
       refine ⟨hn.2,hn.1,fun _ h0=>?_,hl,hw.1,hw.2.1⟩
       have:=hw.2.2
       dsimp only at h0
       rw [h0] at this
       have:=dQ (k:=44) (s:=‹acA›)
       simp at *;omega
      ·cases h
     ·cases h
   ·cases h
  ·cases h
theorem hC : ∀ {xs : List acA} {ts : List Ty},b6 xs = some ts → (∀ t ∈ ts,TyW t) ∧ ts.length = xs.length
 | [],ts,h=>by simp only [b6,Option.some.injEq] at h;subst h;simp
 | x :: xs,ts,h=>by
  unfold b6 at h
  split at h
  ·cases h
  ·rename_i t ht
   cases hr : b6 xs with
   | none=>rw [hr] at h;cases h
   | some us =>
    rw [hr] at h
    simp only [Option.map_some,Option.some.injEq] at h;subst h
    have:=hC hr
    exact ⟨fun u hu=>by rcases List.mem_cons.1 hu with rfl | hu;exact zb ht;exact this.1 u hu,by simp [this.2]⟩
structure SchW (ts : List Ty) : Prop where
 ty : ∀ t ∈ ts,TyW t
 len : ts.length ≤ 8
 valid : il ts
theorem cG {s : acA} {ts : List Ty} (h : aO s = some ts) : SchW ts:=by
 unfold aO at h
 split at h
 ·rename_i hc
  split at h
  ·rename_i us hus
   split at h
   ·rename_i hv
    simp only [Option.some.injEq] at h;subst h
    have:=hC hus
    exact ⟨this.1,by rw [this.2,List.length_dropLast];omega,hv⟩
   ·cases h
  ·cases h
 ·cases h
def aM (ts : List Ty) (k : acA) : Bool:=bx k && eb ts k
theorem vj {ts : List Ty} {n : acA} {t : Ty} (h : gw ts n = some t) : t ∈ ts:=List.mem_of_find?_eq_some h
theorem ce {ts : List Ty} {k : acA} {t : Ty} (h : aZ ts k = some t) : t ∈ ts:=by
 unfold aZ at h
 cases hr : bG k with
 | none=>rw [hr] at h;cases h
 | some n=>rw [hr] at h;exact vj h
theorem k6 (ts : List Ty) : ∀ (k : Nat) (t : Ty),bS ts k t = true → bS ts (k + 1) t = true
 | 0,t,h=>by cases h
 | k + 1,t,h=>by
  unfold bS at h ⊢
  split
  ·rfl
  ·rename_i hs
   rw [if_neg hs] at h
   cases hr : aZ ts (fI t) with
   | none=>rfl
   | some u=>rw [hr] at h;exact k6 ts k u h
def ew (ts : List Ty) (k : Nat) : Prop:=∀ t ∈ ts,bS ts (k + 1) t = bS ts k t
theorem mM {ts : List Ty} {k : Nat} (h : ew ts k) : ew ts (k + 1):=by
 intro t ht
 rw [bS,bS]
 split
 ·rfl
 ·cases hr : aZ ts (fI t) with
  | none=>rfl
  | some u=>exact h u (ce hr)
theorem nY {ts : List Ty} {k : Nat} (h : ew ts k) : ∀ (m : Nat) (t : Ty),t ∈ ts → bS ts (k + m) t = bS ts k t:=by
 have hs : ∀ m,ew ts (k + m):=fun m=>by
  induction m with
  | zero=>exact h
  | succ m ih=>exact mM ih
 intro m t ht
 induction m with
 | zero=>rfl
 | succ m ih=>rw [← ih];exact hs m t ht
theorem rB {α : Type} {p q : α → Bool} : ∀ {l : List α},(∀ x ∈ l,p x = true → q x = true) → (∃ x ∈ l,q x = true ∧ p x = false) → l.countP p < l.countP q
 | [],_,h=>by obtain ⟨x,hx,_⟩:=h;cases hx
 | a :: l,h1,h2=>by
  have hle : ∀ l : List α,(∀ x ∈ l,p x = true → q x = true) → l.countP p ≤ l.countP q:=fun l h=>List.countP_mono_left h
  rw [List.countP_cons,List.countP_cons]
  have h3:=hle l fun x hx=>h1 x (List.mem_cons_of_mem _ hx)
  obtain ⟨x,hx,h4,h5⟩:=h2
  rcases List.mem_cons.1 hx with rfl | hx
  ·simp [h4,h5];omega
  ·have h6:=rB (fun x hx=>h1 x (List.mem_cons_of_mem _ hx)) ⟨x,hx,h4,h5⟩
   by_cases hp : p a = true
   ·simp [hp,h1 a (List.mem_cons_self ..) hp];exact h6
   ·simp [hp];split <;> omega
theorem mI {ts : List Ty} {k : Nat} (h : ¬ ew ts k) : ts.countP (bS ts k) < ts.countP (bS ts (k + 1)):=by
 refine rB (fun x _=>k6 ts k x) ?_
 unfold ew at h
 simp only [Classical.not_forall] at h
 obtain ⟨t,ht,hne⟩:=h
 refine ⟨t,ht,?_⟩
 cases h1 : bS ts k t with
 | false =>
  refine ⟨?_,F⟩
  cases h2 : bS ts (k + 1) t with
  | false=>rw [h1,h2] at hne;exact absurd F hne
  | true=>rfl
 | true=>rw [k6 ts k t h1,h1] at hne;exact absurd F hne
theorem uL (ts : List Ty) (k : Nat) : ew ts k ∨ k + 1 ≤ ts.countP (bS ts (k + 1)):=by
 induction k with
 | zero =>
  by_cases h : ew ts 0
  ·exact .inl h
  ·have:=mI h;exact .inr oM
 | succ k ih =>
  by_cases h : ew ts (k + 1)
  ·exact .inl h
  ·have:=mI h
   rcases ih with h3 | h3
   ·exact absurd (mM h3) h
   ·exact .inr oM
theorem yu {ts : List Ty} {t : Ty} (hl : ts.length ≤ 8) (ht : t ∈ ts) : bS ts 9 t = bS ts (ts.length + 1) t:=by
 have hs : ew ts ts.length:=by
  rcases uL ts ts.length with h | h
  ·exact h
  ·have:=List.countP_le_length (p:=bS ts (ts.length + 1)) (l:=ts)
   omega
 have h1:=nY hs (9 - ts.length) t ht
 have h2:=nY hs 1 t ht
 rw [show ts.length + (9 - ts.length) = 9 by omega] at h1
 rw [h1,h2]
def fh (k : Nat) (s : acA) : Int:=if (aE k s).2.2 = true then ((aE k s).1.length : Int) else -1
theorem gj {k : Nat} : ∀ {s a b : acA},aE k s = (a,b,true) → ∃ c : UInt8,c.toNat = k ∧ s = a ++ c :: b
 | [],a,b,h=>by simp [aE] at h
 | c :: r,a,b,h=>by
  unfold aE at h
  split at h
  ·rename_i hc
   simp only [Prod.mk.injEq,and_true] at h
   obtain ⟨rfl,rfl⟩:=h
   exact ⟨c,hc,F⟩
  ·simp only [Prod.mk.injEq] at h
   obtain ⟨rfl,h2,h3⟩:=h
   obtain ⟨d,hd,hr⟩:=gj (k:=k) (s:=r) (a:=(aE k r).1) (b:=b) (by rw [← h2,← h3])
   exact ⟨d,hd,by rw [List.cons_append,← hr]⟩
theorem eN {k : Nat} : ∀ {s : acA},(aE k s).2.2 = false → aE k s = (s,[],false)
 | [],h=>rfl
 | c :: r,h=>by
  unfold aE at h ⊢
  split at h
  ·cases h
  ·rename_i hc
   rw [if_neg hc,eN (s:=r) h]
theorem i6 {k : Nat} {s : acA} : (aE k s).1.length ≤ s.length ∧ (aE k s).2.1.length ≤ s.length:=by
 cases h : (aE k s).2.2 with
 | false=>rw [eN h];simp
 | true =>
  obtain ⟨c,_,e⟩:=gj (k:=k) (s:=s) (a:=(aE k s).1) (b:=(aE k s).2.1) (by rw [← h])
  have:=congrArg List.length e
  simp at this
  omega
theorem pg (s : acA) (c : UInt8) : Lib.indexByte s c = fh c.toNat s:=by
 induction s with
 | nil=>rfl
 | cons b r ih =>
  unfold Lib.indexByte
  by_cases hb : b = c
  ·subst hb;simp [fh,aE]
  ·have hb2 : ¬ b.toNat = c.toNat:=fun h=>hb (UInt8.toNat_inj.1 h)
   have hb3 : (b == c) = false:=by simpa using hb
   rw [hb3,ih]
   unfold fh
   rw [aE,if_neg hb2]
   dsimp only
   cases (aE c.toNat r).2.2 <;> simp
theorem rZ {s : acA} {c : UInt8} : ao acz 210 [S s,U8 c.toNat] G (· = I (fh c.toNat s)):=by
 have hx : ∀ w,(callFunc 218 [S s,U8 c.toNat].toArray).run acz w = .ok (.value (I (fh c.toNat s))) w:=fun w=>by
  rw [run_callFunc_extern Tryz.func218 kR kR kR (e:=Extern.BytealgIndexByte.indexByte) kR]
  have:=Lib.run_indexByteString (P:=acz) ⟨s.toArray⟩ (c.toNat : Int) w
  rw [this]
  simp only [Result.andThen]
  rw [pg]
  simp
 refine jE [(0,_),(1,_)] Tryz.func210 Tryz.ntmps210 fun B hB=>?_
 repeat' (refine jR ?_)
 refine tX F (j8 (ny F F F hx) F F ?_)
 repeat' (refine jR ?_)
 refine jY (vs:=[_]) ?_
 rfl
theorem uY (c : UInt8) : fh c.toNat [c] = 0:=by simp [fh,aE]
theorem rY {s : acA} {c : UInt8} : ao acz 196 [S s,S [c]] G (· = I (fh c.toNat s)):=by
 have e0 : ((bt [c] (Int.toNat 0) : Nat) : Int) = c.toNat:=by rw [show Int.toNat 0 = 0 from rfl,bh]
 by_cases hs : [c] = s
 ·subst hs
  rw [uY]
  refine jE [(0,_),(1,_)] Tryz.func196 Tryz.ntmps196 fun B hB=>?_
  repeat' (first | refine jR ?_ | (refine jo ?_;refine av F ?_) | refine an F F F ?_ | refine ac F (ay F) ?_)
  all_goals refine jY (vs:=[_]) ?_
  all_goals rfl
 ·have cx_ib : ao acz 210 [S s,U8 (bt [c] (Int.toNat 0))] G (· = I (fh c.toNat s)):=by rw [show (bt [c] (Int.toNat 0)) = c.toNat from bh c []];exact rZ
  refine jE [(0,_),(1,_)] Tryz.func196 Tryz.ntmps196 fun B hB=>?_
  repeat' (first | refine jX ?_ | (refine jo ?_;first | refine av F ?_ | refine ab F F F cx_ib F ?_) | refine an F F F ?_ | refine ac F F ?_ | refine ad F (aB ‹_›) ?_)
  all_goals refine jY (vs:=[_]) ?_
  all_goals rfl
theorem tz {s : acA} {c : UInt8} : ao acz 183 [S s,S [c]] G (· = I (fh c.toNat s)):=by
 refine jE [(0,_),(1,_)] Tryz.func183 Tryz.ntmps183 fun B hB=>?_
 repeat' (first | refine jR ?_ | (refine jo ?_;refine ab F F F rY F ?_))
 refine jY (vs:=[_]) ?_
 rfl
theorem oE (k : Nat) (s : acA) : (fh k s = -1 ∧ aE k s = (s,[],false)) ∨ ∃ i : Nat,fh k s = i ∧ i < s.length ∧ aE k s = (s.take i,s.drop (i + 1),true):=by
 cases h : (aE k s).2.2 with
 | false=>exact .inl ⟨by simp [fh,h],eN h⟩
 | true =>
  obtain ⟨c,_,e⟩:=gj (k:=k) (s:=s) (a:=(aE k s).1) (b:=(aE k s).2.1) (by rw [← h])
  have h5 : aE k s = ((aE k s).1,(aE k s).2.1,true):=by rw [← h]
  have h6 : fh k s = ((aE k s).1.length : Int):=by simp [fh,h]
  generalize (aE k s).1 = a at *
  generalize (aE k s).2.1 = b at *
  refine .inr ⟨a.length,h6,?_,?_⟩
  ·have:=congrArg List.length e
   simp at this
   omega
  ·rw [h5,e];simp
theorem aaS {s : acA} {c : UInt8} (h : s.length ≤ 9000000000000000000) : ao acz 163 [S s,S [c]] G (· = Tu [S (aE c.toNat s).1,S (aE c.toNat s).2.1,Bo (aE c.toNat s).2.2]):=by
 have hix:=rY (G:=G) (s:=s) (c:=c)
 rcases oE c.toNat s with ⟨h1,h2⟩ | ⟨i,h1,h3,h2⟩
 ·rw [h2]
  have cx_ix : ao acz 196 [S s,S [c]] G (· = I (-1)):=by rwa [h1] at hix
  refine jE [(0,_),(1,_)] Tryz.func163 Tryz.ntmps163 fun B hB=>?_
  repeat' (first | refine jR ?_ | (refine jo ?_;refine ab F F F cx_ix F ?_) | refine ad F F ?_)
  all_goals refine jY (vs:=[_,_,_]) ?_
  all_goals rfl
 ·rw [h2]
  have cx_ix : ao acz 196 [S s,S [c]] G (· = I (i : Int)):=by rwa [h1] at hix
  have e2 : ((i : Int) + (([c] : acA).length : Nat)).toNat = i + 1:=by simp only [List.length_cons,List.length_nil];omega
  refine jE [(0,_),(1,_)] Tryz.func163 Tryz.ntmps163 fun B hB=>?_
  repeat' (first | refine jR ?_ | (refine jo ?_;refine ab F F F cx_ix F ?_) | refine ac F F ?_ | (refine aj (am (id:=3) _ (fun _ h=>h) ai ?_);refine jW 0 [0,1,2,3,4,5,6,7,8,9,10,11] (aa 12 4095) ?_;refine jQ ?_))
  all_goals refine jY (vs:=[_,_,_]) ?_
  all_goals (rfl)
theorem oX {s : acA} {c : UInt8} (h : s.length ≤ 9000000000000000000) : ao acz 126 [S s,S [c]] G (· = Tu [S (aE c.toNat s).1,S (aE c.toNat s).2.1,Bo (aE c.toNat s).2.2]):=by
 refine jE [(0,_),(1,_)] Tryz.func126 Tryz.ntmps126 fun B hB=>?_
 repeat' (first | refine jR ?_ | (refine jo ?_;refine ab F F F (aaS oM) F ?_))
 all_goals refine jY (vs:=[_,_,_]) ?_
 all_goals rfl
theorem ur {s : acA} {c : UInt8} : ao acz 164 [S s,S [c]] G (· = Bo (decide (0 ≤ fh c.toNat s))):=by
 refine jE [(0,_),(1,_)] Tryz.func164 Tryz.ntmps164 fun B hB=>?_
 repeat' (first | refine jR ?_ | (refine jo ?_;refine ab F F F tz F ?_))
 all_goals refine jY (vs:=[_]) ?_
 all_goals rfl
def fk (k : Nat) (s : acA) : Prop:=∀ c ∈ s,c.toNat ≠ k
def aU (c : UInt8) : List acA → acA
 | []=>[]
 | [x]=>x
 | x :: y :: r=>x ++ c :: aU c (y :: r)
theorem kX (c : UInt8) (x : acA) {xs : List acA} (h : xs ≠ []) : aU c (x :: xs) = x ++ c :: aU c xs:=by
 cases xs with
 | nil=>exact absurd F h
 | cons y r=>rfl
theorem jJ {c : UInt8} : ∀ {s acc : acA},fk c.toNat acc → aU c (dD c.toNat acc s) = acc ++ s ∧ ∀ x ∈ dD c.toNat acc s,fk c.toNat x
 | [],acc,h=>by simp [dD,aU];exact h
 | d :: r,acc,h=>by
  unfold dD
  split
  ·rename_i hd
   have hd : d = c:=UInt8.toNat_inj.1 hd
   subst hd
   have ih:=jJ (c:=d) (s:=r) (acc:=[]) (by intro x hx;cases hx)
   have hp : dD d.toNat [] r ≠ []:=fun e=>by have:=nI (k:=d.toNat) (s:=r) (acc:=[]);rw [e] at this;simp at this
   refine ⟨by rw [kX d acc hp,ih.1];rfl,fun x hx=>?_⟩
   rcases List.mem_cons.1 hx with rfl | hx
   ·exact h
   ·exact ih.2 x hx
  ·rename_i hd
   have ih:=jJ (c:=c) (s:=r) (acc:=acc ++ [d]) (by
    intro x hx
    rcases List.mem_append.1 hx with hx | hx
    ·exact h x hx
    ·simp only [List.mem_singleton] at hx;subst hx;exact hd)
   exact ⟨by rw [ih.1];simp,ih.2⟩
theorem nF (c : UInt8) (s : acA) : aU c (a9 c.toNat s) = s:=by have:=(jJ (c:=c) (s:=s) (acc:=[]) (by intro x hx;cases hx)).1;simpa [a9] using this
theorem yx {c : UInt8} {s x : acA} (h : x ∈ a9 c.toNat s) : fk c.toNat x:=(jJ (c:=c) (s:=s) (acc:=[]) (by intro x hx;cases hx)).2 x h
theorem nH {k : Nat} : ∀ {s acc t : acA},fk k s → dD k acc (s ++ t) = dD k (acc ++ s) t
 | [],acc,t,_=>by simp
 | d :: r,acc,t,h=>by
  rw [List.cons_append,dD,if_neg (h d (by simp)),nH (fun c hc=>h c (by simp [hc]))];simp
theorem oO {k : Nat} {s : acA} (h : fk k s) : a9 k s = [s]:=by
 have:=nH (k:=k) (s:=s) (acc:=[]) (t:=[]) h
 simpa [a9,dD] using this
theorem px {k : Nat} {s t : acA} {c : UInt8} (h : fk k s) (hc : c.toNat = k) : a9 k (s ++ c :: t) = s :: a9 k t:=by
 unfold a9
 rw [nH h,dD,if_pos hc];rfl
theorem nw {c : UInt8} : ∀ {xs : List acA},xs ≠ [] → (∀ x ∈ xs,fk c.toNat x) → a9 c.toNat (aU c xs) = xs
 | [],h,_=>absurd rfl h
 | [x],_,h=>oO (h x (by simp))
 | x :: y :: r,_,h=>by
  rw [aU,px (h x (by simp)) rfl,nw (by simp) fun z hz=>h z (by simp at hz ⊢;exact .inr hz)]
theorem wE {k : Nat} {s t : acA} {c : UInt8} (h : fk k s) (hc : c.toNat = k) : aE k (s ++ c :: t) = (s,t,true):=by
 induction s with
 | nil=>rw [List.nil_append,aE,if_pos hc]
 | cons d r ih=>rw [List.cons_append,aE,if_neg (h d (by simp)),ih fun x hx=>h x (by simp [hx])]
theorem rA {k : Nat} {s : acA} (h : fk k s) : aE k s = (s,[],false):=by
 induction s with
 | nil=>rfl
 | cons d r ih=>rw [aE,if_neg (h d (by simp)),ih fun x hx=>h x (by simp [hx])]
theorem nJ {k : Nat} : ∀ {s : acA},fk k (aE k s).1
 | []=>by intro c hc;cases hc
 | d :: r=>by
  unfold aE
  split
  ·intro c hc;cases hc
  ·rename_i hd
   intro c hc
   rcases List.mem_cons.1 hc with rfl | hc
   ·exact hd
   ·exact nJ c hc
theorem k8 {k : Nat} (s : acA) : a9 k s = if (aE k s).2.2 = true then (aE k s).1 :: a9 k (aE k s).2.1 else [s]:=by
 cases h : (aE k s).2.2 with
 | false =>
  rw [if_neg (by simp)]
  have h1:=eN h
  refine oO ?_
  have:=nJ (k:=k) (s:=s)
  rwa [h1] at this
 | true =>
  rw [if_pos rfl]
  obtain ⟨c,hc,e⟩:=gj (k:=k) (s:=s) (a:=(aE k s).1) (b:=(aE k s).2.1) (by rw [← h])
  conv=>{ lhs;rw [e] }
  exact px nJ hc
theorem kY {s : acA} {k : Nat} (h : b8 s = true) (hk : k < 97) : fk k s:=by
 intro c hc
 simp only [b8,Bool.and_eq_true,List.all_eq_true] at h
 have:=h.1 c hc
 simp only [jt,decide_eq_true_eq] at this
 omega
theorem rx {n m : Int} : ∀ {s : acA},cX n s = some m → ∀ c ∈ s,48 ≤ c.toNat ∧ c.toNat ≤ 57
 | [],_,c,hc=>by cases hc
 | d :: r,h,c,hc=>by
  unfold cX at h
  split at h
  ·rename_i hd
   rcases List.mem_cons.1 hc with rfl | hc
   ·exact hd
   ·exact rx h c hc
  ·cases h
theorem pP {s : acA} {top n : Int} (h : aP s top = some n) : ∀ c ∈ s,48 ≤ c.toNat ∧ c.toNat ≤ 57:=by
 unfold aP at h
 split at h
 ·split at h
  ·rename_i hd;exact rx hd
  ·cases h
 ·cases h
theorem lR {s : acA} {top n : Int} {k : Nat} (h : aP s top = some n) (hk : 57 < k) : fk k s:=fun c hc=>by
 have:=pP h c hc;omega
theorem uX {s : acA} (h : c6 s = true) {c : UInt8} (hc : c ∈ s) : c.toNat = 39 ∨ iv c.toNat:=by
 unfold c6 at h
 simp only [decide_eq_true_eq] at h
 obtain ⟨h1,h2,h3,h4⟩:=h
 obtain ⟨i,hi,rfl⟩:=List.mem_iff_getElem.1 hc
 have e : bt s i = (s[i]).toNat:=by simp [bt,List.getD,List.getElem?_eq_getElem hi]
 rw [← e]
 rcases Nat.lt_or_ge i (s.length - 1) with h5 | h5
 ·rcases h4 i h5 with h6 | h6
  ·subst h6;exact .inl h2
  ·exact .inr h6
 ·have : i = s.length - 1:=oM
  subst this;exact .inl h3
theorem mL {d v : acA} {k : Nat} (h : bH d v = true) (hk : k = 58 ∨ k = 61) : fk k v:=by
 intro c hc
 unfold bH at h
 split at h
 ·simp only [Bool.and_eq_true] at h
  obtain ⟨n,hn⟩:=Option.isSome_iff_exists.1 h.1
  have:=pP hn c hc;omega
 ·split at h
  ·simp only [Bool.and_eq_true] at h
   have:=uX h.1 hc
   unfold iv at this;omega
  ·split at h
   ·simp only [decide_eq_true_eq] at h
    subst h
    simp only [List.mem_cons,List.not_mem_nil,or_false] at hc
    rcases hc with rfl | rfl | rfl <;> (rcases hk with rfl | rfl <;> decide)
   ·cases h
theorem lb : ∀ s : acA,(br s).length ≤ s.length
 | []=>Nat.le_refl _
 | c :: r=>by
  unfold br
  split
  ·have:=lb r;simp;omega
  ·exact Nat.le_refl _
def sg (s : acA) : acA:=s.take (s.length - (br s).length)
def oZ : acA → acA
 | []=>[]
 | c :: r=>if c.toNat = 64 then [64] else c :: r
def bs (s : acA) : acA:=oZ (br s)
def nm (s : acA) : acA:=(bG (br s)).getD []
theorem sS {k : Nat} (hk : k = 58 ∨ k = 61) : ∀ {s : acA},dW s = true → fk k s
 | [],h=>by cases h
 | c :: r,h=>by
  unfold dW at h
  split at h
  ·rename_i hc
   intro d hd
   rcases List.mem_cons.1 hd with rfl | hd
   ·omega
   ·exact sS hk h d hd
  ·split at h
   ·rename_i hc
    simp only [Bool.and_eq_true,decide_eq_true_eq] at h
    intro d hd
    rcases List.mem_cons.1 hd with rfl | hd
    ·omega
    ·obtain ⟨i,hi,rfl⟩:=List.mem_iff_getElem.1 hd
     rcases Nat.lt_or_ge i (r.length - 1) with h5 | h5
     ·refine kY h.2 oM _ ?_
      exact List.mem_iff_getElem.2 ⟨i,by simp;omega,by simp⟩
     ·have h1 : bt (c :: r) r.length = 59:=oM
      have e : i = r.length - 1:=oM
      obtain ⟨m,hm⟩ : ∃ m,r.length = m + 1:=⟨r.length - 1,oM⟩
      rw [hm,dR] at h1
      have : bt r m = (r[m]'oM).toNat:=by simp [bt,List.getD,List.getElem?_eq_getElem (show m < r.length by omega)]
      have e2 : i = m:=oM
      subst e2
      omega
   ·simp only [Bool.and_eq_true,Bool.or_eq_true,decide_eq_true_eq] at h
    intro d hd
    obtain ⟨rfl,h⟩:=h
    simp only [List.mem_singleton] at hd
    subst hd;omega
theorem gt {k : Nat} (hk : k = 58 ∨ k = 61) {s : acA} (h : bx s = true) : fk k s:=by
 unfold bx at h;simp only [Bool.and_eq_true] at h;exact sS hk h.2
def lZ (s : acA) (k : Nat) : Option Fld :=
 match a9 58 (aE 61 s).1 with
 | [a,b]=>if k = 69 ∧ (aE 61 s).2.2 = false then
   match aP a 200 with
   | some n=>if 1 ≤ n ∧ b8 b = true then some ⟨n,b,[],[]⟩ else none
   | none=>none
  else none
 | [a,b,c]=>if k = 69 then none else
   match aP a 200 with
   | some n=>if (1 ≤ n ∧ b8 b = true) ∧ bx c = true ∧ ((aE 61 s).2.2 = true → k = 82 ∧ bH c (aE 61 s).2.1 = true) then some ⟨n,b,c,(aE 61 s).2.1⟩ else none
   | none=>none
 | _=>none
theorem fH {k : Nat} {a b : acA} : fk k (a ++ b) ↔ fk k a ∧ fk k b:=by
 constructor
 ·intro h;exact ⟨fun c hc=>h c (by simp [hc]),fun c hc=>h c (by simp [hc])⟩
 ·intro h c hc
  rcases List.mem_append.1 hc with hc | hc
  ·exact h.1 c hc
  ·exact h.2 c hc
theorem gM {k : Nat} {c : UInt8} {b : acA} : fk k (c :: b) ↔ c.toNat ≠ k ∧ fk k b:=by
 constructor
 ·intro h;exact ⟨h c (by simp),fun d hd=>h d (by simp [hd])⟩
 ·intro h d hd
  rcases List.mem_cons.1 hd with rfl | hd
  ·exact h.1
  ·exact h.2 d hd
theorem uf {s : acA} {xs : List acA} (h : a9 58 s = xs) : s = aU 58 xs ∧ ∀ x ∈ xs,fk 58 x:=by
 subst h
 exact ⟨(nF 58 s).symm,fun x hx=>yx (c:=58) hx⟩
theorem pn (s : acA) (k : Nat) : lZ s k = bR s k:=by
 apply Option.ext
 intro f
 constructor
 ·intro h
  unfold lZ at h
  split at h
  ·rename_i a b e
   split at h
   ·rename_i hk
    have hs:=eN hk.2
    rw [hs] at e
    unfold bR
    rw [e]
    simp only [hk.1,if_true]
    exact h
   ·cases h
  ·rename_i a b c e
   split at h
   ·cases h
   ·rename_i hk
    split at h
    ·rename_i n hn
     split at h
     ·rename_i hg
      simp only [Option.some.injEq] at h;subst h
      cases ht : (aE 61 s).2.2 with
      | false =>
       have hs:=eN ht
       rw [hs] at e ⊢
       have hc61 : a9 61 c = [c]:=oO (gt (.inr rfl) hg.2.1)
       unfold bR
       rw [e]
       simp [hk,hn,hg.1.1,hg.1.2,hc61,hg.2.1]
      | true =>
       have hst:=hg.2.2 ht
       obtain ⟨d,hd,es⟩:=gj (k:=61) (s:=s) (a:=(aE 61 s).1) (b:=(aE 61 s).2.1) (by rw [← ht])
       generalize (aE 61 s).1 = hd1 at *
       generalize (aE 61 s).2.1 = v at *
       have hd : d = 61:=UInt8.toNat_inj.1 hd
       subst hd
       obtain ⟨e1,e2⟩:=uf e
       have e3 : s = aU 58 [a,b,c ++ 61 :: v]:=by rw [es,e1];simp [aU]
       have e4 : a9 58 s = [a,b,c ++ 61 :: v]:=by
        rw [e3]
        refine nw (c:=58) (by simp) fun x hx=>?_
        simp only [List.mem_cons,List.not_mem_nil,or_false] at hx
        rcases hx with rfl | rfl | rfl
        ·exact e2 _ (by simp)
        ·exact e2 _ (by simp)
        ·exact fH.2 ⟨e2 _ (by simp),gM.2 ⟨by decide,mL hst.2 (.inl F)⟩⟩
       have e5 : a9 61 (c ++ 61 :: v) = [c,v]:=by
        rw [px (k:=61) (gt (.inr rfl) hg.2.1) rfl,oO (mL hst.2 (.inr rfl))]
       unfold bR
       rw [e4]
       simp [hk,hn,hg.1.1,hg.1.2,e5,hst.1,hst.2]
     ·cases h
    ·cases h
  ·cases h
 ·intro h
  unfold bR at h
  split at h
  ·rename_i a b e
   split at h
   ·rename_i hk
    split at h
    ·rename_i n hn
     split at h
     ·rename_i hg
      obtain ⟨e1,e2⟩:=uf e
      have hno : fk 61 s:=by rw [e1];simp only [aU];exact fH.2 ⟨lR hn oM,gM.2 ⟨by decide,kY hg.2 oM⟩⟩
      unfold lZ
      rw [rA hno,e]
      simp only [hk,hn,hg,and_self,if_true]
      exact h
     ·cases h
    ·cases h
   ·cases h
  ·rename_i a b c e
   split at h
   ·cases h
   ·rename_i hk
    split at h
    ·rename_i n hn
     split at h
     ·rename_i hg
      obtain ⟨e1,e2⟩:=uf e
      split at h
      ·rename_i d e3
       split at h
       ·rename_i hd
        simp only [Option.some.injEq] at h;subst h
        have e4 : c = d:=by have:=nF 61 c;rw [show (61 : UInt8).toNat = 61 from rfl,e3] at this;exact this.symm
        subst e4
        have hno : fk 61 s:=by rw [e1];simp only [aU];exact fH.2 ⟨lR hn oM,gM.2 ⟨by decide,fH.2 ⟨kY hg.2 oM,gM.2 ⟨by decide,gt (.inr F) hd⟩⟩⟩⟩
        unfold lZ
        rw [rA hno,e]
        simp [hk,hn,hg.1,hg.2,hd]
       ·cases h
      ·rename_i d v e3
       split at h
       ·rename_i hd
        simp only [Option.some.injEq] at h;subst h
        have e4 : c = d ++ 61 :: v:=by have:=nF 61 c;rw [show (61 : UInt8).toNat = 61 from rfl,e3] at this;exact this.symm
        subst e4
        have hkd:=lF hd.2
        have es : s = aU 58 [a,b,d] ++ 61 :: v:=by rw [e1];simp [aU]
        have hno : fk 61 (aU 58 [a,b,d]):=by simp only [aU];exact fH.2 ⟨lR hn oM,gM.2 ⟨by decide,fH.2 ⟨kY hg.2 oM,gM.2 ⟨by decide,gt (.inr F) hkd⟩⟩⟩⟩
        have e5 : a9 58 (aU 58 [a,b,d]) = [a,b,d]:=by
         refine nw (c:=58) (by simp) fun x hx=>?_
         simp only [List.mem_cons,List.not_mem_nil,or_false] at hx
         rcases hx with rfl | rfl | rfl
         ·exact e2 _ (by simp)
         ·exact e2 _ (by simp)
         ·exact gt (.inl F) hkd
        unfold lZ
        rw [es,wE (k:=61) hno rfl,e5]
        simp [hn,hg.1,hg.2,hkd,hd.1,hd.2]
       ·cases h
      ·cases h
     ·cases h
    ·cases h
  ·cases h
def tag0 (t : Ty) : Int:=(t.fields.headD default).tag
def cC (ts : List Ty) : Nat → acA → acA
 | 0,_=>[]
 | _ + 1,[]=>[]
 | n + 1,c :: r=>if c.toNat = 91 then [91,93] else if c.toNat = 63 then [45] else
   match aZ ts (c :: r) with
   | none=>fD (c :: r)
   | some t=>if t.sort = 82 then [123,125] else if t.sort = 69 then 35 :: bw (tag0 t) else 60 :: (bw (tag0 t) ++ 61 :: (cC ts n (fI t) ++ [62]))
def qJ (ts : List Ty) (k : acA) : acA:=cC ts (ts.length + 2) k
def cS (ts : List Ty) (f : Fld) : acA:=if f.stand = [] then qJ ts f.kind else f.stand
def bN (fs : List Fld) (tag : Int) : Option Fld:=fs.find? fun f=>decide (f.tag = tag)
structure AskW (ts us : List Ty) (m : List Pr) : Prop where
 nd : m.Nodup
 mem : ∀ p ∈ m,(∃ t ∈ ts,t.name = p.1) ∧ ∃ u ∈ us,u.name = p.2
theorem AskW.nil {ts us : List Ty} : AskW ts us []:=⟨List.nodup_nil,by simp⟩
theorem qX {α : Type} [DecidableEq α] : ∀ {l l' : List α},l.Nodup → (∀ x ∈ l,x ∈ l') → l.length ≤ l'.length
 | [],_,_,_=>Nat.zero_le _
 | a :: l,l',hn,hs=>by
  rw [List.nodup_cons] at hn
  have ha:=hs a (.head _)
  have:=qX (l:=l) (l':=l'.erase a) hn.2 fun x hx=>by
   have hx':=hs x (.tail _ hx)
   exact (List.mem_erase_of_ne (fun e=>hn.1 (by rw [← e];exact hx))).2 hx'
  rw [List.length_erase_of_mem ha] at this
  have hp : 0 < l'.length:=List.length_pos_of_mem ha
  simp only [List.length_cons];omega
theorem AskW.len {ts us : List Ty} {m : List Pr} (h : AskW ts us m) : m.length ≤ ts.length * us.length:=by
 have h1 : m.length ≤ (ts.flatMap fun t=>us.map fun u=>(t.name,u.name)).length:=qX h.nd fun p hp=>by
  obtain ⟨⟨t,ht,e1⟩,u,hu,e2⟩:=h.mem p hp
  exact List.mem_flatMap.2 ⟨t,ht,List.mem_map.2 ⟨u,hu,by rw [e1,e2]⟩⟩
 have h2 : ∀ ts : List Ty,(ts.flatMap fun t=>us.map fun u=>(t.name,u.name)).length = ts.length * us.length:=fun ts=>by
  induction ts with
  | nil=>simp
  | cons t ts ih=>rw [List.flatMap_cons,List.length_append,ih,List.length_map,List.length_cons,Nat.succ_mul,Nat.add_comm]
 rw [h2] at h1;exact h1
theorem lV {ts : List Ty} {k : acA} (h : aM ts k = true) (hr : (bG (br k)).isSome = true) : ∃ t,aZ ts (br k) = some t:=by
 unfold aM eb at h
 unfold aZ
 cases hc : bG (br k) with
 | none=>rw [hc] at hr;cases hr
 | some n =>
  rw [hc] at h
  simp only [Bool.and_eq_true] at h
  obtain ⟨_,h⟩:=h
  exact Option.isSome_iff_exists.1 h
inductive V where
 | nd (what : Nat) (text : acA) (tag : Int) (kids : List V)
instance : Inhabited V:=⟨.nd 0 [] 0 []⟩
def V.what : V → Nat | .nd w _ _ _=>w
def V.text : V → acA | .nd _ x _ _=>x
def V.tag : V → Int | .nd _ _ t _=>t
def dh (w : Nat) (x : acA) (t : Int) (e : Bool) (j : acA) : acA :=
 if w = 116 then 39 :: (x ++ [39]) else if w = 91 then 91 :: (j ++ [93]) else if w = 63 then (if e = true then [45] else 43 :: j)
 else if w = 61 then bw t ++ 61 :: j else if w = 82 then 123 :: (j ++ [125]) else if w = 85 then 60 :: (bw t ++ 61 :: (j ++ [62])) else if w = 69 then 35 :: bw t else x
mutual
def V.out : V → acA
 | .nd w x t ks=>dh w x t ks.isEmpty (aU 44 (V.outs ks))
def V.outs : List V → List acA
 | []=>[]
 | v :: r=>V.out v :: V.outs r
end
mutual
def V.deep : V → Nat
 | .nd w _ _ ks=>if w = 61 then V.deeps ks else V.deeps ks + 1
def V.deeps : List V → Nat
 | []=>0
 | v :: r=>max (V.deep v) (V.deeps r)
end
def aa9 (w : Nat) (e : Bool) : Bool:=(decide (w = 110) || decide (w = 116) || decide (w = 102) || decide (w = 69)) || (decide (w = 63) && e)
mutual
def V.size : V → Nat
 | .nd w _ _ ks=>if aa9 w ks.isEmpty = true then 1 else V.sizes ks
def V.sizes : List V → Nat
 | []=>0
 | v :: r=>V.size v + V.sizes r
end
theorem V.outs_map : ∀ ks : List V,V.outs ks = ks.map V.out
 | []=>rfl
 | v :: r=>by rw [V.outs,V.outs_map r];rfl
def a7 (c : UInt8) : Bool:=decide (48 ≤ c.toNat ∧ c.toNat ≤ 57)
def ci (top : Int) (s : acA) : Option (Int × acA):=(aP (s.takeWhile a7) top).map fun n=>(n,s.dropWhile a7)
def be (f : acA → Option (V × acA)) : Nat → acA → List V → Option (List V × acA)
 | 0,_,_=>none
 | m + 1,s,acc=>match f s with
  | none=>none
  | some (v,r)=>match r with
   | []=>none
   | c :: r'=>if c.toNat = 44 then be f m r' (acc ++ [v]) else if c.toNat = 93 then some (acc ++ [v],r') else none
def aT (f : acA → acA → Option (V × acA)) (t : Ty) (s : acA) : Option ((Fld × V) × acA) :=
 match ci 200 s with
 | none=>none
 | some (n,r)=>match bN t.fields n with
  | none=>none
  | some d=>match r with
   | []=>none
   | c :: r'=>if c.toNat = 61 then (f d.kind r').map fun x=>((d,x.1),x.2) else none
def bC (ts : List Ty) (f : acA → acA → Option (V × acA)) (t : Ty) : Nat → Int → acA → List V → Option (List V × acA)
 | 0,_,_,_=>none
 | m + 1,last,s,acc=>match aT f t s with
  | none=>none
  | some ((d,v),r)=>if d.tag ≤ last ∨ v.out = cS ts d then none else match r with
   | []=>none
   | c :: r'=>if c.toNat = 44 then bC ts f t m d.tag r' (acc ++ [.nd 61 [] d.tag [v]]) else if c.toNat = 125 then some (acc ++ [.nd 61 [] d.tag [v]],r') else none
def a8 (ts : List Ty) (f : acA → acA → Option (V × acA)) (t : Ty) : acA → Option (V × acA)
 | []=>none
 | c :: s=>if t.sort = 82 then
   (if c.toNat = 123 then (match s with
    | []=>none
    | c' :: r=>if c'.toNat = 125 then some (.nd 82 [] 0 [],r) else (bC ts f t (s.length + 1) 0 s []).map fun x=>(.nd 82 [] 0 x.1,x.2)) else none)
  else if t.sort = 69 then
   (if c.toNat = 35 then (match ci 200 s with
    | none=>none
    | some (n,r)=>if (bN t.fields n).isSome = true then some (.nd 69 [] n [],r) else none) else none)
  else if c.toNat = 60 then (match aT f t s with
    | none=>none
    | some ((d,v),r)=>match r with
     | []=>none
     | c' :: r'=>if c'.toNat = 62 then some (.nd 85 [] d.tag [v],r') else none)
   else none
def df : acA → Option (V × acA)
 | []=>none
 | c :: s=>if c.toNat = 39 then (match aE 39 s with
   | (x,r,true)=>if c6 (39 :: (x ++ [39])) = true then some (.nd 116 x 0 [],r) else none
   | _=>none) else none
def dV (s : acA) : Option (V × acA) :=
 if [121,101,115].isPrefixOf s = true then some (.nd 102 [121,101,115] 0 [],s.drop 3) else if [110,111].isPrefixOf s = true then some (.nd 102 [110,111] 0 [],s.drop 2) else none
def eD (ts : List Ty) (f : acA → acA → Option (V × acA)) : acA → acA → Option (V × acA)
 | [],_=>none
 | c :: k,s =>
  if c.toNat = 91 then (match s with
   | []=>none
   | d :: s'=>if d.toNat = 91 then (match s' with
     | []=>none
     | e :: r=>if e.toNat = 93 then some (.nd 91 [] 0 [],r) else (be (f k) 20 s' []).map fun x=>(.nd 91 [] 0 x.1,x.2)) else none)
  else if c.toNat = 63 then (match s with
   | []=>none
   | d :: s'=>if d.toNat = 45 then some (.nd 63 [] 0 [],s') else if d.toNat = 43 then (f k s').map fun x=>(.nd 63 [] 0 [x.1],x.2) else none)
  else match aZ ts (c :: k) with
   | some t=>a8 ts f t s
   | none=>if c.toNat = 110 then (ci 999999 s).map fun x=>(.nd 110 (bw x.1) 0 [],x.2) else if c.toNat = 116 then df s else if c.toNat = 102 then dV s else none
def rd (ts : List Ty) : Nat → acA → acA → Option (V × acA)
 | 0,_,_=>none
 | n + 1,k,s=>eD ts (rd ts n) k s
def b9 (ts : List Ty) (k s : acA) : Option V:=if s.length ≤ 400 then (match rd ts 12 k s with
 | some (v,[])=>some v
 | _=>none) else none
theorem lL {f g : acA → Option (V × acA)} (h : ∀ s x,f s = some x → g s = some x) : ∀ (m : Nat) (s : acA) (acc : List V) {x : List V × acA},be f m s acc = some x → be g m s acc = some x
 | 0,_,_,_,e=>by cases e
 | m + 1,s,acc,x,e=>by
  unfold be at e ⊢
  cases hf : f s with
  | none=>rw [hf] at e;cases e
  | some y =>
   rw [hf] at e
   rw [h s y hf]
   obtain ⟨v,r⟩:=y
   cases r with
   | nil=>exact e
   | cons c r =>
    dsimp only at e ⊢
    split at e
    ·rename_i hc;rw [if_pos hc];exact lL h m r _ e
    ·rename_i hc;rw [if_neg hc];exact e
theorem lM {f g : acA → acA → Option (V × acA)} (h : ∀ k s x,f k s = some x → g k s = some x) (t : Ty) (s : acA) {x : (Fld × V) × acA} (e : aT f t s = some x) : aT g t s = some x:=by
 unfold aT at e ⊢
 cases hn : ci 200 s with
 | none=>rw [hn] at e;cases e
 | some y =>
  rw [hn] at e
  obtain ⟨n,r⟩:=y
  dsimp only at e ⊢
  cases hd : bN t.fields n with
  | none=>rw [hd] at e;cases e
  | some d =>
   rw [hd] at e
   cases r with
   | nil=>cases e
   | cons c r' =>
    dsimp only at e ⊢
    by_cases hc : c.toNat = 61
    ·rw [if_pos hc] at e ⊢
     cases hf : f d.kind r' with
     | none=>rw [hf] at e;cases e
     | some y=>rw [hf] at e;rw [h _ _ y hf];exact e
    ·rw [if_neg hc] at e;cases e
theorem mR {ts : List Ty} {f g : acA → acA → Option (V × acA)} (h : ∀ k s x,f k s = some x → g k s = some x) (t : Ty) : ∀ (m : Nat) (last : Int) (s : acA) (acc : List V) {x : List V × acA},bC ts f t m last s acc = some x → bC ts g t m last s acc = some x
 | 0,_,_,_,_,e=>by cases e
 | m + 1,last,s,acc,x,e=>by
  unfold bC at e ⊢
  cases hf : aT f t s with
  | none=>rw [hf] at e;cases e
  | some y =>
   rw [hf] at e
   rw [lM h t s hf]
   obtain ⟨⟨d,v⟩,r⟩:=y
   dsimp only at e ⊢
   split at e
   ·cases e
   ·rename_i hd
    rw [if_neg hd]
    cases r with
    | nil=>exact e
    | cons c r =>
     dsimp only at e ⊢
     split at e
     ·rename_i hc;rw [if_pos hc];exact mR h t m _ r _ e
     ·rename_i hc;rw [if_neg hc];exact e
theorem qO {ts : List Ty} {f g : acA → acA → Option (V × acA)} (h : ∀ k s x,f k s = some x → g k s = some x) (t : Ty) : ∀ (s : acA) {x : V × acA},a8 ts f t s = some x → a8 ts g t s = some x
 | [],_,e=>by cases e
 | c :: s,x,e=>by
  unfold a8 at e ⊢
  dsimp only at e ⊢
  by_cases h82 : t.sort = 82
  ·rw [if_pos h82] at e ⊢
   by_cases hc : c.toNat = 123
   ·rw [if_pos hc] at e ⊢
    cases s with
    | nil=>exact e
    | cons c' r =>
     dsimp only at e ⊢
     by_cases hc' : c'.toNat = 125
     ·rw [if_pos hc'] at e ⊢;exact e
     ·rw [if_neg hc'] at e ⊢
      cases hf : bC ts f t ((c' :: r).length + 1) 0 (c' :: r) [] with
      | none=>rw [hf] at e;cases e
      | some y=>rw [hf] at e;rw [mR h t _ _ _ _ hf];exact e
   ·rw [if_neg hc] at e;cases e
  ·rw [if_neg h82] at e ⊢
   by_cases h69 : t.sort = 69
   ·rw [if_pos h69] at e ⊢;exact e
   ·rw [if_neg h69] at e ⊢
    by_cases hc : c.toNat = 60
    ·rw [if_pos hc] at e ⊢
     cases hf : aT f t s with
     | none=>rw [hf] at e;cases e
     | some y=>rw [hf] at e;rw [lM h t s hf];exact e
    ·rw [if_neg hc] at e;cases e
theorem wh {ts : List Ty} {f g : acA → acA → Option (V × acA)} (ih : ∀ k s x,f k s = some x → g k s = some x) : ∀ (k s : acA) {x : V × acA},eD ts f k s = some x → eD ts g k s = some x
 | [],_,_,e=>by cases e
 | c :: k,s,x,e=>by
  unfold eD at e ⊢
  dsimp only at e ⊢
  by_cases h91 : c.toNat = 91
  ·rw [if_pos h91] at e ⊢
   cases s with
   | nil=>exact e
   | cons d s' =>
    dsimp only at e ⊢
    by_cases hd : d.toNat = 91
    ·rw [if_pos hd] at e ⊢
     cases s' with
     | nil=>exact e
     | cons e' r =>
      dsimp only at e ⊢
      by_cases he : e'.toNat = 93
      ·rw [if_pos he] at e ⊢;exact e
      ·rw [if_neg he] at e ⊢
       cases hf : be (f k) 20 (e' :: r) [] with
       | none=>rw [hf] at e;cases e
       | some y=>rw [hf] at e;rw [lL (ih k) _ _ _ hf];exact e
    ·rw [if_neg hd] at e;cases e
  ·rw [if_neg h91] at e ⊢
   by_cases h63 : c.toNat = 63
   ·rw [if_pos h63] at e ⊢
    cases s with
    | nil=>exact e
    | cons d s' =>
     dsimp only at e ⊢
     by_cases hd : d.toNat = 45
     ·rw [if_pos hd] at e ⊢;exact e
     ·rw [if_neg hd] at e ⊢
      by_cases hd2 : d.toNat = 43
      ·rw [if_pos hd2] at e ⊢
       cases hf : f k s' with
       | none=>rw [hf] at e;cases e
       | some y=>rw [hf] at e;rw [ih k s' y hf];exact e
      ·rw [if_neg hd2] at e;cases e
   ·rw [if_neg h63] at e ⊢
    cases hr : aZ ts (c :: k) with
    | none=>rw [hr] at e;exact e
    | some t=>rw [hr] at e;exact qO ih t s e
theorem sL {ts : List Ty} : ∀ (n : Nat) (k s : acA) {x : V × acA},rd ts n k s = some x → rd ts (n + 1) k s = some x
 | 0,_,_,_,e=>by cases e
 | n + 1,k,s,_,e=>wh (fun k s _ e=>sL n k s e) k s e
theorem xa {ts : List Ty} {n m : Nat} (h : n ≤ m) {k s : acA} {x : V × acA} (e : rd ts n k s = some x) : rd ts m k s = some x:=by
  induction m with
  | zero => have : n = 0 := oM
            subst this;exact e
  | succ m ih =>
    by_cases hn : n = m + 1
    · subst hn;exact e
    · exact sL m k s (ih oM)
theorem V.deep_mem : ∀ {ks : List V} {v : V},v ∈ ks → V.deep v ≤ V.deeps ks
 | [],_,h=>by cases h
 | u :: ks,v,h=>by
  rw [V.deeps]
  rcases List.mem_cons.1 h with rfl | h
  ·exact Nat.le_max_left _ _
  ·exact Nat.le_trans (V.deep_mem h) (Nat.le_max_right _ _)
theorem V.deeps_le : ∀ {ks : List V} {n : Nat},(∀ v ∈ ks,V.deep v ≤ n) → V.deeps ks ≤ n
 | [],_,_=>by rw [V.deeps];exact Nat.zero_le _
 | u :: ks,n,h=>by
  rw [V.deeps]
  exact Nat.max_le.2 ⟨h u (.head _),V.deeps_le fun v hv=>h v (.tail _ hv)⟩
theorem cL {w : Nat} {x : acA} {t : Int} {ks : List V} (h : ¬ w = 61) : V.deep (.nd w x t ks) = V.deeps ks + 1:=by rw [V.deep,if_neg h]
theorem nD {t : Int} {v : V} : V.deep (.nd 61 [] t [v]) = V.deep v:=by rw [V.deep,if_pos rfl,V.deeps,V.deeps,Nat.max_zero]
theorem g7 {f : acA → Option (V × acA)} {p : V → Prop} (h : ∀ s x,f s = some x → p x.1) : ∀ (m : Nat) (s : acA) (acc : List V) {x : List V × acA},be f m s acc = some x → (∀ v ∈ acc,p v) → ∀ v ∈ x.1,p v
 | 0,_,_,_,e,_=>by cases e
 | m + 1,s,acc,x,e,ha=>by
  unfold be at e
  cases hf : f s with
  | none=>rw [hf] at e;cases e
  | some y =>
   rw [hf] at e
   have hy:=h s y hf
   obtain ⟨v,r⟩:=y
   have ha' : ∀ u ∈ acc ++ [v],p u:=fun u hu=>by
    rcases List.mem_append.1 hu with hu | hu
    ·exact ha u hu
    ·simp only [List.mem_singleton] at hu;subst hu;exact hy
   cases r with
   | nil=>cases e
   | cons c r =>
    dsimp only at e
    split at e
    ·exact g7 h m r _ e ha'
    ·split at e
     ·simp only [Option.some.injEq] at e;subst e;exact ha'
     ·cases e
theorem mQ {f g : acA → Option (V × acA)} : ∀ (m : Nat) (s : acA) (acc : List V) {x : List V × acA},be f m s acc = some x → (∀ s y,f s = some y → y.1 ∈ x.1 → g s = some y) → be g m s acc = some x ∧ ∀ v ∈ acc,v ∈ x.1
 | 0,_,_,_,e,_=>by cases e
 | m + 1,s,acc,x,e,h=>by
  unfold be at e ⊢
  cases hf : f s with
  | none=>rw [hf] at e;cases e
  | some y =>
   rw [hf] at e
   have hy:=h s y hf
   obtain ⟨v,r⟩:=y
   cases r with
   | nil=>cases e
   | cons c r =>
    dsimp only at e hy
    split at e
    ·rename_i hc
     obtain ⟨h1,h2⟩:=mQ m r _ e h
     rw [hy (h2 v (by simp))]
     dsimp only
     rw [if_pos hc]
     exact ⟨h1,fun u hu=>h2 u (List.mem_append_left _ hu)⟩
    ·rename_i hc
     split at e
     ·rename_i hc2
      simp only [Option.some.injEq] at e;subst e
      rw [hy (by simp)]
      dsimp only
      rw [if_neg hc,if_pos hc2]
      exact ⟨F,fun u hu=>List.mem_append_left _ hu⟩
     ·cases e
theorem fe {f : acA → acA → Option (V × acA)} {t : Ty} {s : acA} {x : (Fld × V) × acA} (e : aT f t s = some x) : x.1.1 ∈ t.fields ∧ ∃ s',f x.1.1.kind s' = some (x.1.2,x.2):=by
 unfold aT at e
 cases hn : ci 200 s with
 | none=>rw [hn] at e;cases e
 | some y =>
  rw [hn] at e
  obtain ⟨n,r⟩:=y
  dsimp only at e
  cases hd : bN t.fields n with
  | none=>rw [hd] at e;cases e
  | some d =>
   rw [hd] at e
   cases r with
   | nil=>cases e
   | cons c r' =>
    dsimp only at e
    by_cases hc : c.toNat = 61
    ·rw [if_pos hc] at e
     cases hf : f d.kind r' with
     | none=>rw [hf] at e;cases e
     | some y =>
      rw [hf] at e
      simp only [Option.map_some,Option.some.injEq] at e
      subst e
      exact ⟨List.mem_of_find?_eq_some hd,r',hf⟩
    ·rw [if_neg hc] at e;cases e
theorem kg {f g : acA → acA → Option (V × acA)} {t : Ty} {s : acA} {x : (Fld × V) × acA} (e : aT f t s = some x) (h : ∀ k s y,f k s = some y → y.1 = x.1.2 → g k s = some y) : aT g t s = some x:=by
 unfold aT at e ⊢
 cases hn : ci 200 s with
 | none=>rw [hn] at e;cases e
 | some y =>
  rw [hn] at e
  obtain ⟨n,r⟩:=y
  dsimp only at e ⊢
  cases hd : bN t.fields n with
  | none=>rw [hd] at e;cases e
  | some d =>
   rw [hd] at e
   cases r with
   | nil=>cases e
   | cons c r' =>
    dsimp only at e ⊢
    by_cases hc : c.toNat = 61
    ·rw [if_pos hc] at e ⊢
     cases hf : f d.kind r' with
     | none=>rw [hf] at e;cases e
     | some y =>
      rw [hf] at e
      simp only [Option.map_some,Option.some.injEq] at e
      subst e
      rw [h _ _ _ hf rfl];rfl
    ·rw [if_neg hc] at e;cases e
theorem n9 {ts : List Ty} {f : acA → acA → Option (V × acA)} {t : Ty} {p : V → Prop} (h : ∀ k s x,f k s = some x → ∀ n,p (.nd 61 [] n [x.1])) : ∀ (m : Nat) (last : Int) (s : acA) (acc : List V) {x : List V × acA},bC ts f t m last s acc = some x → (∀ v ∈ acc,p v) → ∀ v ∈ x.1,p v
 | 0,_,_,_,_,e,_=>by cases e
 | m + 1,last,s,acc,x,e,ha=>by
  unfold bC at e
  cases hf : aT f t s with
  | none=>rw [hf] at e;cases e
  | some y =>
   rw [hf] at e
   obtain ⟨_,s',hs'⟩:=fe hf
   have hy:=h _ s' _ hs'
   obtain ⟨⟨d,v⟩,r⟩:=y
   dsimp only at e hy
   have ha' : ∀ u ∈ acc ++ [V.nd 61 [] d.tag [v]],p u:=fun u hu=>by
    rcases List.mem_append.1 hu with hu | hu
    ·exact ha u hu
    ·simp only [List.mem_singleton] at hu;subst hu;exact hy d.tag
   split at e
   ·cases e
   ·cases r with
    | nil=>cases e
    | cons c r =>
     dsimp only at e
     split at e
     ·exact n9 h m _ r _ e ha'
     ·split at e
      ·simp only [Option.some.injEq] at e;subst e;exact ha'
      ·cases e
theorem n8 {ts : List Ty} {f g : acA → acA → Option (V × acA)} {t : Ty} : ∀ (m : Nat) (last : Int) (s : acA) (acc : List V) {x : List V × acA},bC ts f t m last s acc = some x → (∀ k s y,f k s = some y → (∃ n,V.nd 61 [] n [y.1] ∈ x.1) → g k s = some y) → bC ts g t m last s acc = some x ∧ ∀ v ∈ acc,v ∈ x.1
 | 0,_,_,_,_,e,_=>by cases e
 | m + 1,last,s,acc,x,e,h=>by
  unfold bC at e ⊢
  cases hf : aT f t s with
  | none=>rw [hf] at e;cases e
  | some y =>
   rw [hf] at e
   obtain ⟨⟨d,v⟩,r⟩:=y
   dsimp only at e
   split at e
   ·cases e
   ·rename_i hd
    cases r with
    | nil=>cases e
    | cons c r =>
     dsimp only at e
     split at e
     ·rename_i hc
      obtain ⟨h1,h2⟩:=n8 m _ r _ e h
      have hg:=kg (g:=g) hf (fun k s y hy e2=>h k s y hy ⟨d.tag,by rw [e2];exact h2 _ (by simp)⟩)
      rw [hg]
      dsimp only
      rw [if_neg hd,if_pos hc]
      exact ⟨h1,fun u hu=>h2 u (List.mem_append_left _ hu)⟩
     ·rename_i hc
      split at e
      ·rename_i hc2
       simp only [Option.some.injEq] at e;subst e
       have hg:=kg (g:=g) hf (fun k s y hy e2=>h k s y hy ⟨d.tag,by rw [e2];simp⟩)
       rw [hg]
       dsimp only
       rw [if_neg hd,if_neg hc,if_pos hc2]
       exact ⟨F,fun u hu=>List.mem_append_left _ hu⟩
      ·cases e
theorem sM {ts : List Ty} {f g : acA → acA → Option (V × acA)} : ∀ (k s : acA) {x : V × acA},eD ts f k s = some x → ∃ w tx tg ks,x.1 = .nd w tx tg ks ∧ ¬ w = 61 ∧ ((∀ k s y,f k s = some y → V.deep y.1 ≤ V.deeps ks → g k s = some y) → eD ts g k s = some x) ∧ ∀ n,(∀ k s y,f k s = some y → V.deep y.1 ≤ n) → V.deeps ks ≤ n
 | [],_,_,e=>by cases e
 | c :: k,s,x,e=>by
  unfold eD at e ⊢
  dsimp only at e ⊢
  have leaf : ∀ {w : Nat} {tx : acA} {tg : Int} {q : Prop},x.1 = .nd w tx tg [] → ¬ w = 61 → q → ∃ w tx tg ks,x.1 = .nd w tx tg ks ∧ ¬ w = 61 ∧ ((∀ k s y,f k s = some y → V.deep y.1 ≤ V.deeps ks → g k s = some y) → q) ∧ ∀ n,(∀ k s y,f k s = some y → V.deep y.1 ≤ n) → V.deeps ks ≤ n :=
   fun h1 h2 h3=>⟨_,_,_,[],h1,h2,fun _=>h3,fun n _=>by rw [V.deeps];exact Nat.zero_le n⟩
  by_cases h91 : c.toNat = 91
  ·simp only [if_pos h91] at e ⊢
   cases s with
   | nil=>cases e
   | cons d s' =>
    dsimp only at e ⊢
    by_cases hd : d.toNat = 91
    ·simp only [if_pos hd] at e ⊢
     cases s' with
     | nil=>cases e
     | cons e' r =>
      dsimp only at e ⊢
      by_cases he : e'.toNat = 93
      ·simp only [if_pos he] at e ⊢
       have e2:=e
       simp only [Option.some.injEq] at e2;subst e2
       exact leaf F dC F
      ·simp only [if_neg he] at e ⊢
       cases hf : be (f k) 20 (e' :: r) [] with
       | none=>rw [hf] at e;cases e
       | some y =>
        rw [hf] at e
        simp only [Option.map_some,Option.some.injEq] at e;subst e
        refine ⟨91,[],0,y.1,F,by decide,fun h=>?_,fun n h=>?_⟩
        ·rw [(mQ (g:=g k) _ _ _ hf fun s u hu hm=>h k s u hu (V.deep_mem hm)).1];rfl
        ·exact V.deeps_le fun v hv=>g7 (p:=fun v=>V.deep v ≤ n) (fun s u hu=>h k s u hu) _ _ _ hf (by simp) v hv
    ·simp only [if_neg hd] at e;cases e
  ·simp only [if_neg h91] at e ⊢
   by_cases h63 : c.toNat = 63
   ·simp only [if_pos h63] at e ⊢
    cases s with
    | nil=>cases e
    | cons d s' =>
     dsimp only at e ⊢
     by_cases hd : d.toNat = 45
     ·simp only [if_pos hd] at e ⊢
      have e2:=e
      simp only [Option.some.injEq] at e2;subst e2
      exact leaf F dC F
     ·simp only [if_neg hd] at e ⊢
      by_cases hd2 : d.toNat = 43
      ·simp only [if_pos hd2] at e ⊢
       cases hf : f k s' with
       | none=>rw [hf] at e;cases e
       | some y =>
        rw [hf] at e
        simp only [Option.map_some,Option.some.injEq] at e;subst e
        refine ⟨63,[],0,[y.1],F,by decide,fun h=>?_,fun n h=>?_⟩
        ·rw [h k s' y hf (V.deep_mem (by simp))];rfl
        ·exact V.deeps_le fun v hv=>by simp only [List.mem_singleton] at hv;subst hv;exact h k s' y hf
      ·simp only [if_neg hd2] at e;cases e
   ·simp only [if_neg h63] at e ⊢
    cases hr : aZ ts (c :: k) with
    | none =>
     rw [hr] at e
     dsimp only at e ⊢
     by_cases h1 : c.toNat = 110
     ·simp only [if_pos h1] at e ⊢
      cases hn : ci 999999 s with
      | none=>rw [hn] at e;cases e
      | some y =>
       rw [hn] at e
       have e2:=e
       simp only [Option.map_some,Option.some.injEq] at e2;subst e2
       exact leaf F dC F
     ·simp only [if_neg h1] at e ⊢
      by_cases h2 : c.toNat = 116
      ·simp only [if_pos h2] at e ⊢
       refine leaf (w:=116) (tx:=x.1.text) (tg:=0) ?_ dC e
       unfold df at e
       split at e
       ·cases e
       ·split at e
        ·split at e
         ·split at e
          ·simp only [Option.some.injEq] at e;subst e;rfl
          ·cases e
         ·cases e
        ·cases e
      ·simp only [if_neg h2] at e ⊢
       by_cases h3 : c.toNat = 102
       ·simp only [if_pos h3] at e ⊢
        refine leaf (w:=102) (tx:=x.1.text) (tg:=0) ?_ dC e
        unfold dV at e
        split at e
        ·simp only [Option.some.injEq] at e;subst e;rfl
        ·split at e
         ·simp only [Option.some.injEq] at e;subst e;rfl
         ·cases e
       ·simp only [if_neg h3] at e;cases e
    | some t =>
     rw [hr] at e
     dsimp only at e ⊢
     unfold a8 at e ⊢
     cases s with
     | nil=>cases e
     | cons d s =>
      dsimp only at e ⊢
      by_cases h82 : t.sort = 82
      ·simp only [if_pos h82] at e ⊢
       by_cases hd : d.toNat = 123
       ·simp only [if_pos hd] at e ⊢
        cases s with
        | nil=>cases e
        | cons d' r =>
         dsimp only at e ⊢
         by_cases hd' : d'.toNat = 125
         ·simp only [if_pos hd'] at e ⊢
          have e2:=e
          simp only [Option.some.injEq] at e2;subst e2
          exact leaf F dC F
         ·simp only [if_neg hd'] at e ⊢
          cases hf : bC ts f t ((d' :: r).length + 1) 0 (d' :: r) [] with
          | none=>rw [hf] at e;cases e
          | some y =>
           rw [hf] at e
           simp only [Option.map_some,Option.some.injEq] at e;subst e
           refine ⟨82,[],0,y.1,F,by decide,fun h=>?_,fun n h=>?_⟩
           ·rw [(n8 (g:=g) _ _ _ _ hf fun k s u hu hm=>h k s u hu (by obtain ⟨n,hm⟩:=hm;have:=V.deep_mem hm;rwa [nD] at this)).1];rfl
           ·exact V.deeps_le fun v hv=>n9 (p:=fun v=>V.deep v ≤ n) (fun k s u hu m=>by rw [nD];exact h k s u hu) _ _ _ _ hf (by simp) v hv
       ·simp only [if_neg hd] at e;cases e
      ·simp only [if_neg h82] at e ⊢
       by_cases h69 : t.sort = 69
       ·simp only [if_pos h69] at e ⊢
        refine leaf (w:=69) (tx:=[]) (tg:=x.1.tag) ?_ dC e
        split at e
        ·split at e
         ·cases e
         ·split at e
          ·simp only [Option.some.injEq] at e;subst e;rfl
          ·cases e
        ·cases e
       ·simp only [if_neg h69] at e ⊢
        by_cases hd : d.toNat = 60
        ·simp only [if_pos hd] at e ⊢
         cases hf : aT f t s with
         | none=>rw [hf] at e;cases e
         | some y =>
          rw [hf] at e
          obtain ⟨⟨fd,v⟩,r⟩:=y
          cases r with
          | nil=>cases e
          | cons c' r =>
           dsimp only at e
           by_cases hc' : c'.toNat = 62
           ·simp only [if_pos hc',Option.some.injEq] at e;subst e
            refine ⟨85,[],fd.tag,[v],F,by decide,fun h=>?_,fun n h=>?_⟩
            ·rw [kg (g:=g) hf fun k s u hu e2=>h k s u hu (by rw [e2];exact V.deep_mem (by simp))]
             dsimp only
             rw [if_pos hc']
            ·obtain ⟨_,s',hs'⟩:=fe hf
             exact V.deeps_le fun u hu=>by simp only [List.mem_singleton] at hu;subst hu;exact h _ _ _ hs'
           ·simp only [if_neg hc'] at e;cases e
        ·simp only [if_neg hd] at e;cases e
theorem kK {ts : List Ty} : ∀ (n : Nat) (k s : acA) (x : V × acA),rd ts n k s = some x → V.deep x.1 ≤ n
 | 0,_,_,_,e=>by cases e
 | n + 1,k,s,x,e=>by
  obtain ⟨w,tx,tg,ks,h1,h2,_,h4⟩:=sM (g:=rd ts n) k s e
  rw [h1,cL h2]
  have:=h4 n fun k s y hy=>kK n k s y hy
  omega
theorem xb {ts : List Ty} : ∀ (n m : Nat) (k s : acA) (x : V × acA),rd ts n k s = some x → V.deep x.1 ≤ m → rd ts m k s = some x
 | 0,_,_,_,_,e,_=>by cases e
 | n + 1,m,k,s,x,e,hm=>by
  obtain ⟨w,tx,tg,ks,h1,h2,h3,_⟩:=sM (g:=rd ts (m - 1)) k s e
  rw [h1,cL h2] at hm
  obtain ⟨m,rfl⟩ : ∃ j,m = j + 1:=⟨m - 1,oM⟩
  exact h3 fun k s y hy hd=>xb n m k s y hy oM
theorem bm {c : UInt8} {n : Nat} (h : c.toNat = n) (hn : n < 256) : c = UInt8.ofNat n:=by
 apply UInt8.toNat_inj.1;rw [h,UInt8.toNat_ofNat'];omega
theorem jm {top : Int} {s r : acA} {n : Int} (h : ci top s = some (n,r)) : s = bw n ++ r:=by
 unfold ci at h
 cases hn : aP (s.takeWhile a7) top with
 | none=>rw [hn] at h;cases h
 | some q =>
  rw [hn] at h
  simp only [Option.map_some,Option.some.injEq,Prod.mk.injEq] at h
  obtain ⟨rfl,rfl⟩:=h
  rw [← (d8 hn).2.1,List.takeWhile_append_dropWhile]
theorem mP {f : acA → Option (V × acA)} (h : ∀ s y,f s = some y → s = y.1.out ++ y.2) : ∀ (m : Nat) (s : acA) (acc : List V) {x : List V × acA},be f m s acc = some x → ∃ vs,vs ≠ [] ∧ x.1 = acc ++ vs ∧ s = aU 44 (vs.map V.out) ++ 93 :: x.2
 | 0,_,_,_,e=>by cases e
 | m + 1,s,acc,x,e=>by
  unfold be at e
  cases hf : f s with
  | none=>rw [hf] at e;cases e
  | some y =>
   rw [hf] at e
   have hy:=h s y hf
   obtain ⟨v,r⟩:=y
   cases r with
   | nil=>cases e
   | cons c r =>
    dsimp only at e hy
    split at e
    ·rename_i hc
     obtain ⟨vs,h1,h2,h3⟩:=mP h m r _ e
     have hc2:=bm hc dC
     refine ⟨v :: vs,by simp,by rw [h2];simp,?_⟩
     rw [hy,h3,List.map_cons,kX _ _ (by simpa using h1),hc2]
     simp
    ·split at e
     ·rename_i hc2
      have hc3:=bm hc2 dC
      simp only [Option.some.injEq] at e;subst e
      exact ⟨[v],by simp,F,by rw [hy,hc3];rfl⟩
     ·cases e
theorem ge {t : Int} {v : V} : V.out (.nd 61 [] t [v]) = bw t ++ 61 :: v.out:=by
 rw [V.out,V.outs,V.outs];simp [dh,aU]
theorem mT {f : acA → acA → Option (V × acA)} (h : ∀ k s y,f k s = some y → s = y.1.out ++ y.2) {t : Ty} {s : acA} {x : (Fld × V) × acA} (e : aT f t s = some x) : s = bw x.1.1.tag ++ 61 :: (x.1.2.out ++ x.2):=by
 unfold aT at e
 cases hn : ci 200 s with
 | none=>rw [hn] at e;cases e
 | some y =>
  rw [hn] at e
  obtain ⟨n,r⟩:=y
  have h1:=jm hn
  dsimp only at e
  cases hd : bN t.fields n with
  | none=>rw [hd] at e;cases e
  | some d =>
   rw [hd] at e
   have h2 : d.tag = n:=by have:=List.find?_some hd;simpa using this
   cases r with
   | nil=>cases e
   | cons c r' =>
    dsimp only at e
    by_cases hc : c.toNat = 61
    ·rw [if_pos hc] at e
     cases hf : f d.kind r' with
     | none=>rw [hf] at e;cases e
     | some y =>
      rw [hf] at e
      simp only [Option.map_some,Option.some.injEq] at e
      subst e
      have h3:=h _ _ _ hf
      dsimp only
      rw [h1,h2,h3,bm hc dC];rfl
    ·rw [if_neg hc] at e;cases e
theorem n7 {ts : List Ty} {f : acA → acA → Option (V × acA)} (h : ∀ k s y,f k s = some y → s = y.1.out ++ y.2) {t : Ty} : ∀ (m : Nat) (last : Int) (s : acA) (acc : List V) {x : List V × acA},bC ts f t m last s acc = some x → ∃ vs,vs ≠ [] ∧ x.1 = acc ++ vs ∧ s = aU 44 (vs.map V.out) ++ 125 :: x.2
 | 0,_,_,_,_,e=>by cases e
 | m + 1,last,s,acc,x,e=>by
  unfold bC at e
  cases hf : aT f t s with
  | none=>rw [hf] at e;cases e
  | some y =>
   rw [hf] at e
   have hy:=mT h hf
   obtain ⟨⟨d,v⟩,r⟩:=y
   dsimp only at e hy
   split at e
   ·cases e
   ·cases r with
    | nil=>cases e
    | cons c r =>
     dsimp only at e
     split at e
     ·rename_i hc
      obtain ⟨vs,h1,h2,h3⟩:=n7 h m _ r _ e
      have hc2:=bm hc dC
      refine ⟨V.nd 61 [] d.tag [v] :: vs,by simp,by rw [h2];simp,?_⟩
      rw [hy,h3,List.map_cons,kX _ _ (by simpa using h1),hc2,ge]
      simp
     ·split at e
      ·rename_i hc2
       have hc3:=bm hc2 dC
       simp only [Option.some.injEq] at e;subst e
       exact ⟨[V.nd 61 [] d.tag [v]],by simp,F,by rw [hy,hc3];simp [aU,ge]⟩
      ·cases e
theorem qi {k : Nat} {c : UInt8} (hc : c.toNat = k) : ∀ {s x r : acA},aE k s = (x,r,true) → s = x ++ c :: r
 | [],_,_,h=>by cases h
 | d :: s,x,r,h=>by
  unfold aE at h
  split at h
  ·rename_i hd
   simp only [Prod.mk.injEq,and_true] at h
   obtain ⟨rfl,rfl⟩:=h
   have : d = c:=UInt8.toNat_inj.1 (by rw [hd,hc])
   rw [this];rfl
  ·simp only [Prod.mk.injEq] at h
   obtain ⟨h1,h2,h3⟩:=h
   have ih:=qi hc (s:=s) (x:=(aE k s).1) (r:=(aE k s).2.1) (by rw [← h3])
   rw [← h1,← h2,List.cons_append,← ih]
theorem pc {p s : acA} (h : p.isPrefixOf s = true) : s = p ++ s.drop p.length:=by
 rw [List.isPrefixOf_iff_prefix] at h
 obtain ⟨t,rfl⟩:=h
 simp
theorem mN {s : acA} {x : V × acA} (e : df s = some x) : s = x.1.out ++ x.2:=by
 unfold df at e
 cases s with
 | nil=>cases e
 | cons c s =>
  dsimp only at e
  by_cases hc : c.toNat = 39
  ·rw [if_pos hc] at e
   rcases hq : aE 39 s with ⟨y,r,b⟩
   rw [hq] at e
   cases b with
   | false=>cases e
   | true =>
    dsimp only at e
    split at e
    ·simp only [Option.some.injEq] at e;subst e
     have h1:=qi (c:=39) rfl hq
     rw [h1,bm hc dC]
     simp [V.out,dh]
    ·cases e
  ·rw [if_neg hc] at e;cases e
theorem ob {s : acA} {x : V × acA} (e : dV s = some x) : s = x.1.out ++ x.2:=by
 unfold dV at e
 split at e
 ·rename_i h
  simp only [Option.some.injEq] at e;subst e
  have:=pc h
  simpa [V.out,dh] using this
 ·split at e
  ·rename_i h
   simp only [Option.some.injEq] at e;subst e
   have:=pc h
   simpa [V.out,dh] using this
  ·cases e
theorem nq {ks : List V} {r : acA} : V.out (.nd 91 [] 0 ks) ++ r = 91 :: (aU 44 (ks.map V.out) ++ 93 :: r):=by
 rw [V.out,V.outs_map];simp [dh]
theorem pe {ks : List V} {r : acA} : V.out (.nd 82 [] 0 ks) ++ r = 123 :: (aU 44 (ks.map V.out) ++ 125 :: r):=by
 rw [V.out,V.outs_map];simp [dh]
theorem sP {v : V} {r : acA} : V.out (.nd 63 [] 0 [v]) ++ r = 43 :: (v.out ++ r):=by
 rw [V.out,V.outs_map];simp [dh,aU]
theorem sO {v : V} {n : Int} {r : acA} : V.out (.nd 85 [] n [v]) ++ r = 60 :: (bw n ++ 61 :: (v.out ++ 62 :: r)):=by
 rw [V.out,V.outs_map];simp [dh,aU]
theorem xQ {ts : List Ty} {f : acA → acA → Option (V × acA)} (h : ∀ k s y,f k s = some y → s = y.1.out ++ y.2) : ∀ (k s : acA) {x : V × acA},eD ts f k s = some x → s = x.1.out ++ x.2
 | [],_,_,e=>by cases e
 | c :: k,s,x,e=>by
  unfold eD at e
  dsimp only at e
  by_cases h91 : c.toNat = 91
  ·simp only [if_pos h91] at e
   cases s with
   | nil=>cases e
   | cons d s' =>
    dsimp only at e
    by_cases hd : d.toNat = 91
    ·simp only [if_pos hd] at e
     cases s' with
     | nil=>cases e
     | cons e' r =>
      dsimp only at e
      by_cases he : e'.toNat = 93
      ·simp only [if_pos he,Option.some.injEq] at e;subst e
       rw [nq,bm hd dC,bm he dC];rfl
      ·simp only [if_neg he] at e
       cases hf : be (f k) 20 (e' :: r) [] with
       | none=>rw [hf] at e;cases e
       | some y =>
        rw [hf] at e
        simp only [Option.map_some,Option.some.injEq] at e;subst e
        obtain ⟨vs,_,h2,h3⟩:=mP (h k) _ _ _ hf
        rw [nq,h2,h3,bm hd dC];rfl
    ·simp only [if_neg hd] at e;cases e
  ·simp only [if_neg h91] at e
   by_cases h63 : c.toNat = 63
   ·simp only [if_pos h63] at e
    cases s with
    | nil=>cases e
    | cons d s' =>
     dsimp only at e
     by_cases hd : d.toNat = 45
     ·simp only [if_pos hd,Option.some.injEq] at e;subst e
      rw [bm hd dC];simp [V.out,dh]
     ·simp only [if_neg hd] at e
      by_cases hd2 : d.toNat = 43
      ·simp only [if_pos hd2] at e
       cases hf : f k s' with
       | none=>rw [hf] at e;cases e
       | some y =>
        rw [hf] at e
        simp only [Option.map_some,Option.some.injEq] at e;subst e
        rw [sP,← h k s' y hf,bm hd2 dC];rfl
      ·simp only [if_neg hd2] at e;cases e
   ·simp only [if_neg h63] at e
    cases hr : aZ ts (c :: k) with
    | none =>
     rw [hr] at e
     dsimp only at e
     by_cases h1 : c.toNat = 110
     ·simp only [if_pos h1] at e
      cases hn : ci 999999 s with
      | none=>rw [hn] at e;cases e
      | some y =>
       rw [hn] at e
       simp only [Option.map_some,Option.some.injEq] at e;subst e
       rw [jm hn];simp [V.out,dh]
     ·simp only [if_neg h1] at e
      by_cases h2 : c.toNat = 116
      ·simp only [if_pos h2] at e;exact mN e
      ·simp only [if_neg h2] at e
       by_cases h3 : c.toNat = 102
       ·simp only [if_pos h3] at e;exact ob e
       ·simp only [if_neg h3] at e;cases e
    | some t =>
     rw [hr] at e
     dsimp only at e
     unfold a8 at e
     cases s with
     | nil=>cases e
     | cons d s =>
      dsimp only at e
      by_cases h82 : t.sort = 82
      ·simp only [if_pos h82] at e
       by_cases hd : d.toNat = 123
       ·simp only [if_pos hd] at e
        cases s with
        | nil=>cases e
        | cons d' r =>
         dsimp only at e
         by_cases hd' : d'.toNat = 125
         ·simp only [if_pos hd',Option.some.injEq] at e;subst e
          rw [pe,bm hd dC,bm hd' dC];rfl
         ·simp only [if_neg hd'] at e
          cases hf : bC ts f t ((d' :: r).length + 1) 0 (d' :: r) [] with
          | none=>rw [hf] at e;cases e
          | some y =>
           rw [hf] at e
           simp only [Option.map_some,Option.some.injEq] at e;subst e
           obtain ⟨vs,_,h2,h3⟩:=n7 h _ _ _ _ hf
           rw [pe,h2,h3,bm hd dC];rfl
       ·simp only [if_neg hd] at e;cases e
      ·simp only [if_neg h82] at e
       by_cases h69 : t.sort = 69
       ·simp only [if_pos h69] at e
        by_cases hd : d.toNat = 35
        ·simp only [if_pos hd] at e
         cases hn : ci 200 s with
         | none=>rw [hn] at e;cases e
         | some y =>
          rw [hn] at e
          obtain ⟨n,r⟩:=y
          dsimp only at e
          split at e
          ·simp only [Option.some.injEq] at e;subst e
           rw [jm hn,bm hd dC];simp [V.out,dh]
          ·cases e
        ·simp only [if_neg hd] at e;cases e
       ·simp only [if_neg h69] at e
        by_cases hd : d.toNat = 60
        ·simp only [if_pos hd] at e
         cases hf : aT f t s with
         | none=>rw [hf] at e;cases e
         | some y =>
          rw [hf] at e
          have h3:=mT h hf
          obtain ⟨⟨fd,v⟩,r⟩:=y
          cases r with
          | nil=>cases e
          | cons c' r =>
           dsimp only at e h3
           by_cases hc' : c'.toNat = 62
           ·simp only [if_pos hc',Option.some.injEq] at e;subst e
            rw [sO,h3,bm hd dC,bm hc' dC];rfl
           ·simp only [if_neg hc'] at e;cases e
        ·simp only [if_neg hd] at e;cases e
theorem uM {ts : List Ty} : ∀ (n : Nat) (k s : acA) (x : V × acA),rd ts n k s = some x → s = x.1.out ++ x.2
 | 0,_,_,_,e=>by cases e
 | n + 1,k,s,x,e=>xQ (fun k s y hy=>uM n k s y hy) k s e
theorem pE {ts : List Ty} {k s : acA} {v : V} (h : b9 ts k s = some v) : v.out = s ∧ s.length ≤ 400 ∧ V.deep v ≤ 12:=by
 unfold b9 at h
 split at h
 ·rename_i hl
  split at h
  ·rename_i w hw
   simp only [Option.some.injEq] at h;subst h
   have h1:=uM _ _ _ _ hw
   have h2:=kK _ _ _ _ hw
   simp only [List.append_nil] at h1
   exact ⟨h1.symm,hl,h2⟩
  ·cases h
 ·cases h
end Go.E
