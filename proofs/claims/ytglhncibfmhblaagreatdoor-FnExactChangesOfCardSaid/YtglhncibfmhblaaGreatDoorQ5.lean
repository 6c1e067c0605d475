/- Contracts and plain laws that the statement rests on, part 5. Conditions: as each says. -/
import Derived.Test.YtglhncibfmhblaaGreatDoorQ4
set_option linter.unusedVariables false
set_option linter.unusedSimpArgs false
namespace Go.E
set_option maxRecDepth 20000
set_option maxHeartbeats 2000000
open Go.Proofs
variable {G : Gh}
abbrev aaF : TypeId:=47
abbrev tRd : TypeId:=92
def kW (n : Nat) (u : Value) (vs : List cD) : Prop:=∀ (G : Gh) (k s : adB),SchR G u vs → aA (ag vs) k = true → s.length ≤ 2000000 →
 bG adA 50 [Ag [u],S s,S k,I (n : Nat)] G (eT (ag vs) (rd (ag vs) n k s) k)
theorem aae {n : Nat} {u : Value} {vs : List cD} {k s : adB} (hR : kW n u vs) (h : SchR G u vs) (hk : aA (ag vs) k = true) (hs : s.length ≤ 2000000) (hn : n ≤ 1000) :
  bG adA 96 [Ag [u],S s,S (91 :: k),I (n + 1 : Nat)] G (eT (ag vs) (fM (rd (ag vs) n k) (91 :: s)) (91 :: k)):=by
 have edn : ((n + 1 : Nat) : Int) - 1 = (n : Nat):=oM
 by_cases h93 : ∃ s2,s = 93 :: s2
 ·obtain ⟨s2,rfl⟩:=h93
  refine jB [(0,_),(1,_),(2,_),(3,_)] Tryz.func96 Tryz.ntmps96 fun B hok hB hW=>?_
  repeat' (first | refine jX ?_ | (refine jo ?_;first | refine jO fun _=>?_ | refine jV (ay F F) ?_ | refine aP F ?_) | refine aG F F F ?_ | refine ac F F ?_ | (refine an (ao (id:=3) _ (fun _ h=>h) am ?_);refine jW 0 [0,1,2,3,4,5] (aa 6 63) ?_;refine jQ ?_))
  rename_i x4 x11
  refine Nx.sealC (b:=x11) fun G2 hG2 hsy=>?_
  refine jZ (vs:=[_,_,_]) F ⟨F,F,F,trivial⟩ F ⟨hG2,F,?_⟩
  rw [bE]
  exact ⟨_,_,_,F,fun _=>⟨.nd 91 [] 0 [],x11,F,F,.lst k x11 [] [] none 0 hsy ⟨F,.inl ⟨F,F⟩⟩ F (fun i hi=>absurd hi (by simp))⟩,fun h=>(by cases h)⟩
 have hRl : fM (rd (ag vs) n k) (91 :: s) = (bJ (rd (ag vs) n k) 20 s []).map fun x=>(.nd 91 [] 0 x.1,x.2):=by
  unfold fM
  dsimp only
  rw [if_pos (show (91 : UInt8).toNat = 91 from rfl)]
  cases s with
  | nil =>
   have : rd (ag vs) n k [] = none:=by
    cases h : rd (ag vs) n k [] with
    | none=>rfl
    | some x=>have:=iM h;simp at this
   simp [bJ,this]
  | cons e r' =>
   dsimp only
   rw [if_neg]
   intro h;exact h93 ⟨r',by rw [show e = 93 from UInt8.toNat_inj.1 h]⟩
 have hs0 : s = [] ∨ s ≠ [] ∧ ¬ ((bt s (Int.toNat 0) : Nat) : Int) = 93:=by
  cases s with
  | nil=>exact .inl F
  | cons e r' =>
   refine .inr ⟨by simp,fun h=>h93 ⟨r',?_⟩⟩
   have : bt (e :: r') (Int.toNat 0) = e.toNat:=bD e r'
   rw [show e = 93 from UInt8.toNat_inj.1 (show e.toNat = 93 by omega)]
 have hkl : k.length ≤ 1000:=by
  have:=(du (dL hk)).2
  omega
 have hslen : s = [] ∨ 0 < s.length:=by cases s <;> simp
 rcases hs0 with hs0 | ⟨hs0,hs1⟩
 all_goals
  have hslen2 : s ≠ [] → 0 < s.length:=fun h=>by rcases hslen with h' | h';exact absurd h' h;exact h'
  try have hslen3:=hslen2 hs0
  refine jB [(0,_),(1,_),(2,_),(3,_)] Tryz.func96 Tryz.ntmps96 fun B hok hB hW=>?_
  repeat' (first | refine jM ?_ | (refine jo ?_;first | refine jO fun _=>?_ | refine jV (ay F F) ?_ | refine aP F ?_ | refine aE F ?_) | refine aG F F (ax ‹_›) ?_ | (refine aw F F ?_ ?_;(focus ((simp [*];done);done))) | (refine ad F (by first | rfl | (refine decide_eq_false ?_;(assumption))) ?_))
  rename_i x4 x11
  refine Nx.addNil aaF 1 ?_
  refine aV (ι:=List V × List Nat × Option Addr × Nat × adB × Gh) (fun q=>((q.2.1.length = q.1.length ∧ ∀ i,i < q.1.length → RepR q.2.2.2.2.2 (ag vs) (ab q.1 i) k (ab q.2.1 i)) ∧ Gh.le G q.2.2.2.2.2) ∧ bJ (rd (ag vs) n k) 20 s [] = bJ (rd (ag vs) n k) (20 - q.1.length) q.2.2.2.2.1 q.1 ∧ q.1.length ≤ 20 ∧ q.2.2.2.2.1.length ≤ s.length) (fun q=>[(1,S q.2.2.2.2.1),(2,S (91 :: k)),(3,I (n + 1 : Nat)),(4,Pt x4 0),(11,Pt x11 0)]) (fun q=>q.2.2.2.2.2) (fun q=>[.acc (.slice q.2.2.1 q.1.length q.2.2.2.1) aaF 1 q.1.length (ah dD q.2.1),.blk x11 (.cells (List.toArray [S (91 :: k),S [],aK,.slice q.2.2.1 q.1.length q.2.2.2.1]) nQ (0,0)),.blk x4 (.cells (List.toArray [u]) tRd (0,0))]) (fun q=>20 - q.1.length) ([],[],none,0,s,G) ?_ tU F a7 (fun q Hq=>?_)
  ·exact ⟨⟨⟨F,fun i hi=>absurd hi (by simp)⟩,Gh.le.refl _⟩,F,Nat.zero_le _,Nat.le_refl _⟩
  obtain ⟨ws,bs,a,cap,t,Gq⟩:=q
  dsimp only at Hq ⊢
  obtain ⟨⟨⟨hbl,hreps⟩,hgq⟩,hit,hwl,htl⟩:=Hq
  by_cases h20 : ws.length < 20
  case neg =>
   have e20 : 20 - ws.length = 0:=oM
   repeat' (first | refine jR ?_ | (refine jo ?_;first | refine aB F ?_ | refine jV (af F) ?_) | refine ad F (aF oM) ?_)
   refine jZ (vs:=[_,_,_]) F ⟨F,F,F,trivial⟩ F ⟨hgq,F,?_⟩
   rw [bE]
   exact ⟨_,_,_,F,fun h=>(by cases h),fun _=>by rw [hRl,hit,e20];rfl⟩
  have cx_rd:=hR Gq k t (h.mono hgq) hk oM
  rw [← edn] at cx_rd
  repeat' (first | refine jR ?_ | (refine jo ?_;first | refine aB F ?_ | refine jV (af F) ?_) | refine ac F (ax oM) ?_)
  (refine an (ao (id:=5) _ (fun _ h=>h) am ?_);refine jW 9 [1,2,3,4,5] (aa 14 62) ?_;(refine jG (aa 14 63) 0 F (bP F F F F) ?_);refine jA 6 F ?_;(refine ar F F F cx_rd F ?_;rintro _ G hle ⟨q1,r1,ok1,rfl,hyes,hno⟩;skip);refine jS (aa 14 127) ?_;refine jT 0 [7,8,9,10,11,12,13] (aa 14 16383) ?_;refine jQ ?_)
  have hgl:=hgq.trans hle
  cases ok1 with
  | false =>
   have hnone : bJ (rd (ag vs) n k) (20 - ws.length) t ws = none:=jP (.inl (hno rfl))
   repeat' (first | refine jR ?_ | (refine jo ?_;refine aP F ?_) | refine aG F F F ?_ | refine ac F F ?_)
   refine jZ (vs:=[_,_,_]) F ⟨F,F,F,trivial⟩ F ⟨hgl,F,?_⟩
   rw [bE]
   exact ⟨_,_,_,F,fun h=>(by cases h),fun _=>by rw [hRl,hit,hnone];rfl⟩
  | true =>
   obtain ⟨w,wb,rfl,hf,hrep⟩:=hyes rfl
   have hsh:=iM hf
   cases r1 with
   | nil =>
    have hnone : bJ (rd (ag vs) n k) (20 - ws.length) t ws = none:=jP (.inr ⟨w,hf⟩)
    repeat' (first | refine jR ?_ | (refine jo ?_;first | refine aP F ?_ | refine aE F ?_) | refine aG F F F ?_ | refine aw F F F ?_ | refine ac F F ?_)
    refine jZ (vs:=[_,_,_]) F ⟨F,F,F,trivial⟩ F ⟨hgl,F,?_⟩
    rw [bE]
    exact ⟨_,_,_,F,fun h=>(by cases h),fun _=>by rw [hRl,hit,hnone];rfl⟩
   | cons e r2 =>
    have hstep:=jJ (vs:=ws) hf (show 0 < 20 - ws.length by omega)
    have he0 : bt (e :: r2) (Int.toNat 0) = e.toNat:=bD e r2
    simp only [List.length_cons] at hsh
    have hel : (e :: r2).length = r2.length + 1:=rfl
    have hrow : ah dD bs ++ [Pt wb 0] = ah dD (bs ++ [wb]):=(bW dD bs wb).symm
    have hwl1 : (ws ++ [w]).length = ws.length + 1:=by simp
    have hbl1 : (bs ++ [wb]).length = (ws ++ [w]).length:=by simp [hbl]
    have hrp : ∀ i,i < (ws ++ [w]).length → RepR G (ag vs) (ab (ws ++ [w]) i) k (ab (bs ++ [wb]) i):=fun i hi=>by
     by_cases h1 : i < ws.length
     ·have e1 : ab (ws ++ [w]) i = ab ws i:=by rw [aI hi,aI h1,List.getElem_append_left h1]
      have e2 : ab (bs ++ [wb]) i = ab bs i:=by rw [aI oM,aI oM,List.getElem_append_left oM]
      rw [e1,e2];exact (hreps i h1).mono hle
     ·have h2 : i = ws.length:=oM
      have e1 : ab (ws ++ [w]) i = w:=by rw [aI hi];simp [h2]
      have e2 : ab (bs ++ [wb]) i = wb:=by rw [aI oM];simp [h2,hbl]
      rw [e1,e2];exact hrep
    by_cases h44 : e.toNat = 44
    ·rw [if_pos h44] at hstep
     have hn93 : ¬ e.toNat = 93:=oM
     repeat' (first | refine jM ?_ | (refine jo ?_;first | refine aE F ?_ | refine aB F ?_ | refine jF fun _=>?_ | refine bC F F F F F F F F F oM fun _ _=>?_ | refine jD F F F ?_) | (refine aw F F (by first | rfl | (refine decide_eq_false ?_;(omega))) ?_) | (refine ad F (by first | rfl | (refine decide_eq_false ?_;(omega))) ?_))
     rename_i y0 y1 yc
     rw [hrow]
     exact bm (ws ++ [w],bs ++ [wb],some ⟨y1,0,none⟩,yc,r2,G) ⟨⟨⟨hbl1,hrp⟩,hgl⟩,(by dsimp only;rw [hit,hstep,hwl1,Nat.sub_sub]),(by dsimp only;omega),(by dsimp only;omega)⟩ (by dsimp only;omega) tU rfl (by rw [hwl1];repeat (first | exact List.Sublist.refl _ | apply List.Sublist.cons_cons | apply List.Sublist.cons))
    ·rw [if_neg h44] at hstep
     by_cases h93' : e.toNat = 93
     ·rw [if_pos h93'] at hstep
      repeat' (first | refine jM ?_ | (refine jo ?_;first | refine aP F ?_ | refine aE F ?_ | refine aB F ?_ | refine jF fun _=>?_ | refine bC F F F F F F F F F oM fun _ _=>?_ | refine jD F F F ?_) | refine aG F F (ax oM) ?_ | refine aw F F F ?_ | refine ac F (ax oM) ?_ | refine ad F (aF oM) ?_)
      rename_i y0 y1 yc
      rw [hrow]
      refine Nx.sealS (v:=.slice (some ⟨y1,0,none⟩) (ws.length + 1) yc) fun G2 hG2 hsl=>?_
      refine Nx.sealC (b:=x11) fun G3 hG3 hsg=>?_
      refine jZ (vs:=[_,_,_]) F ⟨F,F,F,trivial⟩ F ⟨((hgl.trans hG2).trans hG3),F,?_⟩
      rw [bE]
      exact ⟨_,_,_,F,fun _=>⟨.nd 91 [] 0 (ws ++ [w]),x11,F,by rw [hRl,hit,hstep];rfl,.lst k x11 _ (bs ++ [wb]) (some ⟨y1,0,none⟩) yc (by rw [hwl1];exact hsg) (by rw [hwl1];exact hsl.mono hG3) hbl1 (fun i hi=>(hrp i hi).mono (hG2.trans hG3))⟩,fun h=>(by cases h)⟩
     ·rw [if_neg h93'] at hstep
      repeat' (first | refine jM ?_ | (refine jo ?_;first | refine aP F ?_ | refine aE F ?_) | refine aG F F (ax oM) ?_ | refine aw F F F ?_ | refine ac F (ax oM) ?_)
      refine jZ (vs:=[_,_,_]) F ⟨F,F,F,trivial⟩ F ⟨hgl,F,?_⟩
      rw [bE]
      exact ⟨_,_,_,F,fun h=>(by cases h),fun _=>by rw [hRl,hit,hstep];rfl⟩
section
variable {P : Program} {n : Nat} {D : List Deferred} {E : bN} {M : World → Prop} {d : Option Nat} {ty : TypeId} {pos : String} {aft : Array Edge} {gd : Option (Nat × Bool)}
theorem wF {T T0 : TypeId} {x : Operand} {desc : TypeDesc} {size bytes b m cap i : Nat} {zero : Value} {G0 : Gh} {L0 : List Own} {cs : List Int} {xs : List Value} {y : Int} [TI P T desc size bytes zero] [Kn M G0 L0] [h : AccB L0 b m cap T0 1 xs] (hx : ev E x = some (Pt b (0 + i * 1))) (ha : dJ desc = false) (hxs : xs = ah cI cs) (hi : i < cs.length) (hy : ab cs i = y) :
  Gives P n D E M ⟨d,.load T x,ty,pos,aft,gd⟩ (I y):=f8 hx ha (by
 have:=(gB (S:=M) h.mem).go (i * 1 + 0) (I y) (by rw [hxs,fU hi oM,hy];rfl)
 simpa using this)
end
def i8 (fs : List (Fld × V)) : Int:=match fs.getLast? with
 | some p=>p.1.tag
 | none=>0
def it (fs : List (Fld × V)) : List V:=fs.map fun p=>.nd 61 [] p.1.tag [p.2]
theorem vF (fs : List (Fld × V)) (p : Fld × V) : i8 (fs ++ [p]) = p.1.tag:=by simp [i8]
abbrev yA : TypeId:=47
abbrev yD : TypeId:=3
abbrev tFd : TypeId:=136
abbrev aaC : TypeId:=134
theorem w4 {n : Nat} {u : Value} {vs : List cD} {x : cD} {k s : adB} (hR : kW n u vs) (h : SchR G u vs) (hw : SchW (ag vs)) (hx : x ∈ vs) (hrf : a8 (ag vs) k = some x.2) (hso : x.2.sort = 82) (hs : s.length ≤ 2000000) (hn : n ≤ 1000) (hkl : k.length ≤ 1000) :
  bG adA 137 [Ag [u],S s,S k,Ag (j9 x),I (n + 1 : Nat)] G (eT (ag vs) (bA (ag vs) (rd (ag vs) n) x.2 (123 :: s)) k):=by
 have edn : ((n + 1 : Nat) : Int) - 1 = (n : Nat):=oM
 have hxt : x.2 ∈ ag vs:=List.mem_map_of_mem hx
 have hTW:=hw.ty _ hxt
 have hfl:=hTW.len
 by_cases h125 : ∃ s2,s = 125 :: s2
 ·obtain ⟨s2,rfl⟩:=h125
  have hgood : bA (ag vs) (rd (ag vs) n) x.2 (123 :: 125 :: s2) = some (.nd 82 [] 0 [],s2):=by
   unfold bA
   dsimp only
   rw [if_pos hso,if_pos (show (123 : UInt8).toNat = 123 from rfl),if_pos (show (125 : UInt8).toNat = 125 from rfl)]
  refine jB [(0,_),(1,_),(2,_),(3,_),(4,_)] Tryz.func137 Tryz.ntmps137 fun B hok hB hW=>?_
  repeat' (first | refine jX ?_ | (refine jo ?_;first | refine jO fun _=>?_ | refine jV (ay F F) ?_ | refine aP F ?_) | refine aG F F F ?_ | refine ac F F ?_ | (refine an (ao (id:=3) _ (fun _ h=>h) am ?_);refine jW 0 [0,1,2,3,4,5] (aa 6 63) ?_;refine jQ ?_))
  rename_i x5 x8 x13
  refine Nx.sealC (b:=x13) fun G2 hG2 hsy=>?_
  refine jZ (vs:=[_,_,_]) F ⟨F,F,F,trivial⟩ F ⟨hG2,F,?_⟩
  rw [bE]
  exact ⟨_,_,_,F,fun _=>⟨.nd 82 [] 0 [],x13,F,hgood,.recd k x13 x.2 [] [] none none 0 0 ⟨hrf,hso⟩ hsy ⟨F,.inl ⟨F,F⟩⟩ ⟨F,.inl ⟨F,F⟩⟩ F (fun i hi=>absurd hi (by simp)) (fun i hi=>absurd hi (by simp))⟩,fun h=>(by cases h)⟩
 have hRl : bA (ag vs) (rd (ag vs) n) x.2 (123 :: s) = (ck (ag vs) (rd (ag vs) n) x.2 (s.length + 1) 0 s []).map fun x=>(.nd 82 [] 0 x.1,x.2):=by
  unfold bA
  dsimp only
  rw [if_pos hso,if_pos (show (123 : UInt8).toNat = 123 from rfl)]
  cases s with
  | nil=>rw [eF k3];rfl
  | cons e r' =>
   dsimp only
   rw [if_neg]
   intro h;exact h125 ⟨r',by rw [show e = 125 from UInt8.toNat_inj.1 h]⟩
 have hs0 : s = [] ∨ s ≠ [] ∧ ¬ ((bt s (Int.toNat 0) : Nat) : Int) = 125:=by
  cases s with
  | nil=>exact .inl F
  | cons e r' =>
   refine .inr ⟨by simp,fun h=>h125 ⟨r',?_⟩⟩
   have : bt (e :: r') (Int.toNat 0) = e.toNat:=bD e r'
   rw [show e = 125 from UInt8.toNat_inj.1 (show e.toNat = 125 by omega)]
 have hslen : s = [] ∨ 0 < s.length:=by cases s <;> simp
 rcases hs0 with hs0 | ⟨hs0,hs1⟩
 ·subst hs0
  have cx_tg:=r4 (G:=G) (u:=u) (x:=x) (s:=[]) (by simp) h.sl.one (h.fl x hx) oM
  have e0 : aN (([] : adB).takeWhile br) 200 = none:=by
   cases h : aN (([] : adB).takeWhile br) 200 with
   | none=>rfl
   | some m =>
    have:=(ed h).2.1
    have h2:=gy m
    rw [← this] at h2;simp at h2
  rw [e0] at cx_tg
  refine jB [(0,_),(1,_),(2,_),(3,_),(4,_)] Tryz.func137 Tryz.ntmps137 fun B hok hB hW=>?_
  repeat' (first | refine jR ?_ | (refine jo ?_;first | refine jO fun _=>?_ | refine jV (ay F F) ?_ | refine aE F ?_) | refine aw F F F ?_ | refine ad F F ?_)
  rename_i x5 x8 x13
  refine aV (ι:=Unit) (fun i=>True) (fun i=>[(1,S []),(2,S k),(4,I (n + 1 : Nat)),(5,Pt x5 0),(8,Pt x8 0),(13,Pt x13 0)]) (fun _=>G) (fun i=>[.blk x13 (.cells (List.toArray [S k,S [82],aK,aK]) nQ (0,0)),.blk x8 (.cells (List.toArray [U8 x.2.sort,S x.2.name,gm x]) aaC (0,0)),.blk x5 (.cells (List.toArray [u]) tRd (0,0))]) (fun i=>0) () ?_ tU F a7 (fun i Hi=>?_)
  ·trivial
  repeat' (first | refine jR ?_ | (refine jo ?_;first | refine bM F ?_ | refine jL fun _=>?_ | refine jC F F F ?_ | (refine ep F F F cx_tg F ?_;rintro _ ⟨nt,rfl,hnt⟩)) | refine ac F F ?_ | (refine an (ao (id:=5) _ (fun _ h=>h) am ?_);refine jT 33 [0,1,2] (aa 36 7) ?_;(try (refine Nx.re (d:=43) (v':=Bo true) F (congrArg Value.bool F) ?_));refine jT 31 [3,4] (aa 36 31) ?_;(refine jG (aa 36 63) 5 F (bO F F F) ?_);refine jT 29 [6] (aa 36 127) ?_;(try (refine Nx.re (d:=47) (v':=Bo true) F (congrArg Value.bool F) ?_));refine jT 26 [7,8,9] (aa 36 1023) ?_;(refine jG (aa 36 2047) 10 F (bO F F F) ?_);refine jT 24 [11] (aa 36 4095) ?_;(try (refine Nx.re (d:=52) (v':=Bo true) F (congrArg Value.bool F) ?_));refine jT 21 [12,13,14] (aa 36 32767) ?_;(refine jN (aa 36 65535) 15 F ?_);(refine jN (aa 36 131071) 16 F ?_);refine jT 17 [17,18] (aa 36 524287) ?_;(try (fail));refine jT 10 [19,20,21,23,24,25,31] (aa 36 2210398207) ?_;(refine jN (aa 36 2214592511) 22 F ?_);(refine jN (aa 36 2281701375) 26 F ?_);(refine jN (aa 36 2415919103) 27 F ?_);refine jT 6 [28] (aa 36 2684354559) ?_;(refine jN (aa 36 3221225471) 29 F ?_);(refine jN (aa 36 4294967295) 30 F ?_);(refine jN (aa 36 8589934591) 32 F ?_);refine jT 2 [33] (aa 36 17179869183) ?_;(refine jN (aa 36 34359738367) 34 F ?_);(refine jG (aa 36 68719476735) 35 F (bO F F F) ?_);refine jQ ?_))
  all_goals refine jZ (vs:=[_,_,_]) F ⟨F,F,F,trivial⟩ F ⟨Gh.le.refl _,F,?_⟩
  all_goals (rw [bE];exact ⟨_,_,_,F,fun h=>(by cases h),fun _=>by rw [hRl,eF k3];rfl⟩)
 ·have hslen3 : 0 < s.length:=List.length_pos_iff.2 hs0
  refine jB [(0,_),(1,_),(2,_),(3,_),(4,_)] Tryz.func137 Tryz.ntmps137 fun B hok hB hW=>?_
  repeat' (first | refine jM ?_ | (refine jo ?_;first | refine jO fun _=>?_ | refine jV (ay F F) ?_ | refine aP F ?_) | refine aG F F (ax ‹_›) ?_ | refine ad F (aF ‹_›) ?_)
  rename_i x5 x8 x13
  refine Nx.addNil yD 1 (Nx.addNil yA 1 ?_)
  refine aV (ι:=List (Fld × V) × List Nat × Option Addr × Nat × Option Addr × Nat × adB × Nat × Gh) (fun q=>((q.2.1.length = q.1.length ∧ (∀ i,i < q.1.length → (ab q.1 i).1 ∈ x.2.fields) ∧ ∀ i,i < q.1.length → RepR q.2.2.2.2.2.2.2.2 (ag vs) (ab q.1 i).2 (ab q.1 i).1.kind (ab q.2.1 i)) ∧ Gh.le G q.2.2.2.2.2.2.2.2) ∧ (ck (ag vs) (rd (ag vs) n) x.2 (s.length + 1) 0 s [] = ck (ag vs) (rd (ag vs) n) x.2 q.2.2.2.2.2.2.2.1 (i8 q.1) q.2.2.2.2.2.2.1 (it q.1) ∧ q.2.2.2.2.2.2.1.length < q.2.2.2.2.2.2.2.1) ∧ q.2.2.2.2.2.2.1.length ≤ s.length ∧ q.1.length + q.2.2.2.2.2.2.1.length ≤ s.length) (fun q=>[(1,S q.2.2.2.2.2.2.1),(2,S k),(4,I (n + 1 : Nat)),(5,Pt x5 0),(8,Pt x8 0),(13,Pt x13 0)]) (fun q=>q.2.2.2.2.2.2.2.2) (fun q=>[.acc (.slice q.2.2.2.2.1 q.1.length q.2.2.2.2.2.1) yA 1 q.1.length (ah dD q.2.1),.acc (.slice q.2.2.1 q.1.length q.2.2.2.1) yD 1 q.1.length (ah cI (q.1.map fun p=>p.1.tag)),.blk x13 (.cells (List.toArray [S k,S [82],.slice q.2.2.1 q.1.length q.2.2.2.1,.slice q.2.2.2.2.1 q.1.length q.2.2.2.2.2.1]) nQ (0,0)),.blk x8 (.cells (List.toArray [U8 x.2.sort,S x.2.name,gm x]) aaC (0,0)),.blk x5 (.cells (List.toArray [u]) tRd (0,0))]) (fun q=>q.2.2.2.2.2.2.1.length) ([],[],none,0,none,0,s,s.length + 1,G) ?_ tU F a7 (fun q Hq=>?_)
  ·exact ⟨⟨⟨F,fun i hi=>absurd hi (by simp),fun i hi=>absurd hi (by simp)⟩,Gh.le.refl _⟩,⟨F,Nat.lt_succ_self _⟩,Nat.le_refl _,by simp⟩
  obtain ⟨fs,bs,a1,c1,a2,c2,t,m,Gq⟩:=q
  dsimp only at Hq ⊢
  obtain ⟨⟨⟨hbl,hfm,hreps⟩,hgq⟩,⟨hit,htm⟩,htl,hft⟩:=Hq
  have cx_tg:=r4 (G:=Gq) (u:=u) (x:=x) (s:=t) oM h.sl.one ((h.mono hgq).fl x hx) oM
  repeat' (first | refine jR ?_ | (refine jo ?_;first | refine bM F ?_ | refine jL fun _=>?_ | refine jC F F F ?_ | (refine ep F F F cx_tg F ?_;rintro _ ⟨nt,rfl,hnt⟩)))
  have hnone : ∀ {v : Value} {G' : Gh} {r : adB},ck (ag vs) (rd (ag vs) n) x.2 m (i8 fs) t (it fs) = none → v = Tu [.pointer none,S r,Bo false] → eT (ag vs) (bA (ag vs) (rd (ag vs) n) x.2 (123 :: s)) k v G':=fun h1 h2=>⟨_,_,_,h2,fun h=>(by cases h),fun _=>by rw [hRl,hit,h1];rfl⟩
  cases hb16 : (aN (t.takeWhile br) 200).isSome && (co x.2.fields nt).isSome with
  | false =>
   have hno : aY (rd (ag vs) n) x.2 t = none:=by
    cases hm : aN (t.takeWhile br) 200 with
    | none=>exact fY (.inl hm)
    | some m0 =>
     refine fY (.inr ⟨m0,hm,?_⟩)
     rw [hm] at hb16
     rw [← hnt m0 hm]
     cases hf : co x.2.fields nt with
     | none=>rfl
     | some d=>rw [hf] at hb16;cases hb16
   (refine an (ao (id:=5) _ (fun _ h=>h) am ?_);refine jT 33 [0,1,2] (aa 36 7) ?_;(try (refine Nx.re (d:=43) (v':=Bo true) F (congrArg Value.bool F) ?_));refine jT 31 [3,4] (aa 36 31) ?_;(refine jG (aa 36 63) 5 F (bO F F F) ?_);refine jT 29 [6] (aa 36 127) ?_;(try (refine Nx.re (d:=47) (v':=Bo true) F (congrArg Value.bool F) ?_));refine jT 26 [7,8,9] (aa 36 1023) ?_;(refine jG (aa 36 2047) 10 F (bO F F F) ?_);refine jT 24 [11] (aa 36 4095) ?_;(try (refine Nx.re (d:=52) (v':=Bo true) F (congrArg Value.bool F) ?_));refine jT 21 [12,13,14] (aa 36 32767) ?_;(refine jN (aa 36 65535) 15 F ?_);(refine jN (aa 36 131071) 16 F ?_);refine jT 17 [17,18] (aa 36 524287) ?_;(try (fail));refine jT 10 [19,20,21,23,24,25,31] (aa 36 2210398207) ?_;(refine jN (aa 36 2214592511) 22 F ?_);(refine jN (aa 36 2281701375) 26 F ?_);(refine jN (aa 36 2415919103) 27 F ?_);refine jT 6 [28] (aa 36 2684354559) ?_;(refine jN (aa 36 3221225471) 29 F ?_);(refine jN (aa 36 4294967295) 30 F ?_);(refine jN (aa 36 8589934591) 32 F ?_);refine jT 2 [33] (aa 36 17179869183) ?_;(refine jN (aa 36 34359738367) 34 F ?_);(refine jG (aa 36 68719476735) 35 F (bO F F F) ?_);refine jQ ?_)
   repeat' (first | refine jR ?_ | refine ac F F ?_)
   all_goals refine jZ (vs:=[_,_,_]) F ⟨F,F,F,trivial⟩ F ⟨hgq,F,?_⟩
   all_goals exact hnone (eF hno) F
  | true =>
   simp only [Bool.and_eq_true] at hb16
   obtain ⟨hb1,hb2⟩:=hb16
   obtain ⟨m0,hm⟩:=Option.isSome_iff_exists.1 hb1
   obtain ⟨d,hd⟩:=Option.isSome_iff_exists.1 hb2
   have hnm:=hnt m0 hm
   subst hnm
   rw [hd]
   simp only [Option.getD_some]
   have hdm : d ∈ x.2.fields:=List.mem_of_find?_eq_some hd
   have hdt : d.tag = nt:=by have:=List.find?_some hd;simpa using this
   have hwl:=eD br t
   cases hdw : t.dropWhile br with
   | nil =>
    have hno : aY (rd (ag vs) n) x.2 t = none:=ix hm (fun s2 h=>by rw [hdw] at h;cases h)
    (refine an (ao (id:=5) _ (fun _ h=>h) am ?_);refine jT 33 [0,1,2] (aa 36 7) ?_;(try (refine Nx.re (d:=43) (v':=Bo false) F (congrArg Value.bool F) ?_));refine jT 31 [3,4] (aa 36 31) ?_;(refine jG (aa 36 63) 5 F (bn F F F) ?_);refine jT 29 [6] (aa 36 127) ?_;(try (refine Nx.re (d:=47) (v':=Bo true) F (congrArg Value.bool F) ?_));refine jT 26 [7,8,9] (aa 36 1023) ?_;(refine jG (aa 36 2047) 10 F (bO F F F) ?_);refine jT 24 [11] (aa 36 4095) ?_;(try (refine Nx.re (d:=52) (v':=Bo true) F (congrArg Value.bool F) ?_));refine jT 21 [12,13,14] (aa 36 32767) ?_;(refine jN (aa 36 65535) 15 F ?_);(refine jN (aa 36 131071) 16 F ?_);refine jT 17 [17,18] (aa 36 524287) ?_;(try (fail));refine jT 10 [19,20,21,23,24,25,31] (aa 36 2210398207) ?_;(refine jN (aa 36 2214592511) 22 F ?_);(refine jN (aa 36 2281701375) 26 F ?_);(refine jN (aa 36 2415919103) 27 F ?_);refine jT 6 [28] (aa 36 2684354559) ?_;(refine jN (aa 36 3221225471) 29 F ?_);(refine jN (aa 36 4294967295) 30 F ?_);(refine jN (aa 36 8589934591) 32 F ?_);refine jT 2 [33] (aa 36 17179869183) ?_;(refine jN (aa 36 34359738367) 34 F ?_);(refine jG (aa 36 68719476735) 35 F (bO F F F) ?_);refine jQ ?_)
    repeat' (first | refine jR ?_ | refine ac F F ?_)
    all_goals refine jZ (vs:=[_,_,_]) F ⟨F,F,F,trivial⟩ F ⟨hgq,F,?_⟩
    all_goals exact hnone (eF hno) F
   | cons e r2 =>
    have he0 : bt (e :: r2) (Int.toNat 0) = e.toNat:=bD e r2
    have hel : (e :: r2).length = r2.length + 1:=rfl
    by_cases h61 : e.toNat = 61
    case neg =>
     have hno : aY (rd (ag vs) n) x.2 t = none:=ix hm (fun s2 h=>by rw [hdw] at h;simp only [List.cons.injEq] at h;exact h61 (by rw [h.1];rfl))
     (refine an (ao (id:=5) _ (fun _ h=>h) am ?_);refine jT 33 [0,1,2] (aa 36 7) ?_;(try (refine Nx.re (d:=43) (v':=Bo false) F (congrArg Value.bool F) ?_));refine jT 31 [3,4] (aa 36 31) ?_;(refine jG (aa 36 63) 5 F (bn F F F) ?_);refine jT 29 [6] (aa 36 127) ?_;(try (refine Nx.re (d:=47) (v':=Bo false) F (congrArg Value.bool F) ?_));refine jW 26 [7,8,9] (aa 36 1023) ?_;(refine jG (aa 36 2047) 10 F (bn F F F) ?_);refine jT 24 [11] (aa 36 4095) ?_;(try ((refine Nx.re (d:=52) (v':=Bo true) F (congrArg Value.bool (ax oM)) ?_)));refine jT 21 [12,13,14] (aa 36 32767) ?_;(refine jN (aa 36 65535) 15 F ?_);(refine jN (aa 36 131071) 16 F ?_);refine jT 17 [17,18] (aa 36 524287) ?_;(try (fail));refine jT 10 [19,20,21,23,24,25,31] (aa 36 2210398207) ?_;(refine jN (aa 36 2214592511) 22 F ?_);(refine jN (aa 36 2281701375) 26 F ?_);(refine jN (aa 36 2415919103) 27 F ?_);refine jT 6 [28] (aa 36 2684354559) ?_;(refine jN (aa 36 3221225471) 29 F ?_);(refine jN (aa 36 4294967295) 30 F ?_);(refine jN (aa 36 8589934591) 32 F ?_);refine jT 2 [33] (aa 36 17179869183) ?_;(refine jN (aa 36 34359738367) 34 F ?_);(refine jG (aa 36 68719476735) 35 F (bO F F F) ?_);refine jQ ?_)
     repeat' (first | refine jR ?_ | refine ac F F ?_)
     all_goals refine jZ (vs:=[_,_,_]) F ⟨F,F,F,trivial⟩ F ⟨hgq,F,?_⟩
     all_goals exact hnone (eF hno) F
    have he61 : e = 61:=UInt8.toNat_inj.1 h61
    have hfs:=l6 (f:=rd (ag vs) n) (t:=x.2) (s:=t) hm hd (by rw [hdw,he61])
    have hm0 : 0 < m:=oM
    have hflt : (fs.map fun p : Fld × V=>p.1.tag).length = fs.length:=by simp
    have hdt1:=((hTW.fld d hdm).tag).1
    have hlast0 : fs.length = 0 → i8 fs = 0:=fun h0=>by rw [List.length_eq_zero_iff.1 h0];rfl
    have hlast1 : 0 < fs.length → ab (fs.map fun p : Fld × V=>p.1.tag) (((fs.length : Nat) : Int) - 1).toNat = i8 fs:=fun h0=>by
     have e1 : (((fs.length : Nat) : Int) - 1).toNat = fs.length - 1:=oM
     rw [e1,aI (by rw [hflt];omega)]
     unfold i8
     rw [List.getLast?_eq_getElem?,List.getElem?_eq_getElem oM]
     simp
    rename_i x14
    have hf0 : fs.length = 0 ∨ 0 < fs.length:=oM
    by_cases hlt : d.tag ≤ i8 fs
    ·have hpos : 0 < fs.length:=by
      rcases hf0 with h0 | h0
      ·have:=hlast0 h0;omega
      ·exact h0
     have hyl:=hlast1 hpos
     have hno : ck (ag vs) (rd (ag vs) n) x.2 m (i8 fs) t (it fs) = none:=by
      cases hy : rd (ag vs) n d.kind r2 with
      | none=>exact eF (by rw [hfs,hy];rfl)
      | some y =>
       obtain ⟨w,r3⟩:=y
       rw [kP (d:=d) (v:=w) (r:=r3) (by rw [hfs,hy];rfl) hm0,if_pos (.inl hlt)]
     refine Nx.shp (v:=.slice a1 fs.length c1) (.tail _ (.tail _ (.head _))) fun hsh=>?_
     obtain ⟨tb1,tc1,e1⟩:=hsh.pos oM
     simp only [Value.slice.injEq] at e1
     obtain ⟨rfl,-,rfl⟩:=e1
     (refine an (ao (id:=5) _ (fun _ h=>h) am ?_);refine jT 33 [0,1,2] (aa 36 7) ?_;(try (refine Nx.re (d:=43) (v':=Bo false) F (congrArg Value.bool F) ?_));refine jT 31 [3,4] (aa 36 31) ?_;(refine jG (aa 36 63) 5 F (bn F F F) ?_);refine jT 29 [6] (aa 36 127) ?_;(try (refine Nx.re (d:=47) (v':=Bo false) F (congrArg Value.bool F) ?_));refine jW 26 [7,8,9] (aa 36 1023) ?_;(refine jG (aa 36 2047) 10 F (bn F F F) ?_);refine jT 24 [11] (aa 36 4095) ?_;(try ((refine Nx.re (d:=52) (v':=Bo false) F (congrArg Value.bool (aF oM)) ?_)));refine jT 21 [12,13,14] (aa 36 32767) ?_;(refine jG (aa 36 65535) 15 F (aX F F F) ?_);(refine jG (aa 36 131071) 16 F (af F) ?_);refine jT 17 [17,18] (aa 36 524287) ?_;(try ((refine Nx.re (d:=59) (v':=Bo true) F (congrArg Value.bool (ax oM)) ?_)));refine jT 10 [19,20,21,23,24,25,31] (aa 36 2210398207) ?_;(refine jG (aa 36 2214592511) 22 F (aX F F F) ?_);(refine jG (aa 36 2281701375) 26 F (aX F F F) ?_);(refine jG (aa 36 2415919103) 27 F (af F) ?_);refine jW 6 [28] (aa 36 2684354559) ?_;(refine jG (aa 36 3221225471) 29 F (aQ F F oM) ?_);((refine jG (aa 36 4294967295) 30 F (wF F F F ?_ aS) ?_;focus omega));(refine jG (aa 36 8589934591) 32 F (aX F F F) ?_);refine jT 2 [33] (aa 36 17179869183) ?_;(refine jG (aa 36 34359738367) 34 F (bO F F F) ?_);(refine jG (aa 36 68719476735) 35 F (bn F F F) ?_);refine jQ ?_)
     repeat' (first | refine jR ?_ | refine ac F (ax ‹_›) ?_)
     all_goals refine jZ (vs:=[_,_,_]) F ⟨F,F,F,trivial⟩ F ⟨hgq,F,?_⟩
     all_goals exact hnone hno F
    have hSq:=h.mono hgq
    have hdk : aA (ag vs) d.kind = true:=dY hw hxt oM hdm
    rw [hdw,List.length_cons] at hwl
    have cx_rd:=hR Gq d.kind r2 hSq hdk oM
    rw [← edn] at cx_rd
    rcases hf0 with hf0 | hf0
    rotate_left
    have hyl:=hlast1 hf0
    refine Nx.shp (v:=.slice a1 fs.length c1) (.tail _ (.tail _ (.head _))) fun hsh=>?_
    obtain ⟨tb1,tc1,e1⟩:=hsh.pos oM
    simp only [Value.slice.injEq] at e1
    obtain ⟨rfl,-,rfl⟩:=e1
    all_goals
     (refine an (ao (id:=5) _ (fun _ h=>h) am ?_);refine jT 33 [0,1,2] (aa 36 7) ?_;(try (refine Nx.re (d:=43) (v':=Bo false) F (congrArg Value.bool F) ?_));refine jT 31 [3,4] (aa 36 31) ?_;(refine jG (aa 36 63) 5 F (bn F F F) ?_);refine jT 29 [6] (aa 36 127) ?_;(try (refine Nx.re (d:=47) (v':=Bo false) F (congrArg Value.bool F) ?_));refine jW 26 [7,8,9] (aa 36 1023) ?_;(refine jG (aa 36 2047) 10 F (bn F F F) ?_);refine jT 24 [11] (aa 36 4095) ?_;(try ((refine Nx.re (d:=52) (v':=Bo false) F (congrArg Value.bool (aF oM)) ?_)));refine jT 21 [12,13,14] (aa 36 32767) ?_;(refine jG (aa 36 65535) 15 F (aX F F F) ?_);(refine jG (aa 36 131071) 16 F (af F) ?_);refine jT 17 [17,18] (aa 36 524287) ?_;(try (first | (refine Nx.re (d:=59) (v':=Bo true) F (congrArg Value.bool (ax oM)) ?_) | (refine Nx.re (d:=59) (v':=Bo false) F (congrArg Value.bool (aF oM)) ?_)));refine jT 10 [19,20,21,23,24,25,31] (aa 36 2210398207) ?_;(first | refine jG (aa 36 2214592511) 22 F (aX F F F) ?_ | refine jN (aa 36 2214592511) 22 F ?_);(first | refine jG (aa 36 2281701375) 26 F (aX F F F) ?_ | refine jN (aa 36 2281701375) 26 F ?_);(first | refine jG (aa 36 2415919103) 27 F (af F) ?_ | refine jN (aa 36 2415919103) 27 F ?_);refine jW 6 [28] (aa 36 2684354559) ?_;(first | refine jG (aa 36 3221225471) 29 F (aQ F F oM) ?_ | refine jN (aa 36 3221225471) 29 F ?_);(first | (refine jG (aa 36 4294967295) 30 F (wF F F F ?_ aS) ?_;focus omega) | refine jN (aa 36 4294967295) 30 F ?_);(first | refine jG (aa 36 8589934591) 32 F (aX F F F) ?_ | refine jN (aa 36 8589934591) 32 F ?_);refine jT 2 [33] (aa 36 17179869183) ?_;(first | refine jG (aa 36 34359738367) 34 F (bO F F F) ?_ | refine jG (aa 36 34359738367) 34 F (bn F F F) ?_);(refine jG (aa 36 68719476735) 35 F (bn F F F) ?_);refine jQ ?_)
     repeat' (first | refine jR ?_ | (refine ad F (by first | rfl | (refine decide_eq_false ?_;(assumption))) ?_))
     (refine an (ao (id:=7) _ (fun _ h=>h) am ?_);refine jW 10 [1,2,3,5,6] (aa 15 110) ?_;(refine jG (aa 15 111) 0 F (bP F F F F) ?_);(refine jG (aa 15 127) 4 F (aX F F F) ?_);refine jA 7 F ?_;(refine ar F F F cx_rd F ?_;rintro _ G hle ⟨q1,r1,ok1,rfl,hyes,hno⟩;skip);refine jS (aa 15 255) ?_;refine jT 0 [8,9,10,11,12,13,14] (aa 15 32767) ?_;refine jQ ?_)
     repeat' (refine jR ?_)
     have hgl:=hgq.trans hle
     cases ok1 with
     | false =>
      have hno2 : aY (rd (ag vs) n) x.2 t = none:=by rw [hfs,hno rfl];rfl
      (refine an (ao (id:=8) _ (fun _ h=>h) am ?_);refine jT 22 [0,1,2] (aa 25 7) ?_;(try (refine Nx.re (d:=92) (v':=Bo true) F (congrArg Value.bool F) ?_));refine jT 20 [3,5] (aa 25 47) ?_;(refine jN (aa 25 111) 6 F ?_);(refine jN (aa 25 239) 7 F ?_);(refine jN (aa 25 255) 4 F ?_);(refine jN (aa 25 511) 8 F ?_);refine jT 15 [9] (aa 25 1023) ?_;(refine jG (aa 25 2047) 10 F (bO F F F) ?_);refine jT 13 [11] (aa 25 4095) ?_;(try (refine Nx.re (d:=101) (v':=Bo true) F (congrArg Value.bool F) ?_));refine jT 11 [12,13] (aa 25 16383) ?_;(refine jG (aa 25 32767) 14 F (bO F F F) ?_);refine jT 9 [15] (aa 25 65535) ?_;(try (refine Nx.re (d:=105) (v':=Bo true) F (congrArg Value.bool F) ?_));refine jT 5 [16,17,18,19] (aa 25 1048575) ?_;(try (fail));refine jT 2 [20,21,22] (aa 25 8388607) ?_;(refine jN (aa 25 16777215) 23 F ?_);(refine jG (aa 25 33554431) 24 F (bO F F F) ?_);refine jQ ?_)
      repeat' (first | refine jR ?_ | refine ac F F ?_)
      all_goals refine jZ (vs:=[_,_,_]) F ⟨F,F,F,trivial⟩ F ⟨hgl,F,?_⟩
      all_goals exact hnone (eF hno2) F
     | true =>
      obtain ⟨w,wb,rfl,hf,hrep⟩:=hyes rfl
      have hsh:=iM hf
      have htt:=gr _ _ _ _ hf
      dsimp only at htt hsh
      have hob:=lR hw hrep
      unfold iF at hob
      have cx_out:=gc hw hrep oM
      have cx_sta:=mg (f:=d) (h.mono hgl) hw hdk
      have hfd : aY (rd (ag vs) n) x.2 t = some ((d,w),r1):=by rw [hfs,hf];rfl
      have hst:=kP (ts:=ag vs) (vs:=it fs) (last:=i8 fs) hfd hm0
      by_cases heq : w.out = bR (ag vs) d
      ·rw [if_pos (.inr heq)] at hst
       (refine an (ao (id:=8) _ (fun _ h=>h) am ?_);refine jT 22 [0,1,2] (aa 25 7) ?_;(try (refine Nx.re (d:=92) (v':=Bo false) F (congrArg Value.bool F) ?_));refine jT 20 [3,5] (aa 25 47) ?_;(refine jG (aa 25 111) 6 F (aX F F F) ?_);(refine jG (aa 25 239) 7 F (bP F F F F) ?_);(refine jA 4 F ?_;(refine ae F F F cx_out F ?_);refine jS (aa 25 255) ?_);(refine jA 8 F ?_;(refine ae F F F cx_sta F ?_);refine jS (aa 25 511) ?_);refine jT 15 [9] (aa 25 1023) ?_;(refine jG (aa 25 2047) 10 F (bn F F F) ?_);refine jT 13 [11] (aa 25 4095) ?_;(try (refine Nx.re (d:=101) (v':=Bo true) F (congrArg Value.bool (ax ‹_›)) ?_));refine jT 11 [12,13] (aa 25 16383) ?_;(refine jG (aa 25 32767) 14 F (bO F F F) ?_);refine jT 9 [15] (aa 25 65535) ?_;(try (refine Nx.re (d:=105) (v':=Bo true) F (congrArg Value.bool F) ?_));refine jT 5 [16,17,18,19] (aa 25 1048575) ?_;(try (fail));refine jT 2 [20,21,22] (aa 25 8388607) ?_;(refine jN (aa 25 16777215) 23 F ?_);(refine jG (aa 25 33554431) 24 F (bO F F F) ?_);refine jQ ?_)
       repeat' (first | refine jR ?_ | refine ac F F ?_)
       all_goals refine jZ (vs:=[_,_,_]) F ⟨F,F,F,trivial⟩ F ⟨hgl,F,?_⟩
       all_goals exact hnone hst F
      rw [if_neg (fun h=>by rcases h with h | h;exact hlt h;exact heq h)] at hst
      cases r1 with
      | nil =>
       (refine an (ao (id:=8) _ (fun _ h=>h) am ?_);refine jT 22 [0,1,2] (aa 25 7) ?_;(try (refine Nx.re (d:=92) (v':=Bo false) F (congrArg Value.bool F) ?_));refine jT 20 [3,5] (aa 25 47) ?_;(refine jG (aa 25 111) 6 F (aX F F F) ?_);(refine jG (aa 25 239) 7 F (bP F F F F) ?_);(refine jA 4 F ?_;(refine ae F F F cx_out F ?_);refine jS (aa 25 255) ?_);(refine jA 8 F ?_;(refine ae F F F cx_sta F ?_);refine jS (aa 25 511) ?_);refine jT 15 [9] (aa 25 1023) ?_;(refine jG (aa 25 2047) 10 F (bn F F F) ?_);refine jT 13 [11] (aa 25 4095) ?_;(try (refine Nx.re (d:=101) (v':=Bo false) F (congrArg Value.bool (aF ‹_›)) ?_));refine jT 11 [12,13] (aa 25 16383) ?_;(refine jG (aa 25 32767) 14 F (bn F F F) ?_);refine jT 9 [15] (aa 25 65535) ?_;(try (refine Nx.re (d:=105) (v':=Bo true) F (congrArg Value.bool F) ?_));refine jT 5 [16,17,18,19] (aa 25 1048575) ?_;(try (fail));refine jT 2 [20,21,22] (aa 25 8388607) ?_;(refine jN (aa 25 16777215) 23 F ?_);(refine jG (aa 25 33554431) 24 F (bO F F F) ?_);refine jQ ?_)
       repeat' (first | refine jR ?_ | refine ac F F ?_)
       all_goals refine jZ (vs:=[_,_,_]) F ⟨F,F,F,trivial⟩ F ⟨hgl,F,?_⟩
       all_goals exact hnone hst F
      | cons e2 r3 =>
       have he20 : bt (e2 :: r3) (Int.toNat 0) = e2.toNat:=bD e2 r3
       have hel2 : (e2 :: r3).length = r3.length + 1:=rfl
       have hl' : (fs ++ [(d,w)]).length = fs.length + 1:=by simp
       have hbl' : (bs ++ [wb]).length = (fs ++ [(d,w)]).length:=by simp [hbl]
       have hnth : ∀ i,i < (fs ++ [(d,w)]).length → (i < fs.length ∧ ab (fs ++ [(d,w)]) i = ab fs i ∧ ab (bs ++ [wb]) i = ab bs i) ∨ (ab (fs ++ [(d,w)]) i = (d,w) ∧ ab (bs ++ [wb]) i = wb):=fun i hi=>by
        by_cases h1 : i < fs.length
        ·exact .inl ⟨h1,by rw [aI hi,aI h1,List.getElem_append_left h1],by rw [aI oM,aI oM,List.getElem_append_left oM]⟩
        ·have h2 : i = fs.length:=oM
         exact .inr ⟨by rw [aI hi];simp [h2],by rw [aI oM];simp [h2,hbl]⟩
       have hfm' : ∀ i,i < (fs ++ [(d,w)]).length → (ab (fs ++ [(d,w)]) i).1 ∈ x.2.fields:=fun i hi=>by
        rcases hnth i hi with ⟨h1,h2,_⟩ | ⟨h2,_⟩
        ·rw [h2];exact hfm i h1
        ·rw [h2];exact hdm
       have hreps' : ∀ i,i < (fs ++ [(d,w)]).length → RepR G (ag vs) (ab (fs ++ [(d,w)]) i).2 (ab (fs ++ [(d,w)]) i).1.kind (ab (bs ++ [wb]) i):=fun i hi=>by
        rcases hnth i hi with ⟨h1,h2,h3⟩ | ⟨h2,h3⟩
        ·rw [h2,h3];exact (hreps i h1).mono hle
        ·rw [h2,h3];exact hrep
       have hrow1 : ah cI (fs.map fun p=>p.1.tag) ++ [I d.tag] = ah cI ((fs ++ [(d,w)]).map fun p=>p.1.tag):=by rw [List.map_append];exact (bW cI _ d.tag).symm
       have hrow2 : ah dD bs ++ [Pt wb 0] = ah dD (bs ++ [wb]):=(bW dD bs wb).symm
       have hnd : it (fs ++ [(d,w)]) = it fs ++ [.nd 61 [] d.tag [w]]:=by simp [it]
       dsimp only at hst
       by_cases h44 : e2.toNat = 44
       ·rw [if_pos h44] at hst
        have hn93 : ¬ e2.toNat = 125:=oM
        (refine an (ao (id:=8) _ (fun _ h=>h) am ?_);refine jT 22 [0,1,2] (aa 25 7) ?_;(try (refine Nx.re (d:=92) (v':=Bo false) F (congrArg Value.bool F) ?_));refine jT 20 [3,5] (aa 25 47) ?_;(refine jG (aa 25 111) 6 F (aX F F F) ?_);(refine jG (aa 25 239) 7 F (bP F F F F) ?_);(refine jA 4 F ?_;(refine ae F F F cx_out F ?_);refine jS (aa 25 255) ?_);(refine jA 8 F ?_;(refine ae F F F cx_sta F ?_);refine jS (aa 25 511) ?_);refine jT 15 [9] (aa 25 1023) ?_;(refine jG (aa 25 2047) 10 F (bn F F F) ?_);refine jT 13 [11] (aa 25 4095) ?_;(try (refine Nx.re (d:=101) (v':=Bo false) F (congrArg Value.bool (aF ‹_›)) ?_));refine jT 11 [12,13] (aa 25 16383) ?_;(refine jG (aa 25 32767) 14 F (bn F F F) ?_);refine jT 9 [15] (aa 25 65535) ?_;(try (refine Nx.re (d:=105) (v':=Bo false) F (congrArg Value.bool F) ?_));refine jW 5 [16,17,18,19] (aa 25 1048575) ?_;(try ((refine Nx.re (d:=109) (v':=Bo false) F (congrArg Value.bool (aF oM)) ?_)));refine jT 2 [20,21,22] (aa 25 8388607) ?_;(refine jG (aa 25 16777215) 23 F (bn F F F) ?_);(refine jG (aa 25 33554431) 24 F (bn F F F) ?_);refine jQ ?_)
        repeat' (first | refine jR ?_ | refine ad F F ?_)
        (refine an (ao (id:=10) [.blk x14 (.cells (List.toArray [I d.tag,S d.name,S d.kind,S d.stand]) tFd (0,0))] (by intro y hy;simp only [List.mem_cons,List.not_mem_nil,or_false] at hy ⊢;simp [hy]) am ?_);refine jW 7 [0,1,2,3,5] (aa 12 47) ?_;(refine jG (aa 12 111) 6 F (aX F F F) ?_);refine b7 [4,7] kR dC ⟨?_,?_,trivial⟩;(focus (refine aM F F ?_;(refine aB F ?_);refine jK (aa 12 127) ?_;refine jA 7 F ?_;(refine jF fun _=>?_);refine jK (aa 12 255) ?_;refine jA 8 F ?_;((refine bC F F F F F F F F F ?_ fun _ _=>?_;focus omega));refine jK (aa 12 511) ?_;refine jW 1 [9,10] (aa 12 2047) ?_;refine jA 11 F ?_;(refine jD F F F ?_);refine jK (aa 12 4095) ?_;refine jQ ?_));rotate_left 1;(focus (refine aM F F ?_;(refine jF fun _=>?_);refine jK (aa 12 239) ?_;refine jA 4 F ?_;(refine aB F ?_);refine jK (aa 12 255) ?_;refine jA 8 F ?_;((refine bC F F F F F F F F F ?_ fun _ _=>?_;focus omega));refine jK (aa 12 511) ?_;refine jW 1 [9,10] (aa 12 2047) ?_;refine jA 11 F ?_;(refine jD F F F ?_);refine jK (aa 12 4095) ?_;refine jQ ?_));rotate_left 1)
        all_goals repeat' (first | refine jM ?_ | (refine jo ?_;first | refine aB F ?_ | refine jD F F F ?_ | refine jF fun _=>?_ | refine bC F F F F F F F F F oM fun _ _=>?_) | refine ad F (aF oM) ?_)
        all_goals
         rename_i _ y1 yc1 _ y2 yc2
         rw [hrow1,hrow2]
         exact bm (fs ++ [(d,w)],bs ++ [wb],some ⟨y1,0,none⟩,yc1,some ⟨y2,0,none⟩,yc2,r3,m - 1,G) ⟨⟨⟨hbl',hfm',hreps'⟩,hgl⟩,⟨(by dsimp only;rw [hit,hst,vF,hnd]),(by dsimp only;omega)⟩,(by dsimp only;omega),(by dsimp only;omega)⟩ (by dsimp only;omega) tU rfl (by rw [hl'];repeat (first | exact List.Sublist.refl _ | apply List.Sublist.cons_cons | apply List.Sublist.cons))
       ·rw [if_neg h44] at hst
        by_cases h125' : e2.toNat = 125
        ·rw [if_pos h125'] at hst
         (refine an (ao (id:=8) _ (fun _ h=>h) am ?_);refine jT 22 [0,1,2] (aa 25 7) ?_;(try (refine Nx.re (d:=92) (v':=Bo false) F (congrArg Value.bool F) ?_));refine jT 20 [3,5] (aa 25 47) ?_;(refine jG (aa 25 111) 6 F (aX F F F) ?_);(refine jG (aa 25 239) 7 F (bP F F F F) ?_);(refine jA 4 F ?_;(refine ae F F F cx_out F ?_);refine jS (aa 25 255) ?_);(refine jA 8 F ?_;(refine ae F F F cx_sta F ?_);refine jS (aa 25 511) ?_);refine jT 15 [9] (aa 25 1023) ?_;(refine jG (aa 25 2047) 10 F (bn F F F) ?_);refine jT 13 [11] (aa 25 4095) ?_;(try (refine Nx.re (d:=101) (v':=Bo false) F (congrArg Value.bool (aF ‹_›)) ?_));refine jT 11 [12,13] (aa 25 16383) ?_;(refine jG (aa 25 32767) 14 F (bn F F F) ?_);refine jT 9 [15] (aa 25 65535) ?_;(try (refine Nx.re (d:=105) (v':=Bo false) F (congrArg Value.bool F) ?_));refine jW 5 [16,17,18,19] (aa 25 1048575) ?_;(try ((refine Nx.re (d:=109) (v':=Bo true) F (congrArg Value.bool (ax oM)) ?_)));refine jW 2 [20,21,22] (aa 25 8388607) ?_;(refine jG (aa 25 16777215) 23 F (bO F F F) ?_);(refine jG (aa 25 33554431) 24 F (bn F F F) ?_);refine jQ ?_)
         repeat' (first | refine jR ?_ | refine ad F (aF oM) ?_)
         (refine an (ao (id:=10) [.blk x14 (.cells (List.toArray [I d.tag,S d.name,S d.kind,S d.stand]) tFd (0,0))] (by intro y hy;simp only [List.mem_cons,List.not_mem_nil,or_false] at hy ⊢;simp [hy]) am ?_);refine jW 7 [0,1,2,3,5] (aa 12 47) ?_;(refine jG (aa 12 111) 6 F (aX F F F) ?_);refine b7 [4,7] kR dC ⟨?_,?_,trivial⟩;(focus (refine aM F F ?_;(refine aB F ?_);refine jK (aa 12 127) ?_;refine jA 7 F ?_;(refine jF fun _=>?_);refine jK (aa 12 255) ?_;refine jA 8 F ?_;((refine bC F F F F F F F F F ?_ fun _ _=>?_;focus omega));refine jK (aa 12 511) ?_;refine jW 1 [9,10] (aa 12 2047) ?_;refine jA 11 F ?_;(refine jD F F F ?_);refine jK (aa 12 4095) ?_;refine jQ ?_));rotate_left 1;(focus (refine aM F F ?_;(refine jF fun _=>?_);refine jK (aa 12 239) ?_;refine jA 4 F ?_;(refine aB F ?_);refine jK (aa 12 255) ?_;refine jA 8 F ?_;((refine bC F F F F F F F F F ?_ fun _ _=>?_;focus omega));refine jK (aa 12 511) ?_;refine jW 1 [9,10] (aa 12 2047) ?_;refine jA 11 F ?_;(refine jD F F F ?_);refine jK (aa 12 4095) ?_;refine jQ ?_));rotate_left 1)
         all_goals repeat' (first | refine jM ?_ | (refine jo ?_;first | refine aB F ?_ | refine jD F F F ?_ | refine jF fun _=>?_ | refine bC F F F F F F F F F oM fun _ _=>?_) | refine ac F (ax oM) ?_)
         all_goals
          rename_i _ y1 yc1 _ y2 yc2
          rw [hrow1,hrow2]
          refine Nx.sealS (v:=.slice (some ⟨y1,0,none⟩) (fs.length + 1) yc1) fun G2 hG2 hs1=>?_
          refine Nx.sealS (v:=.slice (some ⟨y2,0,none⟩) (fs.length + 1) yc2) fun G3 hG3 hs2=>?_
          refine Nx.sealC (b:=x13) fun G4 hG4 hsg=>?_
          refine jZ (vs:=[_,_,_]) F ⟨F,F,F,trivial⟩ F ⟨(((hgl.trans hG2).trans hG3).trans hG4),F,?_⟩
          rw [bE]
          exact ⟨_,_,_,F,fun _=>⟨.nd 82 [] 0 (it (fs ++ [(d,w)])),x13,F,(by rw [hRl,hit,hst,hnd];rfl),.recd k x13 x.2 (fs ++ [(d,w)]) (bs ++ [wb]) (some ⟨y1,0,none⟩) (some ⟨y2,0,none⟩) yc1 yc2 ⟨hrf,hso⟩ (by rw [hl'];exact hsg) (by rw [hl'];exact (hs1.mono hG3).mono hG4) (by rw [hl'];exact hs2.mono hG4) hbl' hfm' (fun i hi=>(hreps' i hi).mono ((hG2.trans hG3).trans hG4))⟩,fun h=>(by cases h)⟩
        ·rw [if_neg h125'] at hst
         (refine an (ao (id:=8) _ (fun _ h=>h) am ?_);refine jT 22 [0,1,2] (aa 25 7) ?_;(try (refine Nx.re (d:=92) (v':=Bo false) F (congrArg Value.bool F) ?_));refine jT 20 [3,5] (aa 25 47) ?_;(refine jG (aa 25 111) 6 F (aX F F F) ?_);(refine jG (aa 25 239) 7 F (bP F F F F) ?_);(refine jA 4 F ?_;(refine ae F F F cx_out F ?_);refine jS (aa 25 255) ?_);(refine jA 8 F ?_;(refine ae F F F cx_sta F ?_);refine jS (aa 25 511) ?_);refine jT 15 [9] (aa 25 1023) ?_;(refine jG (aa 25 2047) 10 F (bn F F F) ?_);refine jT 13 [11] (aa 25 4095) ?_;(try (refine Nx.re (d:=101) (v':=Bo false) F (congrArg Value.bool (aF ‹_›)) ?_));refine jT 11 [12,13] (aa 25 16383) ?_;(refine jG (aa 25 32767) 14 F (bn F F F) ?_);refine jT 9 [15] (aa 25 65535) ?_;(try (refine Nx.re (d:=105) (v':=Bo false) F (congrArg Value.bool F) ?_));refine jW 5 [16,17,18,19] (aa 25 1048575) ?_;(try ((refine Nx.re (d:=109) (v':=Bo true) F (congrArg Value.bool (ax oM)) ?_)));refine jW 2 [20,21,22] (aa 25 8388607) ?_;(refine jG (aa 25 16777215) 23 F (bO F F F) ?_);(refine jG (aa 25 33554431) 24 F (bn F F F) ?_);refine jQ ?_)
         repeat' (first | refine jR ?_ | refine ac F (ax oM) ?_)
         all_goals refine jZ (vs:=[_,_,_]) F ⟨F,F,F,trivial⟩ F ⟨hgl,F,?_⟩
         all_goals exact hnone hst F
theorem vm {ts : List Ty} {f : adB → adB → Option (V × adB)} {t : Ty} {e : UInt8} {s : adB} (h : t.sort = 82 ∧ ¬ e.toNat = 123 ∨ t.sort = 69 ∧ ¬ e.toNat = 35 ∨ t.sort = 85 ∧ ¬ e.toNat = 60) : bA ts f t (e :: s) = none:=by
 unfold bA
 dsimp only
 rcases h with ⟨h1,h2⟩ | ⟨h1,h2⟩ | ⟨h1,h2⟩
 ·rw [if_pos h1,if_neg h2]
 ·rw [if_neg oM,if_pos h1,if_neg h2]
 ·rw [if_neg oM,if_neg oM,if_neg h2]
theorem abH {n : Nat} {u : Value} {vs : List cD} {x : cD} {k s : adB} {e : UInt8} (hu : u.oneCell' = true) (cx_rf : aZ adA 136 [u,S k] G (· = Tu [Ag [U8 x.2.sort,S x.2.name,gm x],Bo true])) (hso : x.2.sort = 82 ∧ ¬ e.toNat = 123 ∨ x.2.sort = 69 ∧ ¬ e.toNat = 35 ∨ x.2.sort = 85 ∧ ¬ e.toNat = 60) (hs : s.length ≤ 2000000) (hn : n ≤ 1000) :
  bG adA 97 [Ag [u],S (e :: s),S k,I (n + 1 : Nat)] G (eT (ag vs) (bA (ag vs) (rd (ag vs) n) x.2 (e :: s)) k):=by
 have hno:=vm (ts:=ag vs) (f:=rd (ag vs) n) (s:=s) hso
 have he0 : bt (e :: s) (Int.toNat 0) = e.toNat:=bD e s
 have hel : (e :: s).length = s.length + 1:=rfl
 rcases hso with ⟨h1,h2⟩ | ⟨h1,h2⟩ | ⟨h1,h2⟩
 all_goals
  have h1' : (x.2.sort : Int) = 82 ∨ (x.2.sort : Int) = 69 ∨ (x.2.sort : Int) = 85:=oM
  refine jB [(0,_),(1,_),(2,_),(3,_)] Tryz.func97 Tryz.ntmps97 fun B hok hB hW=>?_
  repeat' (first | refine jM ?_ | (refine jo ?_;first | refine jO fun _=>?_ | refine aB F ?_ | refine jL fun _=>?_ | refine jC F F F ?_ | refine aP F ?_ | refine aE F ?_ | refine ae F F F cx_rf F ?_) | refine aG F F (ax oM) ?_ | refine aw F F (aF oM) ?_ | (refine ad F (by first | rfl | (refine decide_eq_false ?_;(omega))) ?_))
  all_goals refine jZ (vs:=[_,_,_]) F ⟨F,F,F,trivial⟩ F ⟨Gh.le.refl _,F,?_⟩
  all_goals (rw [bE];exact ⟨_,_,_,F,fun h=>(by cases h),fun _=>hno⟩)
theorem abJ {n : Nat} {u : Value} {vs : List cD} {x : cD} {k s : adB} (hR : kW n u vs) (h : SchR G u vs) (hw : SchW (ag vs)) (hx : x ∈ vs) (hrf : a8 (ag vs) k = some x.2) (cx_rf : aZ adA 136 [u,S k] G (· = Tu [Ag [U8 x.2.sort,S x.2.name,gm x],Bo true])) (hso : x.2.sort = 82) (hs : s.length ≤ 1999999) (hn : n ≤ 1000) (hkl : k.length ≤ 1000) :
  bG adA 97 [Ag [u],S (123 :: s),S k,I (n + 1 : Nat)] G (eT (ag vs) (bA (ag vs) (rd (ag vs) n) x.2 (123 :: s)) k):=by
 have cx_rc:=w4 (s:=s) hR h hw hx hrf hso oM hn hkl
 have he0 : bt (123 :: s) (Int.toNat 0) = 123:=bD 123 s
 have hel : (123 :: s).length = s.length + 1:=rfl
 have h1' : (x.2.sort : Int) = 82:=oM
 refine jB [(0,_),(1,_),(2,_),(3,_)] Tryz.func97 Tryz.ntmps97 fun B hok hB hW=>?_
 repeat' (first | refine jM ?_ | (refine jo ?_;first | refine jO fun _=>?_ | refine aB F ?_ | refine jL fun _=>?_ | refine jC F F F ?_ | refine aP F ?_ | refine ae F F F cx_rf F ?_) | refine aG F F (ax ‹_›) ?_ | refine ac F F ?_ | (refine an (ao (id:=3) _ (fun _ h=>h) am ?_);refine jW 9 [1,2,3,5] (aa 13 46) ?_;(refine jG (aa 13 47) 0 F (bP F F F F) ?_);(refine jG (aa 13 63) 4 F (bP F F F F) ?_);refine jA 6 F ?_;(refine ar F F F cx_rc F ?_;rintro _ G hle ⟨q1,r1,ok1,rfl,hyes,hno⟩;skip);refine jS (aa 13 127) ?_;refine jT 0 [7,8,9,10,11,12] (aa 13 8191) ?_;refine jQ ?_))
 refine jZ (vs:=[_,_,_]) F ⟨F,F,F,trivial⟩ F ⟨hle,F,?_⟩
 rw [bE]
 exact ⟨_,_,_,F,hyes,hno⟩
theorem abK {n : Nat} {u : Value} {vs : List cD} {x : cD} {k s : adB} (h : SchR G u vs) (hw : SchW (ag vs)) (hx : x ∈ vs) (hrf : a8 (ag vs) k = some x.2) (cx_rf : aZ adA 136 [u,S k] G (· = Tu [Ag [U8 x.2.sort,S x.2.name,gm x],Bo true])) (hso : x.2.sort = 69) (hs : s.length ≤ 1999999) (hn : n ≤ 1000) :
  bG adA 97 [Ag [u],S (35 :: s),S k,I (n + 1 : Nat)] G (eT (ag vs) (bA (ag vs) (rd (ag vs) n) x.2 (35 :: s)) k):=by
 have hxt : x.2 ∈ ag vs:=List.mem_map_of_mem hx
 have hTW:=hw.ty _ hxt
 have hfl:=hTW.len
 have cx_tg:=r4 (G:=G) (u:=u) (x:=x) (s:=s) oM h.sl.one (h.fl x hx) oM
 have he0 : bt (35 :: s) (Int.toNat 0) = 35:=bD 35 s
 have hel : (35 :: s).length = s.length + 1:=rfl
 have h1' : (x.2.sort : Int) = 69:=oM
 have hRT : bA (ag vs) (rd (ag vs) n) x.2 (35 :: s) = match cM 200 s with
   | none=>none
   | some (n,r)=>if (co x.2.fields n).isSome = true then some (.nd 69 [] n [],r) else none:=by
  unfold bA
  dsimp only
  rw [if_neg oM,if_pos hso,if_pos (show (35 : UInt8).toNat = 35 from rfl)]
  cases cM 200 s <;> rfl
 unfold cM at hRT
 simp only [j9] at cx_tg
 refine jB [(0,_),(1,_),(2,_),(3,_)] Tryz.func97 Tryz.ntmps97 fun B hok hB hW=>?_
 repeat' (first | refine jM ?_ | (refine jo ?_;first | refine jO fun _=>?_ | refine aB F ?_ | refine jL fun _=>?_ | refine jC F F F ?_ | refine aP F ?_ | refine aE F ?_ | refine jF fun _=>?_ | refine jV (ay F F) ?_ | refine ae F F F cx_rf F ?_) | refine aG F F (ax ‹_›) ?_ | refine aw F F (aF oM) ?_ | refine ac F F ?_ | refine ad F F ?_ | (refine an (ao (id:=5) _ (fun _ h=>h) am ?_);refine jW 11 [1,2] (aa 13 6) ?_;(refine jG (aa 13 7) 0 F (bP F F F F) ?_);(refine jG (aa 13 15) 3 F (bP F F F F) ?_);refine b7 [4,9] kR dC ⟨?_,?_,trivial⟩;(focus (refine aM F F ?_;(refine ep F F F cx_tg F ?_;rintro _ ⟨nt,rfl,hnt⟩);refine jK (aa 13 31) ?_;refine jW 4 [5,6,7,8] (aa 13 511) ?_;refine jA 9 F ?_;(refine jL fun _=>?_);refine jK (aa 13 1023) ?_;refine jA 10 F ?_;(refine jC F F F ?_);refine jK (aa 13 2047) ?_;refine jW 0 [11,12] (aa 13 8191) ?_;refine jQ ?_));rotate_left 1;(focus (refine aM F F ?_;(refine jL fun _=>?_);refine jK (aa 13 527) ?_;refine jA 4 F ?_;(refine ep F F F cx_tg F ?_;rintro _ ⟨nt,rfl,hnt⟩);refine jK (aa 13 543) ?_;refine jW 3 [5,6,7,8] (aa 13 1023) ?_;refine jA 10 F ?_;(refine jC F F F ?_);refine jK (aa 13 2047) ?_;refine jW 0 [11,12] (aa 13 8191) ?_;refine jQ ?_));rotate_left 1))
 all_goals
  rename_i y y8
  refine Nx.sealC (b:=y) fun G2 hG2 hsy=>?_
  refine Nx.sealC (b:=y8) fun G3 hG3 hsg=>?_
  refine jZ (vs:=[_,_,_]) F ⟨F,F,F,trivial⟩ F ⟨(hG2.trans hG3),F,?_⟩
  rw [bE]
  refine ⟨_,_,_,F,fun hb=>?_,fun hb=>?_⟩
  ·simp only [Bool.and_eq_true] at hb
   obtain ⟨hb1,hb2⟩:=hb
   obtain ⟨m0,hm⟩:=Option.isSome_iff_exists.1 hb1
   obtain ⟨d,hd⟩:=Option.isSome_iff_exists.1 hb2
   have hnm:=hnt m0 hm
   subst hnm
   rw [hd] at hsy
   simp only [Option.getD_some] at hsy
   have hdm : d ∈ x.2.fields:=List.mem_of_find?_eq_some hd
   have hdt : d.tag = nt:=by have:=List.find?_some hd;simpa using this
   exact ⟨.nd 69 [] d.tag [],y8,F,by rw [hRT,hm];dsimp only [Option.map_some];rw [hd,hdt];rfl,.enm k y8 y x.2 d ⟨hrf,hso⟩ hdm hsg (hsy.mono hG3)⟩
  ·rw [hRT]
   cases hm : aN (s.takeWhile br) 200 with
   | none=>rfl
   | some m0 =>
    have hnm:=hnt m0 hm
    subst hnm
    rw [hm] at hb
    dsimp only [Option.map_some]
    rw [if_neg]
    intro h2
    rw [h2] at hb;cases hb
theorem abI {n : Nat} {u : Value} {vs : List cD} {x : cD} {k s : adB} (hR : kW n u vs) (h : SchR G u vs) (hw : SchW (ag vs)) (hx : x ∈ vs) (hrf : a8 (ag vs) k = some x.2) (cx_rf : aZ adA 136 [u,S k] G (· = Tu [Ag [U8 x.2.sort,S x.2.name,gm x],Bo true])) (hso : x.2.sort = 85) (hs : s.length ≤ 1999999) (hn : n ≤ 1000) :
  bG adA 97 [Ag [u],S (60 :: s),S k,I (n + 1 : Nat)] G (eT (ag vs) (bA (ag vs) (rd (ag vs) n) x.2 (60 :: s)) k):=by
 have edn : ((n + 1 : Nat) : Int) - 1 = (n : Nat):=oM
 have hxt : x.2 ∈ ag vs:=List.mem_map_of_mem hx
 have hTW:=hw.ty _ hxt
 have hfl:=hTW.len
 have cx_tg:=r4 (G:=G) (u:=u) (x:=x) (s:=s) oM h.sl.one (h.fl x hx) oM
 have he0 : bt (60 :: s) (Int.toNat 0) = 60:=bD 60 s
 have hel : (60 :: s).length = s.length + 1:=rfl
 have h1' : (x.2.sort : Int) = 85:=oM
 have hRT : bA (ag vs) (rd (ag vs) n) x.2 (60 :: s) = match aY (rd (ag vs) n) x.2 s with
   | none=>none
   | some ((d,v),r)=>match r with
    | []=>none
    | c' :: r'=>if c'.toNat = 62 then some (.nd 85 [] d.tag [v],r') else none:=by
  unfold bA
  dsimp only
  rw [if_neg oM,if_neg oM,if_pos (show (60 : UInt8).toNat = 60 from rfl)]
  cases aY (rd (ag vs) n) x.2 s <;> rfl
 simp only [j9] at cx_tg
 refine jB [(0,_),(1,_),(2,_),(3,_)] Tryz.func97 Tryz.ntmps97 fun B hok hB hW=>?_
 repeat' (first | refine jM ?_ | (refine jo ?_;first | refine jO fun _=>?_ | refine aB F ?_ | refine jL fun _=>?_ | refine jC F F F ?_ | refine aP F ?_ | refine aE F ?_ | refine ae F F F cx_rf F ?_) | refine aG F F (ax ‹_›) ?_ | refine aw F F (aF oM) ?_ | refine ac F F ?_ | refine ad F F ?_)
 (refine an (ao (id:=8) _ (fun _ h=>h) am ?_);refine jW 11 [1,2] (aa 13 6) ?_;(refine jG (aa 13 7) 0 F (bP F F F F) ?_);(refine jG (aa 13 15) 3 F (bP F F F F) ?_);refine b7 [4,9] kR dC ⟨?_,?_,trivial⟩;(focus (refine aM F F ?_;(refine ep F F F cx_tg F ?_;rintro _ ⟨nt,rfl,hnt⟩);refine jK (aa 13 31) ?_;refine jW 4 [5,6,7,8] (aa 13 511) ?_;refine jA 9 F ?_;(refine jL fun _=>?_);refine jK (aa 13 1023) ?_;refine jA 10 F ?_;(refine jC F F F ?_);refine jK (aa 13 2047) ?_;refine jW 0 [11,12] (aa 13 8191) ?_;refine jQ ?_));rotate_left 1;(focus (refine aM F F ?_;(refine jL fun _=>?_);refine jK (aa 13 527) ?_;refine jA 4 F ?_;(refine ep F F F cx_tg F ?_;rintro _ ⟨nt,rfl,hnt⟩);refine jK (aa 13 543) ?_;refine jW 3 [5,6,7,8] (aa 13 1023) ?_;refine jA 10 F ?_;(refine jC F F F ?_);refine jK (aa 13 2047) ?_;refine jW 0 [11,12] (aa 13 8191) ?_;refine jQ ?_));rotate_left 1)
 all_goals
  have hnone : ∀ {v : Value} {G' : Gh} {r : adB},aY (rd (ag vs) n) x.2 s = none → v = Tu [.pointer none,S r,Bo false] → eT (ag vs) (bA (ag vs) (rd (ag vs) n) x.2 (60 :: s)) k v G':=fun h1 h2=>⟨_,_,_,h2,fun h=>(by cases h),fun _=>by rw [hRT,h1]⟩
  cases hb16 : (aN (s.takeWhile br) 200).isSome && (co x.2.fields nt).isSome with
  | false =>
   have hno : aY (rd (ag vs) n) x.2 s = none:=by
    cases hm : aN (s.takeWhile br) 200 with
    | none=>exact fY (.inl hm)
    | some m0 =>
     refine fY (.inr ⟨m0,hm,?_⟩)
     rw [hm] at hb16
     rw [← hnt m0 hm]
     cases hf : co x.2.fields nt with
     | none=>rfl
     | some d=>rw [hf] at hb16;cases hb16
   repeat' (first | refine jR ?_ | (refine jo ?_;refine aP F ?_) | refine aG F F F ?_ | refine ac F F ?_)
   all_goals refine jZ (vs:=[_,_,_]) F ⟨F,F,F,trivial⟩ F ⟨Gh.le.refl _,F,?_⟩
   all_goals exact hnone hno F
  | true =>
   simp only [Bool.and_eq_true] at hb16
   obtain ⟨hb1,hb2⟩:=hb16
   obtain ⟨m0,hm⟩:=Option.isSome_iff_exists.1 hb1
   obtain ⟨d,hd⟩:=Option.isSome_iff_exists.1 hb2
   have hnm:=hnt m0 hm
   subst hnm
   rw [hd]
   simp only [Option.getD_some]
   have hdm : d ∈ x.2.fields:=List.mem_of_find?_eq_some hd
   have hwl:=eD br s
   cases hdw : s.dropWhile br with
   | nil =>
    have hno : aY (rd (ag vs) n) x.2 s = none:=ix hm (fun s2 h=>by rw [hdw] at h;cases h)
    repeat' (first | refine jR ?_ | (refine jo ?_;first | refine aP F ?_ | refine aE F ?_) | refine aG F F F ?_ | refine aw F F F ?_ | refine ac F F ?_)
    all_goals refine jZ (vs:=[_,_,_]) F ⟨F,F,F,trivial⟩ F ⟨Gh.le.refl _,F,?_⟩
    all_goals exact hnone hno F
   | cons e r2 =>
    have he20 : bt (e :: r2) (Int.toNat 0) = e.toNat:=bD e r2
    have hel2 : (e :: r2).length = r2.length + 1:=rfl
    by_cases h61 : e.toNat = 61
    case neg =>
     have hno : aY (rd (ag vs) n) x.2 s = none:=ix hm (fun s2 h=>by rw [hdw] at h;simp only [List.cons.injEq] at h;exact h61 (by rw [h.1];rfl))
     repeat' (first | refine jM ?_ | (refine jo ?_;refine aE F ?_) | refine aw F F F ?_ | refine ac F (ax oM) ?_)
     all_goals refine jZ (vs:=[_,_,_]) F ⟨F,F,F,trivial⟩ F ⟨Gh.le.refl _,F,?_⟩
     all_goals exact hnone hno F
    have he61 : e = 61:=UInt8.toNat_inj.1 h61
    have hfs:=l6 (f:=rd (ag vs) n) (t:=x.2) (s:=s) hm hd (by rw [hdw,he61])
    have hdk : aA (ag vs) d.kind = true:=dY hw hxt oM hdm
    rw [hdw,List.length_cons] at hwl
    have cx_rd:=hR G d.kind r2 h hdk oM
    rw [← edn] at cx_rd
    repeat' (first | refine jM ?_ | (refine jo ?_;refine aE F ?_) | refine aw F F F ?_ | refine ad F (aF oM) ?_)
    (refine an (ao (id:=11) _ (fun _ h=>h) am ?_);refine jW 10 [1,2,3,5,6] (aa 15 110) ?_;(refine jG (aa 15 111) 0 F (bP F F F F) ?_);(refine jG (aa 15 127) 4 F (aX F F F) ?_);refine jA 7 F ?_;(refine ar F F F cx_rd F ?_;rintro _ G hle ⟨q1,r1,ok1,rfl,hyes,hno⟩;skip);refine jS (aa 15 255) ?_;refine jT 0 [8,9,10,11,12,13,14] (aa 15 32767) ?_;refine jQ ?_)
    cases ok1 with
    | false =>
     have hno2 : aY (rd (ag vs) n) x.2 s = none:=by rw [hfs,hno rfl];rfl
     repeat' (first | refine jR ?_ | (refine jo ?_;refine aP F ?_) | refine aG F F F ?_ | refine ac F F ?_)
     all_goals refine jZ (vs:=[_,_,_]) F ⟨F,F,F,trivial⟩ F ⟨hle,F,?_⟩
     all_goals exact hnone hno2 F
    | true =>
     obtain ⟨w,wb,rfl,hf,hrep⟩:=hyes rfl
     have hfd : aY (rd (ag vs) n) x.2 s = some ((d,w),r1):=by rw [hfs,hf];rfl
     rw [hfd] at hRT
     dsimp only at hRT
     cases r1 with
     | nil =>
      repeat' (first | refine jR ?_ | (refine jo ?_;first | refine aP F ?_ | refine aE F ?_) | refine aG F F F ?_ | refine aw F F F ?_ | refine ac F F ?_)
      all_goals refine jZ (vs:=[_,_,_]) F ⟨F,F,F,trivial⟩ F ⟨hle,F,?_⟩
      all_goals (rw [bE];exact ⟨_,_,_,F,fun h=>(by cases h),fun _=>hRT⟩)
     | cons e3 r3 =>
      have he30 : bt (e3 :: r3) (Int.toNat 0) = e3.toNat:=bD e3 r3
      have hel3 : (e3 :: r3).length = r3.length + 1:=rfl
      dsimp only at hRT
      by_cases h62 : e3.toNat = 62
      case neg =>
       rw [if_neg h62] at hRT
       repeat' (first | refine jM ?_ | (refine jo ?_;refine aE F ?_) | refine aw F F F ?_ | refine ac F (ax oM) ?_)
       all_goals refine jZ (vs:=[_,_,_]) F ⟨F,F,F,trivial⟩ F ⟨hle,F,?_⟩
       all_goals (rw [bE];exact ⟨_,_,_,F,fun h=>(by cases h),fun _=>hRT⟩)
      rw [if_pos h62] at hRT
      repeat' (first | refine jM ?_ | (refine jo ?_;refine aE F ?_) | refine aw F F F ?_ | refine ad F (aF oM) ?_)
      (refine an (ao (id:=14) _ (fun _ h=>h) am ?_);refine jW 8 [0,1,4,8,9] (aa 13 787) ?_;(refine jG (aa 13 791) 2 F (aX F F F) ?_);refine b7 [3,5] kR dC ⟨?_,?_,trivial⟩;(focus (refine aM F F ?_;(refine jF fun _=>?_);refine jS (aa 13 799) ?_;refine jA 5 F ?_;(refine jF fun _=>?_);refine jS (aa 13 831) ?_;(refine jG (aa 13 895) 6 F (ay F F) ?_);refine jA 7 F ?_;(refine jO fun _=>?_);refine jS (aa 13 1023) ?_;refine jW 0 [10,11,12] (aa 13 8191) ?_;refine jQ ?_));rotate_left 1;(focus (refine aM F F ?_;(refine jF fun _=>?_);refine jS (aa 13 823) ?_;refine jA 3 F ?_;(refine jF fun _=>?_);refine jS (aa 13 831) ?_;(refine jG (aa 13 895) 6 F (ay F F) ?_);refine jA 7 F ?_;(refine jO fun _=>?_);refine jS (aa 13 1023) ?_;refine jW 0 [10,11,12] (aa 13 8191) ?_;refine jQ ?_));rotate_left 1)
      all_goals repeat' (refine jR ?_)
      all_goals
       rename_i y1 y2 y8
       refine Nx.sealC (b:=y1) fun G2 hG2 hs1=>?_
       refine Nx.sealC (b:=y2) fun G3 hG3 hs2=>?_
       refine Nx.sealC (b:=y8) fun G4 hG4 hsg=>?_
       refine jZ (vs:=[_,_,_]) F ⟨F,F,F,trivial⟩ F ⟨(((hle.trans hG2).trans hG3).trans hG4),F,?_⟩
       rw [bE]
       first | exact ⟨_,_,_,F,fun _=>⟨.nd 85 [] d.tag [w],y8,F,hRT,.uni k y8 y1 y2 wb 1 x.2 d w (Nat.le_refl _) ⟨hrf,hso⟩ hdm hsg (hs1.mono (hG3.trans hG4)) (hs2.mono hG4) (hrep.mono ((hG2.trans hG3).trans hG4))⟩,fun h=>(by cases h)⟩ | exact ⟨_,_,_,F,fun _=>⟨.nd 85 [] d.tag [w],y8,F,hRT,.uni k y8 y2 y1 wb 1 x.2 d w (Nat.le_refl _) ⟨hrf,hso⟩ hdm hsg (hs2.mono hG4) (hs1.mono (hG3.trans hG4)) (hrep.mono ((hG2.trans hG3).trans hG4))⟩,fun h=>(by cases h)⟩
theorem aaQ {ts : List Ty} {n : Nat} {k : adB} : rd ts n k [] = none:=by
 cases h : rd ts n k [] with
 | none=>rfl
 | some x=>have:=iM h;simp at this
theorem uZ {n : Nat} {u : Value} {vs : List cD} {k s : adB} (hc : s = [] ∨ n = 0) (hn : n ≤ 1000) : bG adA 50 [Ag [u],S s,S k,I (n : Nat)] G (eT (ag vs) (rd (ag vs) n k s) k):=by
 have hno : rd (ag vs) n k s = none:=by
  rcases hc with rfl | rfl
  ·exact aaQ
  ·rfl
 by_cases hs : s = []
 ·refine jB [(0,_),(1,_),(2,_),(3,_)] Tryz.func50 Tryz.ntmps50 fun B hok hB hW=>?_
  repeat' (first | refine jR ?_ | (refine jo ?_;first | refine jO fun _=>?_ | refine aP F ?_) | refine aG F F (ax ‹_›) ?_ | refine ac F F ?_)
  refine jZ (vs:=[_,_,_]) F ⟨F,F,F,trivial⟩ F ⟨Gh.le.refl _,F,?_⟩
  rw [bE]
  exact ⟨_,_,_,F,fun h=>(by cases h),fun _=>hno⟩
 ·have hn0 : n = 0:=by
   rcases hc with h | h
   ·exact absurd h hs
   ·exact h
  refine jB [(0,_),(1,_),(2,_),(3,_)] Tryz.func50 Tryz.ntmps50 fun B hok hB hW=>?_
  repeat' (first | refine jR ?_ | (refine jo ?_;first | refine jO fun _=>?_ | refine aE F ?_) | refine aw F F (aF ‹_›) ?_ | refine ac F (ax oM) ?_)
  refine jZ (vs:=[_,_,_]) F ⟨F,F,F,trivial⟩ F ⟨Gh.le.refl _,F,?_⟩
  rw [bE]
  exact ⟨_,_,_,F,fun h=>(by cases h),fun _=>hno⟩
theorem aaa {n : Nat} {u : Value} {vs : List cD} {k s : adB} {e : UInt8} (hR : kW n u vs) (h : SchR G u vs) (hk : aA (ag vs) (91 :: k) = true) (hs : s.length ≤ 1999999) (hn : n ≤ 999) :
  bG adA 50 [Ag [u],S (e :: s),S (91 :: k),I (n + 1 : Nat)] G (eT (ag vs) (rd (ag vs) (n + 1) (91 :: k) (e :: s)) (91 :: k)):=by
 have hrd : rd (ag vs) (n + 1) (91 :: k) (e :: s) = fM (rd (ag vs) n k) (e :: s):=by rw [rd];exact sw F
 have he0 : bt (e :: s) (Int.toNat 0) = e.toNat:=bD e s
 have hel : (e :: s).length = s.length + 1:=rfl
 have hk0 : bt (91 :: k) (Int.toNat 0) = 91:=bD 91 k
 have hkl2 : (91 :: k).length = k.length + 1:=rfl
 by_cases h91 : e.toNat = 91
 ·obtain rfl:=bX h91 dC
  have cx_ls:=aae (s:=s) hR h (fI (.inl rfl) hk) oM oM
  refine jB [(0,_),(1,_),(2,_),(3,_)] Tryz.func50 Tryz.ntmps50 fun B hok hB hW=>?_
  repeat' (first | refine jM ?_ | (refine jo ?_;first | refine jO fun _=>?_ | refine aE F ?_) | refine aw F F F ?_ | refine ac F F ?_ | refine ad F F ?_ | (refine an (ao (id:=7) _ (fun _ h=>h) am ?_);refine jW 8 [1,2,3,4] (aa 12 30) ?_;(refine jG (aa 12 31) 0 F (bP F F F F) ?_);refine jA 5 F ?_;(refine ar F F F cx_ls F ?_;rintro _ G hle ⟨q1,r1,ok1,rfl,hyes,hno⟩;skip);refine jS (aa 12 63) ?_;refine jT 0 [6,7,8,9,10,11] (aa 12 4095) ?_;refine jQ ?_))
  refine jZ (vs:=[_,_,_]) F ⟨F,F,F,trivial⟩ F ⟨hle,F,?_⟩
  rw [bE,hrd]
  exact ⟨_,_,_,F,hyes,hno⟩
 ·have hno : fM (rd (ag vs) n k) (e :: s) = none:=by unfold fM;dsimp only;rw [if_neg h91]
  refine jB [(0,_),(1,_),(2,_),(3,_)] Tryz.func50 Tryz.ntmps50 fun B hok hB hW=>?_
  repeat' (first | refine jM ?_ | (refine jo ?_;first | refine jO fun _=>?_ | refine aE F ?_) | refine aw F F F ?_ | (refine ac F (by first | rfl | (refine decide_eq_true ?_;(omega))) ?_) | refine ad F F ?_)
  refine jZ (vs:=[_,_,_]) F ⟨F,F,F,trivial⟩ F ⟨Gh.le.refl _,F,?_⟩
  rw [bE,hrd]
  exact ⟨_,_,_,F,fun h=>(by cases h),fun _=>hno⟩
theorem z9 {n : Nat} {u : Value} {vs : List cD} {k s : adB} {e : UInt8} (hR : kW n u vs) (h : SchR G u vs) (hk : aA (ag vs) (63 :: k) = true) (hs : s.length ≤ 1999999) (hn : n ≤ 999) :
  bG adA 50 [Ag [u],S (e :: s),S (63 :: k),I (n + 1 : Nat)] G (eT (ag vs) (rd (ag vs) (n + 1) (63 :: k) (e :: s)) (63 :: k)):=by
 have edn : ((n + 1 : Nat) : Int) - 1 = (n : Nat):=oM
 have hrd : rd (ag vs) (n + 1) (63 :: k) (e :: s) = if e.toNat = 45 then some (.nd 63 [] 0 [],s) else if e.toNat = 43 then (rd (ag vs) n k s).map fun x=>(.nd 63 [] 0 [x.1],x.2) else none:=by
  rw [rd];unfold fJ
  dsimp only
  rw [if_neg (show ¬ (63 : UInt8).toNat = 91 by decide),if_pos (show (63 : UInt8).toNat = 63 from rfl)]
 have he0 : bt (e :: s) (Int.toNat 0) = e.toNat:=bD e s
 have hel : (e :: s).length = s.length + 1:=rfl
 have hk0 : bt (63 :: k) (Int.toNat 0) = 63:=bD 63 k
 have hkl2 : (63 :: k).length = k.length + 1:=rfl
 rw [hrd]
 by_cases h45 : e.toNat = 45
 ·rw [if_pos h45]
  refine jB [(0,_),(1,_),(2,_),(3,_)] Tryz.func50 Tryz.ntmps50 fun B hok hB hW=>?_
  repeat' (first | refine jM ?_ | (refine jo ?_;first | refine jO fun _=>?_ | refine aE F ?_) | refine aw F F F ?_ | (refine ac F (by first | rfl | (refine decide_eq_true ?_;(omega))) ?_) | refine ad F F ?_ | (refine an (ao (id:=10) _ (fun _ h=>h) am ?_);refine jW 5 [0,3,4] (aa 8 25) ?_;(refine jG (aa 8 27) 1 F (ay F F) ?_);refine jA 2 F ?_;(refine jO fun _=>?_);refine jS (aa 8 31) ?_;refine jT 0 [5,6,7] (aa 8 255) ?_;refine jQ ?_))
  rename_i y
  refine Nx.sealC (b:=y) fun G2 hG2 hsy=>?_
  refine jZ (vs:=[_,_,_]) F ⟨F,F,F,trivial⟩ F ⟨hG2,F,?_⟩
  rw [bE]
  exact ⟨_,_,_,F,fun _=>⟨_,y,F,F,.non k y hsy⟩,fun h=>(by cases h)⟩
 rw [if_neg h45]
 by_cases h43 : e.toNat = 43
 ·rw [if_pos h43]
  have cx_rd:=hR G k s h (fI (.inr rfl) hk) oM
  rw [← edn] at cx_rd
  refine jB [(0,_),(1,_),(2,_),(3,_)] Tryz.func50 Tryz.ntmps50 fun B hok hB hW=>?_
  repeat' (first | refine jM ?_ | (refine jo ?_;first | refine jO fun _=>?_ | refine aE F ?_ | refine jV (ay F F) ?_ | refine jF fun _=>?_) | refine aw F F F ?_ | refine ac F F ?_ | (refine ad F (by first | rfl | (refine decide_eq_false ?_;(omega))) ?_) | (refine an (ao (id:=13) _ (fun _ h=>h) am ?_);refine jW 9 [1,2,3,4,5,6] (aa 15 126) ?_;(refine jG (aa 15 127) 0 F (bP F F F F) ?_);refine jA 7 F ?_;(refine ar F F F cx_rd F ?_;rintro _ G hle ⟨q1,r1,ok1,rfl,hyes,hno⟩;skip);refine jS (aa 15 255) ?_;refine jT 0 [8,9,10,11,12,13,14] (aa 15 32767) ?_;refine jQ ?_))
  rename_i y1 y8
  refine Nx.sealC (b:=y1) fun G2 hG2 hs1=>?_
  refine Nx.sealC (b:=y8) fun G3 hG3 hsg=>?_
  refine jZ (vs:=[_,_,_]) F ⟨F,F,F,trivial⟩ F ⟨((hle.trans hG2).trans hG3),F,?_⟩
  rw [bE]
  refine ⟨_,_,_,F,fun hb=>?_,fun hb=>by rw [hno hb];rfl⟩
  obtain ⟨w,wb,rfl,hf,hrep⟩:=hyes hb
  exact ⟨.nd 63 [] 0 [w],y8,F,by rw [hf];rfl,.opt k y8 y1 wb 1 w (Nat.le_refl _) hsg (hs1.mono hG3) (hrep.mono (hG2.trans hG3))⟩
 ·rw [if_neg h43]
  refine jB [(0,_),(1,_),(2,_),(3,_)] Tryz.func50 Tryz.ntmps50 fun B hok hB hW=>?_
  repeat' (first | refine jM ?_ | (refine jo ?_;first | refine jO fun _=>?_ | refine aE F ?_) | refine aw F F F ?_ | (refine ac F (by first | rfl | (refine decide_eq_true ?_;(omega))) ?_) | (refine ad F (by first | rfl | (refine decide_eq_false ?_;(omega))) ?_))
  refine jZ (vs:=[_,_,_]) F ⟨F,F,F,trivial⟩ F ⟨Gh.le.refl _,F,?_⟩
  rw [bE]
  exact ⟨_,_,_,F,fun h=>(by cases h),fun _=>rfl⟩
theorem aab {n : Nat} {u : Value} {vs : List cD} {k s : adB} {e : UInt8} {t : Ty} (hR : kW n u vs) (h : SchR G u vs) (hw : SchW (ag vs)) (hk : aA (ag vs) k = true) (hrf : a8 (ag vs) k = some t) (hs : s.length ≤ 1999999) (hn : n ≤ 999) :
  bG adA 50 [Ag [u],S (e :: s),S k,I (n + 1 : Nat)] G (eT (ag vs) (rd (ag vs) (n + 1) k (e :: s)) k):=by
 obtain ⟨r,rfl⟩:=dW hrf
 have hkk:=du (dL hk)
 have hrd : rd (ag vs) (n + 1) (64 :: r) (e :: s) = bA (ag vs) (rd (ag vs) n) t (e :: s):=by
  rw [rd];unfold fJ
  dsimp only
  rw [if_neg (show ¬ (64 : UInt8).toNat = 91 by decide),if_neg (show ¬ (64 : UInt8).toNat = 63 by decide),hrf]
 have hvl : vs.length ≤ 8:=by have:=hw.len;unfold ag at this;simpa using this
 have href:=fj vs (64 :: r)
 have cx_rf:=i9 (k:=64 :: r) h oM hkk.1 oM
 rcases hr : fg vs (64 :: r) with _ | x
 ·rw [hr,hrf] at href;cases href
 rw [hr] at href cx_rf
 have htx : x.2 = t:=by rw [hrf] at href;exact Option.some.inj href
 subst htx
 have hx:=gp hr
 have cx_na : bG adA 97 [Ag [u],S (e :: s),S (64 :: r),I (n + 1 : Nat)] G (eT (ag vs) (bA (ag vs) (rd (ag vs) n) x.2 (e :: s)) (64 :: r)):=by
  have hso:=(hw.ty _ (List.mem_map_of_mem hx)).sort
  by_cases h1 : x.2.sort = 82 ∧ e.toNat = 123
  ·obtain rfl:=bX h1.2 dC
   exact abJ hR h hw hx hrf cx_rf h1.1 hs oM oM
  by_cases h2 : x.2.sort = 69 ∧ e.toNat = 35
  ·obtain rfl:=bX h2.2 dC
   exact abK h hw hx hrf cx_rf h2.1 hs oM
  by_cases h3 : x.2.sort = 85 ∧ e.toNat = 60
  ·obtain rfl:=bX h3.2 dC
   exact abI hR h hw hx hrf cx_rf h3.1 hs oM
  refine abH h.sl.one cx_rf ?_ oM oM
  rcases hso with h4 | h4 | h4 <;> omega
 have hel : (e :: s).length = s.length + 1:=rfl
 have hk0 : bt (64 :: r) (Int.toNat 0) = 64:=bD 64 r
 have hkl2 : (64 :: r).length = r.length + 1:=rfl
 refine jB [(0,_),(1,_),(2,_),(3,_)] Tryz.func50 Tryz.ntmps50 fun B hok hB hW=>?_
 repeat' (first | refine jM ?_ | (refine jo ?_;first | refine jO fun _=>?_ | refine aE F ?_ | refine bM F ?_ | (refine ar F F F cx_na F ?_;rintro _ G hle ⟨q1,r1,ok1,rfl,hyes,hno⟩;skip)) | refine aw F F F ?_ | refine ac F F ?_ | refine ad F F ?_)
 refine jZ (vs:=[_,_,_]) F ⟨F,F,F,trivial⟩ F ⟨hle,F,?_⟩
 rw [bE,hrd]
 exact ⟨_,_,_,F,hyes,hno⟩
theorem z8 {n : Nat} {u : Value} {vs : List cD} {s : adB} {c e : UInt8} (hu : u.oneCell' = true) (hc : c = 110 ∨ c = 116 ∨ c = 102) (hr : a8 (ag vs) [c] = none) (hs : s.length ≤ 1999999) (hn : n ≤ 999) :
  bG adA 50 [Ag [u],S (e :: s),S [c],I (n + 1 : Nat)] G (eT (ag vs) (rd (ag vs) (n + 1) [c] (e :: s)) [c]):=by
 have hrd:=lL (ts:=ag vs) (n:=n) (s:=e :: s) hc hr
 have hel : (e :: s).length = s.length + 1:=rfl
 have cx_pl : bG adA 98 [Ag [u],S (e :: s),S [c]] G (eT (ag vs) (rd (ag vs) (n + 1) [c] (e :: s)) [c]):=by
  rw [hrd]
  rcases hc with rfl | rfl | rfl
  ·rw [if_pos rfl];exact yj hu oM
  ·rw [if_neg dC,if_pos rfl];exact yi hu oM (by simp)
  ·rw [if_neg dC,if_neg dC];exact yk hu oM
 clear hrd
 rcases hc with rfl | rfl | rfl
 all_goals
  refine jB [(0,_),(1,_),(2,_),(3,_)] Tryz.func50 Tryz.ntmps50 fun B hok hB hW=>?_
  repeat' (first | refine jX ?_ | (refine jo ?_;first | refine jO fun _=>?_ | refine aE F ?_ | refine bM F ?_ | (refine ar F F F cx_pl F ?_;rintro _ G hle ⟨q1,r1,ok1,rfl,hyes,hno⟩;skip)) | refine aw F F F ?_ | refine ad F F ?_)
  refine jZ (vs:=[_,_,_]) F ⟨F,F,F,trivial⟩ F ⟨hle,F,?_⟩
  rw [bE]
  exact ⟨_,_,_,F,hyes,hno⟩
theorem gq {u : Value} {vs : List cD} (hw : SchW (ag vs)) : ∀ n,n ≤ 1000 → kW n u vs
 | 0,_=>fun G k s _ _ _=>uZ (.inr rfl) oM
 | n + 1,hn=>fun G k s h hk hs=>by
  have hR:=gq (u:=u) (vs:=vs) hw n oM
  match s,hs with
  | [],_=>exact uZ (.inl F) hn
  | e :: s,hs =>
   simp only [List.length_cons] at hs
   match k,hk with
   | [],hk=>cases hk
   | c :: k,hk =>
    by_cases h1 : c.toNat = 91
    ·obtain rfl:=bX h1 dC
     exact aaa hR h hk oM oM
    by_cases h2 : c.toNat = 63
    ·obtain rfl:=bX h2 dC
     exact z9 hR h hk oM oM
    have h91 : ¬ (c.toNat = 91 ∨ c.toNat = 63):=fun h=>by rcases h with h | h <;> omega
    cases hr : a8 (ag vs) (c :: k) with
    | some t=>exact aab hR h hw hk hr oM oM
    | none =>
     rcases d7 hk h91 hr with e1 | e1 | e1
     all_goals
      simp only [List.cons.injEq] at e1
      obtain ⟨rfl,rfl⟩:=e1
      exact z8 h.sl.one (by simp) hr oM oM
theorem lx {s k w : adB} (h : s.length ≤ 1048576 ∧ k.length ≤ 1048576 ∧ w.length ≤ 1048576) (hno : cW s k w = none) : bG adA 21 [S s,S k,S w] G (fun v _=>∃ u q,v = Tu [u,.pointer q,Bo false]):=by
 by_cases hk : dA s k = true
 case neg =>
  have hk2 : dA s k = false:=by simpa using hk
  have cx_lk1 : ∀ G,bG adA 49 [S s,S k] G (fun v _=>∃ u,v = Tu [u,Bo false]):=fun G=>by
   refine (hY (G:=G) (s:=s) (k:=k) oM oM).mono ?_
   rintro v G' L' ⟨h1,h2,u,vs,rfl,_⟩
   exact ⟨h1,h2,u,by rw [hk2]⟩
  refine jB [(0,_),(1,_),(2,_)] Tryz.func21 Tryz.ntmps21 fun B hok hB hW=>?_
  repeat' (first | refine jR ?_ | (refine jo ?_;first | refine aP F ?_ | (refine ar F F F (cx_lk1 _) F ?_;rintro _ G hle ⟨u1,rfl⟩;skip)) | refine aG F F F ?_ | refine ac F F ?_)
  all_goals refine jZ (vs:=[_,_,_]) F ⟨F,F,F,trivial⟩ F ⟨hle,F,?_⟩
  all_goals exact ⟨_,_,F⟩
 obtain ⟨ts,hs,hki,hw⟩:=k7 hk
 have hvo : cq ts k w = none:=by unfold cW at hno;rw [hs] at hno;dsimp only at hno;rwa [if_pos hki] at hno
 have cx_lka : ∀ G,bG adA 49 [S s,S k] G (fun v G'=>∃ a c vs,v = Tu [.slice a vs.length c,Bo true] ∧ SchR G' (.slice a vs.length c) vs ∧ ag vs = ts):=fun G=>by
  refine (hY (G:=G) (s:=s) (k:=k) oM oM).mono ?_
  rintro v G' L' ⟨h1,h2,u,vs,rfl,h4,_,h6⟩
  obtain ⟨_,⟨rfl,h0⟩ | ⟨b,o,cap,rfl,_,_⟩⟩:=h4.sl
  ·exact ⟨h1,h2,none,0,vs,by rw [hk,h0],by rw [h0];exact h4,h6 ts hs hki⟩
  ·exact ⟨h1,h2,_,cap,vs,by rw [hk],h4,h6 ts hs hki⟩
 by_cases hl : w.length ≤ 400
 case neg =>
  refine jB [(0,_),(1,_),(2,_)] Tryz.func21 Tryz.ntmps21 fun B hok hB hW=>?_
  repeat' (first | refine jR ?_ | (refine jo ?_;first | refine aE F ?_ | (refine ar F F F (cx_lka _) F ?_;rintro _ G hle ⟨av1,cv1,vs1,rfl,hR1,hT1⟩;skip)) | refine aw F F F ?_ | refine ac F (ax oM) ?_)
  all_goals refine jZ (vs:=[_,_,_]) F ⟨F,F,F,trivial⟩ F ⟨hle,F,?_⟩
  all_goals exact ⟨_,_,F⟩
 refine jB [(0,_),(1,_),(2,_)] Tryz.func21 Tryz.ntmps21 fun B hok hB hW=>?_
 repeat' (first | refine jR ?_ | (refine jo ?_;first | refine aE F ?_ | refine jV (ay F F) ?_ | (refine ar F F F (cx_lka _) F ?_;rintro _ G hle ⟨av1,cv1,vs1,rfl,hR1,hT1⟩;skip)) | refine aw F F F ?_ | refine ad F (aF oM) ?_)
 have hR:=gq (u:=.slice av1 vs1.length cv1) (vs:=vs1) (by rw [hT1];exact hw) 12 oM G k w hR1 (by rw [hT1];exact hki) oM
 obtain ⟨f,hf⟩ : ∃ f,f = rd (ag vs1) 12 k w:=⟨_,rfl⟩
 rw [← hf] at hR
 have cx_rd:=hR
 clear hR
 repeat' (first | refine jR ?_ | (refine jo ?_;first | refine aP F ?_ | refine aE F ?_ | (refine ar F F F cx_rd F ?_;rintro _ G hle ⟨q1,r1,ok1,rfl,hyes,hno⟩;skip)) | refine m4 F F (fun _=>?_) (fun _=>?_))
 all_goals rename_i hok
 ·have hr : decide (r1 = []) = false:=decide_eq_false fun h=>by
   obtain ⟨v,b,_,h2,_⟩:=hyes hok
   unfold cq at hvo
   rw [if_pos hl,← hT1,← hf,h2,h] at hvo
   cases hvo
  refine jZ (vs:=[_,_,_]) F ⟨F,F,F,trivial⟩ F ⟨(Gh.le.trans aS hle),F,?_⟩
  exact ⟨_,_,by rw [hr];rfl⟩
 ·refine jZ (vs:=[_,_,_]) F ⟨F,F,F,trivial⟩ F ⟨(Gh.le.trans aS hle),F,?_⟩
  exact ⟨_,_,F⟩
theorem aah {s k w : adB} {v : V} {ts : List Ty} (h : s.length ≤ 1048576 ∧ k.length ≤ 1048576 ∧ w.length ≤ 1048576) (hs : bc s = some ts) (hki : aA ts k = true) (hvo : cq ts k w = some v) :
  bG adA 21 [S s,S k,S w] G (fun r G'=>∃ u b,r = Tu [u,Pt b 0,Bo true] ∧ RepR G' ts v k b):=by
 have hw:=d9 hs
 have hk : dA s k = true:=by unfold dA;rw [hs];exact hki
 have hl : w.length ≤ 400:=by
  by_cases hl : w.length ≤ 400
  ·exact hl
  ·unfold cq at hvo;rw [if_neg hl] at hvo;cases hvo
 have h12 : rd ts 12 k w = some (v,[]):=by
  unfold cq at hvo
  rw [if_pos hl] at hvo
  split at hvo
  ·rename_i v' hv;rw [hv];exact congrArg (fun x=>some (x,[])) (Option.some.inj hvo)
  ·cases hvo
 have cx_lka : ∀ G,bG adA 49 [S s,S k] G (fun v G'=>∃ a c vs,v = Tu [.slice a vs.length c,Bo true] ∧ SchR G' (.slice a vs.length c) vs ∧ ag vs = ts):=fun G=>by
  refine (hY (G:=G) (s:=s) (k:=k) oM oM).mono ?_
  rintro v G' L' ⟨h1,h2,u,vs,rfl,h4,_,h6⟩
  obtain ⟨_,⟨rfl,h0⟩ | ⟨b,o,cap,rfl,_,_⟩⟩:=h4.sl
  ·exact ⟨h1,h2,none,0,vs,by rw [hk,h0],by rw [h0];exact h4,h6 ts hs hki⟩
  ·exact ⟨h1,h2,_,cap,vs,by rw [hk],h4,h6 ts hs hki⟩
 refine jB [(0,_),(1,_),(2,_)] Tryz.func21 Tryz.ntmps21 fun B hok hB hW=>?_
 repeat' (first | refine jR ?_ | (refine jo ?_;first | refine aE F ?_ | refine jV (ay F F) ?_ | (refine ar F F F (cx_lka _) F ?_;rintro _ G hle ⟨av1,cv1,vs1,rfl,hR1,hT1⟩;skip)) | refine aw F F F ?_ | refine ad F (aF oM) ?_)
 subst hT1
 have cx_rd : bG adA 50 [Ag [.slice av1 vs1.length cv1],S w,S k,I (12 : Nat)] G (fun r G'=>∃ b,r = Tu [Pt b 0,S [],Bo true] ∧ RepR G' (ag vs1) v k b):=by
  refine (gq (u:=.slice av1 vs1.length cv1) (vs:=vs1) hw 12 oM G k w hR1 hki oM).mono ?_
  rintro r G' L' ⟨h1,h2,q,rest,ok,rfl,h3,h4⟩
  cases ok with
  | false=>rw [h12] at h4;cases h4 rfl
  | true =>
   obtain ⟨v',b,rfl,h5,h6⟩:=h3 rfl
   rw [h12] at h5
   simp only [Option.some.injEq,Prod.mk.injEq] at h5
   obtain ⟨rfl,rfl⟩:=h5
   exact ⟨h1,h2,b,F,h6⟩
 refine jo ?_
 refine ar F F F cx_rd F ?_
 rintro _ G2 hle2 ⟨b,rfl,hrep⟩
 repeat' (first | refine jR ?_ | (refine jo ?_;refine aP F ?_) | refine aG F F F ?_)
 refine jZ (vs:=[_,_,_]) F ⟨F,F,F,trivial⟩ F ⟨(Gh.le.trans hle hle2),F,?_⟩
 exact ⟨_,b,F,hrep⟩
def wfW (w : Nat) (x : adB) (t : Int) (ks : List V) : Prop :=
 (w = 110 ∧ ks = [] ∧ t = 0 ∧ ∃ n : Int,0 ≤ n ∧ n ≤ 999999 ∧ x = be n ∧ aN x 999999 = some n)
 ∨ (w = 116 ∧ ks = [] ∧ t = 0 ∧ d6 (39 :: (x ++ [39])) = true)
 ∨ (w = 102 ∧ ks = [] ∧ t = 0 ∧ (x = [121,101,115] ∨ x = [110,111]))
 ∨ (w = 91 ∧ x = [] ∧ t = 0 ∧ ks.length ≤ 20 ∧ ∀ v ∈ ks,v.what ≠ 61)
 ∨ (w = 63 ∧ x = [] ∧ t = 0 ∧ ks.length ≤ 1 ∧ ∀ v ∈ ks,v.what ≠ 61)
 ∨ (w = 69 ∧ x = [] ∧ 0 ≤ t ∧ t ≤ 200 ∧ ks = [])
 ∨ (w = 85 ∧ x = [] ∧ 0 ≤ t ∧ t ≤ 200 ∧ ks.length = 1 ∧ ∀ v ∈ ks,v.what ≠ 61)
 ∨ (w = 61 ∧ x = [] ∧ 0 ≤ t ∧ t ≤ 200 ∧ ks.length = 1 ∧ ∀ v ∈ ks,v.what ≠ 61)
 ∨ (w = 82 ∧ x = [] ∧ t = 0 ∧ ks.Pairwise (fun a b=>a.tag < b.tag) ∧ ∀ v ∈ ks,v.what = 61)
mutual
def V.wf : V → Prop
 | .nd w x t ks=>wfW w x t ks ∧ V.wfs ks
def V.wfs : List V → Prop
 | []=>True
 | v :: r=>V.wf v ∧ V.wfs r
end
theorem ql : ∀ {ks : List V},V.wfs ks ↔ ∀ v ∈ ks,v.wf
 | []=>by simp [V.wfs]
 | v :: r=>by rw [V.wfs,ql (ks:=r)];simp
theorem uT : ∀ (s : adB) {n m : Int},0 ≤ n → dv n s = some m → 0 ≤ m
 | [],n,m,h,e=>by simp only [dv,Option.some.injEq] at e;omega
 | c :: s,n,m,h,e=>by
  unfold dv at e
  split at e
  ·exact uT s oM e
  ·cases e
theorem lS {s : adB} {top n : Int} (h : aN s top = some n) : 0 ≤ n:=by
 unfold aN at h
 split at h
 ·split at h
  ·split at h
   ·rename_i h1 _ _ _ h2;simp only [Option.some.injEq] at h;subst h;exact uT _ (Int.le_refl 0) aS
   ·cases h
  ·cases h
 ·cases h
theorem lN {top : Int} {s r : adB} {n : Int} (h : cM top s = some (n,r)) : 0 ≤ n ∧ n ≤ top ∧ aN (be n) top = some n:=by
 unfold cM at h
 cases hn : aN (s.takeWhile br) top with
 | none=>rw [hn] at h;cases h
 | some m =>
  rw [hn] at h
  simp only [Option.map_some,Option.some.injEq,Prod.mk.injEq] at h
  obtain ⟨rfl,_⟩:=h
  obtain ⟨h1,h2,_⟩:=ed hn
  exact ⟨lS hn,h1,by rw [← h2];exact hn⟩
theorem kZ {f : adB → Option (V × adB)} : ∀ (m : Nat) (s : adB) (acc : List V) {x : List V × adB},bJ f m s acc = some x → x.1.length ≤ acc.length + m
 | 0,_,_,_,e=>by cases e
 | m + 1,s,acc,x,e=>by
  unfold bJ at e
  cases hf : f s with
  | none=>rw [hf] at e;cases e
  | some y =>
   rw [hf] at e
   obtain ⟨v,r⟩:=y
   cases r with
   | nil=>cases e
   | cons c r =>
    dsimp only at e
    split at e
    ·have:=kZ m r _ e
     simp only [List.length_append,List.length_singleton] at this;omega
    ·split at e
     ·simp only [Option.some.injEq] at e;subst e
      simp only [List.length_append,List.length_singleton];omega
     ·cases e
theorem pF {f : adB → adB → Option (V × adB)} {t : Ty} {s : adB} {x : (Fld × V) × adB} (e : aY f t s = some x) : 0 ≤ x.1.1.tag ∧ x.1.1.tag ≤ 200:=by
 unfold aY at e
 cases hn : cM 200 s with
 | none=>rw [hn] at e;cases e
 | some y =>
  rw [hn] at e
  obtain ⟨n,r⟩:=y
  have h1:=lN hn
  dsimp only at e
  cases hd : co t.fields n with
  | none=>rw [hd] at e;cases e
  | some d =>
   rw [hd] at e
   have h2 : d.tag = n:=by have:=List.find?_some hd;simpa using this
   cases r with
   | nil=>cases e
   | cons c r' =>
    dsimp only at e
    by_cases hc : c.toNat = 61
    ·rw [if_pos hc] at e
     cases hf : f d.kind r' with
     | none=>rw [hf] at e;cases e
     | some y =>
      rw [hf] at e
      simp only [Option.map_some,Option.some.injEq] at e
      subst e
      dsimp only;omega
    ·rw [if_neg hc] at e;cases e
theorem qZ {ts : List Ty} {f : adB → adB → Option (V × adB)} (h : ∀ k s y,f k s = some y → y.1.wf ∧ y.1.what ≠ 61) {t : Ty} : ∀ (m : Nat) (last : Int) (s : adB) (acc : List V) {x : List V × adB},ck ts f t m last s acc = some x → (∀ v ∈ acc,v.wf ∧ v.what = 61 ∧ v.tag ≤ last) → acc.Pairwise (fun a b=>a.tag < b.tag) → (∀ v ∈ x.1,v.wf ∧ v.what = 61) ∧ x.1.Pairwise (fun a b=>a.tag < b.tag)
 | 0,_,_,_,_,e,_,_=>by cases e
 | m + 1,last,s,acc,x,e,ha,hp=>by
  unfold ck at e
  cases hf : aY f t s with
  | none=>rw [hf] at e;cases e
  | some y =>
   rw [hf] at e
   obtain ⟨_,s',hy⟩:=gg hf
   have ht:=pF hf
   obtain ⟨⟨d,v⟩,r⟩:=y
   dsimp only at e hy ht
   obtain ⟨hv1,hv2⟩:=h _ _ _ hy
   dsimp only at hv1 hv2
   split at e
   ·cases e
   ·rename_i hd
    have hd' : last < d.tag:=oM
    have hw : V.wf (.nd 61 [] d.tag [v]):=by
     rw [V.wf]
     refine ⟨.inr (.inr (.inr (.inr (.inr (.inr (.inr (.inl ⟨F,F,ht.1,ht.2,F,?_⟩))))))),?_,trivial⟩
     ·intro u hu;simp only [List.mem_singleton] at hu;subst hu;exact hv2
     ·exact hv1
    have ha2 : ∀ u ∈ acc ++ [V.nd 61 [] d.tag [v]],u.wf ∧ u.what = 61 ∧ u.tag ≤ d.tag:=fun u hu=>by
     rcases List.mem_append.1 hu with hu | hu
     ·obtain ⟨a1,a2,a3⟩:=ha u hu;exact ⟨a1,a2,oM⟩
     ·simp only [List.mem_singleton] at hu;subst hu;exact ⟨hw,F,Int.le_refl _⟩
    have hp2 : (acc ++ [V.nd 61 [] d.tag [v]]).Pairwise (fun a b=>a.tag < b.tag):=by
     rw [List.pairwise_append]
     refine ⟨hp,List.pairwise_singleton _ _,fun a hA b hB=>?_⟩
     simp only [List.mem_singleton] at hB;subst hB
     have:=(ha a hA).2.2
     show a.tag < d.tag
     omega
    cases r with
    | nil=>cases e
    | cons c r =>
     dsimp only at e
     split at e
     ·exact qZ h m _ r _ e ha2 hp2
     ·split at e
      ·simp only [Option.some.injEq] at e;subst e
       exact ⟨fun u hu=>⟨(ha2 u hu).1,(ha2 u hu).2.1⟩,hp2⟩
      ·cases e
theorem yF {ts : List Ty} : ∀ (n : Nat) (k s : adB) (x : V × adB),rd ts n k s = some x → x.1.wf ∧ x.1.what ≠ 61
 | 0,_,_,_,e=>by cases e
 | n + 1,k,s,x,e=>by
  have ih : ∀ k s y,rd ts n k s = some y → y.1.wf ∧ y.1.what ≠ 61:=fun k s y hy=>yF n k s y hy
  have h:=qr k s (x:=x) e
  obtain ⟨v,r⟩:=x
  dsimp only at h ⊢
  cases h with
  | lst0=>exact ⟨by rw [V.wf];exact ⟨.inr (.inr (.inr (.inl ⟨F,F,F,by simp,by simp⟩))),trivial⟩,by simp [V.what]⟩
  | lst k s r vs h =>
   have h1:=kZ _ _ _ h
   have h2:=i7 (p:=fun v=>v.wf ∧ v.what ≠ 61) (fun s y hy=>ih k s y hy) _ _ _ h (by simp)
   refine ⟨by rw [V.wf];exact ⟨.inr (.inr (.inr (.inl ⟨F,F,F,by simpa using h1,fun v hv=>(h2 v hv).2⟩))),ql.2 fun v hv=>(h2 v hv).1⟩,by simp [V.what]⟩
  | non=>exact ⟨by rw [V.wf];exact ⟨.inr (.inr (.inr (.inr (.inl ⟨F,F,F,by simp,by simp⟩)))),trivial⟩,by simp [V.what]⟩
  | opt k s r v h =>
   have h1:=ih _ _ _ h
   have h2 : ∀ u ∈ [v],u.what ≠ 61:=fun u hu=>by simp only [List.mem_singleton] at hu;subst hu;exact h1.2
   exact ⟨by rw [V.wf];exact ⟨.inr (.inr (.inr (.inr (.inl ⟨F,F,F,by simp,h2⟩)))),h1.1,trivial⟩,by simp [V.what]⟩
  | num k s r n _ h =>
   have h1:=lN h
   exact ⟨by rw [V.wf];exact ⟨.inl ⟨F,F,F,n,h1.1,h1.2.1,F,h1.2.2⟩,trivial⟩,by simp [V.what]⟩
  | txt k s r v _ h =>
   unfold dP at h
   split at h
   ·cases h
   ·split at h
    ·split at h
     ·split at h
      ·rename_i hx
       simp only [Option.some.injEq,Prod.mk.injEq] at h
       obtain ⟨rfl,_⟩:=h
       exact ⟨by rw [V.wf];exact ⟨.inr (.inl ⟨F,F,F,hx⟩),trivial⟩,by simp [V.what]⟩
      ·cases h
     ·cases h
    ·cases h
  | flg k s r v _ h =>
   unfold eO at h
   split at h
   ·simp only [Option.some.injEq,Prod.mk.injEq] at h
    obtain ⟨rfl,_⟩:=h
    exact ⟨by rw [V.wf];exact ⟨.inr (.inr (.inl ⟨F,F,F,.inl F⟩)),trivial⟩,by simp [V.what]⟩
   ·split at h
    ·simp only [Option.some.injEq,Prod.mk.injEq] at h
     obtain ⟨rfl,_⟩:=h
     exact ⟨by rw [V.wf];exact ⟨.inr (.inr (.inl ⟨F,F,F,.inr F⟩)),trivial⟩,by simp [V.what]⟩
    ·cases h
  | recd0=>exact ⟨by rw [V.wf];exact ⟨.inr (.inr (.inr (.inr (.inr (.inr (.inr (.inr ⟨F,F,F,by simp,by simp⟩))))))),trivial⟩,by simp [V.what]⟩
  | recd k s r t vs _ _ h =>
   have h1:=qZ ih _ _ _ _ h (by simp) (by simp)
   exact ⟨by rw [V.wf];exact ⟨.inr (.inr (.inr (.inr (.inr (.inr (.inr (.inr ⟨F,F,F,h1.2,fun v hv=>(h1.1 v hv).2⟩))))))),ql.2 fun v hv=>(h1.1 v hv).1⟩,by simp [V.what]⟩
  | enm k s r t n _ _ h _ =>
   have h1:=lN h
   exact ⟨by rw [V.wf];exact ⟨.inr (.inr (.inr (.inr (.inr (.inl ⟨F,F,h1.1,h1.2.1,F⟩))))),trivial⟩,by simp [V.what]⟩
  | uni k s r t d v _ _ _ h =>
   obtain ⟨_,s',hy⟩:=gg h
   have ht:=pF h
   have h1:=ih _ _ _ hy
   have h2 : ∀ u ∈ [v],u.what ≠ 61:=fun u hu=>by simp only [List.mem_singleton] at hu;subst hu;exact h1.2
   exact ⟨by rw [V.wf];exact ⟨.inr (.inr (.inr (.inr (.inr (.inr (.inl ⟨F,F,ht.1,ht.2,F,h2⟩)))))),h1.1,trivial⟩,by simp [V.what]⟩
theorem xn {ts : List Ty} {k s : adB} {v : V} (h : cq ts k s = some v) : v.wf ∧ v.what ≠ 61:=by
 unfold cq at h
 split at h
 ·split at h
  ·rename_i hr
   simp only [Option.some.injEq] at h;subst h
   exact yF _ _ _ _ hr
  ·cases h
 ·cases h
abbrev aq (p : Fld × V) : V:=.nd 61 [] p.1.tag [p.2]
inductive OfK (ts : List Ty) : adB → V → Prop
 | num (k : adB) (n : Int) : 0 ≤ n → n ≤ 999999 → OfK ts (110 :: k) (.nd 110 (be n) 0 [])
 | txt (k x : adB) : d6 (39 :: (x ++ [39])) = true → OfK ts (116 :: k) (.nd 116 x 0 [])
 | flg (k x : adB) : x = [121,101,115] ∨ x = [110,111] → OfK ts (102 :: k) (.nd 102 x 0 [])
 | lst (k : adB) (ks : List V) : ks.length ≤ 20 → (∀ v ∈ ks,OfK ts k v) → OfK ts (91 :: k) (.nd 91 [] 0 ks)
 | non (k : adB) : OfK ts (63 :: k) (.nd 63 [] 0 [])
 | opt (k : adB) (v : V) : OfK ts k v → OfK ts (63 :: k) (.nd 63 [] 0 [v])
 | recd (k : adB) (t : Ty) (fs : List (Fld × V)) : a8 ts k = some t → t.sort = 82 → (∀ p ∈ fs,p.1 ∈ t.fields) → (∀ p ∈ fs,OfK ts p.1.kind p.2) → (∀ p ∈ fs,p.2.out ≠ bR ts p.1) → fs.Pairwise (fun a b=>a.1.tag < b.1.tag) → OfK ts k (.nd 82 [] 0 (fs.map aq))
 | enm (k : adB) (t : Ty) (d : Fld) : a8 ts k = some t → t.sort = 69 → d ∈ t.fields → OfK ts k (.nd 69 [] d.tag [])
 | uni (k : adB) (t : Ty) (d : Fld) (v : V) : a8 ts k = some t → t.sort ≠ 82 → t.sort ≠ 69 → d ∈ t.fields → OfK ts d.kind v → OfK ts k (.nd 85 [] d.tag [v])
theorem q8 {ts : List Ty} {f : adB → adB → Option (V × adB)} (h : ∀ k s y,f k s = some y → OfK ts k y.1) {t : Ty} : ∀ (m : Nat) (last : Int) (s : adB) (fs : List (Fld × V)) {x : List V × adB},ck ts f t m last s (fs.map aq) = some x → (∀ p ∈ fs,p.1 ∈ t.fields ∧ OfK ts p.1.kind p.2 ∧ p.2.out ≠ bR ts p.1 ∧ p.1.tag ≤ last) → fs.Pairwise (fun a b=>a.1.tag < b.1.tag) →
  ∃ gs : List (Fld × V),x.1 = gs.map aq ∧ (∀ p ∈ gs,p.1 ∈ t.fields ∧ OfK ts p.1.kind p.2 ∧ p.2.out ≠ bR ts p.1) ∧ gs.Pairwise (fun a b=>a.1.tag < b.1.tag)
 | 0,_,_,_,_,e,_,_=>by cases e
 | m + 1,last,s,fs,x,e,ha,hp=>by
  unfold ck at e
  cases hf : aY f t s with
  | none=>rw [hf] at e;cases e
  | some y =>
   rw [hf] at e
   obtain ⟨hd1,s',hy⟩:=gg hf
   obtain ⟨⟨d,v⟩,r⟩:=y
   dsimp only at e hy hd1
   have hv:=h _ _ _ hy
   dsimp only at hv
   split at e
   ·cases e
   ·rename_i hd
    have hd' : last < d.tag:=oM
    have hne : v.out ≠ bR ts d:=fun h=>hd (.inr h)
    have e2 : fs.map aq ++ [V.nd 61 [] d.tag [v]] = (fs ++ [(d,v)]).map aq:=by simp
    have ha2 : ∀ p ∈ fs ++ [(d,v)],p.1 ∈ t.fields ∧ OfK ts p.1.kind p.2 ∧ p.2.out ≠ bR ts p.1 ∧ p.1.tag ≤ d.tag:=fun p hu=>by
     rcases List.mem_append.1 hu with hu | hu
     ·obtain ⟨a1,a2,a3,a4⟩:=ha p hu;exact ⟨a1,a2,a3,oM⟩
     ·simp only [List.mem_singleton] at hu;subst hu;exact ⟨hd1,hv,hne,Int.le_refl _⟩
    have hp2 : (fs ++ [(d,v)]).Pairwise (fun a b=>a.1.tag < b.1.tag):=by
     rw [List.pairwise_append]
     refine ⟨hp,List.pairwise_singleton _ _,fun a hA b hB=>?_⟩
     simp only [List.mem_singleton] at hB;subst hB
     have:=(ha a hA).2.2.2
     show a.1.tag < d.tag
     omega
    rw [e2] at e
    cases r with
    | nil=>cases e
    | cons c r =>
     dsimp only at e
     split at e
     ·exact q8 h m _ r _ e ha2 hp2
     ·split at e
      ·simp only [Option.some.injEq] at e;subst e
       exact ⟨_,F,fun p hp=>⟨(ha2 p hp).1,(ha2 p hp).2.1,(ha2 p hp).2.2.1⟩,hp2⟩
      ·cases e
theorem py {ts : List Ty} : ∀ (n : Nat) (k s : adB) (x : V × adB),rd ts n k s = some x → OfK ts k x.1
 | 0,_,_,_,e=>by cases e
 | n + 1,k,s,x,e=>by
  have ih : ∀ k s y,rd ts n k s = some y → OfK ts k y.1:=fun k s y hy=>py n k s y hy
  have h:=qr k s (x:=x) e
  obtain ⟨v,r⟩:=x
  dsimp only at h ⊢
  cases h with
  | lst0=>exact .lst _ _ (by simp) (by simp)
  | lst k s r vs h =>
   have h1:=kZ _ _ _ h
   exact .lst _ _ (by simpa using h1) (i7 (p:=fun v=>OfK ts k v) (fun s y hy=>ih k s y hy) _ _ _ h (by simp))
  | non=>exact .non _
  | opt k s r v h=>exact .opt _ _ (ih _ _ _ h)
  | num k s r n _ h=>have h1:=lN h;exact .num _ _ h1.1 h1.2.1
  | txt k s r v _ h =>
   unfold dP at h
   split at h
   ·cases h
   ·split at h
    ·split at h
     ·split at h
      ·rename_i hx
       simp only [Option.some.injEq,Prod.mk.injEq] at h
       obtain ⟨rfl,_⟩:=h
       exact .txt _ _ hx
      ·cases h
     ·cases h
    ·cases h
  | flg k s r v _ h =>
   unfold eO at h
   split at h
   ·simp only [Option.some.injEq,Prod.mk.injEq] at h
    obtain ⟨rfl,_⟩:=h
    exact .flg _ _ (.inl F)
   ·split at h
    ·simp only [Option.some.injEq,Prod.mk.injEq] at h
     obtain ⟨rfl,_⟩:=h
     exact .flg _ _ (.inr F)
    ·cases h
  | recd0 k r t h1 h2=>exact .recd _ t [] h1 h2 (by simp) (by simp) (by simp) (by simp)
  | recd k s r t vs h1 h2 h =>
   obtain ⟨gs,e1,e2,e3⟩:=q8 (fs:=[]) ih _ _ _ h (by simp) (by simp)
   dsimp only at e1
   subst e1
   exact .recd _ t gs h1 h2 (fun p hp=>(e2 p hp).1) (fun p hp=>(e2 p hp).2.1) (fun p hp=>(e2 p hp).2.2) e3
  | enm k s r t n h1 h2 h h3 =>
   obtain ⟨d,hd⟩:=Option.isSome_iff_exists.1 h3
   have hdt : d.tag = n:=by have:=List.find?_some hd;simpa using this
   rw [← hdt]
   exact .enm _ t d h1 h2 (List.mem_of_find?_eq_some hd)
  | uni k s r t d v h1 h2 h3 h =>
   obtain ⟨a1,s',hy⟩:=gg h
   exact .uni _ t d v h1 h2 h3 a1 (ih _ _ _ hy)
theorem dq {ts : List Ty} {k s : adB} {v : V} (h : cq ts k s = some v) : OfK ts k v:=by
 unfold cq at h
 split at h
 ·split at h
  ·rename_i hr
   simp only [Option.some.injEq] at h;subst h
   exact py _ _ _ _ hr
  ·cases h
 ·cases h
theorem eW {t : Ty} (hw : TyW t) {d d' : Fld} (h1 : d ∈ t.fields) (h2 : d' ∈ t.fields) (he : d.tag = d'.tag) : d = d':=by
 have hp:=hw.asc
 obtain ⟨i,hi,rfl⟩:=List.mem_iff_getElem.1 h1
 obtain ⟨j,hj,rfl⟩:=List.mem_iff_getElem.1 h2
 rw [List.pairwise_iff_getElem] at hp
 rcases Nat.lt_trichotomy i j with h | h | h
 ·have:=(hp i j hi hj h).1;omega
 ·subst h;rfl
 ·have:=(hp j i hj hi h).1;omega
theorem dw {ts : List Ty} {k : adB} {t : Ty} {c : UInt8} {r : adB} (h : a8 ts k = some t) (hk : k = c :: r) (hc : c.toNat ≠ 64) : False:=by
 subst hk
 have : cx (c :: r) = none:=by unfold cx;exact if_neg hc
 unfold a8 at h
 rw [this] at h
 cases h
theorem bH {ts : List Ty} {k : adB} {u : V} {t : Ty} (h : OfK ts k u) (hr : a8 ts k = some t) :
  (t.sort = 82 ∧ ∃ fs : List (Fld × V),u = .nd 82 [] 0 (fs.map aq) ∧ (∀ p ∈ fs,p.1 ∈ t.fields) ∧ (∀ p ∈ fs,OfK ts p.1.kind p.2) ∧ (∀ p ∈ fs,p.2.out ≠ bR ts p.1) ∧ fs.Pairwise (fun a b=>a.1.tag < b.1.tag))
  ∨ (t.sort = 69 ∧ ∃ d,u = .nd 69 [] d.tag [] ∧ d ∈ t.fields) ∨ (t.sort ≠ 82 ∧ t.sort ≠ 69 ∧ ∃ d v,u = .nd 85 [] d.tag [v] ∧ d ∈ t.fields ∧ OfK ts d.kind v):=by
 cases h with
 | num=>exact (dw hr F dC).elim
 | txt=>exact (dw hr F dC).elim
 | flg=>exact (dw hr F dC).elim
 | lst=>exact (dw hr F dC).elim
 | non=>exact (dw hr F dC).elim
 | opt=>exact (dw hr F dC).elim
 | recd _ t' fs g1 g2 g3 g4 g5 g6=>rw [hr] at g1;obtain rfl:=Option.some.inj g1;exact .inl ⟨g2,fs,F,g3,g4,g5,g6⟩
 | enm _ t' d g1 g2 g3=>rw [hr] at g1;obtain rfl:=Option.some.inj g1;exact .inr (.inl ⟨g2,d,F,g3⟩)
 | uni _ t' d v g1 g2 g3 g4 g5=>rw [hr] at g1;obtain rfl:=Option.some.inj g1;exact .inr (.inr ⟨g2,g3,d,v,F,g4,g5⟩)
theorem di {ts : List Ty} {c : UInt8} {k : adB} {u : V} (h : OfK ts (c :: k) u) (hc : c.toNat ≠ 64) :
  (c.toNat = 110 ∧ ∃ n : Int,0 ≤ n ∧ n ≤ 999999 ∧ u = .nd 110 (be n) 0 []) ∨ (c.toNat = 116 ∧ ∃ x,d6 (39 :: (x ++ [39])) = true ∧ u = .nd 116 x 0 []) ∨ (c.toNat = 102 ∧ ∃ x,(x = [121,101,115] ∨ x = [110,111]) ∧ u = .nd 102 x 0 [])
  ∨ (c.toNat = 91 ∧ ∃ ks,ks.length ≤ 20 ∧ (∀ v ∈ ks,OfK ts k v) ∧ u = .nd 91 [] 0 ks) ∨ (c.toNat = 63 ∧ (u = .nd 63 [] 0 [] ∨ ∃ v,OfK ts k v ∧ u = .nd 63 [] 0 [v])):=by
 generalize hk : c :: k = k' at h
 cases h with
 | num k n h1 h2=>injection hk with e1 e2;subst e1;exact .inl ⟨F,n,h1,h2,F⟩
 | txt k x h1=>injection hk with e1 e2;subst e1;exact .inr (.inl ⟨F,x,h1,F⟩)
 | flg k x h1=>injection hk with e1 e2;subst e1;exact .inr (.inr (.inl ⟨F,x,h1,F⟩))
 | lst k ks h1 h2=>injection hk with e1 e2;subst e1;subst e2;exact .inr (.inr (.inr (.inl ⟨F,ks,h1,h2,F⟩)))
 | non k=>injection hk with e1 e2;subst e1;exact .inr (.inr (.inr (.inr ⟨F,.inl F⟩)))
 | opt k v h1=>injection hk with e1 e2;subst e1;subst e2;exact .inr (.inr (.inr (.inr ⟨F,.inr ⟨v,h1,F⟩⟩)))
 | recd _ t' fs g1=>exact (dw g1 hk.symm hc).elim
 | enm _ t' d g1=>exact (dw g1 hk.symm hc).elim
 | uni _ t' d v g1=>exact (dw g1 hk.symm hc).elim
theorem cV {s k w : adB} {u : V} (hg : cW s k w = some u) : ∃ ts,bc s = some ts ∧ aA ts k = true ∧ cq ts k w = some u ∧ u.tot ≤ 40000 ∧ u.wf:=by
 obtain ⟨ts,hs,hki,hvo⟩ : ∃ ts,bc s = some ts ∧ aA ts k = true ∧ cq ts k w = some u:=by
  unfold cW at hg
  cases hs : bc s with
  | none=>rw [hs] at hg;cases hg
  | some ts =>
   rw [hs] at hg
   dsimp only at hg
   by_cases hk : aA ts k = true
   ·rw [if_pos hk] at hg;exact ⟨ts,F,hk,hg⟩
   ·rw [if_neg hk] at hg;cases hg
 refine ⟨ts,hs,hki,hvo,?_,(xn hvo).1⟩
 unfold cq at hvo
 split at hvo
 ·split at hvo
  ·rename_i v hv
   obtain rfl:=Option.some.inj hvo
   have:=gr _ _ _ _ hv
   dsimp only at this;omega
  ·cases hvo
 ·cases hvo
def adm (w : Nat) (x : adB) (t : Int) (js : List adB) : adB :=
 if w = 110 then [u8 ((aN x 999999).getD 0 / 65536),u8 ((aN x 999999).getD 0 / 256),u8 ((aN x 999999).getD 0)] else if w = 116 then x ++ [0] else if w = 102 then (if x = [121,101,115] then [1] else [0]) else if w = 69 then [u8 t]
 else if w = 63 ∧ js = [] then [0] else if w = 85 ∨ w = 61 then u8 t :: js.flatten else if w = 63 then (js.map (1 :: ·)).flatten else (js.map (1 :: ·)).flatten ++ [0]
mutual
def V.key : V → adB
 | .nd w x t ks=>adm w x t (V.keys ks)
def V.keys : List V → List adB
 | []=>[]
 | v :: r=>V.key v :: V.keys r
end
theorem wh {i : Int} (h : 0 ≤ i ∧ i ≤ 9) : (u8 (48 + i)).toNat = (48 + i).toNat:=by have:=jc (a:=48 + i) oM;omega
theorem rD : ∀ (s : adB) {n m : Int} {c : UInt8},dv n s = some m → 48 ≤ c.toNat ∧ c.toNat ≤ 57 → dv n (s ++ [c]) = some (10 * m + ((c.toNat : Int) - 48))
 | [],n,m,c,h,hc=>by simp only [dv,Option.some.injEq] at h;subst h;simp only [List.nil_append,dv,if_pos hc]
 | d :: s,n,m,c,h,hc=>by
  unfold dv at h
  split at h
  ·rename_i hd
   have:=rD s h hc
   simp only [List.cons_append]
   unfold dv
   rw [if_pos hd];exact this
  ·cases h
theorem ig : ∀ (k : Nat) {m : Int},m.toNat ≤ k → 0 ≤ m → dv 0 (be m) = some m ∧ ∀ c ∈ be m,br c = true:=by
 intro k
 induction k with
 | zero =>
  intro m hk h0
  have : m = 0:=oM
  subst this
  rw [dZ dC dC]
  exact ⟨by decide,by intro c hc;simp only [List.mem_singleton] at hc;subst hc;decide⟩
 | succ k ih =>
  intro m hk h0
  by_cases h : m < 10
  ·have hd:=wh (i:=m) oM
   have hd2 : br (u8 (48 + m)) = true:=by unfold br;rw [decide_eq_true_eq];omega
   rw [dZ h h0]
   refine ⟨?_,fun c hc=>by simp only [List.mem_singleton] at hc;subst hc;exact hd2⟩
   unfold dv dv
   rw [if_pos oM];congr 1;omega
  ·obtain ⟨h1,h2⟩:=ih (m:=m / 10) oM oM
   have hd:=wh (i:=m % 10) oM
   have hd2 : br (u8 (48 + m % 10)) = true:=by unfold br;rw [decide_eq_true_eq];omega
   rw [iU h]
   refine ⟨by rw [rD _ h1 oM];congr 1;omega,fun c hc=>?_⟩
   rcases List.mem_append.1 hc with hc | hc
   ·exact h2 c hc
   ·simp only [List.mem_singleton] at hc;subst hc;exact hd2
theorem kw {m : Int} (h : m ≤ 999999) : (be m).length ≤ 6:=uV _ 5 oM
theorem jy {m top : Int} (h0 : 0 ≤ m) (h1 : m ≤ top) (ht : top ≤ 999999) : aN (be m) top = some m:=by
 unfold aN
 rw [if_pos (kw oM),(ig _ (Nat.le_refl _) h0).1]
 dsimp only
 rw [if_pos ⟨rfl,h1⟩]
def Dl (s : adB) : Prop:=∀ c r,s = c :: r → br c = false
theorem j7 {c : UInt8} {r : adB} (h : br c = false) : Dl (c :: r):=fun d s e=>by injection e with e1 e2;subst e1;exact h
theorem lk : Dl []:=fun _ _ e=>by cases e
theorem acz : ∀ {s : adB},Dl s → s.takeWhile br = [] ∧ s.dropWhile br = s
 | [],_=>⟨rfl,rfl⟩
 | c :: r,h=>by have:=h c r rfl;rw [List.takeWhile_cons,List.dropWhile_cons,this];exact ⟨F,F⟩
theorem wi {p : UInt8 → Bool} : ∀ {s r : adB},(∀ c ∈ s,p c = true) → (s ++ r).takeWhile p = s ++ r.takeWhile p ∧ (s ++ r).dropWhile p = r.dropWhile p
 | [],_,_=>⟨rfl,rfl⟩
 | c :: s,r,h=>by
  obtain ⟨h1,h2⟩:=wi (s:=s) (r:=r) fun d hd=>h d (by simp [hd])
  have:=h c (by simp)
  rw [List.cons_append,List.takeWhile_cons,List.dropWhile_cons,this,if_pos rfl,if_pos rfl,h1,h2];exact ⟨F,F⟩
theorem oE {m top : Int} {r : adB} (h0 : 0 ≤ m) (h1 : m ≤ top) (ht : top ≤ 999999) (hr : Dl r) : cM top (be m ++ r) = some (m,r):=by
 obtain ⟨e1,e2⟩:=wi (r:=r) (ig _ (Nat.le_refl _) h0).2
 obtain ⟨e3,e4⟩:=acz hr
 unfold cM
 rw [e1,e2,e3,e4,List.append_nil,jy h0 h1 ht];rfl
theorem ab8 {x : adB} (h : d6 (39 :: (x ++ [39])) = true) : ∀ j,j < x.length → bt x j ≠ 39:=by
 intro j hj e
 unfold d6 at h
 rw [decide_eq_true_eq] at h
 have h1:=h.2.2.2 (j + 1) (by simp;omega)
 rw [eJ] at h1
 have h2 : bt (x ++ [39]) j = bt x j:=by simp [bt,List.getD,List.getElem?_append_left hj]
 rw [h2,e] at h1
 rcases h1 with h1 | h1
 ·omega
 ·exact absurd h1 dC
theorem vC {x r : adB} (h : d6 (39 :: (x ++ [39])) = true) : dP (39 :: (x ++ 39 :: r)) = some (.nd 116 x 0 [],r):=by
 have hc : aH 39 (x ++ 39 :: r) = (x,r,true):=by
  have h1:=nJ (k:=39) (s:=x ++ 39 :: r) (i:=x.length) (by simp) (fun j hj=>by
   have:=ab8 h j hj
   have h2 : bt (x ++ 39 :: r) j = bt x j:=by simp [bt,List.getD,List.getElem?_append_left hj]
   rw [h2];exact this) (by simp [bt,List.getD])
  rw [h1]
  congr 1
  ·exact List.take_left
  ·congr 1
   rw [show x.length + 1 = (x ++ [39]).length by simp,show x ++ 39 :: r = (x ++ [39]) ++ r by simp,List.drop_left]
 unfold dP
 dsimp only
 rw [if_pos dC,hc]
 dsimp only
 rw [if_pos h]
theorem wr {x r : adB} (h : x = [121,101,115] ∨ x = [110,111]) : eO (x ++ r) = some (.nd 102 x 0 [],r):=by
 unfold eO
 rcases h with rfl | rfl
 ·rw [if_pos (by simp [List.isPrefixOf])];rfl
 ·rw [if_neg (by simp [List.isPrefixOf]),if_pos (by simp [List.isPrefixOf])];rfl
theorem pz {f : adB → Option (V × adB)} {rest : adB} : ∀ (ks : List V) (m : Nat) (acc : List V),ks ≠ [] → ks.length ≤ m → (∀ v ∈ ks,∀ r,Dl r → f (v.out ++ r) = some (v,r)) → bJ f m (aO 44 (ks.map V.out) ++ 93 :: rest) acc = some (acc ++ ks,rest)
 | [],_,_,h,_,_=>absurd rfl h
 | [v],m,acc,_,hm,hf=>by
  obtain ⟨m,rfl⟩ : ∃ n,m = n + 1:=⟨m - 1,by simp at hm;omega⟩
  unfold bJ
  simp only [List.map_cons,List.map_nil,aO]
  rw [hf v (by simp) _ (j7 dC)]
  dsimp only
  rw [if_neg dC,if_pos dC]
 | v :: u :: ks,m,acc,_,hm,hf=>by
  obtain ⟨m,rfl⟩ : ∃ n,m = n + 1:=⟨m - 1,by simp at hm;omega⟩
  have ih:=pz (rest:=rest) (u :: ks) m (acc ++ [v]) (by simp) (by simp at hm ⊢;omega) fun w hw=>hf w (by simp [hw])
  unfold bJ
  simp only [List.map_cons,aO,List.append_assoc,List.cons_append] at ih ⊢
  rw [hf v (by simp) _ (j7 dC)]
  dsimp only
  rw [if_pos dC,ih]
  simp
theorem iQ {t : Ty} (hw : TyW t) {d : Fld} (h : d ∈ t.fields) : co t.fields d.tag = some d:=by
 cases e : co t.fields d.tag with
 | none=>have:=(List.find?_eq_none.1 e) d h;simp at this
 | some d' =>
  have h1 : d'.tag = d.tag:=by have:=List.find?_some e;simpa using this
  rw [eW hw (List.mem_of_find?_eq_some e) h h1]
theorem lO {f : adB → adB → Option (V × adB)} {t : Ty} (hw : TyW t) {d : Fld} {v : V} {r : adB} (h : d ∈ t.fields) (hf : f d.kind (v.out ++ r) = some (v,r)) : aY f t (be d.tag ++ 61 :: (v.out ++ r)) = some ((d,v),r):=by
 have ht:=(hw.fld d h).tag
 unfold aY
 rw [oE oM ht.2 dC (j7 dC)]
 dsimp only
 rw [iQ hw h]
 dsimp only
 rw [if_pos dC,hf];rfl
theorem q9 {ts : List Ty} {f : adB → adB → Option (V × adB)} {t : Ty} (hw : TyW t) {rest : adB} : ∀ (fs : List (Fld × V)) (m : Nat) (last : Int) (acc : List V),fs ≠ [] → fs.length ≤ m → (∀ p ∈ fs,p.1 ∈ t.fields ∧ p.2.out ≠ bR ts p.1 ∧ last < p.1.tag ∧ ∀ r,Dl r → f p.1.kind (p.2.out ++ r) = some (p.2,r)) → fs.Pairwise (fun a b=>a.1.tag < b.1.tag) →
  ck ts f t m last (aO 44 ((fs.map aq).map V.out) ++ 125 :: rest) acc = some (acc ++ fs.map aq,rest)
 | [],_,_,_,h,_,_,_=>absurd rfl h
 | [p],m,last,acc,_,hm,hf,_=>by
  obtain ⟨m,rfl⟩ : ∃ n,m = n + 1:=⟨m - 1,by simp at hm;omega⟩
  obtain ⟨h1,h2,h3,h4⟩:=hf p (by simp)
  unfold ck
  simp only [List.map_cons,List.map_nil,aO,aq,gh,List.append_assoc,List.cons_append]
  rw [lO hw h1 (h4 _ (j7 dC))]
  dsimp only
  rw [if_neg (by rintro (h | h);omega;exact h2 h),if_neg dC,if_pos dC]
 | p :: q :: fs,m,last,acc,_,hm,hf,hp=>by
  obtain ⟨m,rfl⟩ : ∃ n,m = n + 1:=⟨m - 1,by simp at hm;omega⟩
  obtain ⟨h1,h2,h3,h4⟩:=hf p (by simp)
  rw [List.pairwise_cons] at hp
  have ih:=q9 (ts:=ts) (f:=f) hw (rest:=rest) (q :: fs) m p.1.tag (acc ++ [aq p]) (by simp) (by simp at hm ⊢;omega) (fun w hw=>⟨(hf w (by simp [hw])).1,(hf w (by simp [hw])).2.1,hp.1 w hw,(hf w (by simp [hw])).2.2.2⟩) hp.2
  unfold ck
  simp only [List.map_cons,aO,gh,List.append_assoc,List.cons_append] at ih ⊢
  rw [lO hw h1 (h4 _ (j7 dC))]
  dsimp only
  rw [if_neg (by rintro (h | h);omega;exact h2 h),if_pos dC,ih]
  simp
theorem rH {m : Int} (h : 0 ≤ m) : ∃ c r,be m = c :: r ∧ br c = true:=by
 cases e : be m with
 | nil=>have:=gy m;rw [e] at this;simp at this
 | cons c r=>exact ⟨c,r,F,(ig _ (Nat.le_refl _) h).2 c (by rw [e];simp)⟩
theorem vS {c : UInt8} (h : br c = true) : 48 ≤ c.toNat ∧ c.toNat ≤ 57:=by unfold br at h;rwa [decide_eq_true_eq] at h
theorem xL {ts : List Ty} {k : adB} {v : V} (h : OfK ts k v) : ∃ c r,v.out = c :: r ∧ c.toNat ≠ 93:=by
 cases h with
 | num k n h1 h2=>obtain ⟨c,r,e,hc⟩:=rH h1;have:=vS hc;exact ⟨c,r,by rw [V.out];exact e,oM⟩
 | txt k x=>exact ⟨39,_,by rw [V.out];rfl,by decide⟩
 | flg k x h=>rcases h with rfl | rfl;exact ⟨121,_,by rw [V.out];rfl,by decide⟩;exact ⟨110,_,by rw [V.out];rfl,by decide⟩
 | lst=>exact ⟨91,_,by rw [V.out];rfl,by decide⟩
 | non=>exact ⟨45,_,by rw [V.out];rfl,by decide⟩
 | opt=>exact ⟨43,_,by rw [V.out];rfl,by decide⟩
 | recd=>exact ⟨123,_,by rw [V.out];rfl,by decide⟩
 | enm=>exact ⟨35,_,by rw [V.out];rfl,by decide⟩
 | uni=>exact ⟨60,_,by rw [V.out];rfl,by decide⟩
theorem lM {ts : List Ty} (hw : SchW ts) : ∀ (n : Nat) {k : adB} {v : V},OfK ts k v → v.deep ≤ n → ∀ r,Dl r → rd ts n k (v.out ++ r) = some (v,r)
 | 0,k,v,h,hd,r,hr=>by
  obtain ⟨w,x,t,ks⟩:=v
  have hne : w ≠ 61:=by cases h <;> decide
  rw [eg hne] at hd;omega
 | n + 1,k,v,h,hd,r,hr=>by
  have ih:=fun {k : adB} {v : V}=>lM hw n (k:=k) (v:=v)
  show fJ ts (rd ts n) k (v.out ++ r) = some (v,r)
  cases h with
  | num k m h1 h2 =>
   have e : V.out (.nd 110 (be m) 0 []) = be m:=by rw [V.out];rfl
   have hrf : a8 ts (110 :: k) = none:=by cases h : a8 ts (110 :: k) with | none=>rfl | some t=>exact (dw h F dC).elim
   rw [e]
   unfold fJ
   try dsimp only
   rw [if_neg dC,if_neg dC,hrf]
   try dsimp only
   rw [if_pos dC,oE h1 h2 dC hr];rfl
  | txt k x h1 =>
   have e : V.out (.nd 116 x 0 []) ++ r = 39 :: (x ++ 39 :: r):=by rw [V.out];simp [c5]
   have hrf : a8 ts (116 :: k) = none:=by cases h : a8 ts (116 :: k) with | none=>rfl | some t=>exact (dw h F dC).elim
   rw [e]
   unfold fJ
   try dsimp only
   rw [if_neg dC,if_neg dC,hrf]
   try dsimp only
   rw [if_neg dC,if_pos dC,vC h1]
  | flg k x h1 =>
   have e : V.out (.nd 102 x 0 []) = x:=by rw [V.out];rfl
   have hrf : a8 ts (102 :: k) = none:=by cases h : a8 ts (102 :: k) with | none=>rfl | some t=>exact (dw h F dC).elim
   rw [e]
   unfold fJ
   try dsimp only
   rw [if_neg dC,if_neg dC,hrf]
   try dsimp only
   rw [if_neg dC,if_neg dC,if_pos dC,wr h1]
  | lst k ks h1 h2 =>
   rw [eg dC] at hd
   rw [oG]
   unfold fJ
   try dsimp only
   rw [if_pos dC]
   try dsimp only
   rw [if_pos dC]
   cases ks with
   | nil=>simp only [List.map_nil,aO,List.nil_append];rw [if_pos dC]
   | cons v ks =>
    have hI:=pz (f:=rd ts n k) (rest:=r) (v :: ks) 20 [] (by simp) h1 fun u hu r hr=>ih (h2 u hu) (by have:=V.deep_mem hu;omega) r hr
    obtain ⟨c,s,e1,e2⟩:=xL (h2 v (by simp))
    cases hj : aO 44 ((v :: ks).map V.out) ++ 93 :: r with
    | nil=>simp at hj
    | cons c' s' =>
     have hc' : c' = c:=by
      have : ∃ s2,aO 44 ((v :: ks).map V.out) ++ 93 :: r = c :: s2:=by
       cases ks with
       | nil=>simp only [List.map_cons,List.map_nil,aO,e1,List.cons_append];exact ⟨_,F⟩
       | cons u ks=>simp only [List.map_cons,aO,e1,List.cons_append];exact ⟨_,F⟩
      obtain ⟨s2,h3⟩:=this
      rw [hj] at h3;injection h3
     try dsimp only
     rw [if_neg (by rw [hc'];exact e2),← hj,hI];rfl
  | non k =>
   have e : V.out (.nd 63 [] 0 []) ++ r = 45 :: r:=by rw [V.out];rfl
   rw [e]
   unfold fJ
   try dsimp only
   rw [if_neg dC,if_pos dC]
   try dsimp only
   rw [if_pos dC]
  | opt k v h1 =>
   rw [eg dC] at hd
   have hd2 : v.deep ≤ n:=by have:=V.deep_mem (ks:=[v]) (v:=v) (by simp);omega
   rw [uJ]
   unfold fJ
   try dsimp only
   rw [if_neg dC,if_pos dC]
   try dsimp only
   rw [if_neg dC,if_pos dC,ih h1 hd2 r hr];rfl
  | recd k t fs h1 h2 h3 h4 h5 h6 =>
   rw [eg dC] at hd
   have hk : ∃ k',k = 64 :: k':=by
    cases k with
    | nil=>simp [a8,cx] at h1
    | cons c k' =>
     by_cases h64 : c.toNat = 64
     ·exact ⟨k',by rw [show c = 64 from UInt8.toNat_inj.1 h64]⟩
     ·exact (dw h1 F h64).elim
   obtain ⟨k',rfl⟩:=hk
   rw [qu]
   unfold fJ
   try dsimp only
   rw [if_neg dC,if_neg dC,h1]
   try dsimp only
   unfold bA
   dsimp only
   rw [if_pos h2,if_pos dC]
   cases fs with
   | nil=>simp only [List.map_nil,aO,List.nil_append];rw [if_pos dC]
   | cons p fs =>
    have hlen : (p :: fs).length ≤ (aO 44 (((p :: fs).map aq).map V.out) ++ 125 :: r).length + 1:=by
     have h7 : ∀ xs : List adB,(∀ x ∈ xs,1 ≤ x.length) → xs.length ≤ (aO 44 xs).length:=by
      intro xs
      induction xs with
      | nil=>intro _;simp
      | cons x xs ihx =>
       intro hx
       have hx1:=hx x (by simp)
       have ihx:=ihx fun y hy=>hx y (by simp [hy])
       cases xs with
       | nil=>simp only [aO,List.length_cons,List.length_nil];omega
       | cons y xs=>simp only [aO,List.length_append,List.length_cons] at ihx ⊢;omega
     have h8:=h7 (((p :: fs).map aq).map V.out) (fun x hx=>by
      obtain ⟨v,hv,rfl⟩:=List.mem_map.1 hx
      obtain ⟨q,hq,rfl⟩:=List.mem_map.1 hv
      rw [gh];simp;omega)
     simp only [List.length_map] at h8
     simp only [List.length_append,List.length_cons]
     simp only [List.length_cons] at h8
     omega
    have hI:=q9 (ts:=ts) (f:=rd ts n) (hw.ty t (bj h1)) (rest:=r) (p :: fs) ((aO 44 (((p :: fs).map aq).map V.out) ++ 125 :: r).length + 1) 0 [] (by simp) hlen (fun q hq=>⟨h3 q hq,h5 q hq,by have:=((hw.ty t (bj h1)).fld _ (h3 q hq)).tag;omega,fun r hr=>ih (h4 q hq) (by
     have:=V.deep_mem (ks:=(p :: fs).map aq) (v:=aq q) (List.mem_map.2 ⟨q,hq,rfl⟩)
     rw [show V.deep (aq q) = V.deep q.2 from kv] at this
     omega) r hr⟩) h6
    obtain ⟨c,s,e1,e2⟩:=rH (m:=p.1.tag) (by have:=((hw.ty t (bj h1)).fld _ (h3 p (by simp))).tag;omega)
    have he2:=vS e2
    cases hj : aO 44 (((p :: fs).map aq).map V.out) ++ 125 :: r with
    | nil=>simp at hj
    | cons c' s' =>
     have hc' : c' = c:=by
      have : ∃ s2,aO 44 (((p :: fs).map aq).map V.out) ++ 125 :: r = c :: s2:=by
       cases fs with
       | nil=>simp only [List.map_cons,List.map_nil,aO,gh,e1,List.cons_append];exact ⟨_,F⟩
       | cons u ks=>simp only [List.map_cons,aO,gh,e1,List.cons_append];exact ⟨_,F⟩
      obtain ⟨s2,h3⟩:=this
      rw [hj] at h3;injection h3
     try dsimp only
     rw [if_neg (by rw [hc'];omega),← hj,hI];rfl
  | enm k t d h1 h2 h3 =>
   have hk : ∃ k',k = 64 :: k':=by
    cases k with
    | nil=>simp [a8,cx] at h1
    | cons c k' =>
     by_cases h64 : c.toNat = 64
     ·exact ⟨k',by rw [show c = 64 from UInt8.toNat_inj.1 h64]⟩
     ·exact (dw h1 F h64).elim
   obtain ⟨k',rfl⟩:=hk
   have ht:=((hw.ty t (bj h1)).fld d h3).tag
   have e : V.out (.nd 69 [] d.tag []) ++ r = 35 :: (be d.tag ++ r):=by rw [V.out];rfl
   rw [e]
   unfold fJ
   try dsimp only
   rw [if_neg dC,if_neg dC,h1]
   try dsimp only
   unfold bA
   dsimp only
   rw [if_neg oM,if_pos h2,if_pos dC,oE oM ht.2 dC hr]
   try dsimp only
   rw [iQ (hw.ty t (bj h1)) h3,if_pos (by simp)]
  | uni k t d v h1 h2 h3 h4 h5 =>
   rw [eg dC] at hd
   have hd2 : v.deep ≤ n:=by have:=V.deep_mem (ks:=[v]) (v:=v) (by simp);omega
   have hk : ∃ k',k = 64 :: k':=by
    cases k with
    | nil=>simp [a8,cx] at h1
    | cons c k' =>
     by_cases h64 : c.toNat = 64
     ·exact ⟨k',by rw [show c = 64 from UInt8.toNat_inj.1 h64]⟩
     ·exact (dw h1 F h64).elim
   obtain ⟨k',rfl⟩:=hk
   rw [nG]
   unfold fJ
   try dsimp only
   rw [if_neg dC,if_neg dC,h1]
   try dsimp only
   unfold bA
   dsimp only
   rw [if_neg h2,if_neg h3,if_pos dC,lO (hw.ty t (bj h1)) h4 (ih h5 hd2 _ (j7 dC))]
   try dsimp only
   rw [if_pos dC]
theorem om {ts : List Ty} (hw : SchW ts) {k : adB} {v : V} (h : OfK ts k v) (hl : v.out.length ≤ 400) (hd : v.deep ≤ 12) : cq ts k v.out = some v:=by
 have h1:=lM hw 12 h hd [] lk
 rw [List.append_nil] at h1
 unfold cq
 rw [if_pos hl,h1]
theorem ub {ts : List Ty} (hw : SchW ts) {k : adB} {v : V} (h : OfK ts k v) (hn : ¬ (v.out.length ≤ 400 ∧ v.deep ≤ 12)) : cq ts k v.out = none:=by
 cases hv : cq ts k v.out with
 | none=>rfl
 | some u =>
  obtain ⟨h1,h2,h3⟩:=eU hv
  have hu:=dq hv
  have hd : v.deep ≤ max v.deep 12:=Nat.le_max_left _ _
  have h4:=lM hw (max v.deep 12) h hd [] lk
  have h5:=lM hw (max v.deep 12) hu (Nat.le_trans h3 (Nat.le_max_right _ _)) [] lk
  rw [List.append_nil] at h4 h5
  rw [h1,h4] at h5
  have:=(Prod.mk.inj (Option.some.inj h5)).1
  subst this
  exact absurd ⟨h2,h3⟩ hn
theorem dX {ts : List Ty} {k : adB} (h : aA ts k = true) : ∃ c r,k = c :: r:=by
 cases k with
 | nil=>unfold aA bZ fe at h;simp at h
 | cons c r=>exact ⟨c,r,F⟩
theorem yM {t : Ty} (hw : TyW t) (hs : t.sort ≠ 82) : t.fields.headD default ∈ t.fields:=by
 have:=hw.ne hs
 cases h : t.fields with
 | nil=>exact absurd h this
 | cons d r=>simp
theorem acA : be 0 = [48]:=by rw [dZ dC dC];decide
theorem lQ : V.out (.nd 110 (be 0) 0 []) = [48]:=by rw [V.out];exact acA
theorem vv {ts : List Ty} (hw : SchW ts) : ∀ (n : Nat) {k : adB},aA ts k = true → (∀ t,a8 ts k = some t → cr ts n t = true) → ∃ u,OfK ts k u ∧ u.out = bV ts (n + 1) k ∧ u.deep ≤ n + 1 ∧ u.out.length ≤ 30 * (n + 1) ∧ u.size ≤ 1:=by
 intro n
 induction n with
 | zero =>
  intro k hk he
  obtain ⟨c,r,rfl⟩:=dX hk
  unfold bV
  by_cases h91 : c.toNat = 91
  ·obtain rfl:=bX h91 dC
   exact ⟨_,.lst _ [] (by simp) (by simp),by rw [if_pos h91,V.out];rfl,by simp [V.deep,V.deeps],by rw [V.out];decide,by simp [V.size,gj,V.sizes]⟩
  by_cases h63 : c.toNat = 63
  ·obtain rfl:=bX h63 dC
   exact ⟨_,.non _,by rw [if_neg h91,if_pos h63,V.out];rfl,by simp [V.deep,V.deeps],by rw [V.out];decide,by simp [V.size,gj]⟩
  rw [if_neg h91,if_neg h63]
  cases hr : a8 ts (c :: r) with
  | some t=>have:=he t hr;simp [cr] at this
  | none =>
   dsimp only
   rcases d7 hk (by rintro (h | h) <;> contradiction) hr with e | e | e
   all_goals rw [e]
   ·exact ⟨_,.num [] 0 dC dC,by rw [lQ];decide,by simp [V.deep,V.deeps],by rw [lQ];decide,by simp [V.size,gj]⟩
   ·exact ⟨_,.txt [] [] dC,by rw [V.out];decide,by simp [V.deep,V.deeps],by rw [V.out];decide,by simp [V.size,gj]⟩
   ·exact ⟨_,.flg [] _ (.inr F),by rw [V.out];decide,by simp [V.deep,V.deeps],by rw [V.out];decide,by simp [V.size,gj]⟩
 | succ n ih =>
  intro k hk he
  obtain ⟨c,r,rfl⟩:=dX hk
  unfold bV
  by_cases h91 : c.toNat = 91
  ·obtain rfl:=bX h91 dC
   exact ⟨_,.lst _ [] (by simp) (by simp),by rw [if_pos h91,V.out];rfl,by simp [V.deep,V.deeps],by rw [V.out];simp [c5,V.outs,aO];omega,by simp [V.size,gj,V.sizes]⟩
  by_cases h63 : c.toNat = 63
  ·obtain rfl:=bX h63 dC
   exact ⟨_,.non _,by rw [if_neg h91,if_pos h63,V.out];rfl,by simp [V.deep,V.deeps],by rw [V.out];simp [c5];omega,by simp [V.size,gj]⟩
  rw [if_neg h91,if_neg h63]
  cases hr : a8 ts (c :: r) with
  | none =>
   dsimp only
   rcases d7 hk (by rintro (h | h) <;> contradiction) hr with e | e | e
   all_goals rw [e]
   ·exact ⟨_,.num [] 0 dC dC,by rw [lQ];decide,by simp [V.deep,V.deeps],by rw [lQ];simp;omega,by simp [V.size,gj]⟩
   ·exact ⟨_,.txt [] [] dC,by rw [V.out];decide,by simp [V.deep,V.deeps],by rw [V.out];simp [c5];omega,by simp [V.size,gj]⟩
   ·exact ⟨_,.flg [] _ (.inr F),by rw [V.out];decide,by simp [V.deep,V.deeps],by rw [V.out];simp [c5];omega,by simp [V.size,gj]⟩
  | some t =>
   have htm:=bj hr
   have htw:=hw.ty t htm
   dsimp only
   by_cases h82 : t.sort = 82
   ·rw [if_pos h82]
    exact ⟨_,.recd _ t [] hr h82 (by simp) (by simp) (by simp) (by simp),by rw [V.out];rfl,by simp [V.deep,V.deeps],by rw [V.out];simp [c5,V.outs,aO];omega,by simp [V.size,gj,V.sizes]⟩
   rw [if_neg h82]
   have hd:=yM htw h82
   have htg:=(htw.fld _ hd).tag
   have hdl:=kw (m:=tag0 t) (by unfold tag0;omega)
   by_cases h69 : t.sort = 69
   ·rw [if_pos h69]
    exact ⟨_,.enm _ t _ hr h69 hd,by rw [V.out];rfl,by simp [V.deep,V.deeps],by rw [V.out];show (35 :: be (tag0 t)).length ≤ _;simp only [List.length_cons];omega,by simp [V.size,gj]⟩
   rw [if_neg h69]
   have h85 : t.sort = 85:=by have:=htw.sort;unfold eM at this;omega
   have he1:=he t hr
   unfold cr at he1
   rw [if_neg (by simpa using h85)] at he1
   obtain ⟨u,g1,g2,g3,g4,g5⟩:=ih (k:=eS t) (dY hw htm h69 hd) (fun t' ht'=>by rw [ht'] at he1;exact he1)
   refine ⟨_,.uni _ t _ u hr h82 h69 hd g1,?_,?_,?_,?_⟩
   ·rw [V.out,← g2];simp [c5,V.outs,aO,tag0]
   ·rw [eg dC,V.deeps,V.deeps];omega
   ·have e:=nG (v:=u) (n:=tag0 t) (r:=[])
    rw [List.append_nil] at e
    show (V.out (.nd 85 [] (tag0 t) [u])).length ≤ _
    rw [e];simp only [List.length_cons,List.length_append,List.length_nil];omega
   ·rw [V.size,if_neg (by unfold gj;simp),V.sizes,V.sizes];omega
theorem vw {ts : List Ty} (hw : SchW ts) {k : adB} (hk : aA ts k = true) : ∃ u,OfK ts k u ∧ u.out = pj ts k ∧ u.deep ≤ 12 ∧ u.out.length ≤ 400 ∧ u.size ≤ 1:=by
 have hl:=hw.len
 obtain ⟨u,h1,h2,h3,h4,h5⟩:=vv hw (ts.length + 1) hk (fun t ht=>by
  have hm:=bj ht
  obtain ⟨i,hi,rfl⟩:=List.mem_iff_getElem.1 hm
  have:=hw.valid.2 i hi
  rwa [aI hi] at this)
 exact ⟨u,h1,h2,oM,oM,h5⟩
theorem vx {ts : List Ty} (hw : SchW ts) {t : Ty} (ht : t ∈ ts) (hs : t.sort ≠ 69) {d : Fld} (hd : d ∈ t.fields) : ∃ u,OfK ts d.kind u ∧ u.out = bR ts d ∧ u.deep ≤ 12 ∧ u.out.length ≤ 400:=by
 unfold bR
 by_cases h0 : d.stand = []
 ·rw [if_pos h0]
  obtain ⟨u,h1,h2,h3,h4,_⟩:=vw hw (dY hw ht hs hd)
  exact ⟨u,h1,h2,h3,h4⟩
 ·rw [if_neg h0]
  have h1:=(((hw.ty t ht).fld d hd).stand h0).2
  unfold b9 at h1
  split at h1
  ·rename_i hk
   rw [hk]
   simp only [Bool.and_eq_true] at h1
   obtain ⟨m,hm⟩:=Option.isSome_iff_exists.1 h1.1
   have h2:=ed hm
   have h3:=lS hm
   refine ⟨_,.num [] m h3 h2.1,by rw [V.out];exact h2.2.1.symm,by simp [V.deep,V.deeps],?_⟩
   rw [V.out]
   show (be m).length ≤ 400
   have:=kw h2.1;omega
  ·split at h1
   ·rename_i hk
    rw [hk]
    simp only [Bool.and_eq_true] at h1
    have hx:=h1.1
    have hx2:=hx
    unfold d6 at hx
    rw [decide_eq_true_eq] at hx
    obtain ⟨⟨h2,h3⟩,h4,h5,_⟩:=hx
    obtain ⟨x,hxs⟩ : ∃ x,d.stand = 39 :: (x ++ [39]):=by
     cases hs : d.stand with
     | nil=>exact absurd hs h0
     | cons c r =>
      rw [hs] at h4 h5 h2
      have hc : c = 39:=UInt8.toNat_inj.1 (by rw [bD] at h4;exact h4)
      have hr : r ≠ []:=by rintro rfl;simp at h2
      refine ⟨r.dropLast,?_⟩
      have hl : r.getLast hr = 39:=by
       refine UInt8.toNat_inj.1 ?_
       simp only [List.length_cons,Nat.add_sub_cancel] at h5
       obtain ⟨m,hm⟩ : ∃ m,r.length = m + 1:=⟨r.length - 1,by have:=List.length_pos_iff.2 hr;omega⟩
       rw [hm,eJ] at h5
       rw [List.getLast_eq_getElem]
       have : bt r m = (r[r.length - 1]'(by have:=List.length_pos_iff.2 hr;omega)).toNat:=by simp [bt,List.getD,hm]
       rw [← this,h5];rfl
      rw [hc];congr 1
      rw [← hl,List.dropLast_concat_getLast]
    rw [hxs] at hx2 h3 ⊢
    refine ⟨_,.txt [] x hx2,by rw [V.out];rfl,by simp [V.deep,V.deeps],?_⟩
    rw [V.out]
    show (39 :: (x ++ [39])).length ≤ 400
    omega
   ·split at h1
    ·rename_i hk
     rw [hk]
     rw [decide_eq_true_eq] at h1
     rw [h1]
     exact ⟨_,.flg [] _ (.inl F),by rw [V.out];rfl,by simp [V.deep,V.deeps],by rw [V.out];decide⟩
    ·cases h1
def ld (s k w : adB) : Bool:=(cW s k w).isSome
theorem p8 {s k w : adB} (h : s.length ≤ 1048576 ∧ k.length ≤ 1048576 ∧ w.length ≤ 1048576) : aZ adA 33 [S s,S k,S w] G (· = Bo (ld s k w)):=by
 unfold ld
 cases hg : cW s k w with
 | none =>
  have cx_gi0:=kB (G:=G) h hg
  refine jB (Post:=fun v G' L'=>G' = G ∧ L' = [] ∧ _) [(0,_),(1,_),(2,_)] Tryz.func33 Tryz.ntmps33 fun B hok hB hW=>?_
  repeat' (first | refine jR ?_ | (refine jo ?_;first | refine jL fun _=>?_ | refine jC F F F ?_ | (refine ar F F F cx_gi0 F ?_;rintro _ G hle ⟨p1,a1,b1,c1,rfl⟩;skip)))
  all_goals refine Nx.base hok hB ?_
  all_goals refine jY (vs:=[_]) ?_
  all_goals rfl
 | some u =>
  obtain ⟨ts,hs,hki,hvo,hto,hwf⟩:=cV hg
  have cx_gi1:=kA (G:=G) h hs hki hvo
  refine jB (Post:=fun v G' L'=>G' = G ∧ L' = [] ∧ _) [(0,_),(1,_),(2,_)] Tryz.func33 Tryz.ntmps33 fun B hok hB hW=>?_
  repeat' (first | refine jR ?_ | (refine jo ?_;first | refine jL fun _=>?_ | refine jC F F F ?_ | (refine ar F F F cx_gi1 F ?_;rintro _ G hle ⟨bg,qg,cv,rfl,hTg,hRg,hrv⟩;skip)))
  all_goals refine Nx.base hok hB ?_
  all_goals refine jY (vs:=[_]) ?_
  all_goals rfl
theorem v7 {s k w : adB} (h : s.length ≤ 1048576 ∧ k.length ≤ 1048576 ∧ w.length ≤ 1048576) : aZ adA 58 [S s,S k,S w] G (· = Bo (ld s k w)):=by
 unfold ld
 cases hg : cW s k w with
 | none =>
  have cx_l40:=lx (G:=G) h hg
  refine jB (Post:=fun v G' L'=>G' = G ∧ L' = [] ∧ _) [(0,_),(1,_),(2,_)] Tryz.func58 Tryz.ntmps58 fun B hok hB hW=>?_
  repeat' (first | refine jR ?_ | (refine jo ?_;(refine ar F F F cx_l40 F ?_;rintro _ G hle ⟨uu,q1,rfl⟩;skip)))
  all_goals refine Nx.base hok hB ?_
  all_goals refine jY (vs:=[_]) ?_
  all_goals rfl
 | some u =>
  obtain ⟨ts,hs,hki,hvo,hto,hwf⟩:=cV hg
  have cx_l4:=aah (G:=G) h hs hki hvo
  refine jB (Post:=fun v G' L'=>G' = G ∧ L' = [] ∧ _) [(0,_),(1,_),(2,_)] Tryz.func58 Tryz.ntmps58 fun B hok hB hW=>?_
  repeat' (first | refine jR ?_ | (refine jo ?_;(refine ar F F F cx_l4 F ?_;rintro _ G hle ⟨uu,q1,rfl,hyes⟩;skip)))
  all_goals refine Nx.base hok hB ?_
  all_goals refine jY (vs:=[_]) ?_
  all_goals rfl
def cK : List adB → Option (List Int)
 | []=>some []
 | x :: xs=>match aN x 999999 with
  | none=>none
  | some n=>(cK xs).map (n :: ·)
def da (s : adB) : Option (List Int):=if s = [] then some [] else match cK (a9 47 s) with
 | some p=>if p.length ≤ 8 then some p else none
 | none=>none
theorem kY : ∀ {xs : List adB} {p : List Int},cK xs = some p → p.length = xs.length ∧ ∀ n ∈ p,0 ≤ n ∧ n ≤ 999999
 | [],p,h=>by simp only [cK,Option.some.injEq] at h;subst h;simp
 | x :: xs,p,h=>by
  unfold cK at h
  cases hn : aN x 999999 with
  | none=>rw [hn] at h;cases h
  | some n =>
   rw [hn] at h
   dsimp only at h
   cases hs : cK xs with
   | none=>rw [hs] at h;cases h
   | some q =>
    rw [hs] at h
    simp only [Option.map_some,Option.some.injEq] at h
    subst h
    obtain ⟨h1,h2⟩:=kY hs
    refine ⟨by simp [h1],fun m hm=>?_⟩
    rcases List.mem_cons.1 hm with rfl | hm
    ·exact ⟨lS hn,(ed hn).1⟩
    ·exact h2 m hm
def d8 (ts : List Ty) (f : Fld) : V:=(cq ts f.kind (bR ts f)).getD default
def cC (f : Fld) : List V → Option V
 | []=>none
 | x :: r=>if x.tag = f.tag then some (ab x.kids 0) else cC f r
def cX (ts : List Ty) (v : V) (f : Fld) : V:=(cC f v.kids).getD (d8 ts f)
def aC (ts : List Ty) (k : adB) (v : V) (n : Int) : Option (adB × V):=match k with
 | []=>none
 | c :: r=>if c.toNat = 91 ∨ c.toNat = 63 then (if n < (v.kids.length : Nat) then some (r,ab v.kids n.toNat) else none)
  else match a8 ts (c :: r) with
   | none=>none
   | some t=>match co t.fields n with
    | none=>none
    | some f=>if t.sort = 69 then none else if t.sort = 82 then some (f.kind,cX ts v f) else if v.tag = n then some (f.kind,ab v.kids 0) else none
def ce (ts : List Ty) : adB → V → List Int → Option (adB × V)
 | k,v,[]=>some (k,v)
 | k,v,n :: p=>match aC ts k v n with
  | none=>none
  | some (k',v')=>ce ts k' v' p
theorem fp {ts : List Ty} (hw : SchW ts) {t : Ty} (ht : t ∈ ts) (hs : t.sort ≠ 69) {d : Fld} (hd : d ∈ t.fields) : OfK ts d.kind (d8 ts d) ∧ cq ts d.kind (bR ts d) = some (d8 ts d) ∧ (d8 ts d).out = bR ts d:=by
 obtain ⟨u,h1,h2,h3,h4⟩:=vx hw ht hs hd
 have h5:=om hw h1 h4 h3
 rw [h2] at h5
 have h6 : d8 ts d = u:=by unfold d8;rw [h5];rfl
 rw [h6]
 exact ⟨h1,h5,h2⟩
theorem gX {ts : List Ty} {t : Ty} (hw : TyW t) {f : Fld} (hf : f ∈ t.fields) : ∀ {fs : List (Fld × V)} {u : V},(∀ p ∈ fs,p.1 ∈ t.fields ∧ OfK ts p.1.kind p.2) → cC f (fs.map aq) = some u → OfK ts f.kind u ∧ ∃ p ∈ fs,p.1 = f ∧ p.2 = u
 | [],u,_,h=>by simp [cC] at h
 | p :: fs,u,hp,h=>by
  simp only [List.map_cons,cC] at h
  split at h
  ·rename_i he
   simp only [Option.some.injEq] at h
   have h1 : p.2 = u:=h
   have h2:=eW hw (hp p (by simp)).1 hf he
   subst h1
   exact ⟨by rw [← h2];exact (hp p (by simp)).2,p,by simp,h2,F⟩
  ·obtain ⟨h1,q,h2,h3⟩:=gX hw hf (fun q hq=>hp q (by simp [hq])) h
   exact ⟨h1,q,by simp [h2],h3⟩
theorem zB {ts : List Ty} (hw : SchW ts) {t : Ty} (ht : t ∈ ts) (hs : t.sort = 82) {f : Fld} (hf : f ∈ t.fields) {fs : List (Fld × V)} (hp : ∀ p ∈ fs,p.1 ∈ t.fields ∧ OfK ts p.1.kind p.2) : OfK ts f.kind (cX ts (.nd 82 [] 0 (fs.map aq)) f):=by
 unfold cX
 cases h : cC f (V.kids (.nd 82 [] 0 (fs.map aq))) with
 | none=>exact (fp hw ht oM hf).1
 | some u=>exact (gX (hw.ty t ht) hf hp h).1
theorem cP {ts : List Ty} (hw : SchW ts) {k : adB} {v : V} (h : OfK ts k v) (hk : aA ts k = true) {n : Int} (hn : 0 ≤ n) {k' : adB} {v' : V} (e : aC ts k v n = some (k',v')) : OfK ts k' v' ∧ aA ts k' = true:=by
 obtain ⟨c,r,rfl⟩:=dX hk
 unfold aC at e
 dsimp only at e
 split at e
 ·rename_i hc
  split at e
  ·rename_i hlt
   simp only [Option.some.injEq,Prod.mk.injEq] at e
   obtain ⟨rfl,rfl⟩:=e
   refine ⟨?_,fI hc hk⟩
   rcases di h oM with ⟨h1,_⟩ | ⟨h1,_⟩ | ⟨h1,_⟩ | ⟨h1,ks,_,h3,rfl⟩ | ⟨h1,rfl | ⟨u,h3,rfl⟩⟩
   ·omega
   ·omega
   ·omega
   ·rw [V.kids] at hlt ⊢
    have : n.toNat < ks.length:=oM
    rw [aI this];exact h3 _ (List.getElem_mem this)
   ·simp [V.kids] at hlt;omega
   ·simp [V.kids] at hlt
    have : n.toNat = 0:=oM
    rw [this];exact h3
  ·cases e
 ·split at e
  ·cases e
  ·rename_i t hr
   have ht:=bj hr
   split at e
   ·cases e
   ·rename_i f hf
    have hfm:=List.mem_of_find?_eq_some hf
    split at e
    ·cases e
    ·rename_i h69
     have hki:=dY hw ht h69 hfm
     split at e
     ·rename_i h82
      simp only [Option.some.injEq,Prod.mk.injEq] at e
      obtain ⟨rfl,rfl⟩:=e
      rcases bH h hr with ⟨_,fs,rfl,g3,g4,_,_⟩ | ⟨h1,_⟩ | ⟨h1,_⟩
      ·exact ⟨zB hw ht h82 hfm fun p hp=>⟨g3 p hp,g4 p hp⟩,hki⟩
      ·omega
      ·omega
     ·rename_i h82
      split at e
      ·rename_i htg
       simp only [Option.some.injEq,Prod.mk.injEq] at e
       obtain ⟨rfl,rfl⟩:=e
       rcases bH h hr with ⟨h1,_⟩ | ⟨h1,_⟩ | ⟨_,_,d,u,rfl,g4,g5⟩
       ·omega
       ·omega
       ·have h7 : f.tag = n:=by have:=List.find?_some hf;simpa using this
        have h8:=eW (hw.ty t ht) g4 hfm (by rw [h7];exact htg)
        rw [V.kids]
        exact ⟨by rw [← h8];exact g5,hki⟩
      ·cases e
theorem l4 {ts : List Ty} (hw : SchW ts) : ∀ {p : List Int} {k : adB} {v : V} {k' : adB} {v' : V},OfK ts k v → aA ts k = true → (∀ n ∈ p,0 ≤ n) → ce ts k v p = some (k',v') → OfK ts k' v' ∧ aA ts k' = true
 | [],k,v,k',v',h,hk,_,e=>by
  simp only [ce,Option.some.injEq,Prod.mk.injEq] at e
  obtain ⟨rfl,rfl⟩:=e
  exact ⟨h,hk⟩
 | n :: p,k,v,k',v',h,hk,hp,e=>by
  unfold ce at e
  cases hs : aC ts k v n with
  | none=>rw [hs] at e;cases e
  | some x =>
   rw [hs] at e
   obtain ⟨k1,v1⟩:=x
   obtain ⟨h1,h2⟩:=cP hw h hk (hp n (by simp)) hs
   exact l4 hw h1 h2 (fun m hm=>hp m (by simp [hm])) e
def dI (ts : List Ty) (f : Fld) (x : V) : List V → List V
 | []=>if x.out = bR ts f then [] else [.nd 61 [] f.tag [x]]
 | y :: r=>if y.tag < f.tag then y :: dI ts f x r
  else (if x.out = bR ts f then [] else [.nd 61 [] f.tag [x]]) ++ (if y.tag = f.tag then r else y :: r)
def bQ (ts : List Ty) : adB → V → List Int → V → V
 | _,_,[],x=>x
 | k,v,n :: p,x=>match aC ts k v n with
  | none=>v
  | some (k',v')=>if v.what = 82 then (match a8 ts k with
    | some t=>(match co t.fields n with
     | some f=>.nd 82 [] 0 (dI ts f (bQ ts k' v' p x) v.kids)
     | none=>v)
    | none=>v)
   else .nd v.what [] v.tag (if v.what = 91 then v.kids.set n.toNat (bQ ts k' v' p x) else [bQ ts k' v' p x])
theorem uC {ts : List Ty} {t : Ty} (hw : TyW t) {f : Fld} (hf : f ∈ t.fields) {x : V} (hx : OfK ts f.kind x) : ∀ {fs : List (Fld × V)},(∀ p ∈ fs,p.1 ∈ t.fields ∧ OfK ts p.1.kind p.2 ∧ p.2.out ≠ bR ts p.1) → fs.Pairwise (fun a b=>a.1.tag < b.1.tag) →
  ∃ gs : List (Fld × V),dI ts f x (fs.map aq) = gs.map aq ∧ (∀ p ∈ gs,(p.1 ∈ t.fields ∧ OfK ts p.1.kind p.2 ∧ p.2.out ≠ bR ts p.1) ∧ (p ∈ fs ∨ p.1 = f)) ∧ gs.Pairwise (fun a b=>a.1.tag < b.1.tag)
 | [],_,_=>by
  simp only [List.map_nil,dI]
  split
  ·exact ⟨[],F,by simp,by simp⟩
  ·rename_i hne
   exact ⟨[(f,x)],F,fun p hp=>by simp only [List.mem_singleton] at hp;subst hp;exact ⟨⟨hf,hx,hne⟩,.inr F⟩,by simp⟩
 | q :: fs,hp,hpw=>by
  rw [List.pairwise_cons] at hpw
  simp only [List.map_cons,dI]
  show ∃ gs : List (Fld × V),(if q.1.tag < f.tag then aq q :: dI ts f x (fs.map aq) else (if x.out = bR ts f then [] else [.nd 61 [] f.tag [x]]) ++ (if q.1.tag = f.tag then fs.map aq else aq q :: fs.map aq)) = gs.map aq ∧ _
  by_cases hlt : q.1.tag < f.tag
  ·rw [if_pos hlt]
   obtain ⟨gs,e1,e2,e3⟩:=uC hw hf hx (fun p h=>hp p (by simp [h])) hpw.2
   refine ⟨q :: gs,by rw [e1];rfl,fun p h=>?_,?_⟩
   ·rcases List.mem_cons.1 h with rfl | h
    ·exact ⟨hp _ (by simp),.inl (by simp)⟩
    ·exact ⟨(e2 p h).1,(e2 p h).2.imp (fun h=>by simp [h]) id⟩
   ·rw [List.pairwise_cons]
    refine ⟨fun p h=>?_,e3⟩
    rcases (e2 p h).2 with h1 | h1
    ·exact hpw.1 p h1
    ·rw [h1];exact hlt
  ·rw [if_neg hlt]
   have hB : ∃ gs : List (Fld × V),(if q.1.tag = f.tag then fs.map aq else aq q :: fs.map aq) = gs.map aq ∧ (∀ p ∈ gs,(p.1 ∈ t.fields ∧ OfK ts p.1.kind p.2 ∧ p.2.out ≠ bR ts p.1) ∧ p ∈ q :: fs ∧ f.tag < p.1.tag) ∧ gs.Pairwise (fun a b=>a.1.tag < b.1.tag):=by
    split
    ·rename_i he
     exact ⟨fs,F,fun p h=>⟨hp p (by simp [h]),by simp [h],by have:=hpw.1 p h;omega⟩,hpw.2⟩
    ·rename_i he
     refine ⟨q :: fs,F,fun p h=>⟨hp p h,h,?_⟩,by rw [List.pairwise_cons];exact hpw⟩
     rcases List.mem_cons.1 h with rfl | h
     ·omega
     ·have:=hpw.1 p h;omega
   obtain ⟨gs,e1,e2,e3⟩:=hB
   rw [e1]
   split
   ·exact ⟨gs,F,fun p h=>⟨(e2 p h).1,.inl (e2 p h).2.1⟩,e3⟩
   ·rename_i hne
    refine ⟨(f,x) :: gs,F,fun p h=>?_,?_⟩
    ·rcases List.mem_cons.1 h with rfl | h
     ·exact ⟨⟨hf,hx,hne⟩,.inr F⟩
     ·exact ⟨(e2 p h).1,.inl (e2 p h).2.1⟩
    ·rw [List.pairwise_cons]
     exact ⟨fun p h=>(e2 p h).2.2,e3⟩
theorem fB {ts : List Ty} (hw : SchW ts) : ∀ {p : List Int} {k : adB} {v x : V} {k' : adB} {v' : V},OfK ts k v → aA ts k = true → (∀ n ∈ p,0 ≤ n) → ce ts k v p = some (k',v') → OfK ts k' x → OfK ts k (bQ ts k v p x)
 | [],k,v,x,k',v',h,hk,_,e,hx=>by
  simp only [ce,Option.some.injEq,Prod.mk.injEq] at e
  obtain ⟨rfl,rfl⟩:=e
  exact hx
 | n :: p,k,v,x,k',v',h,hk,hp,e,hx=>by
  unfold ce at e
  cases hs : aC ts k v n with
  | none=>rw [hs] at e;cases e
  | some y =>
   rw [hs] at e
   obtain ⟨k1,v1⟩:=y
   obtain ⟨h1,h2⟩:=cP hw h hk (hp n (by simp)) hs
   have ih:=fB hw h1 h2 (fun m hm=>hp m (by simp [hm])) e hx
   have hn:=hp n (by simp)
   unfold bQ
   rw [hs]
   dsimp only
   obtain ⟨c,r,rfl⟩:=dX hk
   unfold aC at hs
   dsimp only at hs
   split at hs
   ·rename_i hc
    split at hs
    ·rename_i hlt
     simp only [Option.some.injEq,Prod.mk.injEq] at hs
     obtain ⟨rfl,rfl⟩:=hs
     rcases di h oM with ⟨g1,_⟩ | ⟨g1,_⟩ | ⟨g1,_⟩ | ⟨g1,ks,g2,g3,rfl⟩ | ⟨g1,rfl | ⟨u,g3,rfl⟩⟩
     ·omega
     ·omega
     ·omega
     ·rw [V.what,if_neg dC,if_pos rfl]
      obtain rfl:=bX g1 dC
      refine .lst _ _ (by rw [List.length_set];exact g2) fun u hu=>?_
      rcases List.mem_or_eq_of_mem_set hu with hu | rfl
      ·exact g3 u hu
      ·exact ih
     ·simp [V.kids] at hlt;omega
     ·rw [V.what,if_neg dC,if_neg dC]
      obtain rfl:=bX g1 dC
      exact .opt _ _ ih
    ·cases hs
   ·split at hs
    ·cases hs
    ·rename_i t hr
     have ht:=bj hr
     split at hs
     ·cases hs
     ·rename_i f hf
      have hfm:=List.mem_of_find?_eq_some hf
      split at hs
      ·cases hs
      ·rename_i h69
       split at hs
       ·rename_i h82
        simp only [Option.some.injEq,Prod.mk.injEq] at hs
        obtain ⟨rfl,rfl⟩:=hs
        rcases bH h hr with ⟨_,fs,rfl,g3,g4,g5,g6⟩ | ⟨g1,_⟩ | ⟨g1,_⟩
        ·rw [V.what,if_pos rfl,hr]
         dsimp only
         rw [hf]
         dsimp only
         rw [V.kids]
         obtain ⟨gs,e1,e2,e3⟩:=uC (hw.ty t ht) hfm ih (fun p hp=>⟨g3 p hp,g4 p hp,g5 p hp⟩) g6
         rw [e1]
         exact .recd _ t gs hr h82 (fun p hp=>(e2 p hp).1.1) (fun p hp=>(e2 p hp).1.2.1) (fun p hp=>(e2 p hp).1.2.2) e3
        ·omega
        ·omega
       ·rename_i h82
        split at hs
        ·rename_i htg
         simp only [Option.some.injEq,Prod.mk.injEq] at hs
         obtain ⟨rfl,rfl⟩:=hs
         rcases bH h hr with ⟨g1,_⟩ | ⟨g1,_⟩ | ⟨_,_,d,u,rfl,g4,g5⟩
         ·omega
         ·omega
         ·have h7 : f.tag = n:=by have:=List.find?_some hf;simpa using this
          have h8:=eW (hw.ty t ht) g4 hfm (by rw [h7];exact htg)
          rw [V.what,if_neg dC,if_neg dC]
          exact .uni _ t d _ hr h82 h69 g4 (by rw [h8];exact ih)
        ·cases hs
theorem kg {x : adB} : ∀ {xs : List adB} {ps : List Int},cK xs = some ps → cK (xs ++ [x]) = (aN x 999999).map fun n=>ps ++ [n]
 | [],ps,h=>by
  simp only [cK,Option.some.injEq] at h;subst h
  simp only [List.nil_append,cK]
  cases aN x 999999 <;> rfl
 | y :: ys,ps,h=>by
  unfold cK at h
  cases hn : aN y 999999 with
  | none=>rw [hn] at h;cases h
  | some n =>
   rw [hn] at h
   dsimp only at h
   cases hs : cK ys with
   | none=>rw [hs] at h;cases h
   | some q =>
    rw [hs] at h
    simp only [Option.map_some,Option.some.injEq] at h
    subst h
    rw [List.cons_append]
    unfold cK
    rw [hn]
    dsimp only
    rw [kg hs]
    cases aN x 999999 <;> rfl
theorem pd {x : adB} {ys : List adB} (h : aN x 999999 = none) : ∀ {xs : List adB},cK (xs ++ x :: ys) = none
 | []=>by simp only [List.nil_append,cK,h]
 | y :: xs=>by
  rw [List.cons_append]
  unfold cK
  cases aN y 999999 with
  | none=>rfl
  | some n=>dsimp only;rw [pd h];rfl
abbrev ab9 : TypeId:=3
def xl (s : adB) (v : Value) (G : Gh) : Prop:=∃ a c n,v = Tu [.slice a n c,Bo (da s).isSome] ∧ ∀ p,da s = some p → n = p.length ∧ aT G (.slice a n c) 1 p.length (ah cI p)
theorem mT {s : adB} (h : s ≠ []) : da s = match cK (a9 47 s) with
  | some p=>if p.length ≤ 8 then some p else none
  | none=>none:=by
 unfold da;rw [if_neg h]
 all_goals (cases cK (a9 47 s) <;> rfl)
theorem pI {s : adB} (h : s ≠ []) {i : Nat} (hi : i < (a9 47 s).length) (hn : aN (ab (a9 47 s) i) 999999 = none) : da s = none:=by
 rw [mT h]
 have e : a9 47 s = (a9 47 s).take i ++ ab (a9 47 s) i :: (a9 47 s).drop (i + 1):=by
  rw [aI hi,List.getElem_cons_drop,List.take_append_drop]
 rw [e,pd hn]
theorem tG {s : adB} (h : s.length ≤ 1048576) : bG adA 23 [S s] G (xl s):=by
 by_cases h0 : s = []
 ·subst h0
  refine jB [(0,_)] Tryz.func23 Tryz.ntmps23 fun B hok hB hW=>?_
  repeat' (first | refine jR ?_ | (refine jo ?_;refine jF fun _=>?_) | refine ac F F ?_)
  rename_i x
  refine Nx.blkAcc (m:=0) (sz:=1) .here F ?_
  refine Nx.sealS (v:=.slice (some ⟨x,0,none⟩) 0 0) fun G2 hG2 hsl=>?_
  refine jZ (vs:=[_,_]) F ⟨F,F,trivial⟩ F ⟨hG2,F,?_⟩
  exact ⟨_,_,_,F,fun p hp=>by
   obtain rfl : p = []:=by unfold da at hp;simpa using hp.symm
   exact ⟨F,hsl⟩⟩
 have cx_cutS : bG adA 56 [S s,U8 47] G (fun v G'=>aT G' v 1 (a9 47 s).length (ah c9 (a9 47 s))):=oY (k:=47) oM
 have hcl:=ii (k:=47) (s:=s)
 have hbad:=fun {i : Nat}=>pI h0 (i:=i)
 have hpo:=mT h0
 have hxl : ∀ i,i < (a9 47 s).length → (ab (a9 47 s) i).length ≤ 100000000:=fun i hi=>by
  have:=dz (bB hi)
  omega
 generalize a9 47 s = xs at *
 refine jB [(0,_)] Tryz.func23 Tryz.ntmps23 fun B hok hB hW=>?_
 repeat' (first | refine jR ?_ | (refine jo ?_;first | refine jF fun _=>?_ | (refine ar F F F cx_cutS F ?_;rintro _ G hle hcut;skip)) | refine ad F (aF ‹_›) ?_)
 rename_i x _
 obtain ⟨la,lc,rfl⟩:=hcut.sl
 refine Nx.blkAcc (m:=0) (sz:=1) .here F ?_
 refine aV (ι:=List Int × Option Addr × Nat × Nat) (fun j=>(j.1.length = j.2.2.2 ∧ j.2.2.2 ≤ xs.length) ∧ cK (xs.take j.2.2.2) = some j.1) (fun j=>[(4,.slice j.2.1 j.1.length j.2.2.1),(5,.slice la xs.length lc),(6,I j.2.2.2)]) (fun _=>G) (fun j=>[.acc (.slice j.2.1 j.1.length j.2.2.1) ab9 1 j.1.length (ah cI j.1)]) (fun j=>xs.length - j.2.2.2) ([],some ⟨x,0,none⟩,0,0) ?_ tU F a7 (fun j Hj=>?_)
 ·exact ⟨⟨F,Nat.zero_le _⟩,F⟩
 obtain ⟨ps,a,c,i⟩:=j
 dsimp only at Hj ⊢
 obtain ⟨⟨hpl,hi0⟩,hst⟩:=Hj
 by_cases hi : i < xs.length
 ·obtain ⟨bl,ol,cl,e,hsx⟩:=hcut.expl oM
  simp only [Value.slice.injEq] at e
  obtain ⟨rfl,-,rfl⟩:=e
  have hxl1:=hxl i hi
  cases hn : aN (ab xs i) 999999 with
  | none =>
   have hno:=hbad hi hn
   have hns : (!(aN (ab xs i) 999999).isSome) = true:=by rw [hn];rfl
   repeat' (first | refine jR ?_ | (refine jo ?_;first | refine jV (af F) ?_ | refine jV (ak F F oM) ?_ | (refine jV (fN F F aS ?_) ?_;focus omega) | (refine ep F F F (ik oM) F ?_;rintro _ ⟨n,rfl,hnum⟩)) | (refine ac F (by first | assumption | (refine decide_eq_true ?_;(omega))) ?_))
   all_goals refine jZ (vs:=[_,_]) F ⟨F,F,trivial⟩ F ⟨hle,F,?_⟩
   all_goals exact ⟨_,_,_,by rw [hno];rfl,fun p hp=>by rw [hno] at hp;cases hp⟩
  | some m =>
   have hns : (!(aN (ab xs i) 999999).isSome) = false:=by rw [hn];rfl
   repeat' (first | refine jM ?_ | (refine jo ?_;first | refine jF fun _=>?_ | refine jV (af F) ?_ | refine jV (ak F F oM) ?_ | (refine jV (fN F F aS ?_) ?_;focus omega) | refine bC F F F F F F F F F oM fun _ _=>?_ | (refine ep F F F (ik oM) F ?_;rintro _ ⟨n,rfl,hnum⟩)) | refine ac F (ax oM) ?_ | refine ad F ‹_› ?_)
   rename_i y1 yc
   have hmn:=hnum m hn
   subst hmn
   have hst2 : cK (xs.take (i + 1)) = some (ps ++ [n]):=by rw [dl hi,kg hst,hn];rfl
   have hl1 : (ps ++ [n]).length = ps.length + 1:=by simp
   rw [show ah cI ps ++ [I n] = ah cI (ps ++ [n]) from (bW cI ps n).symm]
   exact bm (ps ++ [n],some ⟨y1,0,none⟩,yc,i + 1) ⟨⟨by dsimp only;omega,by dsimp only;omega⟩,hst2⟩ (by dsimp only;omega) (by rw [hl1];repeat (first | exact trivial | refine ⟨F,?_⟩)) F (by rw [hl1];repeat (first | exact List.nil_sublist _ | apply List.Sublist.cons_cons))
 ·rw [List.take_of_length_le oM] at hst
  rw [hst] at hpo
  dsimp only at hpo
  repeat' (first | refine jR ?_ | (refine jo ?_;refine jV (af F) ?_) | refine ad F (aF oM) ?_)
  refine Nx.sealS (v:=.slice a ps.length c) fun G2 hG2 hsl=>?_
  refine jZ (vs:=[_,_]) F ⟨F,F,trivial⟩ F ⟨hle.trans hG2,F,?_⟩
  have e8 : decide (((xs.length : Nat) : Int) ≤ 8) = (da s).isSome:=by
   rw [hpo]
   by_cases h8 : ps.length ≤ 8
   ·rw [if_pos h8];exact decide_eq_true oM
   ·rw [if_neg h8];exact decide_eq_false oM
  refine ⟨_,_,_,by rw [e8];rfl,fun p hp=>?_⟩
  rw [hpo] at hp
  split at hp
  ·simp only [Option.some.injEq] at hp;subst hp;exact ⟨F,hsl⟩
  ·cases hp
theorem aaP {ts : List Ty} {c : UInt8} {r : adB} (h : c.toNat ≠ 64) : a8 ts (c :: r) = none:=by
 cases h2 : a8 ts (c :: r) with
 | none=>rfl
 | some t=>exact (dw h2 F h).elim
theorem xZ {p : Nat → Prop} {n : Nat} (h : ∃ j,j < n ∧ p j) : ∃ j,j < n ∧ p j ∧ ∀ i,i < j → ¬ p i:=by
 obtain ⟨j,hj,hp⟩:=h
 induction j using Nat.strongRecOn with
 | _ j ih =>
  by_cases hc : ∃ i,i < j ∧ p i
  ·obtain ⟨i,hi,hpi⟩:=hc
   exact ih i hi oM hpi
  ·exact ⟨j,hj,hp,fun i hi hpi=>hc ⟨i,hi,hpi⟩⟩
theorem ox {f : Fld} : ∀ {fs : List (Fld × V)} {j : Nat},j < fs.length → (ab fs j).1.tag = f.tag → (∀ i,i < j → (ab fs i).1.tag ≠ f.tag) → cC f (fs.map aq) = some (ab fs j).2
 | [],j,hj,_,_=>by simp at hj
 | p :: fs,0,_,ht,_=>by
  rw [List.map_cons,cC,if_pos (show (aq p).tag = f.tag from ht)];rfl
 | p :: fs,j + 1,hj,ht,hno=>by
  rw [List.map_cons,cC,if_neg (show ¬ (aq p).tag = f.tag from hno 0 oM)]
  exact ox (fs:=fs) (j:=j) (by simpa using hj) ht fun i hi=>hno (i + 1) oM
theorem ou {f : Fld} : ∀ {fs : List (Fld × V)},(∀ i,i < fs.length → (ab fs i).1.tag ≠ f.tag) → cC f (fs.map aq) = none
 | [],_=>rfl
 | p :: fs,h=>by
  rw [List.map_cons,cC,if_neg (show ¬ (aq p).tag = f.tag from h 0 (by simp))]
  exact ou fun i hi=>h (i + 1) (by simpa using hi)
theorem iI {ts : List Ty} {k w : adB} {v : V} (h : cq ts k w = some v) : rd ts 12 k w = some (v,[]) ∧ w.length ≤ 400:=by
 unfold cq at h
 split at h
 ·rename_i hl
  split at h
  ·rename_i v' hv;rw [hv];exact ⟨congrArg (fun x=>some (x,[])) (Option.some.inj h),hl⟩
  ·cases h
 ·cases h
theorem acO {b j : Nat} {k : adB} {tg : List Int} {bs : List Nat} {a a2 : Option Addr} {c c2 : Nat} {n : Int} (hl : bs.length = tg.length) (h9 : tg.length ≤ 100000) (hs : bT G b 0 [S k,S [82],.slice a tg.length c,.slice a2 tg.length c2]) (h1 : aT G (.slice a tg.length c) 1 tg.length (ah cI tg)) (h2 : aT G (.slice a2 tg.length c2) 1 tg.length (ah dD bs)) (hj : j < tg.length) (hjn : ab tg j = n) (hno : ∀ i,i < j → ab tg i ≠ n) :
  aZ adA 101 [Pt b 0,I n] G (· = Tu [Pt (ab bs j) 0,Bo true]):=by
 obtain ⟨xb,xo,xc,e,hs1⟩:=h1.expl oM
 simp only [Value.slice.injEq] at e
 obtain ⟨rfl,-,rfl⟩:=e
 obtain ⟨zb,zo,zc,e,hs2⟩:=h2.expl oM
 simp only [Value.slice.injEq] at e
 obtain ⟨rfl,-,rfl⟩:=e
 refine jE [(0,_),(1,_)] Tryz.func101 Tryz.ntmps101 fun B hB=>?_
 repeat' (refine jR ?_)
 refine aV (ι:=Nat) (fun i=>i ≤ j) (fun i=>[(0,Pt b 0),(1,I n),(6,I i)]) (fun _=>G) (fun i=>[]) (fun i=>j - i) 0 ?_ tU F a7 (fun i Hi=>?_)
 ·exact Nat.zero_le _
 have hxi : ab bs i = ab bs i:=rfl
 have hti : ab tg i = ab tg i:=rfl
 by_cases hij : i = j
 ·subst hij
  repeat' (first | refine jR ?_ | (refine jo ?_;first | refine jV (aj F F aS F F) ?_ | (refine jV (cm F F aS ?_ aS F) ?_;focus omega) | refine jV (af F) ?_ | refine aP F ?_ | refine jV (ak F F oM) ?_) | refine aG F F (ax oM) ?_ | (refine ac F (by first | rfl | (refine decide_eq_true ?_;(rfl))) ?_))
  all_goals refine jY (vs:=[_,_]) ?_
  all_goals rfl
 ·have h3:=hno i oM
  repeat' (first | refine jM ?_ | (refine jo ?_;first | refine jV (aj F F aS F F) ?_ | (refine jV (cm F F aS ?_ aS F) ?_;focus omega) | refine jV (af F) ?_ | refine aP F ?_ | refine jV (ak F F oM) ?_) | refine aG F F (ax oM) ?_ | refine ac F F ?_ | refine ad F (aF ‹_›) ?_)
  exact bm (i + 1) (show i + 1 ≤ j by have : i ≤ j:=Hi;omega) (by have : i ≤ j:=Hi;omega) tU rfl a7
theorem acP {b : Nat} {k : adB} {tg : List Int} {a a2 : Option Addr} {c c2 : Nat} {n : Int} (h9 : tg.length ≤ 100000) (hs : bT G b 0 [S k,S [82],.slice a tg.length c,.slice a2 tg.length c2]) (h1 : aT G (.slice a tg.length c) 1 tg.length (ah cI tg)) (hno : ∀ i,i < tg.length → ab tg i ≠ n) :
  aZ adA 101 [Pt b 0,I n] G (· = Tu [.pointer none,Bo false]):=by
 refine jE [(0,_),(1,_)] Tryz.func101 Tryz.ntmps101 fun B hB=>?_
 repeat' (refine jR ?_)
 refine aV (ι:=Nat) (fun i=>i ≤ tg.length) (fun i=>[(0,Pt b 0),(1,I n),(6,I i)]) (fun _=>G) (fun i=>[]) (fun i=>tg.length - i) 0 ?_ tU F a7 (fun i Hi=>?_)
 ·exact Nat.zero_le _
 by_cases hi : i < tg.length
 ·obtain ⟨xb,xo,xc,e,hs1⟩:=h1.expl oM
  simp only [Value.slice.injEq] at e
  obtain ⟨rfl,-,rfl⟩:=e
  have h3:=hno i hi
  have hti : ab tg i = ab tg i:=rfl
  repeat' (first | refine jM ?_ | (refine jo ?_;first | refine jV (aj F F aS F F) ?_ | (refine jV (cm F F aS ?_ aS F) ?_;focus omega) | refine jV (af F) ?_ | refine aP F ?_ | refine jV (ak F F oM) ?_) | refine aG F F (ax oM) ?_ | refine ac F F ?_ | refine ad F (aF ‹_›) ?_)
  exact bm (i + 1) oM oM tU F a7
 ·repeat' (first | refine jR ?_ | (refine jo ?_;first | refine jV (aj F F aS F F) ?_ | refine jV (af F) ?_ | refine aE F ?_) | refine aw F F (aF oM) ?_ | refine ad F F ?_)
  all_goals refine jY (vs:=[_,_]) ?_
  all_goals rfl
theorem pZ {u : Value} {x : cD} {k : adB} {n : Int} (hu : u.oneCell' = true) (hf : aT G (gm x) 4 x.2.fields.length (ah hO x.2.fields)) (hl : x.2.fields.length ≤ 1000) (cx_rf : aZ adA 136 [u,S k] G (· = Tu [Ag [U8 x.2.sort,S x.2.name,gm x],Bo true])) (hso : x.2.sort = 82) :
  aZ adA 100 [u,S k,I n] G (· = Tu [Ag (hO ((co x.2.fields n).getD zF)),Bo (co x.2.fields n).isSome]):=by
 have cx_fld:=tQ (tag:=n) hf hl
 obtain ⟨⟨a,ca⟩,⟨so,nm,fs⟩⟩:=x
 dsimp only at hso cx_fld cx_rf ⊢
 subst hso
 dsimp only [gm] at cx_fld cx_rf ⊢
 cases hg : co fs n with
 | none =>
  rw [hg] at cx_fld
  simp only [Option.getD_none,Option.isSome_none] at cx_fld ⊢
  refine jE [(0,_),(1,_),(2,_)] Tryz.func100 Tryz.ntmps100 fun B hB=>?_
  repeat' (first | refine jR ?_ | (refine jo ?_;first | refine jL fun _=>?_ | refine jC F F F ?_ | refine bM F ?_ | refine ae F F F cx_rf F ?_ | refine ae F F F cx_fld F ?_) | (refine an (ec (id:=3) (tt:=6) F am ?_);refine jW 10 [1,2] (aa 12 6) ?_;(try (refine Nx.re (d:=26) (v':=Bo true) F (congrArg Value.bool F) ?_));refine jW 9 [3] (aa 12 14) ?_;(refine jG (aa 12 15) 0 F (bP F F F F) ?_);((refine jG (aa 12 31) 4 F (bO F F ?_) ?_;(focus ((rfl);done))));refine jW 6 [5] (aa 12 63) ?_;(try (refine Nx.re (d:=29) (v':=Bo false) F (congrArg Value.bool F) ?_));refine jW 5 [6] (aa 12 127) ?_;(refine jN (aa 12 255) 7 F ?_);refine jW 3 [8] (aa 12 511) ?_;((refine jG (aa 12 1023) 9 F (bn F F ?_) ?_;(focus ((rfl);done))));refine jA 10 F ?_;(refine jC F F F ?_);refine jK (aa 12 2047) ?_;refine jW 0 [11] (aa 12 4095) ?_;refine jQ ?_))
  all_goals refine jZ (vs:=[_,_]) F ⟨aJ F F F F,F,trivial⟩ F ⟨F,F,?_⟩
  all_goals rfl
 | some f =>
  rw [hg] at cx_fld
  simp only [Option.getD_some,Option.isSome_some] at cx_fld ⊢
  refine jE [(0,_),(1,_),(2,_)] Tryz.func100 Tryz.ntmps100 fun B hB=>?_
  repeat' (first | refine jR ?_ | (refine jo ?_;first | refine jL fun _=>?_ | refine jC F F F ?_ | refine bM F ?_ | refine ae F F F cx_rf F ?_ | refine ae F F F cx_fld F ?_) | (refine an (ec (id:=3) (tt:=6) F am ?_);refine jW 10 [1,2] (aa 12 6) ?_;(try (refine Nx.re (d:=26) (v':=Bo true) F (congrArg Value.bool F) ?_));refine jW 9 [3] (aa 12 14) ?_;(refine jG (aa 12 15) 0 F (bP F F F F) ?_);((refine jG (aa 12 31) 4 F (bO F F ?_) ?_;(focus ((rfl);done))));refine jW 6 [5] (aa 12 63) ?_;(try (refine Nx.re (d:=29) (v':=Bo true) F (congrArg Value.bool F) ?_));refine jW 5 [6] (aa 12 127) ?_;(refine jG (aa 12 255) 7 F (aX F F F) ?_);refine jW 3 [8] (aa 12 511) ?_;((refine jG (aa 12 1023) 9 F (bO F F ?_) ?_;(focus ((rfl);done))));refine jA 10 F ?_;(refine jC F F F ?_);refine jK (aa 12 2047) ?_;refine jW 0 [11] (aa 12 4095) ?_;refine jQ ?_))
  all_goals refine jZ (vs:=[_,_]) F ⟨aJ F F F F,F,trivial⟩ F ⟨F,F,?_⟩
  all_goals rfl
def gM (ts : List Ty) (o : Option (adB × V)) (r : Value) (G' : Gh) : Prop:=(o = none ∧ ∃ q,r = Tu [.pointer q,Bo false]) ∨ ∃ k' v' b',o = some (k',v') ∧ r = Tu [Pt b' 0,Bo true] ∧ RepR G' ts v' k' b'
theorem gM.no {f : FuncId} {args : List Value} {ts : List Ty} {o : Option (adB × V)} (h : bG adA f args G (gM ts o)) (e : o = none) : bG adA f args G (fun r _=>∃ q,r = Tu [.pointer q,Bo false]):=by
 refine h.mono ?_
 rintro v G' L' ⟨h1,h2,⟨_,h3⟩ | ⟨k',v',b',h3,_⟩⟩
 ·exact ⟨h1,h2,h3⟩
 ·rw [e] at h3;cases h3
theorem gM.yes {f : FuncId} {args : List Value} {ts : List Ty} {o : Option (adB × V)} {k' : adB} {v' : V} (h : bG adA f args G (gM ts o)) (e : o = some (k',v')) : bG adA f args G (fun r G'=>∃ b',r = Tu [Pt b' 0,Bo true] ∧ RepR G' ts v' k' b'):=by
 refine h.mono ?_
 rintro v G' L' ⟨h1,h2,⟨h3,_⟩ | ⟨k2,v2,b',h3,h4,h5⟩⟩
 ·rw [e] at h3;cases h3
 ·rw [e] at h3
  simp only [Option.some.injEq,Prod.mk.injEq] at h3
  obtain ⟨rfl,rfl⟩:=h3
  exact ⟨h1,h2,b',h4,h5⟩
theorem i6 {ts : List Ty} {c : UInt8} {r : adB} {v : V} {n : Int} (h1 : c.toNat ≠ 91) (h2 : c.toNat ≠ 63) (h3 : c.toNat ≠ 64) : aC ts (c :: r) v n = none:=by
 unfold aC;dsimp only;rw [if_neg (fun h=>by rcases h with h | h;exact h1 h;exact h2 h),aaP h3]
theorem dU {ts : List Ty} {c : UInt8} {r : adB} {v : V} {n : Int} (h : c.toNat = 91 ∨ c.toNat = 63) : aC ts (c :: r) v n = if n < (v.kids.length : Nat) then some (r,ab v.kids n.toNat) else none:=by
 unfold aC;dsimp only;rw [if_pos h]
theorem em {ts : List Ty} {k : adB} {v : V} {n : Int} {t : Ty} (h : a8 ts k = some t) : aC ts k v n = match co t.fields n with
  | none=>none
  | some f=>if t.sort = 69 then none else if t.sort = 82 then some (f.kind,cX ts v f) else if v.tag = n then some (f.kind,ab v.kids 0) else none:=by
 obtain ⟨r,rfl⟩:=dW h
 unfold aC;dsimp only;rw [if_neg dC,h]
 all_goals rfl
theorem nK {u : Value} {vs : List cD} (h : SchR G u vs) (hw : SchW (ag vs)) {k : adB} {v : V} {b : Nat} (hr : RepR G (ag vs) v k b) (ho : OfK (ag vs) k v) (hki : aA (ag vs) k = true) {n : Int} (hn : 0 ≤ n ∧ n ≤ 999999) (htt : v.tot ≤ 1000000) :
  bG adA 54 [u,Pt b 0,I n] G (gM (ag vs) (aC (ag vs) k v n)):=by
 have hu:=h.sl.one
 obtain ⟨ua,uc,rfl⟩:=h.sl.sl
 cases hr with
 | leaf w x k tx b h1 h2 =>
  have hn82 : ¬ tx = [82]:=by
   rcases h2 with ⟨_,_,rfl,h⟩ | ⟨_,_,rfl⟩ | ⟨_,_,rfl,h⟩
   ·rintro rfl;exact absurd (h 82 (by simp)) dC
   ·simp
   ·rcases h with rfl | rfl <;> decide
  have hn85 : ¬ tx = [85]:=by
   rcases h2 with ⟨_,_,rfl,h⟩ | ⟨_,_,rfl⟩ | ⟨_,_,rfl,h⟩
   ·rintro rfl;exact absurd (h 85 (by simp)) dC
   ·simp
   ·rcases h with rfl | rfl <;> decide
  have hno : aC (ag vs) k (.nd w x 0 []) n = none:=by
   rcases h2 with ⟨_,rfl,_⟩ | ⟨_,rfl,_⟩ | ⟨_,rfl,_⟩
   all_goals exact i6 dC dC dC
  rw [hno]
  rcases h2 with ⟨rfl,rfl,_⟩ | ⟨rfl,rfl,_⟩ | ⟨rfl,rfl,_⟩
  all_goals
   refine jB [(0,_),(1,_),(2,_)] Tryz.func54 Tryz.ntmps54 fun B hok hB hW=>?_
   repeat' (first | refine jX ?_ | (refine jo ?_;first | refine jV (aj F F aS F F) ?_ | refine aE F ?_) | (refine aw F F (by first | rfl | (refine decide_eq_false ?_;(assumption))) ?_) | refine ad F F ?_)
   all_goals refine jZ (vs:=[_,_]) F ⟨F,F,trivial⟩ F ⟨Gh.le.refl _,F,?_⟩
   all_goals exact .inl ⟨F,_,F⟩
 | lst k b ks bs a c h1 h2 h3 hk =>
  have hk0 : bt (91 :: k) (Int.toNat 0) = 91:=bD 91 k
  have hkl2 : (91 :: k).length = k.length + 1:=rfl
  have hst:=dU (ts:=ag vs) (c:=91) (r:=k) (v:=.nd 91 [] 0 ks) (n:=n) (.inl rfl)
  rw [V.kids] at hst
  rw [hst]
  by_cases hn2 : n < ((ks.length : Nat) : Int)
  ·obtain ⟨i,rfl⟩ : ∃ i : Nat,n = i:=⟨n.toNat,oM⟩
   obtain ⟨kb,ko,kc,e,hs⟩:=h2.expl oM
   simp only [Value.slice.injEq] at e
   obtain ⟨rfl,-,rfl⟩:=e
   have hxi : ab bs i = ab bs i:=rfl
   rw [if_pos hn2]
   refine jB [(0,_),(1,_),(2,_)] Tryz.func54 Tryz.ntmps54 fun B hok hB hW=>?_
   repeat' (first | refine jM ?_ | (refine jo ?_;first | refine jV (aj F F aS F F) ?_ | (refine jV (cm F F aS ?_ aS F) ?_;focus omega) | refine aP F ?_ | refine jV (af F) ?_ | refine jV (ak F F oM) ?_) | refine aG F F F ?_ | refine ac F F ?_ | refine ad F (aF oM) ?_)
   all_goals refine jZ (vs:=[_,_]) F ⟨F,F,trivial⟩ F ⟨Gh.le.refl _,F,?_⟩
   all_goals exact .inr ⟨_,_,ab bs i,F,F,hk i oM⟩
  ·rw [if_neg hn2]
   refine jB [(0,_),(1,_),(2,_)] Tryz.func54 Tryz.ntmps54 fun B hok hB hW=>?_
   repeat' (first | refine jM ?_ | (refine jo ?_;first | refine jV (aj F F aS F F) ?_ | refine aP F ?_ | refine jV (af F) ?_) | refine aG F F F ?_ | (refine ac F (by first | rfl | (refine decide_eq_true ?_;(omega))) ?_))
   all_goals refine jZ (vs:=[_,_]) F ⟨F,F,trivial⟩ F ⟨Gh.le.refl _,F,?_⟩
   all_goals exact .inl ⟨F,_,F⟩
 | non k b h1 =>
  have hk0 : bt (63 :: k) (Int.toNat 0) = 63:=bD 63 k
  have hkl2 : (63 :: k).length = k.length + 1:=rfl
  have hst:=dU (ts:=ag vs) (c:=63) (r:=k) (v:=.nd 63 [] 0 []) (n:=n) (.inr rfl)
  rw [V.kids,if_neg (by simp;omega)] at hst
  rw [hst]
  refine jB [(0,_),(1,_),(2,_)] Tryz.func54 Tryz.ntmps54 fun B hok hB hW=>?_
  repeat' (first | refine jM ?_ | (refine jo ?_;first | refine jV (aj F F aS F F) ?_ | refine aE F ?_ | refine jV (af F) ?_) | refine aw F F F ?_ | (refine ac F (by first | rfl | (refine decide_eq_true ?_;(omega))) ?_))
  all_goals refine jZ (vs:=[_,_]) F ⟨F,F,trivial⟩ F ⟨Gh.le.refl _,F,?_⟩
  all_goals exact .inl ⟨F,_,F⟩
 | opt k b kb b' cc w h0 h1 h2 h3 =>
  have hk0 : bt (63 :: k) (Int.toNat 0) = 63:=bD 63 k
  have hkl2 : (63 :: k).length = k.length + 1:=rfl
  have hst:=dU (ts:=ag vs) (c:=63) (r:=k) (v:=.nd 63 [] 0 [w]) (n:=n) (.inr rfl)
  rw [V.kids] at hst
  rw [hst]
  by_cases hn2 : n = 0
  ·subst hn2
   rw [if_pos (by simp)]
   refine jB [(0,_),(1,_),(2,_)] Tryz.func54 Tryz.ntmps54 fun B hok hB hW=>?_
   repeat' (first | refine jM ?_ | (refine jo ?_;first | refine jV (aj F F aS F F) ?_ | refine aE F ?_ | refine jV (af F) ?_ | refine jV (aQ F F oM) ?_) | refine aw F F F ?_ | refine ac F F ?_ | refine ad F F ?_)
   all_goals refine jZ (vs:=[_,_]) F ⟨F,F,trivial⟩ F ⟨Gh.le.refl _,F,?_⟩
   all_goals exact .inr ⟨_,_,b',F,F,h3⟩
  ·rw [if_neg (by simp;omega)]
   refine jB [(0,_),(1,_),(2,_)] Tryz.func54 Tryz.ntmps54 fun B hok hB hW=>?_
   repeat' (first | refine jM ?_ | (refine jo ?_;first | refine jV (aj F F aS F F) ?_ | refine aE F ?_ | refine jV (af F) ?_) | refine aw F F F ?_ | (refine ac F (by first | rfl | (refine decide_eq_true ?_;(omega))) ?_))
   all_goals refine jZ (vs:=[_,_]) F ⟨F,F,trivial⟩ F ⟨Gh.le.refl _,F,?_⟩
   all_goals exact .inl ⟨F,_,F⟩
 | enm k b tgb t d h0 h1 h2 h3 =>
  have hst:=em (v:=.nd 69 [] d.tag []) (n:=n) h0.1
  have hno : aC (ag vs) k (.nd 69 [] d.tag []) n = none:=by
   rw [hst]
   cases co t.fields n with
   | none=>rfl
   | some f=>dsimp only;rw [if_pos h0.2]
  rw [hno]
  obtain ⟨r,rfl⟩:=dW h0.1
  have hk0 : bt (64 :: r) (Int.toNat 0) = 64:=bD 64 r
  have hkl2 : (64 :: r).length = r.length + 1:=rfl
  refine jB [(0,_),(1,_),(2,_)] Tryz.func54 Tryz.ntmps54 fun B hok hB hW=>?_
  repeat' (first | refine jM ?_ | (refine jo ?_;first | refine jV (aj F F aS F F) ?_ | refine aE F ?_) | refine aw F F F ?_ | refine ad F F ?_)
  all_goals refine jZ (vs:=[_,_]) F ⟨F,F,trivial⟩ F ⟨Gh.le.refl _,F,?_⟩
  all_goals exact .inl ⟨F,_,F⟩
 | uni k b tgb kb b' cc t d w hcc h0 h1 h2 h3 h4 hk =>
  have hst:=em (v:=.nd 85 [] d.tag [w]) (n:=n) h0.1
  have hTW:=hw.ty _ (bj h0.1)
  have hso:=h0.2
  obtain ⟨r,rfl⟩:=dW h0.1
  have hk0 : bt (64 :: r) (Int.toNat 0) = 64:=bD 64 r
  have hkl2 : (64 :: r).length = r.length + 1:=rfl
  by_cases hdn : d.tag = n
  ·have hyes : aC (ag vs) (64 :: r) (.nd 85 [] d.tag [w]) n = some (d.kind,w):=by
    rw [hst,← hdn,iQ hTW h1]
    dsimp only
    rw [if_neg oM,if_neg oM,if_pos (show V.tag (.nd 85 [] d.tag [w]) = d.tag from rfl)];rfl
   rw [hyes]
   refine jB [(0,_),(1,_),(2,_)] Tryz.func54 Tryz.ntmps54 fun B hok hB hW=>?_
   repeat' (first | refine jM ?_ | (refine jo ?_;first | refine jV (aj F F aS F F) ?_ | refine aP F ?_ | refine aE F ?_) | refine aG F F F ?_ | refine aw F F F ?_ | refine ac F F ?_ | refine ad F F ?_)
   (refine an (ao (id:=6) _ (fun _ h=>h) am ?_);refine jT 9 [0,1,2,6,7,8,12] (aa 16 4551) ?_;(refine jG (aa 16 4559) 3 F (aj F F aS F F) ?_);(refine jG (aa 16 4575) 4 F (aQ F F oM) ?_);(refine jG (aa 16 4607) 5 F (aj F F aS F F) ?_);refine jT 5 [14] (aa 16 20991) ?_;(refine jG (aa 16 21503) 9 F (aj F F aS F F) ?_);(refine jG (aa 16 22527) 10 F (aQ F F oM) ?_);(refine jG (aa 16 24575) 11 F (aj F F aS F F) ?_);refine jT 0 [13,15] (aa 16 65535) ?_;refine jQ ?_)
   all_goals repeat' (refine jR ?_)
   all_goals refine jZ (vs:=[_,_]) F ⟨F,F,trivial⟩ F ⟨Gh.le.refl _,F,?_⟩
   all_goals (try rw [decide_eq_true hdn])
   all_goals exact .inr ⟨_,_,b',F,F,hk⟩
  ·have hno : aC (ag vs) (64 :: r) (.nd 85 [] d.tag [w]) n = none:=by
    rw [hst]
    cases co t.fields n with
    | none=>rfl
    | some f =>
     dsimp only
     rw [if_neg oM,if_neg oM,if_neg (show ¬ V.tag (.nd 85 [] d.tag [w]) = n from hdn)]
   rw [hno]
   refine jB [(0,_),(1,_),(2,_)] Tryz.func54 Tryz.ntmps54 fun B hok hB hW=>?_
   repeat' (first | refine jM ?_ | (refine jo ?_;first | refine jV (aj F F aS F F) ?_ | refine aP F ?_ | refine aE F ?_) | refine aG F F F ?_ | refine aw F F F ?_ | refine ac F F ?_ | refine ad F F ?_)
   (refine an (ao (id:=6) _ (fun _ h=>h) am ?_);refine jT 9 [0,1,2,6,7,8,12] (aa 16 4551) ?_;(refine jG (aa 16 4559) 3 F (aj F F aS F F) ?_);(refine jG (aa 16 4575) 4 F (aQ F F oM) ?_);(refine jG (aa 16 4607) 5 F (aj F F aS F F) ?_);refine jT 5 [14] (aa 16 20991) ?_;(refine jG (aa 16 21503) 9 F (aj F F aS F F) ?_);(refine jG (aa 16 22527) 10 F (aQ F F oM) ?_);(refine jG (aa 16 24575) 11 F (aj F F aS F F) ?_);refine jT 0 [13,15] (aa 16 65535) ?_;refine jQ ?_)
   all_goals repeat' (refine jR ?_)
   all_goals refine jZ (vs:=[_,_]) F ⟨F,F,trivial⟩ F ⟨Gh.le.refl _,F,?_⟩
   all_goals (try rw [decide_eq_false hdn])
   all_goals exact .inl ⟨F,_,F⟩
 | recd k b t fs bs a a2 c c2 h0 h1 h2 h3 h4 h5 hk =>
  have hst:=em (v:=.nd 82 [] 0 (fs.map aq)) (n:=n) h0.1
  have hTW:=hw.ty _ (bj h0.1)
  have hso:=h0.2
  have hkk:=du (dL hki)
  obtain ⟨r,rfl⟩:=dW h0.1
  have hk0 : bt (64 :: r) (Int.toNat 0) = 64:=bD 64 r
  have hkl2 : (64 :: r).length = r.length + 1:=rfl
  have hvl : vs.length ≤ 8:=by have:=hw.len;unfold ag at this;simpa using this
  have href:=fj vs (64 :: r)
  have cx_rf:=i9 (k:=64 :: r) h oM hkk.1 oM
  rcases hrv : fg vs (64 :: r) with _ | x
  ·rw [hrv,h0.1] at href;cases href
  rw [hrv] at href cx_rf
  have htx : x.2 = t:=by rw [h0.1] at href;exact Option.some.inj href
  subst htx
  have hxm:=gp hrv
  have hfl:=hTW.len
  have cx_rec:=pZ (n:=n) hu (h.fl x hxm) oM cx_rf hso
  cases hg : co x.2.fields n with
  | none =>
   rw [hg] at hst cx_rec
   have hno : aC (ag vs) (64 :: r) (.nd 82 [] 0 (fs.map aq)) n = none:=hst
   rw [show (fs.map fun p=>V.nd 61 [] p.1.tag [p.2]) = fs.map aq from rfl,hno]
   refine jB [(0,_),(1,_),(2,_)] Tryz.func54 Tryz.ntmps54 fun B hok hB hW=>?_
   repeat' (first | refine jM ?_ | (refine jo ?_;first | refine jV (aj F F aS F F) ?_ | refine aP F ?_ | refine aE F ?_ | refine jL fun _=>?_ | refine jC F F F ?_ | refine ae F F F cx_rec F ?_) | refine aG F F F ?_ | refine aw F F F ?_ | refine ac F F ?_ | refine ad F F ?_)
   all_goals refine jZ (vs:=[_,_]) F ⟨F,F,trivial⟩ F ⟨Gh.le.refl _,F,?_⟩
   all_goals exact .inl ⟨F,_,F⟩
  | some f =>
   rw [hg] at hst cx_rec
   simp only [Option.getD_some,Option.isSome_some] at cx_rec
   have hfm:=List.mem_of_find?_eq_some hg
   have hft : f.tag = n:=by have:=List.find?_some hg;simpa using this
   have hyes : aC (ag vs) (64 :: r) (.nd 82 [] 0 (fs.map aq)) n = some (f.kind,cX (ag vs) (.nd 82 [] 0 (fs.map aq)) f):=by
    rw [hst];dsimp only;rw [if_neg oM,if_pos hso]
   rw [show (fs.map fun p=>V.nd 61 [] p.1.tag [p.2]) = fs.map aq from rfl,hyes]
   have hfs9 : fs.length ≤ 100000:=by
    have h7:=dk (fs.map aq)
    rw [bI] at htt
    have e1 : (fs.map aq).length = fs.length:=by simp
    have e2 : (fs.map fun p=>V.nd 61 [] p.1.tag [p.2]) = fs.map aq:=rfl
    rw [e2] at htt
    omega
   have htn : ∀ i,i < fs.length → ab (fs.map fun p : Fld × V=>p.1.tag) i = (ab fs i).1.tag:=fun i hi=>by rw [aI (by simpa using hi),aI hi];simp
   have htl : (fs.map fun p : Fld × V=>p.1.tag).length = fs.length:=by simp
   by_cases hex : ∃ j,j < fs.length ∧ (ab fs j).1.tag = n
   ·obtain ⟨j,hj,hjn,hjf⟩:=xZ hex
    have hget : cX (ag vs) (.nd 82 [] 0 (fs.map aq)) f = (ab fs j).2:=by
     unfold cX
     rw [V.kids,ox hj (by rw [hjn,hft]) (fun i hi=>by rw [hft];exact hjf i hi)];rfl
    have hkd : (ab fs j).1 = f:=eW hTW (h5 j hj) hfm (by rw [hjn,hft])
    rw [hget]
    have cx_at:=acO (tg:=fs.map fun p : Fld × V=>p.1.tag) (n:=n) (by rw [h4,htl]) oM (by rw [htl];exact h1) (by rw [htl];exact h2) (by rw [htl];exact h3) (by rw [htl];exact hj) (by rw [htn j hj];exact hjn) (fun i hi=>by rw [htn i oM];exact hjf i hi)
    have hrj:=hk j hj
    rw [hkd] at hrj
    refine jB [(0,_),(1,_),(2,_)] Tryz.func54 Tryz.ntmps54 fun B hok hB hW=>?_
    repeat' (first | refine jM ?_ | (refine jo ?_;first | refine jV (aj F F aS F F) ?_ | refine aP F ?_ | refine aE F ?_ | refine jL fun _=>?_ | refine jC F F F ?_ | refine ae F F F cx_rec F ?_ | refine ae F F F cx_at F ?_) | refine aG F F F ?_ | refine aw F F F ?_ | refine ac F F ?_ | refine ad F F ?_)
    all_goals refine jZ (vs:=[_,_]) F ⟨F,F,trivial⟩ F ⟨Gh.le.refl _,F,?_⟩
    all_goals exact .inr ⟨_,_,ab bs j,F,F,hrj⟩
   ·have hjno : ∀ i,i < fs.length → (ab fs i).1.tag ≠ n:=fun i hi e=>hex ⟨i,hi,e⟩
    have hget : cX (ag vs) (.nd 82 [] 0 (fs.map aq)) f = d8 (ag vs) f:=by
     unfold cX
     rw [V.kids,ou fun i hi=>by rw [hft];exact hjno i hi];rfl
    rw [hget]
    obtain ⟨g1,g2,g3⟩:=fp hw (bj h0.1) oM hfm
    obtain ⟨g4,g5⟩:=iI g2
    have hdk : aA (ag vs) f.kind = true:=dY hw (bj h0.1) oM hfm
    have cx_at:=acP (tg:=fs.map fun p : Fld × V=>p.1.tag) (n:=n) oM (by rw [htl];exact h1) (by rw [htl];exact h2) (fun i hi=>by rw [htn i oM];exact hjno i oM)
    have cx_sta:=mg (f:=f) h hw hdk
    have cx_rd:=gq (u:=.slice ua vs.length uc) (vs:=vs) hw 12 oM G f.kind (bR (ag vs) f) h hdk oM
    rw [g4] at cx_rd
    refine jB [(0,_),(1,_),(2,_)] Tryz.func54 Tryz.ntmps54 fun B hok hB hW=>?_
    repeat' (first | refine jM ?_ | (refine jo ?_;first | refine jV (aj F F aS F F) ?_ | refine aP F ?_ | refine aE F ?_ | refine jL fun _=>?_ | refine jC F F F ?_ | refine ae F F F cx_rec F ?_ | refine ae F F F cx_at F ?_) | refine aG F F F ?_ | refine aw F F F ?_ | refine ac F F ?_ | refine ad F F ?_)
    (refine an (ao (id:=14) _ (fun _ h=>h) am ?_);refine jT 12 [0,2,5] (aa 15 37) ?_;(refine jG (aa 15 39) 1 F (ay F F) ?_);(refine jG (aa 15 47) 3 F (bP F F F F) ?_);(refine jG (aa 15 111) 6 F (aX F F F) ?_);refine jA 4 F ?_;(refine ae F F F cx_sta F ?_);refine jS (aa 15 127) ?_;refine jA 7 F ?_;(refine ar F F F cx_rd F ?_;rintro _ G hle ⟨q1,r1,ok1,rfl,hyes,hno⟩;skip);refine jS (aa 15 255) ?_;refine jT 0 [8,9,10,11,12,13,14] (aa 15 32767) ?_;refine jQ ?_)
    all_goals
     cases ok1 with
     | false=>cases hno rfl
     | true =>
      obtain ⟨w,wb,rfl,hf,hrep⟩:=hyes rfl
      simp only [Option.some.injEq,Prod.mk.injEq] at hf
      obtain ⟨rfl,rfl⟩:=hf
      repeat' (first | refine jR ?_ | (refine jo ?_;refine aP F ?_) | refine aG F F F ?_)
      all_goals refine jZ (vs:=[_,_]) F ⟨F,F,trivial⟩ F ⟨hle,F,?_⟩
      all_goals exact .inr ⟨_,_,wb,F,F,hrep⟩
theorem pi {ts : List Ty} (hw : SchW ts) {t : Ty} (ht : t ∈ ts) (hs : t.sort ≠ 69) {d : Fld} (hd : d ∈ t.fields) : (d8 ts d).tot ≤ 40000:=by
 obtain ⟨g4,g5⟩:=iI (fp hw ht hs hd).2.1
 have:=gr _ _ _ _ g4
 dsimp only at this
 simp only [List.length_nil] at this
 omega
theorem kG {ts : List Ty} (hw : SchW ts) {k : adB} {v : V} (h : OfK ts k v) (hk : aA ts k = true) {n : Int} (hn : 0 ≤ n) {k' : adB} {v' : V} (e : aC ts k v n = some (k',v')) {N : Nat} (hv : v.tot ≤ N) (hN : 40000 ≤ N) : v'.tot ≤ N:=by
 obtain ⟨c,r,rfl⟩:=dX hk
 unfold aC at e
 dsimp only at e
 split at e
 ·rename_i hc
  split at e
  ·rename_i hlt
   simp only [Option.some.injEq,Prod.mk.injEq] at e
   obtain ⟨rfl,rfl⟩:=e
   have h1:=j4 (ks:=v.kids) (i:=n.toNat) oM
   obtain ⟨w,x,t,ks⟩:=v
   rw [bI] at hv
   rw [V.kids] at h1 ⊢
   omega
  ·cases e
 ·split at e
  ·cases e
  ·rename_i t hr
   have ht:=bj hr
   split at e
   ·cases e
   ·rename_i f hf
    have hfm:=List.mem_of_find?_eq_some hf
    split at e
    ·cases e
    ·rename_i h69
     split at e
     ·rename_i h82
      simp only [Option.some.injEq,Prod.mk.injEq] at e
      obtain ⟨rfl,rfl⟩:=e
      rcases bH h hr with ⟨_,fs,rfl,g3,g4,_,_⟩ | ⟨h1,_⟩ | ⟨h1,_⟩
      ·unfold cX
       rw [V.kids]
       cases hto : cC f (fs.map aq) with
       | none =>
        have:=pi hw ht h69 hfm
        show (d8 ts f).tot ≤ N
        omega
       | some u =>
        obtain ⟨_,p,hp,_,rfl⟩:=gX (hw.ty t ht) hfm (fun p hp=>⟨g3 p hp,g4 p hp⟩) hto
        have h2:=ot (List.mem_map_of_mem (f:=aq) hp)
        rw [bI] at hv
        simp only [aq,bI,V.tots] at h2
        show p.2.tot ≤ N
        omega
      ·omega
      ·omega
     ·rename_i h82
      split at e
      ·simp only [Option.some.injEq,Prod.mk.injEq] at e
       obtain ⟨rfl,rfl⟩:=e
       rcases bH h hr with ⟨h1,_⟩ | ⟨h1,_⟩ | ⟨_,_,d,u,rfl,g4,g5⟩
       ·omega
       ·omega
       ·simp only [bI,V.tots] at hv
        show u.tot ≤ N
        omega
      ·cases e
theorem m8 {ts : List Ty} {p : List Int} {i : Nat} (hi : i < p.length) {k : adB} {v : V} : ce ts k v (p.drop i) = match aC ts k v (ab p i) with
  | none=>none
  | some (k',v')=>ce ts k' v' (p.drop (i + 1)):=by
 rw [List.drop_eq_getElem_cons hi,aI hi,ce]
 all_goals (cases aC ts k v p[i] <;> rfl)
theorem xD {ts : List Ty} {v : V} {k : adB} {b : Nat} (h : RepR G ts v k b) : ∃ x y z,bT G b 0 [S k,x,y,z]:=by
 cases h with
 | leaf w x k tx b h1 h2=>exact ⟨_,_,_,h1⟩
 | lst k b ks bs a c h1 h2 h3 hk=>exact ⟨_,_,_,h1⟩
 | non k b h1=>exact ⟨_,_,_,h1⟩
 | opt k b kb b' cc w h0 h1 h2 h3=>exact ⟨_,_,_,h1⟩
 | recd k b t fs bs a a2 c c2 h0 h1 h2 h3 h4 h5 hk=>exact ⟨_,_,_,h1⟩
 | enm k b tgb t d h0 h1 h2 h3=>exact ⟨_,_,_,h2⟩
 | uni k b tgb kb b' cc t d w hcc h0 h1 h2 h3 h4 hk=>exact ⟨_,_,_,h2⟩
theorem z0 {u : Value} {vs : List cD} (h : SchR G u vs) (hw : SchW (ag vs)) {p : List Int} {pv : Value} (hp : aT G pv 1 p.length (ah cI p)) (hpn : ∀ n ∈ p,0 ≤ n ∧ n ≤ 999999) (hpl : p.length ≤ 1000) {k : adB} {v : V} {b : Nat} (hr : RepR G (ag vs) v k b) (ho : OfK (ag vs) k v) (hki : aA (ag vs) k = true) (htt : v.tot ≤ 1000000) :
  bG adA 104 [u,Pt b 0,pv] G (gM (ag vs) (ce (ag vs) k v p)):=by
 have hu:=h.sl.one
 obtain ⟨pa,pc,rfl⟩:=hp.sl
 refine jB [(0,_),(1,_),(2,_)] Tryz.func104 Tryz.ntmps104 fun B hok hB hW=>?_
 repeat' (refine jR ?_)
 refine aV (ι:=adB × V × Nat × Nat × Gh) (fun j=>((RepR j.2.2.2.2 (ag vs) j.2.1 j.1 j.2.2.1 ∧ OfK (ag vs) j.1 j.2.1) ∧ (aA (ag vs) j.1 = true ∧ j.2.1.tot ≤ 1000000)) ∧ (Gh.le G j.2.2.2.2 ∧ j.2.2.2.1 ≤ p.length) ∧ ce (ag vs) k v p = ce (ag vs) j.1 j.2.1 (p.drop j.2.2.2.1)) (fun j=>[(0,u),(1,Pt j.2.2.1 0),(2,.slice pa p.length pc),(8,I j.2.2.2.1)]) (fun j=>j.2.2.2.2) (fun j=>[]) (fun j=>p.length - j.2.2.2.1) (k,v,b,0,G) ?_ tU F a7 (fun j Hj=>?_)
 ·exact ⟨⟨⟨hr,ho⟩,hki,htt⟩,⟨Gh.le.refl _,Nat.zero_le _⟩,F⟩
 obtain ⟨k0,v0,b0,i,Gq⟩:=j
 dsimp only at Hj ⊢
 obtain ⟨⟨⟨hr0,ho0⟩,hk0,ht0⟩,⟨hgq,hi0⟩,he⟩:=Hj
 by_cases hi : i < p.length
 ·obtain ⟨xb,xo,xc,e,hs1⟩:=(hp.mono hgq).expl oM
  simp only [Value.slice.injEq] at e
  obtain ⟨rfl,-,rfl⟩:=e
  have hni:=hpn _ (bB hi)
  have hti : ab p i = ab p i:=rfl
  have hstp:=nK (h.mono hgq) hw hr0 ho0 hk0 hni ht0
  rw [m8 hi] at he
  cases hsv : aC (ag vs) k0 v0 (ab p i) with
  | none =>
   have cx_stn:=gM.no hstp hsv
   rw [hsv] at he
   repeat' (first | refine jR ?_ | (refine jo ?_;first | refine jV (af F) ?_ | refine jV (ak F F oM) ?_ | (refine jV (cm F F aS ?_ aS F) ?_;focus omega) | (refine ar F F F cx_stn F ?_;rintro _ G hle ⟨q1,rfl⟩;skip)) | (refine ac F (by first | rfl | (refine decide_eq_true ?_;(omega))) ?_))
   all_goals refine jZ (vs:=[_,_]) F ⟨F,F,trivial⟩ F ⟨hgq.trans hle,F,?_⟩
   all_goals exact .inl ⟨he,_,F⟩
  | some y =>
   obtain ⟨k1,v1⟩:=y
   have cx_sty:=gM.yes hstp hsv
   rw [hsv] at he
   obtain ⟨g1,g2⟩:=cP hw ho0 hk0 hni.1 hsv
   have g3:=kG hw ho0 hk0 hni.1 hsv ht0 oM
   repeat' (first | refine jM ?_ | (refine jo ?_;first | refine jV (af F) ?_ | refine jV (ak F F oM) ?_ | (refine jV (cm F F aS ?_ aS F) ?_;focus omega) | (refine ar F F F cx_sty F ?_;rintro _ G hle ⟨b1,rfl,hrep1⟩;skip)) | refine ac F (ax oM) ?_ | refine ad F F ?_)
   exact bm (k1,v1,b1,i + 1,G) ⟨⟨⟨hrep1,g1⟩,g2,g3⟩,⟨hgq.trans hle,by dsimp only;omega⟩,he⟩ (by dsimp only;omega) tU rfl a7
 ·have hd : p.drop i = []:=List.drop_eq_nil_of_le oM
  rw [hd] at he
  repeat' (first | refine jR ?_ | (refine jo ?_;refine jV (af F) ?_) | refine ad F (aF oM) ?_)
  all_goals refine jZ (vs:=[_,_]) F ⟨F,F,trivial⟩ F ⟨hgq,F,?_⟩
  all_goals exact .inr ⟨_,_,b0,he,F,hr0⟩
theorem nL {s k w : adB} {v : V} {ts : List Ty} (h : s.length ≤ 1048576 ∧ k.length ≤ 1048576 ∧ w.length ≤ 1048576) (hs : bc s = some ts) (hki : aA ts k = true) (hvo : cq ts k w = some v) :
  bG adA 21 [S s,S k,S w] G (fun r G'=>∃ a c vs b,r = Tu [.slice a vs.length c,Pt b 0,Bo true] ∧ SchR G' (.slice a vs.length c) vs ∧ ag vs = ts ∧ RepR G' ts v k b):=by
 have hw:=d9 hs
 have hk : dA s k = true:=by unfold dA;rw [hs];exact hki
 obtain ⟨h12,hl⟩:=iI hvo
 have cx_lka : ∀ G,bG adA 49 [S s,S k] G (fun v G'=>∃ a c vs,v = Tu [.slice a vs.length c,Bo true] ∧ SchR G' (.slice a vs.length c) vs ∧ ag vs = ts):=fun G=>by
  refine (hY (G:=G) (s:=s) (k:=k) oM oM).mono ?_
  rintro v G' L' ⟨h1,h2,u,vs,rfl,h4,_,h6⟩
  obtain ⟨_,⟨rfl,h0⟩ | ⟨b,o,cap,rfl,_,_⟩⟩:=h4.sl
  ·exact ⟨h1,h2,none,0,vs,by rw [hk,h0],by rw [h0];exact h4,h6 ts hs hki⟩
  ·exact ⟨h1,h2,_,cap,vs,by rw [hk],h4,h6 ts hs hki⟩
 refine jB [(0,_),(1,_),(2,_)] Tryz.func21 Tryz.ntmps21 fun B hok hB hW=>?_
 repeat' (first | refine jR ?_ | (refine jo ?_;first | refine aE F ?_ | refine jV (ay F F) ?_ | (refine ar F F F (cx_lka _) F ?_;rintro _ G hle ⟨av1,cv1,vs1,rfl,hR1,hT1⟩;skip)) | refine aw F F F ?_ | refine ad F (aF oM) ?_)
 subst hT1
 have cx_rd : bG adA 50 [Ag [.slice av1 vs1.length cv1],S w,S k,I (12 : Nat)] G (fun r G'=>∃ b,r = Tu [Pt b 0,S [],Bo true] ∧ RepR G' (ag vs1) v k b):=by
  refine (gq (u:=.slice av1 vs1.length cv1) (vs:=vs1) hw 12 oM G k w hR1 hki oM).mono ?_
  rintro r G' L' ⟨h1,h2,q,rest,ok,rfl,h3,h4⟩
  cases ok with
  | false=>rw [h12] at h4;cases h4 rfl
  | true =>
   obtain ⟨v',b,rfl,h5,h6⟩:=h3 rfl
   rw [h12] at h5
   simp only [Option.some.injEq,Prod.mk.injEq] at h5
   obtain ⟨rfl,rfl⟩:=h5
   exact ⟨h1,h2,b,F,h6⟩
 refine jo ?_
 refine ar F F F cx_rd F ?_
 rintro _ G2 hle2 ⟨b,rfl,hrep⟩
 repeat' (first | refine jR ?_ | (refine jo ?_;refine aP F ?_) | refine aG F F F ?_)
 refine jZ (vs:=[_,_,_]) F ⟨F,F,F,trivial⟩ F ⟨(Gh.le.trans hle hle2),F,?_⟩
 exact ⟨_,_,_,b,F,hR1.mono hle2,F,hrep⟩
theorem oA {s : adB} (h : s.length ≤ 1048576) (hp : da s = none) : ∀ G,bG adA 23 [S s] G (fun v _=>∃ a c n,v = Tu [.slice a n c,Bo false] ∧ True):=fun G=>by
 refine (tG (G:=G) h).mono ?_
 rintro v G' L' ⟨h1,h2,a,c,n,rfl,_⟩
 exact ⟨h1,h2,a,c,n,by rw [hp];rfl,trivial⟩
theorem mJ {s : adB} {p : List Int} (h : s.length ≤ 1048576) (hp : da s = some p) : ∀ G,bG adA 23 [S s] G (fun v G'=>∃ a c n,v = Tu [.slice a n c,Bo true] ∧ n = p.length ∧ aT G' (.slice a n c) 1 p.length (ah cI p)):=fun G=>by
 refine (tG (G:=G) h).mono ?_
 rintro v G' L' ⟨h1,h2,a,c,n,rfl,h3⟩
 exact ⟨h1,h2,a,c,n,by rw [hp];rfl,h3 p hp⟩
theorem rg {s : adB} {p : List Int} (h : da s = some p) : p.length ≤ 8 ∧ ∀ n ∈ p,0 ≤ n ∧ n ≤ 999999:=by
 unfold da at h
 split at h
 ·simp only [Option.some.injEq] at h;subst h;simp
 ·split at h
  ·rename_i q hq
   split at h
   ·rename_i h8
    simp only [Option.some.injEq] at h;subst h
    exact ⟨h8,(kY hq).2⟩
   ·cases h
  ·cases h
abbrev yB : TypeId:=3
theorem pY {s : adB} (h : s.length ≤ 1048576) : bG adA 73 [S s] G (xl s):=by
 by_cases h0 : s = []
 ·subst h0
  refine jB [(0,_)] Tryz.func73 Tryz.ntmps73 fun B hok hB hW=>?_
  repeat' (first | refine jR ?_ | refine ac F F ?_)
  refine jZ (vs:=[_,_]) F ⟨F,F,trivial⟩ F ⟨Gh.le.refl _,F,?_⟩
  exact ⟨_,_,_,F,fun p hp=>by
   obtain rfl : p = []:=by unfold da at hp;simpa using hp.symm
   exact ⟨F,aT.nil0⟩⟩
 have cx_split : bG adA 118 [S s,S [47]] G (fun v G'=>∃ b o cap,v = .slice (some ⟨b,o,none⟩) (a9 47 s).length cap ∧ bT G' b o (ah c9 (a9 47 s))):=by
  refine (vg (c:=47) oM).mono ?_
  rintro v G' L' ⟨h1,h2,h3⟩
  have hp : 0 < (a9 47 s).length:=eB
  exact ⟨h1,h2,h3.expl hp⟩
 have hcl:=ii (k:=47) (s:=s)
 have hbad:=fun {i : Nat}=>pI h0 (i:=i)
 have hpo:=mT h0
 have hxl : ∀ i,i < (a9 47 s).length → (ab (a9 47 s) i).length ≤ 100000000:=fun i hi=>by
  have:=dz (bB hi)
  omega
 generalize a9 47 s = xs at *
 refine jB [(0,_)] Tryz.func73 Tryz.ntmps73 fun B hok hB hW=>?_
 repeat' (first | refine jR ?_ | (refine jo ?_;first | refine jV (af F) ?_ | (refine ar F F F cx_split F ?_;rintro _ G hle ⟨b1,o1,cap1,rfl,hseg⟩;skip)) | refine ad F (aF ‹_›) ?_)
 refine Nx.addNil yB 1 ?_
 refine aV (ι:=List Int × Option Addr × Nat × Nat) (fun j=>(j.1.length = j.2.2.2 ∧ j.2.2.2 ≤ xs.length ∧ j.2.2.2 ≤ 8) ∧ cK (xs.take j.2.2.2) = some j.1) (fun j=>[(4,.slice j.2.1 j.1.length j.2.2.1),(12,.slice (some ⟨b1,o1,none⟩) xs.length cap1),(13,I xs.length),(14,I j.2.2.2)]) (fun _=>G) (fun j=>[.acc (.slice j.2.1 j.1.length j.2.2.1) yB 1 j.1.length (ah cI j.1)]) (fun j=>xs.length - j.2.2.2) ([],none,0,0) ?_ tU F a7 (fun j Hj=>?_)
 ·exact ⟨⟨F,Nat.zero_le _,Nat.zero_le _⟩,F⟩
 obtain ⟨ps,a,c,i⟩:=j
 dsimp only at Hj ⊢
 obtain ⟨⟨hpl,hi0,hi8⟩,hst⟩:=Hj
 by_cases hi : i < xs.length
 ·have hxl1:=hxl i hi
  cases hn : aN (ab xs i) 999999 with
  | none =>
   have hno:=hbad hi hn
   have hns : (!(aN (ab xs i) 999999).isSome) = true:=by rw [hn];rfl
   repeat' (first | refine jR ?_ | (refine jo ?_;first | refine jV (ak F F oM) ?_ | (refine jV (fN F F aS ?_) ?_;focus omega) | refine aP F ?_ | (refine ep F F F (eL oM) F ?_;rintro _ ⟨n,rfl,hnum⟩)) | refine aG F F ‹_› ?_ | (refine ac F (by first | rfl | (refine decide_eq_true ?_;(omega))) ?_))
   all_goals refine jZ (vs:=[_,_]) F ⟨F,F,trivial⟩ F ⟨hle,F,?_⟩
   all_goals exact ⟨_,_,_,by rw [hno];rfl,fun p hp=>by rw [hno] at hp;cases hp⟩
  | some m =>
   have hns : (!(aN (ab xs i) 999999).isSome) = false:=by rw [hn];rfl
   by_cases h8 : i = 8
   ·subst h8
    have hno : da s = none:=by
     rw [hpo]
     cases hso : cK xs with
     | none=>rfl
     | some q =>
      have:=(kY hso).1
      dsimp only
      rw [if_neg oM]
    have h88 : ((ps.length : Nat) : Int) = 8:=oM
    repeat' (first | refine jR ?_ | (refine jo ?_;first | refine jV (af F) ?_ | refine jV (ak F F oM) ?_ | (refine jV (fN F F aS ?_) ?_;focus omega) | refine aE F ?_ | (refine ep F F F (eL oM) F ?_;rintro _ ⟨n,rfl,hnum⟩)) | refine aw F F ‹_› ?_ | (refine ac F (by refine decide_eq_true ?_;first | assumption | omega) ?_))
    all_goals refine jZ (vs:=[_,_]) F ⟨F,F,trivial⟩ F ⟨hle,F,?_⟩
    all_goals exact ⟨_,_,_,by rw [hno];rfl,fun p hp=>by rw [hno] at hp;cases hp⟩
   ·have h88 : ¬ ((ps.length : Nat) : Int) = 8:=oM
    repeat' (first | refine jM ?_ | (refine jo ?_;first | refine jV (af F) ?_ | refine jV (ak F F oM) ?_ | (refine jV (fN F F aS ?_) ?_;focus omega) | refine aE F ?_ | refine jF fun _=>?_ | refine bC F F F F F F F F F oM fun _ _=>?_ | (refine ep F F F (eL oM) F ?_;rintro _ ⟨n,rfl,hnum⟩)) | refine aw F F ‹_› ?_ | refine ac F (ax oM) ?_ | refine ad F (aF ‹_›) ?_)
    rename_i y1 yc
    have hmn:=hnum m hn
    subst hmn
    have hst2 : cK (xs.take (i + 1)) = some (ps ++ [n]):=by rw [dl hi,kg hst,hn];rfl
    have hl1 : (ps ++ [n]).length = ps.length + 1:=by simp
    rw [show ah cI ps ++ [I n] = ah cI (ps ++ [n]) from (bW cI ps n).symm]
    exact bm (ps ++ [n],some ⟨y1,0,none⟩,yc,i + 1) ⟨⟨by dsimp only;omega,by dsimp only;omega,by dsimp only;omega⟩,hst2⟩ (by dsimp only;omega) (by rw [hl1];repeat (first | exact trivial | refine ⟨F,?_⟩)) F (by rw [hl1];repeat (first | exact List.nil_sublist _ | apply List.Sublist.cons_cons))
 ·rw [List.take_of_length_le oM] at hst
  rw [hst] at hpo
  dsimp only at hpo
  rw [if_pos oM] at hpo
  repeat' (first | refine jR ?_ | refine ad F (aF oM) ?_)
  refine Nx.sealS (v:=.slice a ps.length c) fun G2 hG2 hsl=>?_
  refine jZ (vs:=[_,_]) F ⟨F,F,trivial⟩ F ⟨hle.trans hG2,F,?_⟩
  refine ⟨_,_,_,by rw [hpo];rfl,fun p hp=>?_⟩
  rw [hpo] at hp
  simp only [Option.some.injEq] at hp;subst hp;exact ⟨F,hsl⟩
theorem abL {b : Nat} {qs : List c6} {k s : adB} {u : V} (hS : ScI G b qs) (hw : SchW (al qs)) (hk : aA (al qs) k = true) (hvo : cq (al qs) k s = some u) :
  bG adA 110 [Pt b 0,Ag (cR k),S s] G (fun r G'=>∃ c,r = Ag (bi c) ∧ V.rep G' u c):=by
 have hl:=(iI hvo).2
 have cx_ris : bG adA 60 [Pt b 0,Ag [S (sg k),S (bs k),S (nm k)],S s] G (fun v G'=>∃ cv,v = Tu [Ag (bi cv),Bo true] ∧ V.rep G' u cv):=by
  refine (lm (G:=G) (b:=b) (s:=s) hS hw hk oM).mono ?_
  rintro v G' L' ⟨h1,h2,⟨h4,_⟩ | ⟨u',c,h4,rfl,h5⟩⟩
  ·rw [hvo] at h4;cases h4
  ·rw [hvo] at h4;obtain rfl:=Option.some.inj h4;exact ⟨h1,h2,c,F,h5⟩
 unfold cR
 refine jB [(0,_),(1,_),(2,_)] Tryz.func110 Tryz.ntmps110 fun B hok hB hW=>?_
 repeat' (first | refine jR ?_ | (refine jo ?_;first | refine jO fun _=>?_ | refine jL fun _=>?_ | refine bM F ?_ | refine jC F F F ?_ | (refine ar F F F cx_ris F ?_;rintro _ G hle ⟨cv,rfl,hrv⟩;skip)))
 all_goals refine jZ (vs:=[_]) F ⟨aJ F F F F,trivial⟩ F ⟨hle,F,?_⟩
 all_goals exact ⟨cv,F,hrv⟩
theorem wB {ts : List Ty} {f : Fld} {fs : List (Fld × V)} {j : Nat} (hj : j < fs.length) (hjn : (ab fs j).1.tag = f.tag) (hno : ∀ i,i < j → (ab fs i).1.tag ≠ f.tag) : cX ts (.nd 82 [] 0 (fs.map aq)) f = (ab fs j).2:=by
 unfold cX
 rw [V.kids,ox hj hjn hno];rfl
theorem ug {ts : List Ty} {f : Fld} {fs : List (Fld × V)} (hno : ∀ i,i < fs.length → (ab fs i).1.tag ≠ f.tag) : cX ts (.nd 82 [] 0 (fs.map aq)) f = d8 ts f:=by
 unfold cX
 rw [V.kids,ou hno];rfl
theorem tO {b bf of j : Nat} {qs : List c6} {t : Ty} {fs : List (Fld × V)} {c : VC} (hS : ScI G b qs) (hw : SchW (al qs)) (ht : t ∈ al qs) (hso : t.sort = 82) (hsf : bT G bf of (ah gx t.fields)) (hj : j < t.fields.length) (hrep : V.rep G (.nd 82 [] 0 (fs.map aq)) c) (h9 : fs.length ≤ 1000000) :
  bG adA 67 [Pt b 0,Ag (bi c),Pt bf (of + j * 6)] G (fun r G'=>∃ c',r = Ag (bi c') ∧ V.rep G' (cX (al qs) (.nd 82 [] 0 (fs.map aq)) (ab t.fields j)) c'):=by
 obtain ⟨a,k,cs,rfl,_,_,_,hcl,hsl,hrs⟩:=cS hrep
 have hml : (fs.map aq).length = fs.length:=by simp
 rw [hml] at hcl hsl
 have hfm : ab t.fields j ∈ t.fields:=bB hj
 have hdk : aA (al qs) (ab t.fields j).kind = true:=dY hw ht oM hfm
 obtain ⟨g1,g2,g3⟩:=fp hw ht oM hfm
 have cx_of:=vV hS hw hsf hj hdk
 have hnt : ∀ i,i < fs.length → ab (fs.map aq) i = aq (ab fs i):=fun i hi=>by rw [aI (by simpa using hi),aI hi];simp
 have hrn : ∀ i,i < fs.length → V.rep G (aq (ab fs i)) (ab cs i):=fun i hi=>by
  have:=fV hrs i oM
  rwa [hnt i hi] at this
 have e0 : bi ⟨82,[],0,a,(fs.map aq).length,k⟩ = [U8 (82 : Nat),S [],I 0,.slice a fs.length k]:=by rw [← hml];rfl
 rw [e0]
 refine jB [(0,_),(1,_),(2,_)] Tryz.func67 Tryz.ntmps67 fun B hok hB hW=>?_
 repeat' (first | refine jR ?_ | (refine jo ?_;first | refine jO fun _=>?_ | refine jL fun _=>?_ | refine aB F ?_ | refine jV (af F) ?_))
 rename_i y4 y6
 refine aV (ι:=Nat) (fun i=>i ≤ fs.length ∧ ∀ l,l < i → (ab fs l).1.tag ≠ (ab t.fields j).tag) (fun i=>[(0,Pt b 0),(2,Pt bf (of + j * 6)),(6,Pt y6 0),(10,.slice a fs.length k),(11,I fs.length),(12,I i)]) (fun _=>G) (fun i=>[.blk y6 (.cells (List.toArray [U8 0,S [],I 0,aK]) dc (0,0))]) (fun i=>fs.length - i) 0 ?_ tU F sB (fun i Hi=>?_)
 ·exact ⟨Nat.zero_le _,fun l hl=>absurd hl oM⟩
 obtain ⟨hi0,hno⟩:=Hi
 by_cases hi : i < fs.length
 ·obtain ⟨xb,xo,xc,e,hsx⟩:=hsl.expl oM
  simp only [Value.slice.injEq] at e
  obtain ⟨rfl,-,rfl⟩:=e
  obtain ⟨a1,k1,cs1,hci,_,_,_,hcl1,hsl1,hrs1⟩:=cS (hrn i hi)
  rw [V.reps] at hrs1
  obtain ⟨c1,cs2,rfl,hr1,hr2⟩:=hrs1
  rw [V.reps] at hr2
  subst hr2
  have hci : ab cs i = ⟨61,[],(ab fs i).1.tag,a1,1,k1⟩:=hci
  have hsl1 : aT G (.slice a1 1 k1) 4 ([c1] : List VC).length (ah bi [c1]):=hsl1
  obtain ⟨zb,zo,zc,e,hsz⟩:=hsl1.expl oM
  simp only [Value.slice.injEq] at e
  obtain ⟨rfl,-,rfl⟩:=e
  by_cases ht2 : (ab fs i).1.tag = (ab t.fields j).tag
  ·have hget:=wB (ts:=al qs) hi ht2 hno
   rw [hget]
   repeat' (first | refine jR ?_ | (refine jo ?_;first | refine jL fun _=>?_ | refine aB F ?_ | (refine jV (gQ F F aS ?_ aS) ?_;focus omega) | refine jV (ak F F oM) ?_ | refine jC F F F ?_) | (refine ac F (by refine decide_eq_true ?_;first | assumption | omega) ?_) | (refine an (ao (id:=4) _ (fun _ h=>h) am ?_);refine jT 3 [0,2,3,4] (aa 7 29) ?_;(refine jG (aa 7 31) 1 F (aX F F F) ?_);((refine jG (aa 7 63) 5 F (b8 F F aS ?_ F F) ?_;focus omega));refine jT 0 [6] (aa 7 127) ?_;refine jQ ?_))
   dsimp only [bi,VC.sl]
   repeat' (first | refine jR ?_ | (refine jo ?_;first | (refine jV (dM F F aS ?_) ?_;focus omega) | refine jV (aQ F F oM) ?_ | refine jC F F F ?_))
   all_goals refine jZ (vs:=[_]) F ⟨aJ F F F F,trivial⟩ F ⟨Gh.le.refl _,F,?_⟩
   all_goals exact ⟨c1,F,hr1⟩
  ·repeat' (first | refine jM ?_ | (refine jo ?_;first | refine jL fun _=>?_ | (refine jV (gQ F F aS ?_ aS) ?_;focus omega) | refine jV (ak F F oM) ?_ | refine jC F F F ?_) | refine ac F (ax oM) ?_ | refine ad F (aF ‹_›) ?_ | (refine an (ao (id:=4) _ (fun _ h=>h) am ?_);refine jT 3 [0,2,3,4] (aa 7 29) ?_;(refine jG (aa 7 31) 1 F (aX F F F) ?_);((refine jG (aa 7 63) 5 F (b8 F F aS ?_ F F) ?_;focus omega));refine jT 0 [6] (aa 7 127) ?_;refine jQ ?_))
   exact bm (i + 1) ⟨oM,fun l hl=>(by
    rcases Nat.lt_or_ge l i with h | h
    ·exact hno l h
    ·have : l = i:=oM
     subst this;exact ht2)⟩ oM tU F sB
 ·have hget:=ug (ts:=al qs) (f:=ab t.fields j) (fs:=fs) fun l hl=>hno l oM
  rw [hget]
  have cx_mu:=abL hS hw hdk g2
  unfold cR at cx_mu
  repeat' (first | refine jR ?_ | refine ad F (aF oM) ?_ | (refine an (ec (id:=7) (tt:=6) F am ?_);refine jW 4 [0,1,2,3,5,6] (aa 10 111) ?_;((refine jG (aa 10 127) 4 F (f9 F F aS ?_ F F) ?_;focus omega));refine jA 7 F ?_;(refine ae F F F cx_of F ?_);refine jK (aa 10 255) ?_;refine jA 8 F ?_;(refine ar F F F cx_mu F ?_;rintro _ G hle ⟨cv,rfl,hrv⟩;skip);refine jK (aa 10 511) ?_;refine jA 9 F ?_;(refine jC F F F ?_);refine jK (aa 10 1023) ?_;refine jQ ?_))
  all_goals refine jZ (vs:=[_]) F ⟨aJ F F F F,trivial⟩ F ⟨hle,F,?_⟩
  all_goals exact ⟨cv,F,hrv⟩
def eQ (ts : List Ty) (o : Option (adB × V)) (r : Value) (G' : Gh) : Prop:=(o = none ∧ r = Tu [Ag [S [],S [],S []],zP,Bo false]) ∨ ∃ k' v' c',o = some (k',v') ∧ r = Tu [Ag (cR k'),Ag (bi c'),Bo true] ∧ V.rep G' v' c'
theorem eQ.no {f : FuncId} {args : List Value} {ts : List Ty} {o : Option (adB × V)} (h : bG adA f args G (eQ ts o)) (e : o = none) : bG adA f args G (fun r _=>r = Tu [Ag [S [],S [],S []],zP,Bo false]):=by
 refine h.mono ?_
 rintro v G' L' ⟨h1,h2,⟨_,h3⟩ | ⟨k',v',b',h3,_⟩⟩
 ·exact ⟨h1,h2,h3⟩
 ·rw [e] at h3;cases h3
theorem eQ.yes {f : FuncId} {args : List Value} {ts : List Ty} {o : Option (adB × V)} {k' : adB} {v' : V} (h : bG adA f args G (eQ ts o)) (e : o = some (k',v')) : bG adA f args G (fun r G'=>∃ c',r = Tu [Ag [S (sg k'),S (bs k'),S (nm k')],Ag (bi c'),Bo true] ∧ V.rep G' v' c'):=by
 refine h.mono ?_
 rintro v G' L' ⟨h1,h2,⟨h3,_⟩ | ⟨k2,v2,b',h3,h4,h5⟩⟩
 ·rw [e] at h3;cases h3
 ·rw [e] at h3
  simp only [Option.some.injEq,Prod.mk.injEq] at h3
  obtain ⟨rfl,rfl⟩:=h3
  exact ⟨h1,h2,b',h4,h5⟩
theorem z7 {b : Nat} {k : adB} {ts : List Ty} {ks : List V} {c : VC} {n : Int} (hr : V.rep G (.nd 91 [] 0 ks) c) (hn : 0 ≤ n ∧ n ≤ 999999) (hkl : ks.length ≤ 1000000) :
  bG adA 120 [Pt b 0,Ag (cR (91 :: k)),Ag (bi c),I n] G (eQ ts (aC ts (91 :: k) (.nd 91 [] 0 ks) n)):=by
 obtain ⟨e1,e2,e3,_⟩:=hJ (c:=91) (k:=k) (.inl rfl)
 have cx_sign:=@j8 G 91 (sg k) (bs k) (nm k)
 have cx_pt:=@lr G 91 (sg k) (bs k) (nm k)
 obtain ⟨a,kc,cs,rfl,_,_,_,hcl,hsl,hrs⟩:=cS hr
 have hst:=dU (ts:=ts) (c:=91) (r:=k) (v:=.nd 91 [] 0 ks) (n:=n) (.inl rfl)
 rw [V.kids] at hst
 rw [hst]
 unfold cR
 rw [e1,e2,e3]
 have e0 : bi ⟨91,[],0,a,ks.length,kc⟩ = [U8 (91 : Nat),S [],I 0,.slice a ks.length kc]:=rfl
 rw [e0]
 by_cases hn2 : n < ((ks.length : Nat) : Int)
 ·obtain ⟨i,rfl⟩ : ∃ i : Nat,n = i:=⟨n.toNat,oM⟩
  obtain ⟨xb,xo,xc,e,hsx⟩:=hsl.expl oM
  simp only [Value.slice.injEq] at e
  obtain ⟨rfl,-,rfl⟩:=e
  have hri:=fV hrs i oM
  obtain ⟨d,hxi⟩ : ∃ d,ab cs i = d:=⟨_,rfl⟩
  rw [hxi] at hri
  rw [if_pos hn2]
  refine jB [(0,_),(1,_),(2,_),(3,_)] Tryz.func120 Tryz.ntmps120 fun B hok hB hW=>?_
  repeat' (first | refine jR ?_ | (refine jo ?_;first | refine jO fun _=>?_ | refine jL fun _=>?_ | refine aB F ?_ | refine bM F ?_ | refine jV (af F) ?_ | refine ae F F F cx_sign F ?_) | refine ac F F ?_ | refine ad F (aF oM) ?_)
  rename_i y5 y6 y8 y9
  (refine an (ao (id:=5) [.blk y6 (.cells (List.toArray [U8 (91 : Nat),S [],I 0,.slice (some ⟨xb,xo,none⟩) ks.length kc]) dc (0,0)),.blk y5 (.cells (List.toArray [S (91 :: sg k),S (bs k),S (nm k)]) fF (0,0))] (by intro y hy;simp only [List.mem_cons,List.not_mem_nil,or_false] at hy ⊢;rcases hy with hy | hy <;> simp [hy]) am ?_);refine jW 8 [2,4] (aa 10 20) ?_;(refine jG (aa 10 21) 0 F (bP F F F F) ?_);(refine jG (aa 10 29) 3 F (aX F F F) ?_);((refine jG (aa 10 61) 5 F (ak F F ?_) ?_;focus omega));((refine jG (aa 10 125) 6 F (gQ F F aS ?_ aS) ?_;focus omega));refine jA 1 F ?_;(refine ae F F F cx_pt F ?_);refine jK (aa 10 127) ?_;refine jA 7 F ?_;(refine jC F F F ?_);refine jK (aa 10 255) ?_;refine jA 8 F ?_;(refine jC F F F ?_);refine jK (aa 10 511) ?_;refine jW 0 [9] (aa 10 1023) ?_;refine jQ ?_)
  all_goals repeat' (refine jR ?_)
  all_goals refine jZ (vs:=[_,_,_]) F ⟨aJ F F F F,aJ F F F F,F,trivial⟩ F ⟨Gh.le.refl _,F,?_⟩
  all_goals exact .inr ⟨k,ab ks i,d,F,F,hri⟩
 ·rw [if_neg hn2]
  refine jB [(0,_),(1,_),(2,_),(3,_)] Tryz.func120 Tryz.ntmps120 fun B hok hB hW=>?_
  repeat' (first | refine jR ?_ | (refine jo ?_;first | refine jO fun _=>?_ | refine jL fun _=>?_ | refine aB F ?_ | refine bM F ?_ | refine jV (af F) ?_ | refine jV (ay F F) ?_ | refine jC F F F ?_ | refine ae F F F cx_sign F ?_) | (refine ac F (by first | rfl | (refine decide_eq_true ?_;(omega))) ?_))
  all_goals refine jZ (vs:=[_,_,_]) F ⟨aJ F F F F,aJ F F F F,F,trivial⟩ F ⟨Gh.le.refl _,F,?_⟩
  all_goals exact .inl ⟨F,F⟩
theorem uX {b : Nat} {k : adB} {ts : List Ty} {ks : List V} {c : VC} {n : Int} (hks : ks = [] ∨ ∃ w,ks = [w]) (hr : V.rep G (.nd 63 [] 0 ks) c) (hn : 0 ≤ n ∧ n ≤ 999999) :
  bG adA 120 [Pt b 0,Ag (cR (63 :: k)),Ag (bi c),I n] G (eQ ts (aC ts (63 :: k) (.nd 63 [] 0 ks) n)):=by
 obtain ⟨e1,e2,e3,_⟩:=hJ (c:=63) (k:=k) (.inr rfl)
 have cx_sign:=@j8 G 63 (sg k) (bs k) (nm k)
 have cx_pt:=@lr G 63 (sg k) (bs k) (nm k)
 obtain ⟨a,kc,cs,rfl,_,_,_,hcl,hsl,hrs⟩:=cS hr
 have hst:=dU (ts:=ts) (c:=63) (r:=k) (v:=.nd 63 [] 0 ks) (n:=n) (.inr rfl)
 rw [V.kids] at hst
 rw [hst]
 unfold cR
 rw [e1,e2,e3]
 have e0 : bi ⟨63,[],0,a,ks.length,kc⟩ = [U8 (63 : Nat),S [],I 0,.slice a ks.length kc]:=rfl
 rw [e0]
 rcases hks with rfl | ⟨w,rfl⟩
 ·rw [if_neg (by simp;omega)]
  by_cases hn0 : n = 0
  all_goals
   refine jB [(0,_),(1,_),(2,_),(3,_)] Tryz.func120 Tryz.ntmps120 fun B hok hB hW=>?_
   repeat' (first | refine jR ?_ | (refine jo ?_;first | refine jO fun _=>?_ | refine jL fun _=>?_ | refine aB F ?_ | refine bM F ?_ | refine jV (af F) ?_ | refine jV (ay F F) ?_ | refine jC F F F ?_ | refine aP F ?_ | refine aE F ?_ | refine ae F F F cx_sign F ?_) | refine aG F F (ax ‹_›) ?_ | refine aw F F (aF oM) ?_ | refine ac F F ?_ | refine ad F F ?_)
   all_goals refine jZ (vs:=[_,_,_]) F ⟨aJ F F F F,aJ F F F F,F,trivial⟩ F ⟨Gh.le.refl _,F,?_⟩
   all_goals exact .inl ⟨F,F⟩
 ·rw [V.reps] at hrs
  obtain ⟨d,cs2,rfl,hri,hr2⟩:=hrs
  rw [V.reps] at hr2
  subst hr2
  have hsl : aT G (.slice a 1 kc) 4 ([d] : List VC).length (ah bi [d]):=hsl
  obtain ⟨xb,xo,xc,e,hsx⟩:=hsl.expl (by simp)
  simp only [Value.slice.injEq] at e
  obtain ⟨rfl,-,rfl⟩:=e
  have hxi : ab [d] (Int.toNat 0) = d:=rfl
  show bG _ _ [Pt b 0,Ag [S (63 :: sg k),S (bs k),S (nm k)],Ag [U8 (63 : Nat),S [],I 0,.slice (some ⟨xb,xo,none⟩) 1 kc],I n] G _
  by_cases hn0 : n = 0
  ·subst hn0
   rw [if_pos (by simp)]
   refine jB [(0,_),(1,_),(2,_),(3,_)] Tryz.func120 Tryz.ntmps120 fun B hok hB hW=>?_
   repeat' (first | refine jR ?_ | (refine jo ?_;first | refine jO fun _=>?_ | refine jL fun _=>?_ | refine aB F ?_ | refine bM F ?_ | refine jV (af F) ?_ | refine aE F ?_ | refine ae F F F cx_sign F ?_) | refine aw F F F ?_ | refine ac F F ?_ | refine ad F F ?_)
   rename_i y5 y6 y8 y9
   (refine an (ao (id:=9) [.blk y6 (.cells (List.toArray [U8 (63 : Nat),S [],I 0,.slice (some ⟨xb,xo,none⟩) 1 kc]) dc (0,0)),.blk y5 (.cells (List.toArray [S (63 :: sg k),S (bs k),S (nm k)]) fF (0,0))] (by intro y hy;simp only [List.mem_cons,List.not_mem_nil,or_false] at hy ⊢;rcases hy with hy | hy <;> simp [hy]) am ?_);refine jW 8 [2] (aa 9 4) ?_;(refine jG (aa 9 5) 0 F (bP F F F F) ?_);(refine jG (aa 9 13) 3 F (aX F F F) ?_);((refine jG (aa 9 29) 4 F (aQ F F ?_) ?_;focus omega));((refine jG (aa 9 61) 5 F (gQ F F aS ?_ aS) ?_;(focus ((simp only [List.length_append,List.length_cons,List.length_nil,List.length_take];omega);done))));refine jA 1 F ?_;(refine ae F F F cx_pt F ?_);refine jK (aa 9 63) ?_;refine jA 6 F ?_;(refine jC F F F ?_);refine jK (aa 9 127) ?_;refine jA 7 F ?_;(refine jC F F F ?_);refine jK (aa 9 255) ?_;refine jW 0 [8] (aa 9 511) ?_;refine jQ ?_)
   all_goals repeat' (refine jR ?_)
   all_goals refine jZ (vs:=[_,_,_]) F ⟨aJ F F F F,aJ F F F F,F,trivial⟩ F ⟨Gh.le.refl _,F,?_⟩
   all_goals exact .inr ⟨k,w,d,F,F,hri⟩
  ·rw [if_neg (show ¬ n < (([w].length : Nat) : Int) by show ¬ n < ((1 : Nat) : Int);omega)]
   refine jB [(0,_),(1,_),(2,_),(3,_)] Tryz.func120 Tryz.ntmps120 fun B hok hB hW=>?_
   repeat' (first | refine jR ?_ | (refine jo ?_;first | refine jO fun _=>?_ | refine jL fun _=>?_ | refine bM F ?_ | refine jV (ay F F) ?_ | refine jC F F F ?_ | refine aP F ?_ | refine ae F F F cx_sign F ?_) | refine aG F F (ax ‹_›) ?_ | refine ac F F ?_ | refine ad F F ?_)
   all_goals refine jZ (vs:=[_,_,_]) F ⟨aJ F F F F,aJ F F F F,F,trivial⟩ F ⟨Gh.le.refl _,F,?_⟩
   all_goals exact .inl ⟨F,F⟩
theorem z6 {b : Nat} {x : adB} {ts : List Ty} {v : V} {c : VC} {n : Int} (hx : x = [110] ∨ x = [116] ∨ x = [102]) :
  bG adA 120 [Pt b 0,Ag (cR x),Ag (bi c),I n] G (eQ ts (aC ts x v n)):=by
 have hno : aC ts x v n = none:=by
  rcases hx with rfl | rfl | rfl
  all_goals exact i6 dC dC dC
 rw [hno]
 obtain ⟨w,tx,tg,a,m,kc⟩:=c
 have e0 : bi ⟨w,tx,tg,a,m,kc⟩ = [U8 (w : Nat),S tx,I tg,.slice a m kc]:=rfl
 rw [e0]
 have e1 : cR x = [S [],S x,S []]:=by rcases hx with rfl | rfl | rfl <;> rfl
 rw [e1]
 have cx_sign:=@fP G x []
 have hx64 : ¬ x = [64]:=by rcases hx with rfl | rfl | rfl <;> decide
 refine jB [(0,_),(1,_),(2,_),(3,_)] Tryz.func120 Tryz.ntmps120 fun B hok hB hW=>?_
 repeat' (first | refine jR ?_ | (refine jo ?_;first | refine jO fun _=>?_ | refine jL fun _=>?_ | refine aB F ?_ | refine bM F ?_ | refine jV (ay F F) ?_ | refine jC F F F ?_ | refine ae F F F cx_sign F ?_) | refine ac F (ax ‹_›) ?_ | refine ad F F ?_)
 all_goals refine jZ (vs:=[_,_,_]) F ⟨aJ F F F F,aJ F F F F,F,trivial⟩ F ⟨Gh.le.refl _,F,?_⟩
 all_goals exact .inl ⟨F,F⟩
theorem lU {qs : List c6} {k : adB} {t : Ty} (hki : aA (al qs) k = true) (hrf : a8 (al qs) k = some t) : cR k = [S [],S [64],S (nm k)] ∧ ∃ p,fx qs (nm k) = some (p,t) ∧ (p,t) ∈ qs:=by
 obtain ⟨r,rfl⟩:=dW hrf
 have h91 : ¬ ((64 : UInt8).toNat = 91 ∨ (64 : UInt8).toNat = 63):=by decide
 have hsg:=nD (r:=r) h91
 have hcs:=gA (r:=r) h91
 have hrn : (cx (bU (64 :: r))).isSome = true:=by rw [hcs];rfl
 have hbs : bs (64 :: r) = [64]:=(nM (dL hki)).2 hrn
 have hnm : cx (64 :: r) = some (nm (64 :: r)):=by unfold nm;rw [hcs];rfl
 have hft : iw (al qs) (nm (64 :: r)) = some t:=by unfold a8 at hrf;rw [hnm] at hrf;exact hrf
 rw [← iR] at hft
 rcases hfq : fx qs (nm (64 :: r)) with _ | ⟨p,t'⟩
 ·rw [hfq] at hft;cases hft
 rw [hfq] at hft
 obtain rfl : t' = t:=Option.some.inj hft
 exact ⟨by unfold cR;rw [hsg,hbs],p,rfl,jk hfq⟩
theorem z5 {b : Nat} {qs : List c6} {k : adB} {t : Ty} {v : V} {c : VC} {n : Int} (hS : ScI G b qs) (hw : SchW (al qs)) (hki : aA (al qs) k = true) (hrf : a8 (al qs) k = some t) (ho : OfK (al qs) k v) (hr : V.rep G v c) (hn : 0 ≤ n ∧ n ≤ 999999) (htt : v.tot ≤ 1000000) :
  bG adA 120 [Pt b 0,Ag (cR k),Ag (bi c),I n] G (eQ (al qs) (aC (al qs) k v n)):=by
 obtain ⟨hkd,p,hfq,hqm⟩:=lU hki hrf
 have hst:=em (v:=v) (n:=n) hrf
 have htm:=bj hrf
 have hW:=hw.ty t htm
 obtain ⟨fv,ln,hsg,hfv⟩:=hS.ty _ hqm
 dsimp only at hsg hfv
 have hkv:=fX qs (nm k)
 rw [hfq] at hkv
 dsimp only [Option.map_some] at hkv
 obtain ⟨u,m,g1,g2,g3⟩:=hS.at'
 have hfl:=hW.len
 have cx_sign:=@fP G [64] (nm k)
 rw [hkd]
 cases hg : co t.fields n with
 | none =>
  rw [hg] at hst
  dsimp only at hst
  rw [hst]
  have cx_fld:=jm (tag:=n) hsg hfv oM hg
  obtain ⟨w,tx,tg,a,mm,kc⟩:=c
  have e0 : bi ⟨w,tx,tg,a,mm,kc⟩ = [U8 (w : Nat),S tx,I tg,.slice a mm kc]:=rfl
  rw [e0]
  refine jB [(0,_),(1,_),(2,_),(3,_)] Tryz.func120 Tryz.ntmps120 fun B hok hB hW=>?_
  repeat' (first | refine jR ?_ | (refine jo ?_;first | refine jO fun _=>?_ | refine jL fun _=>?_ | refine aB F ?_ | refine bM F ?_ | refine ae F F F cx_sign F ?_) | refine ad F F ?_)
  rename_i y5 y6 y8 y9
  (refine an (ao (id:=12) [.blk y9 (.cells (List.toArray [U8 0,S [],I 0,aK]) dc (0,0)),.blk y8 (.cells (List.toArray [S [],S [],S []]) fF (0,0)),.blk y6 (.cells (List.toArray [U8 (w : Nat),S tx,I tg,.slice a mm kc]) dc (0,0)),.blk y5 (.cells (List.toArray [S [],S [64],S (nm k)]) fF (0,0))] (by intro y hy;simp only [List.mem_cons,List.not_mem_nil,or_false] at hy ⊢;rcases hy with hy | hy | hy | hy <;> simp [hy]) am ?_);refine jT 4 [0,1,2,4] (aa 8 23) ?_;(refine jG (aa 8 31) 3 F (aj F F aS F F) ?_);(refine jG (aa 8 63) 5 F (aX F F F) ?_);((refine jG (aa 8 127) 6 F (db F F (fW aS) aS F) ?_));refine jT 0 [7] (aa 8 255) ?_;refine jQ ?_)
  all_goals repeat' (first | refine jR ?_ | (refine jo ?_;first | refine jV (ay F F) ?_ | refine jC F F F ?_ | refine aP F ?_ | refine jV (dh F F) ?_ | refine ae F F F cx_fld F ?_) | refine aG F F F ?_ | refine ac F F ?_)
  all_goals refine jZ (vs:=[_,_,_]) F ⟨aJ F F F F,aJ F F F F,F,trivial⟩ F ⟨Gh.le.refl _,F,?_⟩
  all_goals exact .inl ⟨F,F⟩
 | some f =>
  rw [hg] at hst
  dsimp only at hst
  obtain ⟨j,hj,hjf,hjn,hjx⟩:=gw hg
  obtain ⟨bf,of,cf,rfl,hsf⟩:=hfv.expl oM
  have cx_fld:=gE hsg hsf oM hj hjf hjn
  subst hjx
  rcases hW.sort with hso | hso | hso
  ·rw [if_neg oM,if_pos hso] at hst
   rw [hst]
   rcases bH ho hrf with ⟨_,fs,rfl,g4,g5,_,_⟩ | ⟨h1,_⟩ | ⟨h1,_⟩
   ·have h9 : fs.length ≤ 1000000:=by
     have h7:=dk (fs.map aq)
     rw [bI] at htt
     have e1 : (fs.map aq).length = fs.length:=by simp
     omega
    have cx_ge:=tO hS hw htm hso hsf hj hr h9
    obtain ⟨a,kc,cs,rfl,_,_,_,hcl,hsl,hrs⟩:=cS hr
    have hml : (fs.map aq).length = fs.length:=by simp
    have e0 : bi ⟨82,[],0,a,(fs.map aq).length,kc⟩ = [U8 (82 : Nat),S [],I 0,.slice a fs.length kc]:=by rw [← hml];rfl
    rw [e0] at cx_ge ⊢
    refine jB [(0,_),(1,_),(2,_),(3,_)] Tryz.func120 Tryz.ntmps120 fun B hok hB hW=>?_
    repeat' (first | refine jR ?_ | (refine jo ?_;first | refine jO fun _=>?_ | refine jL fun _=>?_ | refine aB F ?_ | refine bM F ?_ | refine ae F F F cx_sign F ?_) | refine ad F F ?_)
    rename_i y5 y6 y8 y9
    (refine an (ao (id:=12) [.blk y9 (.cells (List.toArray [U8 0,S [],I 0,aK]) dc (0,0)),.blk y8 (.cells (List.toArray [S [],S [],S []]) fF (0,0)),.blk y6 (.cells (List.toArray [U8 (82 : Nat),S [],I 0,.slice a fs.length kc]) dc (0,0)),.blk y5 (.cells (List.toArray [S [],S [64],S (nm k)]) fF (0,0))] (by intro y hy;simp only [List.mem_cons,List.not_mem_nil,or_false] at hy ⊢;rcases hy with hy | hy | hy | hy <;> simp [hy]) am ?_);refine jT 4 [0,1,2,4] (aa 8 23) ?_;(refine jG (aa 8 31) 3 F (aj F F aS F F) ?_);(refine jG (aa 8 63) 5 F (aX F F F) ?_);((refine jG (aa 8 127) 6 F (db F F (fW aS) aS F) ?_));refine jT 0 [7] (aa 8 255) ?_;refine jQ ?_)
    all_goals repeat' (first | refine jR ?_ | (refine jo ?_;first | refine jV (aj F F aS F F) ?_ | refine aE F ?_ | refine jV (dh F F) ?_ | refine ae F F F cx_fld F ?_) | (refine aw F F (by first | rfl | (refine decide_eq_false ?_;(omega))) ?_) | (refine ad F (by first | rfl | (refine decide_eq_false ?_;(omega))) ?_))
    all_goals (refine an (ao (id:=18) [.blk y6 (.cells (List.toArray [U8 (82 : Nat),S [],I 0,.slice a fs.length kc]) dc (0,0)),.blk y5 (.cells (List.toArray [S [],S [64],S (nm k)]) fF (0,0))] (by intro y hy;simp only [List.mem_cons,List.not_mem_nil,or_false] at hy ⊢;rcases hy with hy | hy <;> simp [hy]) am ?_);refine jW 6 [0,1,2,4,6] (aa 11 87) ?_;((refine jG (aa 11 95) 3 F (f9 F F aS ?_ F F) ?_;focus omega));(refine jG (aa 11 127) 5 F (bP F F F F) ?_);refine jA 7 F ?_;(refine ar F F F cx_ge F ?_;rintro _ G hle ⟨cv,rfl,hrv⟩;skip);refine jK (aa 11 255) ?_;refine jA 8 F ?_;(refine jC F F F ?_);refine jK (aa 11 511) ?_;refine jA 9 F ?_;(refine jC F F F ?_);refine jK (aa 11 1023) ?_;refine jW 0 [10] (aa 11 2047) ?_;refine jQ ?_)
    all_goals repeat' (refine jR ?_)
    all_goals refine jZ (vs:=[_,_,_]) F ⟨aJ F F F F,aJ F F F F,F,trivial⟩ F ⟨hle,F,?_⟩
    all_goals exact .inr ⟨_,_,cv,F,F,hrv⟩
   ·omega
   ·omega
  ·rw [if_neg oM,if_neg oM] at hst
   rcases bH ho hrf with ⟨h1,_⟩ | ⟨h1,_⟩ | ⟨_,_,d,w,rfl,g4,g5⟩
   ·omega
   ·omega
   ·obtain ⟨a,kc,cs,rfl,_,_,_,hcl,hsl,hrs⟩:=cS hr
    rw [V.reps] at hrs
    obtain ⟨c1,cs2,rfl,hri,hr2⟩:=hrs
    rw [V.reps] at hr2
    subst hr2
    have hsl : aT G (.slice a 1 kc) 4 ([c1] : List VC).length (ah bi [c1]):=hsl
    obtain ⟨xb,xo,xc,e,hsx⟩:=hsl.expl (by simp)
    simp only [Value.slice.injEq] at e
    obtain ⟨rfl,-,rfl⟩:=e
    have hxi : ab [c1] (Int.toNat 0) = c1:=rfl
    show bG _ _ [Pt b 0,Ag [S [],S [64],S (nm k)],Ag [U8 (85 : Nat),S [],I d.tag,.slice (some ⟨xb,xo,none⟩) 1 kc],I n] G _
    by_cases hdn : d.tag = n
    ·rw [if_pos (show V.tag (.nd 85 [] d.tag [w]) = n from hdn)] at hst
     rw [hst]
     refine jB [(0,_),(1,_),(2,_),(3,_)] Tryz.func120 Tryz.ntmps120 fun B hok hB hW=>?_
     repeat' (first | refine jR ?_ | (refine jo ?_;first | refine jO fun _=>?_ | refine jL fun _=>?_ | refine aB F ?_ | refine bM F ?_ | refine ae F F F cx_sign F ?_) | refine ad F F ?_)
     rename_i y5 y6 y8 y9
     (refine an (ao (id:=12) [.blk y9 (.cells (List.toArray [U8 0,S [],I 0,aK]) dc (0,0)),.blk y8 (.cells (List.toArray [S [],S [],S []]) fF (0,0)),.blk y6 (.cells (List.toArray [U8 (85 : Nat),S [],I d.tag,.slice (some ⟨xb,xo,none⟩) 1 kc]) dc (0,0)),.blk y5 (.cells (List.toArray [S [],S [64],S (nm k)]) fF (0,0))] (by intro y hy;simp only [List.mem_cons,List.not_mem_nil,or_false] at hy ⊢;rcases hy with hy | hy | hy | hy <;> simp [hy]) am ?_);refine jT 4 [0,1,2,4] (aa 8 23) ?_;(refine jG (aa 8 31) 3 F (aj F F aS F F) ?_);(refine jG (aa 8 63) 5 F (aX F F F) ?_);((refine jG (aa 8 127) 6 F (db F F (fW aS) aS F) ?_));refine jT 0 [7] (aa 8 255) ?_;refine jQ ?_)
     all_goals repeat' (first | refine jR ?_ | (refine jo ?_;first | refine aB F ?_ | refine jV (aj F F aS F F) ?_ | refine aP F ?_ | refine aE F ?_ | refine jV (dh F F) ?_ | refine ae F F F cx_fld F ?_) | refine aG F F (ax oM) ?_ | (refine aw F F (by first | rfl | (refine decide_eq_false ?_;(omega))) ?_) | refine ac F (ax oM) ?_ | refine ad F (aF oM) ?_)
     all_goals (refine an (ao (id:=17) [.blk y6 (.cells (List.toArray [U8 (85 : Nat),S [],I d.tag,.slice (some ⟨xb,xo,none⟩) 1 kc]) dc (0,0)),.blk y5 (.cells (List.toArray [S [],S [64],S (nm k)]) fF (0,0))] (by intro y hy;simp only [List.mem_cons,List.not_mem_nil,or_false] at hy ⊢;rcases hy with hy | hy <;> simp [hy]) am ?_);refine jW 7 [0,1,2,4] (aa 11 23) ?_;((refine jG (aa 11 31) 3 F (f9 F F aS ?_ F F) ?_;focus omega));(refine jG (aa 11 63) 5 F (aX F F F) ?_);((refine jG (aa 11 127) 6 F (aQ F F ?_) ?_;focus omega));((refine jG (aa 11 255) 7 F (gQ F F aS ?_ aS) ?_;(focus ((simp only [List.length_append,List.length_cons,List.length_nil,List.length_take];omega);done))));refine jA 8 F ?_;(refine jC F F F ?_);refine jK (aa 11 511) ?_;refine jA 9 F ?_;(refine jC F F F ?_);refine jK (aa 11 1023) ?_;refine jW 0 [10] (aa 11 2047) ?_;refine jQ ?_)
     all_goals repeat' (refine jR ?_)
     all_goals refine jZ (vs:=[_,_,_]) F ⟨aJ F F F F,aJ F F F F,F,trivial⟩ F ⟨Gh.le.refl _,F,?_⟩
     all_goals exact .inr ⟨_,w,c1,F,F,hri⟩
    ·rw [if_neg (show ¬ V.tag (.nd 85 [] d.tag [w]) = n from hdn)] at hst
     rw [hst]
     refine jB [(0,_),(1,_),(2,_),(3,_)] Tryz.func120 Tryz.ntmps120 fun B hok hB hW=>?_
     repeat' (first | refine jR ?_ | (refine jo ?_;first | refine jO fun _=>?_ | refine jL fun _=>?_ | refine aB F ?_ | refine bM F ?_ | refine ae F F F cx_sign F ?_) | refine ad F F ?_)
     rename_i y5 y6 y8 y9
     (refine an (ao (id:=12) [.blk y9 (.cells (List.toArray [U8 0,S [],I 0,aK]) dc (0,0)),.blk y8 (.cells (List.toArray [S [],S [],S []]) fF (0,0)),.blk y6 (.cells (List.toArray [U8 (85 : Nat),S [],I d.tag,.slice (some ⟨xb,xo,none⟩) 1 kc]) dc (0,0)),.blk y5 (.cells (List.toArray [S [],S [64],S (nm k)]) fF (0,0))] (by intro y hy;simp only [List.mem_cons,List.not_mem_nil,or_false] at hy ⊢;rcases hy with hy | hy | hy | hy <;> simp [hy]) am ?_);refine jT 4 [0,1,2,4] (aa 8 23) ?_;(refine jG (aa 8 31) 3 F (aj F F aS F F) ?_);(refine jG (aa 8 63) 5 F (aX F F F) ?_);((refine jG (aa 8 127) 6 F (db F F (fW aS) aS F) ?_));refine jT 0 [7] (aa 8 255) ?_;refine jQ ?_)
     all_goals repeat' (first | refine jR ?_ | (refine jo ?_;first | refine aB F ?_ | refine jV (aj F F aS F F) ?_ | refine jV (ay F F) ?_ | refine jC F F F ?_ | refine aP F ?_ | refine aE F ?_ | refine jV (dh F F) ?_ | refine ae F F F cx_fld F ?_) | refine aG F F (ax oM) ?_ | (refine aw F F (by first | rfl | (refine decide_eq_false ?_;(omega))) ?_) | refine ac F (ax ‹_›) ?_)
     all_goals refine jZ (vs:=[_,_,_]) F ⟨aJ F F F F,aJ F F F F,F,trivial⟩ F ⟨Gh.le.refl _,F,?_⟩
     all_goals exact .inl ⟨F,F⟩
  ·rw [if_pos hso] at hst
   rw [hst]
   obtain ⟨w,tx,tg,a,mm,kc⟩:=c
   have e0 : bi ⟨w,tx,tg,a,mm,kc⟩ = [U8 (w : Nat),S tx,I tg,.slice a mm kc]:=rfl
   rw [e0]
   refine jB [(0,_),(1,_),(2,_),(3,_)] Tryz.func120 Tryz.ntmps120 fun B hok hB hW=>?_
   repeat' (first | refine jR ?_ | (refine jo ?_;first | refine jO fun _=>?_ | refine jL fun _=>?_ | refine aB F ?_ | refine bM F ?_ | refine ae F F F cx_sign F ?_) | refine ad F F ?_)
   rename_i y5 y6 y8 y9
   (refine an (ao (id:=12) [.blk y9 (.cells (List.toArray [U8 0,S [],I 0,aK]) dc (0,0)),.blk y8 (.cells (List.toArray [S [],S [],S []]) fF (0,0)),.blk y6 (.cells (List.toArray [U8 (w : Nat),S tx,I tg,.slice a mm kc]) dc (0,0)),.blk y5 (.cells (List.toArray [S [],S [64],S (nm k)]) fF (0,0))] (by intro y hy;simp only [List.mem_cons,List.not_mem_nil,or_false] at hy ⊢;rcases hy with hy | hy | hy | hy <;> simp [hy]) am ?_);refine jT 4 [0,1,2,4] (aa 8 23) ?_;(refine jG (aa 8 31) 3 F (aj F F aS F F) ?_);(refine jG (aa 8 63) 5 F (aX F F F) ?_);((refine jG (aa 8 127) 6 F (db F F (fW aS) aS F) ?_));refine jT 0 [7] (aa 8 255) ?_;refine jQ ?_)
   all_goals repeat' (first | refine jR ?_ | (refine jo ?_;first | refine jV (aj F F aS F F) ?_ | refine jV (ay F F) ?_ | refine jC F F F ?_ | refine aP F ?_ | refine aE F ?_ | refine jV (dh F F) ?_ | refine ae F F F cx_fld F ?_) | refine aG F F (ax oM) ?_ | refine aw F F F ?_ | refine ac F F ?_)
   all_goals refine jZ (vs:=[_,_,_]) F ⟨aJ F F F F,aJ F F F F,F,trivial⟩ F ⟨Gh.le.refl _,F,?_⟩
   all_goals exact .inl ⟨F,F⟩
theorem uY {b : Nat} {qs : List c6} {k : adB} {v : V} {c : VC} {n : Int} (hS : ScI G b qs) (hw : SchW (al qs)) (hki : aA (al qs) k = true) (ho : OfK (al qs) k v) (hr : V.rep G v c) (hn : 0 ≤ n ∧ n ≤ 999999) (htt : v.tot ≤ 1000000) :
  bG adA 120 [Pt b 0,Ag (cR k),Ag (bi c),I n] G (eQ (al qs) (aC (al qs) k v n)):=by
 cases hrf : a8 (al qs) k with
 | some t=>exact z5 hS hw hki hrf ho hr hn htt
 | none =>
  obtain ⟨ch,r,rfl⟩:=dX hki
  by_cases h91 : ch.toNat = 91 ∨ ch.toNat = 63
  ·rcases di ho oM with ⟨h1,_⟩ | ⟨h1,_⟩ | ⟨h1,_⟩ | ⟨h1,ks,_,_,rfl⟩ | ⟨h1,h2⟩
   ·omega
   ·omega
   ·omega
   ·obtain rfl:=bX h1 dC
    have:=dk ks
    rw [bI] at htt
    exact z7 hr hn oM
   ·obtain rfl:=bX h1 dC
    rcases h2 with rfl | ⟨w,_,rfl⟩
    ·exact uX (.inl F) hr hn
    ·exact uX (.inr ⟨w,F⟩) hr hn
  ·exact z6 (d7 hki h91 hrf)
theorem nq {b : Nat} {qs : List c6} (hS : ScI G b qs) (hw : SchW (al qs)) {p : List Int} {pv : Value} (hp : aT G pv 1 p.length (ah cI p)) (hpn : ∀ n ∈ p,0 ≤ n ∧ n ≤ 999999) (hpl : p.length ≤ 1000) {k : adB} {v : V} {c : VC} (hr : V.rep G v c) (ho : OfK (al qs) k v) (hki : aA (al qs) k = true) (htt : v.tot ≤ 1000000) :
  bG adA 74 [Pt b 0,Ag (cR k),Ag (bi c),pv] G (eQ (al qs) (ce (al qs) k v p)):=by
 obtain ⟨pa,pc,rfl⟩:=hp.sl
 unfold cR
 have e0 : bi c = [U8 (c.what : Nat),S c.text,I c.tag,.slice c.a c.n c.c]:=rfl
 rw [e0]
 refine jB [(0,_),(1,_),(2,_),(3,_)] Tryz.func74 Tryz.ntmps74 fun B hok hB hW=>?_
 repeat' (first | refine jR ?_ | (refine jo ?_;first | refine jO fun _=>?_ | refine jL fun _=>?_ | refine jV (af F) ?_))
 rename_i y5 y6 y8 y9
 refine aV (ι:=adB × V × VC × Nat × Gh) (fun j=>((V.rep j.2.2.2.2 j.2.1 j.2.2.1 ∧ OfK (al qs) j.1 j.2.1) ∧ (aA (al qs) j.1 = true ∧ j.2.1.tot ≤ 1000000)) ∧ (Gh.le G j.2.2.2.2 ∧ j.2.2.2.1 ≤ p.length) ∧ ce (al qs) k v p = ce (al qs) j.1 j.2.1 (p.drop j.2.2.2.1)) (fun j=>[(0,Pt b 0),(5,Pt y5 0),(6,Pt y6 0),(8,Pt y8 0),(9,Pt y9 0),(14,.slice pa p.length pc),(15,I p.length),(16,I j.2.2.2.1)]) (fun j=>j.2.2.2.2) (fun j=>[.blk y9 (.cells (List.toArray [U8 0,S [],I 0,aK]) dc (0,0)),.blk y8 (.cells (List.toArray [S [],S [],S []]) fF (0,0)),.blk y6 (.cells (List.toArray [U8 (j.2.2.1.what : Nat),S j.2.2.1.text,I j.2.2.1.tag,.slice j.2.2.1.a j.2.2.1.n j.2.2.1.c]) dc (0,0)),.blk y5 (.cells (List.toArray [S (sg j.1),S (bs j.1),S (nm j.1)]) fF (0,0))]) (fun j=>p.length - j.2.2.2.1) (k,v,c,0,G) ?_ tU F a7 (fun j Hj=>?_)
 ·exact ⟨⟨⟨hr,ho⟩,hki,htt⟩,⟨Gh.le.refl _,Nat.zero_le _⟩,F⟩
 obtain ⟨k0,v0,c0,i,Gq⟩:=j
 dsimp only at Hj ⊢
 obtain ⟨⟨⟨hr0,ho0⟩,hk0,ht0⟩,⟨hgq,hi0⟩,he⟩:=Hj
 by_cases hi : i < p.length
 ·obtain ⟨xb,xo,xc,e,hs1⟩:=(hp.mono hgq).expl oM
  simp only [Value.slice.injEq] at e
  obtain ⟨rfl,-,rfl⟩:=e
  have hni:=hpn _ (bB hi)
  have hti : ab p i = ab p i:=rfl
  have hstp:=uY (hS.mono hgq) hw hk0 ho0 hr0 hni ht0
  unfold cR at hstp
  rw [show bi c0 = [U8 (c0.what : Nat),S c0.text,I c0.tag,.slice c0.a c0.n c0.c] from rfl] at hstp
  rw [m8 hi] at he
  cases hsv : aC (al qs) k0 v0 (ab p i) with
  | none =>
   have cx_stn:=eQ.no hstp hsv
   rw [hsv] at he
   repeat' (first | refine jR ?_ | (refine jo ?_;first | refine jV (ak F F oM) ?_ | refine bM F ?_ | (refine jV (cm F F aS ?_ aS F) ?_;focus omega) | refine jC F F F ?_ | refine jV (ay F F) ?_ | (refine ar F F F cx_stn F ?_;rintro _ G hle rfl;skip)) | (refine ac F (by first | rfl | (refine decide_eq_true ?_;(omega))) ?_))
   all_goals refine jZ (vs:=[_,_,_]) F ⟨aJ F F F F,aJ F F F F,F,trivial⟩ F ⟨hgq.trans hle,F,?_⟩
   all_goals exact .inl ⟨he,F⟩
  | some y =>
   obtain ⟨k1,v1⟩:=y
   have cx_sty:=eQ.yes hstp hsv
   rw [hsv] at he
   obtain ⟨g1,g2⟩:=cP hw ho0 hk0 hni.1 hsv
   have g3:=kG hw ho0 hk0 hni.1 hsv ht0 oM
   repeat' (first | refine jM ?_ | (refine jo ?_;first | refine jV (ak F F oM) ?_ | refine bM F ?_ | (refine jV (cm F F aS ?_ aS F) ?_;focus omega) | refine jC F F F ?_ | (refine ar F F F cx_sty F ?_;rintro _ G hle ⟨cv,rfl,hrv⟩;skip)) | refine ac F (ax oM) ?_ | refine ad F F ?_)
   exact bm (k1,v1,cv,i + 1,G) ⟨⟨⟨hrv,g1⟩,g2,g3⟩,⟨hgq.trans hle,by dsimp only;omega⟩,he⟩ (by dsimp only;omega) tU rfl a7
 ·have hd : p.drop i = []:=List.drop_eq_nil_of_le oM
  rw [hd] at he
  repeat' (first | refine jR ?_ | refine ad F (aF oM) ?_)
  (refine an (ao (id:=9) [.blk y6 (.cells (List.toArray [U8 (c0.what : Nat),S c0.text,I c0.tag,.slice c0.a c0.n c0.c]) dc (0,0)),.blk y5 (.cells (List.toArray [S (sg k0),S (bs k0),S (nm k0)]) fF (0,0))] (by intro y hy;simp only [List.mem_cons,List.not_mem_nil,or_false] at hy ⊢;rcases hy with hy | hy <;> simp [hy]) am ?_);(refine jG (aa 5 1) 0 F (bP F F F F) ?_);(refine jG (aa 5 3) 1 F (bP F F F F) ?_);refine jA 2 F ?_;(refine jC F F F ?_);refine jK (aa 5 7) ?_;refine jA 3 F ?_;(refine jC F F F ?_);refine jK (aa 5 15) ?_;refine jW 0 [4] (aa 5 31) ?_;refine jQ ?_)
  all_goals repeat' (refine jR ?_)
  all_goals refine jZ (vs:=[_,_,_]) F ⟨aJ F F F F,aJ F F F F,F,trivial⟩ F ⟨hgq,F,?_⟩
  all_goals exact .inr ⟨_,_,c0,he,F,hr0⟩
theorem nV {s : adB} (h : s.length ≤ 1048576) (hp : da s = none) : ∀ G,bG adA 73 [S s] G (fun v _=>∃ a c n,v = Tu [.slice a n c,Bo false] ∧ True):=fun G=>by
 refine (pY (G:=G) h).mono ?_
 rintro v G' L' ⟨h1,h2,a,c,n,rfl,_⟩
 exact ⟨h1,h2,a,c,n,by rw [hp];rfl,trivial⟩
theorem mM {s : adB} {p : List Int} (h : s.length ≤ 1048576) (hp : da s = some p) : ∀ G,bG adA 73 [S s] G (fun v G'=>∃ a c n,v = Tu [.slice a n c,Bo true] ∧ n = p.length ∧ aT G' (.slice a n c) 1 p.length (ah cI p)):=fun G=>by
 refine (pY (G:=G) h).mono ?_
 rintro v G' L' ⟨h1,h2,a,c,n,rfl,h3⟩
 exact ⟨h1,h2,a,c,n,by rw [hp];rfl,h3 p hp⟩
end Go.E
