/- Contracts and plain laws that the statement rests on, part 6. Conditions: as each says. -/
import Derived.Test.YtglhncibfmhblaaGreatDoorZ5
set_option linter.unusedVariables false
set_option linter.unusedSimpArgs false
namespace Go.E
set_option maxRecDepth 20000
set_option maxHeartbeats 2000000
open Go.Proofs
variable {G : Gh}
theorem tp {ts : List Ty} {f : Fld} {z : V} {zb : Nat} {ps : List ((Fld × V) × Nat)} {vs : List V} (e : vs = ps.map rO) (hs : lL vs) {d : Bool} (hd : d = decide (z.out = bT ts f)) : (dm dM ((f,z),zb) f.tag ps d).map rO = cV ts f z vs:=by
 rw [tr (tg:=dM) (tg':=V.tag) (h:=rO) (fun _=>rfl),← e,hd]
 exact vh hs
theorem yS {b o c : Nat} {n : Int} {p : List Int} (h : aN G (.slice (some ⟨b,o,none⟩) (n :: p).length c) 1 (n :: p).length (ag cL (n :: p))) : aN G (.slice (some ⟨b,lu o c (Int.toNat 1) 1,none⟩) ((n :: p).length - Int.toNat 1) (c - Int.toNat 1)) 1 p.length (ag cL p):=by
 have h1:=h.cutAt (m:=Int.toNat 1) (by show 1 ≤ p.length + 1;omega)
 exact h1
theorem vq {α : Type} [Inhabited α] {l : List α} {m i : Nat} {x : α} (hi : i < l.length) : ab (l.set m x) i = if m = i then x else ab l i:=by
 rw [aI (by rw [List.length_set];exact hi),aI hi,List.getElem_set]
theorem u6 {b o m c sz : Nat} {xs : List Value} (h : aN G (.slice (some ⟨b,o,none⟩) m c) sz m xs) (hm : 1 ≤ m) : 1 ≤ c:=by
 obtain ⟨_,⟨h2,_⟩ | ⟨b',o',c',e,hc,_⟩⟩:=h
 ·cases h2
 ·simp only [Value.slice.injEq] at e
  omega
abbrev sy : TypeId:=47
section
variable {u : Value} {vs : List cG} {k1 : ael} {v1 z : V} {n : Int} {p : List Int} {pb po pc b yb : Nat}
theorem yX (h : SchR G u vs) (hw : SchW (ah vs)) {k : ael} {fs : List (Fld × V)} {t : Ty} {f : Fld} (hki : ax (ah vs) k = true) (hrf : aZ (ah vs) k = some t) (hg : cm t.fields n = some f) (hk1 : k1 = f.kind) (hsr : lL (fs.map aq)) (hfs : fs.length ≤ 100000) (hn : 0 ≤ n ∧ n ≤ 999999) (hp : aN G (.slice (some ⟨pb,po,none⟩) (n :: p).length pc) 1 (n :: p).length (ag cL (n :: p)))
  (hr : RepR G (ah vs) (.nd 82 [] 0 (fs.map aq)) k b) (hpl : p.length ≤ 100) (hzt : z.tot ≤ 10000000000)
  (cx_sty : bJ aek 54 [u,Pt b 0,I n] G (fun r G'=>∃ b',r = Tu [Pt b' 0,Bo true] ∧ RepR G' (ah vs) v1 k1 b'))
  (ihz : ∀ {G2 : Gh} {b1 : Nat},Gh.le G G2 → RepR G2 (ah vs) v1 k1 b1 → bJ aek 105 [u,Pt b1 0,.slice (some ⟨pb,lu po pc (Int.toNat 1) 1,none⟩) ((n :: p).length - Int.toNat 1) (pc - Int.toNat 1),Pt yb 0] G2 (fun r G'=>∃ b',r = Tu [Pt b' 0,Bo true] ∧ RepR G' (ah vs) z k1 b')) :
  bJ aek 105 [u,Pt b 0,.slice (some ⟨pb,po,none⟩) (n :: p).length pc,Pt yb 0] G (fun r G'=>∃ b',r = Tu [Pt b' 0,Bo true] ∧ RepR G' (ah vs) (.nd 82 [] 0 (cV (ah vs) f z (fs.map aq))) k b'):=by
 have hu:=h.sl.one
 obtain ⟨ua,uc,rfl⟩:=h.sl.sl
 obtain ⟨hso,ps,a,a2,c,c2,e,h1,h2,h3,hm⟩:=yw hr hrf
 have hTW:=hw.ty _ (bj hrf)
 have hkk:=dz (dR hki)
 obtain ⟨r,rfl⟩:=d5 hrf
 have hk0 : bt (64 :: r) (Int.toNat 0) = 64:=bH 64 r
 have hkl2 : (64 :: r).length = r.length + 1:=rfl
 have hpl0 : (n :: p).length = p.length + 1:=rfl
 have hti : ab (n :: p) (Int.toNat 0) = n:=rfl
 have hvl : vs.length ≤ 8:=by have:=hw.len;unfold ah at this;simpa using this
 have href:=fx vs (64 :: r)
 rcases hrv : fq vs (64 :: r) with _ | x
 ·rw [hrv,hrf] at href;cases href
 rw [hrv] at href
 have htx : x.2 = t:=by rw [hrf] at href;exact Option.some.inj href
 subst htx
 have hxm:=gz hrv
 have hfl:=hTW.len
 obtain ⟨hft,hfm⟩:=rR hg
 have hdk : ax (ah vs) f.kind = true:=d6 hw (bj hrf) oM hfm
 have hpsl : ps.length ≤ 100000:=by
  have e1 : (fs.map aq).length = ps.length:=by rw [e];simp
  simp at e1;omega
 obtain ⟨G0,rfl⟩ : ∃ G0,G0 = G:=⟨G,rfl⟩
 have hg0 : Gh.le G0 G0:=Gh.le.refl _
 have hsx : bU G0 pb po (ag cL (n :: p)):=by
  obtain ⟨b',o',c',e',hs'⟩:=hp.expl (by simp)
  simp only [Value.slice.injEq,Option.some.injEq,Addr.mk.injEq] at e'
  obtain ⟨⟨rfl,rfl,_⟩,_,rfl⟩:=e'
  exact hs'
 refine jB [(0,_),(1,_),(2,_),(3,_)] Tryz.func105 Tryz.ntmps105 fun B hok hB hW=>?_
 repeat' (first | refine jR ?_ | (refine jo ?_;first | refine jV (af F) ?_ | refine jV (aT F F oM) ?_ | (refine jV (fS F F aS ?_ aS F F) ?_;focus omega) | refine jV (nZ F F oM) ?_ | (refine ar F F F cx_sty F ?_;rintro _ G hle ⟨b1,rfl,hrep1⟩;(have hg0:=hg0.trans hle);(have h1:=h1.mono hle);(have h2:=h2.mono hle);(have h3:=h3.mono hle);(have h:=h.mono hle);(try have hrep1:=RepR.mono hle hrep1);(try have hrepz:=RepR.mono hle hrepz))) | refine ad F F ?_)
 have cx_set:=ihz hg0 hrep1
 repeat' (first | refine jM ?_ | (refine jo ?_;first | refine jV (aj F F aS F F) ?_ | refine aP F ?_ | (refine ar F F F cx_set F ?_;rintro _ G hle ⟨bz,rfl,hrepz⟩;(have hg0:=hg0.trans hle);(have h1:=h1.mono hle);(have h2:=h2.mono hle);(have h3:=h3.mono hle);(have h:=h.mono hle);(try have hrep1:=RepR.mono hle hrep1);(try have hrepz:=RepR.mono hle hrepz))) | refine aF F F F ?_ | refine ac F F ?_ | refine ad F F ?_)
 have cx_rf:=jl (k:=64 :: r) h oM hkk.1 oM
 rw [hrv] at cx_rf
 have cx_rec:=qr (n:=n) hu (h.fl x hxm) oM cx_rf hso
 rw [hg] at cx_rec
 simp only [Option.getD_some,Option.isSome_some] at cx_rec
 have cx_out:=gj hw hrepz oM
 have cx_sta:=mC (f:=f) h hw hdk
 subst hk1
 have hm2 : ∀ q ∈ ps,q.1.1 ∈ x.2.fields ∧ RepR G (ah vs) q.1.2 q.1.1.kind q.2:=fun q hq=>⟨(hm q hq).1,((hm q hq).2).mono hg0⟩
 by_cases hst : z.out = bT (ah vs) f
 ·have cx_wi:=aaK (node:=((f,z),0)) (tag:=f.tag) hrf hso h1 h2 h3 hm2 hpsl
  rw [tp e hsr (decide_eq_true hst).symm,hft] at cx_wi
  repeat' (first | refine jR ?_ | (refine jo ?_;first | refine jL fun _=>?_ | refine jC F F F ?_ | refine ae F F F cx_rec F ?_ | (refine ar F F F cx_wi F ?_;rintro _ G hle ⟨bw,rfl,hrepw⟩;(have hg0:=hg0.trans hle);(have h1:=h1.mono hle);(have h2:=h2.mono hle);(have h3:=h3.mono hle);(have h:=h.mono hle);(try have hrep1:=RepR.mono hle hrep1);(try have hrepz:=RepR.mono hle hrepz))) | refine ac F (aA ‹_›) ?_ | (refine an (ao (id:=12) _ (fun _ h=>h) am ?_);refine jT 4 [0,2] (aa 6 5) ?_;(refine jG (aa 6 13) 3 F (bS F F F F) ?_);refine jA 1 F ?_;(refine ae F F F cx_out F ?_);refine jS (aa 6 15) ?_;refine jA 4 F ?_;(refine ae F F F cx_sta F ?_);refine jS (aa 6 31) ?_;refine jT 0 [5] (aa 6 63) ?_;refine jQ ?_))
  all_goals refine jZ (vs:=[_,_]) F ⟨F,F,trivial⟩ F ⟨hg0,F,?_⟩
  all_goals exact ⟨_,F,hrepw⟩
 ·have cx_wi:=aaJ (f:=f) (z:=z) hrf hso h1 h2 h3 hm2 hpsl hfm hrepz
  rw [tp e hsr (decide_eq_false hst).symm,hft] at cx_wi
  repeat' (first | refine jR ?_ | (refine jo ?_;first | refine jL fun _=>?_ | refine jC F F F ?_ | refine ae F F F cx_rec F ?_ | (refine ar F F F cx_wi F ?_;rintro _ G hle ⟨bw,rfl,hrepw⟩;(have hg0:=hg0.trans hle);(have h1:=h1.mono hle);(have h2:=h2.mono hle);(have h3:=h3.mono hle);(have h:=h.mono hle);(try have hrep1:=RepR.mono hle hrep1);(try have hrepz:=RepR.mono hle hrepz))) | refine ad F (aH ‹_›) ?_ | (refine an (ao (id:=12) _ (fun _ h=>h) am ?_);refine jT 4 [0,2] (aa 6 5) ?_;(refine jG (aa 6 13) 3 F (bS F F F F) ?_);refine jA 1 F ?_;(refine ae F F F cx_out F ?_);refine jS (aa 6 15) ?_;refine jA 4 F ?_;(refine ae F F F cx_sta F ?_);refine jS (aa 6 31) ?_;refine jT 0 [5] (aa 6 63) ?_;refine jQ ?_))
  all_goals refine jZ (vs:=[_,_]) F ⟨F,F,trivial⟩ F ⟨hg0,F,?_⟩
  all_goals exact ⟨_,F,hrepw⟩
theorem w7 {bs : List Nat} {i m : Nat} {zb : Nat} (hi : i < bs.length) : ((bs.set m zb).take (i + 1)) = (bs.set m zb).take i ++ [if i = m then zb else ab bs i]:=by
 rw [dO (by rw [List.length_set];exact hi)]
 congr 2
 rw [aI (by rw [List.length_set];exact hi),aI hi,List.getElem_set]
 by_cases h : m = i
 ·rw [if_pos h,if_pos h.symm]
 ·rw [if_neg h,if_neg (fun e=>h e.symm)]
theorem ui (hu : u.oneCell' = true) {c0 : UInt8} {k : ael} {bs : List Nat} {a : Option Addr} {c : Nat} {m : Nat} (hc0 : c0 = 91 ∨ c0 = 63) (hnm : n = (m : Nat)) (hm : m < bs.length) (hbs : bs.length ≤ 100000) (hn : 0 ≤ n ∧ n ≤ 999999) (hp : aN G (.slice (some ⟨pb,po,none⟩) (n :: p).length pc) 1 (n :: p).length (ag cL (n :: p)))
  (h1 : bU G b 0 [S (c0 :: k),S [],aK,.slice a bs.length c]) (h2 : aN G (.slice a bs.length c) 1 bs.length (ag dH bs)) (hpl : p.length ≤ 100) {ts : List Ty}
  (cx_sty : bJ aek 54 [u,Pt b 0,I n] G (fun r G'=>∃ b',r = Tu [Pt b' 0,Bo true] ∧ RepR G' ts v1 k1 b'))
  (ihz : ∀ {G2 : Gh} {b1 : Nat},Gh.le G G2 → RepR G2 ts v1 k1 b1 → bJ aek 105 [u,Pt b1 0,.slice (some ⟨pb,lu po pc (Int.toNat 1) 1,none⟩) ((n :: p).length - Int.toNat 1) (pc - Int.toNat 1),Pt yb 0] G2 (fun r G'=>∃ b',r = Tu [Pt b' 0,Bo true] ∧ RepR G' ts z k1 b')) :
  bJ aek 105 [u,Pt b 0,.slice (some ⟨pb,po,none⟩) (n :: p).length pc,Pt yb 0] G (fun r G'=>∃ b' zb kb cc,r = Tu [Pt b' 0,Bo true] ∧ RepR G' ts z k1 zb ∧ Gh.le G G' ∧ bU G' b' 0 [S (c0 :: k),S [],aK,.slice (some ⟨kb,0,none⟩) bs.length cc] ∧ aN G' (.slice (some ⟨kb,0,none⟩) bs.length cc) 1 bs.length (ag dH (bs.set m zb))):=by
 have hk0 : bt (c0 :: k) (Int.toNat 0) = c0.toNat:=bH c0 k
 have hc64 : ¬ c0.toNat = 64:=by rcases hc0 with rfl | rfl <;> decide
 have hkl2 : (c0 :: k).length = k.length + 1:=rfl
 have hpl0 : (n :: p).length = p.length + 1:=rfl
 have hti : ab (n :: p) (Int.toNat 0) = n:=rfl
 obtain ⟨G0,rfl⟩ : ∃ G0,G0 = G:=⟨G,rfl⟩
 have hg0 : Gh.le G0 G0:=Gh.le.refl _
 have hsx : bU G0 pb po (ag cL (n :: p)):=by
  obtain ⟨b',o',c',e',hs'⟩:=hp.expl (by simp)
  simp only [Value.slice.injEq,Option.some.injEq,Addr.mk.injEq] at e'
  obtain ⟨⟨rfl,rfl,_⟩,_,rfl⟩:=e'
  exact hs'
 obtain ⟨xb,xo,xc,e,hs1⟩:=h2.expl oM
 simp only [Value.slice.injEq] at e
 obtain ⟨rfl,-,rfl⟩:=e
 refine jB [(0,_),(1,_),(2,_),(3,_)] Tryz.func105 Tryz.ntmps105 fun B hok hB hW=>?_
 repeat' (first | refine jR ?_ | (refine jo ?_;first | refine jV (af F) ?_ | refine jV (aT F F oM) ?_ | refine jV (aj F F aS F F) ?_ | refine jV (nZ F F oM) ?_ | (refine ar F F F cx_sty F ?_;rintro _ G hle ⟨b1,rfl,hrep1⟩;(have hg0:=hg0.trans hle);(have h1:=h1.mono hle);(have h2:=h2.mono hle);(have hs1:=hs1.mono hle);(try have hrep1:=RepR.mono hle hrep1);(try have hrepz:=RepR.mono hle hrepz))) | refine ad F F ?_)
 have cx_set:=ihz hg0 hrep1
 repeat' (first | refine jR ?_ | (refine jo ?_;first | refine jV (aj F F aS F F) ?_ | refine aE F ?_ | (refine ar F F F cx_set F ?_;rintro _ G hle ⟨bz,rfl,hrepz⟩;(have hg0:=hg0.trans hle);(have h1:=h1.mono hle);(have h2:=h2.mono hle);(have hs1:=hs1.mono hle);(try have hrep1:=RepR.mono hle hrep1);(try have hrepz:=RepR.mono hle hrepz))) | refine aw F F F ?_ | refine ad F F ?_ | (refine an (ao (id:=15) _ (fun _ h=>h) am ?_);refine jT 6 [0,1,2,4,5,6,8,9,10] (aa 15 1911) ?_;(refine jG (aa 15 1919) 3 F (aj F F aS F F) ?_);(refine jG (aa 15 2047) 7 F (aj F F aS F F) ?_);(refine jG (aa 15 4095) 11 F (aj F F aS F F) ?_);(refine jG (aa 15 8191) 12 F (ay F F) ?_);refine jA 13 F ?_;(refine jO fun _=>?_);refine jS (aa 15 16383) ?_;refine jT 0 [14] (aa 15 32767) ?_;refine jQ ?_))
 rename_i x
 refine Nx.addNil sy 1 ?_
 have hsl : ∀ zb : Nat,(bs.set m zb).length = bs.length:=fun zb=>List.length_set
 refine aW (ι:=Option Addr × Nat × Nat) (fun q=>q.2.2 ≤ bs.length) (fun q=>[(1,Pt b 0),(10,I n),(13,Pt bz 0),(17,Pt x 0),(18,I q.2.2)]) (fun _=>G) (fun q=>[.acc (.slice q.1 q.2.2 q.2.1) sy 1 q.2.2 (ag dH ((bs.set m bz).take q.2.2)),.blk x (.cells (List.toArray [S (c0 :: k),S [],aK,.slice q.1 q.2.2 q.2.1]) od (0,0))]) (fun q=>bs.length - q.2.2) (none,0,0) ?_ tU F bc (fun q Hq=>?_)
 ·exact Nat.zero_le _
 obtain ⟨a3,c3,i⟩:=q
 dsimp only at Hq ⊢
 by_cases hi : i < bs.length
 ·have hxi : ab bs i = ab bs i:=rfl
  have hst:=w7 (m:=m) (zb:=bz) hi
  by_cases him : i = m
  ·rw [if_pos him] at hst
   have hin : ((i : Nat) : Int) = n:=oM
   repeat' (first | refine jM ?_ | (refine jo ?_;first | refine jV (af F) ?_ | refine aC F ?_ | refine jV (aj F F aS F F) ?_ | refine aP F ?_ | refine jD F F F ?_ | refine jF fun _=>?_ | refine bG F F F F F F F F F oM fun _ _=>?_) | refine aF F F (aA ‹_›) ?_ | (refine ac F (by first | rfl | (refine decide_eq_true ?_;(omega))) ?_))
   rename_i y1 yc1
   rw [show ag dH ((bs.set m bz).take i) ++ [Pt bz 0] = ag dH ((bs.set m bz).take (i + 1)) by rw [hst,bX];rfl]
   exact br (some ⟨y1,0,none⟩,yc1,i + 1) (by dsimp only;omega) (by dsimp only;omega) tU rfl sB
  ·rw [if_neg him] at hst
   have hin : ¬ ((i : Nat) : Int) = n:=oM
   repeat' (first | refine jR ?_ | (refine jo ?_;first | refine jV (af F) ?_ | refine jV (aj F F aS F F) ?_ | refine aE F ?_) | (refine aw F F (by first | rfl | (refine decide_eq_false ?_;(assumption))) ?_) | refine ac F (aA oM) ?_ | refine ad F F ?_)
   (refine an (ao (id:=21) [] (fun _ h=>absurd h (by simp)) am ?_);refine jW 9 [0,1,2,3,5,6,7,9] (aa 17 751) ?_;(refine jG (aa 17 1007) 8 F (aj F F aS F F) ?_);((refine jG (aa 17 2031) 10 F (ak F F ?_) ?_;focus omega));((refine jG (aa 17 4079) 11 F (cn F F aS ?_ aS F) ?_;focus omega));refine b8 [4,12] kR dC ⟨?_,?_,trivial⟩;(focus (refine aO F F ?_;(refine aC F ?_);refine jK (aa 17 4095) ?_;refine jA 12 F ?_;(refine jF fun _=>?_);refine jK (aa 17 8191) ?_;refine jA 13 F ?_;((refine bG F F F F F F F F F ?_ fun _ _=>?_;focus omega));refine jK (aa 17 16383) ?_;refine jW 1 [14,15] (aa 17 65535) ?_;refine jA 16 F ?_;(refine jD F F F ?_);refine jK (aa 17 131071) ?_;refine jQ ?_));rotate_left 1;(focus (refine aO F F ?_;(refine jF fun _=>?_);refine jK (aa 17 8175) ?_;refine jA 4 F ?_;(refine aC F ?_);refine jK (aa 17 8191) ?_;refine jA 13 F ?_;((refine bG F F F F F F F F F ?_ fun _ _=>?_;focus omega));refine jK (aa 17 16383) ?_;refine jW 1 [14,15] (aa 17 65535) ?_;refine jA 16 F ?_;(refine jD F F F ?_);refine jK (aa 17 131071) ?_;refine jQ ?_));rotate_left 1)
   all_goals repeat' (refine jM ?_)
   all_goals
    rename_i _ y1 yc1
    rw [show ag dH ((bs.set m bz).take i) ++ [Pt (ab bs i) 0] = ag dH ((bs.set m bz).take (i + 1)) by rw [hst,bX];rfl]
    exact br (some ⟨y1,0,none⟩,yc1,i + 1) (by dsimp only;omega) (by dsimp only;omega) tU rfl sB
 ·have hib : i = bs.length:=by have : i ≤ bs.length:=Hq;omega
  subst hib
  rw [List.take_of_length_le (by rw [hsl];exact Nat.le_refl _)]
  repeat' (first | refine jR ?_ | (refine jo ?_;first | refine jV (af F) ?_ | refine jV (aj F F aS F F) ?_) | refine ad F (aH oM) ?_)
  refine Nx.shp (.head _) fun hsh=>?_
  obtain ⟨kb,kc,e9⟩:=hsh.pos oM
  simp only [Value.slice.injEq] at e9
  obtain ⟨rfl,-,rfl⟩:=e9
  refine Nx.sealS (v:=.slice (some ⟨kb,0,none⟩) bs.length c3) fun G2 hG2 hs3=>?_
  refine Nx.sealC (b:=x) fun G4 hG4 hsg=>?_
  refine jZ (vs:=[_,_]) F ⟨F,F,trivial⟩ F ⟨(hg0.trans (hG2.trans hG4)),F,?_⟩
  exact ⟨x,bz,kb,c3,F,hrepz.mono (hG2.trans hG4),hg0.trans (hG2.trans hG4),hsg,hs3.mono hG4⟩
theorem yW (hu : u.oneCell' = true) {r : ael} {tgb wb0 kb0 cc tc : Nat} {tg : Int} (hcc : 1 ≤ cc) (hn : 0 ≤ n ∧ n ≤ 999999) (hp : aN G (.slice (some ⟨pb,po,none⟩) (n :: p).length pc) 1 (n :: p).length (ag cL (n :: p)))
  (h1 : bU G b 0 [S (64 :: r),S [85],.slice (some ⟨tgb,0,none⟩) 1 (tc + 1),.slice (some ⟨kb0,0,none⟩) 1 cc]) (h2 : bU G tgb 0 [I tg]) (h3 : bU G kb0 0 [Pt wb0 0]) (hpl : p.length ≤ 100) {ts : List Ty}
  (cx_sty : bJ aek 54 [u,Pt b 0,I n] G (fun r G'=>∃ b',r = Tu [Pt b' 0,Bo true] ∧ RepR G' ts v1 k1 b'))
  (ihz : ∀ {G2 : Gh} {b1 : Nat},Gh.le G G2 → RepR G2 ts v1 k1 b1 → bJ aek 105 [u,Pt b1 0,.slice (some ⟨pb,lu po pc (Int.toNat 1) 1,none⟩) ((n :: p).length - Int.toNat 1) (pc - Int.toNat 1),Pt yb 0] G2 (fun r G'=>∃ b',r = Tu [Pt b' 0,Bo true] ∧ RepR G' ts z k1 b')) :
  bJ aek 105 [u,Pt b 0,.slice (some ⟨pb,po,none⟩) (n :: p).length pc,Pt yb 0] G (fun rr G'=>∃ b' zb kb cc,rr = Tu [Pt b' 0,Bo true] ∧ RepR G' ts z k1 zb ∧ 1 ≤ cc ∧ bU G' b' 0 [S (64 :: r),S [85],.slice (some ⟨tgb,0,none⟩) 1 (tc + 1),.slice (some ⟨kb,0,none⟩) 1 cc] ∧ bU G' tgb 0 [I tg] ∧ bU G' kb 0 [Pt zb 0]):=by
 have hk0 : bt (64 :: r) (Int.toNat 0) = 64:=bH 64 r
 have hkl2 : (64 :: r).length = r.length + 1:=rfl
 have hpl0 : (n :: p).length = p.length + 1:=rfl
 have hti : ab (n :: p) (Int.toNat 0) = n:=rfl
 obtain ⟨G0,rfl⟩ : ∃ G0,G0 = G:=⟨G,rfl⟩
 have hg0 : Gh.le G0 G0:=Gh.le.refl _
 have hsx : bU G0 pb po (ag cL (n :: p)):=by
  obtain ⟨b',o',c',e',hs'⟩:=hp.expl (by simp)
  simp only [Value.slice.injEq,Option.some.injEq,Addr.mk.injEq] at e'
  obtain ⟨⟨rfl,rfl,_⟩,_,rfl⟩:=e'
  exact hs'
 refine jB [(0,_),(1,_),(2,_),(3,_)] Tryz.func105 Tryz.ntmps105 fun B hok hB hW=>?_
 repeat' (first | refine jR ?_ | (refine jo ?_;first | refine jV (af F) ?_ | refine jV (aT F F oM) ?_ | (refine jV (fS F F aS ?_ aS F F) ?_;focus omega) | refine jV (nZ F F oM) ?_ | (refine ar F F F cx_sty F ?_;rintro _ G hle ⟨b1,rfl,hrep1⟩;(have hg0:=hg0.trans hle);(have h1:=h1.mono hle);(have h2:=h2.mono hle);(have h3:=h3.mono hle);(try have hrep1:=RepR.mono hle hrep1);(try have hrepz:=RepR.mono hle hrepz))) | refine ad F F ?_)
 have cx_set:=ihz hg0 hrep1
 repeat' (first | refine jR ?_ | (refine jo ?_;first | refine jV (aj F F aS F F) ?_ | refine aE F ?_ | (refine ar F F F cx_set F ?_;rintro _ G hle ⟨bz,rfl,hrepz⟩;(have hg0:=hg0.trans hle);(have h1:=h1.mono hle);(have h2:=h2.mono hle);(have h3:=h3.mono hle);(try have hrep1:=RepR.mono hle hrep1);(try have hrepz:=RepR.mono hle hrepz))) | refine aw F F F ?_ | refine ad F F ?_ | (refine an (ao (id:=15) _ (fun _ h=>h) am ?_);refine jT 6 [0,1,2,4,5,6,8,9,10] (aa 15 1911) ?_;(refine jG (aa 15 1919) 3 F (aj F F aS F F) ?_);(refine jG (aa 15 2047) 7 F (aj F F aS F F) ?_);(refine jG (aa 15 4095) 11 F (aj F F aS F F) ?_);(refine jG (aa 15 8191) 12 F (ay F F) ?_);refine jA 13 F ?_;(refine jO fun _=>?_);refine jS (aa 15 16383) ?_;refine jT 0 [14] (aa 15 32767) ?_;refine jQ ?_))
 rename_i x
 refine Nx.addNil sy 1 ?_
 refine aW (ι:=Option Addr × Nat × Nat) (fun q=>q.2.2 ≤ 1) (fun q=>[(1,Pt b 0),(10,I n),(13,Pt bz 0),(17,Pt x 0),(18,I q.2.2)]) (fun _=>G) (fun q=>[.acc (.slice q.1 q.2.2 q.2.1) sy 1 q.2.2 (ag dH (List.replicate q.2.2 bz)),.blk x (.cells (List.toArray [S (64 :: r),S [85],.slice (some ⟨tgb,0,none⟩) 1 (tc + 1),.slice q.1 q.2.2 q.2.1]) od (0,0))]) (fun q=>1 - q.2.2) (none,0,0) ?_ tU F bc (fun q Hq=>?_)
 ·exact Nat.zero_le _
 obtain ⟨a3,c3,i⟩:=q
 dsimp only at Hq ⊢
 by_cases hi : i < 1
 ·have hi0 : i = 0:=oM
  subst hi0
  have hrr : ag dH (List.replicate 0 bz) ++ [Pt bz 0] = ag dH (List.replicate 1 bz):=rfl
  by_cases hn0 : ((0 : Nat) : Int) = n
  ·repeat' (first | refine jM ?_ | (refine jo ?_;first | refine jV (af F) ?_ | refine aC F ?_ | refine jV (aj F F aS F F) ?_ | refine aP F ?_ | refine jD F F F ?_ | refine jF fun _=>?_ | refine bG F F F F F F F F F oM fun _ _=>?_) | refine aF F F (aA ‹_›) ?_ | refine ac F F ?_)
   rename_i y1 yc1
   rw [hrr]
   exact br (some ⟨y1,0,none⟩,yc1,1) (Nat.le_refl _) (by dsimp only;omega) tU rfl sB
  ·repeat' (first | refine jM ?_ | (refine jo ?_;first | refine jV (af F) ?_ | refine aC F ?_ | refine jV (aj F F aS F F) ?_ | refine aP F ?_ | refine aE F ?_ | refine jD F F F ?_ | refine jF fun _=>?_ | refine bG F F F F F F F F F oM fun _ _=>?_) | refine aF F F F ?_ | refine aw F F (aH ‹_›) ?_ | refine ac F F ?_)
   rename_i y1 yc1
   rw [hrr]
   exact br (some ⟨y1,0,none⟩,yc1,1) (Nat.le_refl _) (by dsimp only;omega) tU rfl sB
 ·have hib : i = 1:=oM
  subst hib
  repeat' (first | refine jR ?_ | (refine jo ?_;first | refine jV (af F) ?_ | refine jV (aj F F aS F F) ?_) | refine ad F F ?_)
  refine Nx.shp (.head _) fun hsh=>?_
  obtain ⟨kb,kc,e9⟩:=hsh.pos oM
  simp only [Value.slice.injEq] at e9
  obtain ⟨rfl,-,rfl⟩:=e9
  refine Nx.sealS (v:=.slice (some ⟨kb,0,none⟩) 1 c3) fun G2 hG2 hs3=>?_
  refine Nx.sealC (b:=x) fun G4 hG4 hsg=>?_
  refine jZ (vs:=[_,_]) F ⟨F,F,trivial⟩ F ⟨(hg0.trans (hG2.trans hG4)),F,?_⟩
  obtain ⟨kb',ko',kc',e9,hs9⟩:=hs3.expl oM
  simp only [Value.slice.injEq,Option.some.injEq,Addr.mk.injEq] at e9
  obtain ⟨⟨rfl,rfl,-⟩,-,rfl⟩:=e9
  exact ⟨x,bz,kb,c3,F,hrepz.mono (hG2.trans hG4),u6 (hs3.mono hG4) oM,hsg,h2.mono (hG2.trans hG4),hs9.mono hG4⟩
end
theorem xJ {vs : List cG} (hw : SchW (ah vs)) : ∀ (p : List Int) {G : Gh} {u pv : Value} {k : ael} {v y : V} {b yb : Nat} {k' : ael} {v' : V},SchR G u vs → aN G pv 1 p.length (ag cL p) → (∀ n ∈ p,0 ≤ n ∧ n ≤ 999999) → p.length ≤ 8 → RepR G (ah vs) v k b → OfK (ah vs) k v → ax (ah vs) k = true → v.tot ≤ 400000 → bP (ah vs) k v p = some (k',v') → RepR G (ah vs) y k' yb → OfK (ah vs) k' y → y.tot ≤ 200000000 →
  bJ aek 105 [u,Pt b 0,pv,Pt yb 0] G (fun r G'=>∃ b',r = Tu [Pt b' 0,Bo true] ∧ RepR G' (ah vs) (bD (ah vs) k v p y) k b')
 | [],G,u,pv,k,v,y,b,yb,k',v',h,hp,hpn,hpl,hr,ho,hki,htt,hf,hy,hoy,hyt=>by
  simp only [bP,Option.some.injEq,Prod.mk.injEq] at hf
  obtain ⟨rfl,rfl⟩:=hf
  obtain ⟨pa,pc,rfl⟩:=hp.sl
  have hl0 : ([] : List Int).length = 0:=rfl
  rw [bD]
  refine jB [(0,_),(1,_),(2,_),(3,_)] Tryz.func105 Tryz.ntmps105 fun B hok hB hW=>?_
  repeat' (first | refine jR ?_ | (refine jo ?_;refine jV (af F) ?_) | refine ac F F ?_)
  all_goals refine jZ (vs:=[_,_]) F ⟨F,F,trivial⟩ F ⟨Gh.le.refl _,F,?_⟩
  all_goals exact ⟨yb,F,hy⟩
 | n :: p,G,u,pv,k,v,y,b,yb,k',v',h,hp,hpn,hpl,hr,ho,hki,htt,hf,hy,hoy,hyt=>by
  obtain ⟨pb,po,pc,rfl,_⟩:=hp.expl (by simp)
  have hn:=hpn n (by simp)
  have hpn2 : ∀ m ∈ p,0 ≤ m ∧ m ≤ 999999:=fun m hm=>hpn m (by simp [hm])
  have hpl2 : p.length ≤ 8:=by simp at hpl;omega
  unfold bP at hf
  cases hs : aB (ah vs) k v n with
  | none=>rw [hs] at hf;cases hf
  | some x =>
   rw [hs] at hf
   obtain ⟨k1,v1⟩:=x
   dsimp only at hf
   obtain ⟨g1,g2⟩:=cJ hw ho hki hn.1 hs
   have g3:=kS hw ho hki hn.1 hs (N:=400000) htt oM
   have g4:=g0 hw (y:=y) g1 g2 (fun m hm=>(hpn2 m hm).1) hf
   have cx_sty:=gU.yes (n5 h hw hr ho hki hn oM) hs
   have hcut:=yS hp
   have ihz : ∀ {G2 : Gh} {b1 : Nat},Gh.le G G2 → RepR G2 (ah vs) v1 k1 b1 → bJ aek 105 [u,Pt b1 0,.slice (some ⟨pb,lu po pc (Int.toNat 1) 1,none⟩) ((n :: p).length - Int.toNat 1) (pc - Int.toNat 1),Pt yb 0] G2 (fun r G'=>∃ b',r = Tu [Pt b' 0,Bo true] ∧ RepR G' (ah vs) (bD (ah vs) k1 v1 p y) k1 b'):=fun hle hr1 =>
    xJ hw p (h.mono hle) (hcut.mono hle) hpn2 hpl2 hr1 g1 g2 g3 hf (hy.mono hle) hoy hyt
   rw [c5 hs]
   have hu:=h.sl.one
   cases hrf : aZ (ah vs) k with
   | none =>
    obtain ⟨c,kr,rfl⟩:=dT hki
    by_cases hc : c.toNat = 91 ∨ c.toNat = 63
    ·have hst:=dZ (ts:=ah vs) (c:=c) (r:=kr) (v:=v) (n:=n) hc
     rw [hs] at hst
     by_cases hlt : n < ((v.kids.length : Nat) : Int)
     ·rw [if_pos hlt] at hst
      simp only [Option.some.injEq,Prod.mk.injEq] at hst
      obtain ⟨rfl,rfl⟩:=hst
      rcases dg ho oM with ⟨a1,_⟩ | ⟨a1,_⟩ | ⟨a1,_⟩ | ⟨a1,ks,a2,a3,rfl⟩ | ⟨a1,rfl | ⟨w,a3,rfl⟩⟩
      ·omega
      ·omega
      ·omega
      ·obtain rfl:=bY a1 dC
       rw [V.kids] at hlt
       cases hr with
       | leaf w x k tx b h1 h2=>rcases h2 with ⟨h,_⟩ | ⟨h,_⟩ | ⟨h,_⟩ <;> omega
       | lst k b ks bs a c h1 h2 h3 hk =>
        have hbl : bs.length = ks.length:=h3
        refine (ui (u:=u) (n:=n) (m:=n.toNat) (bs:=bs) hu (.inl F) oM oM oM hn hp (by rw [hbl];exact h1) (by rw [hbl];exact h2) oM cx_sty ihz).mono ?_
        rintro v G' L' ⟨q1,q2,b',zb,kb,cc,rfl,q3,q4,q5,q6⟩
        refine ⟨q1,q2,b',F,?_⟩
        have e1 : cC (ah vs) (91 :: k1) (.nd 91 [] 0 ks) n (bD (ah vs) k1 (ab ks n.toNat) p y) = .nd 91 [] 0 (ks.set n.toNat (bD (ah vs) k1 (ab ks n.toNat) p y)):=by
         unfold cC;rw [V.what,if_neg dC,if_pos rfl];rfl
        show RepR G' (ah vs) (cC (ah vs) (91 :: k1) (.nd 91 [] 0 ks) n (bD (ah vs) k1 (ab ks n.toNat) p y)) (91 :: k1) b'
        rw [e1]
        rw [hbl] at q5 q6
        refine RepR.lst k1 b' _ (bs.set n.toNat zb) (some ⟨kb,0,none⟩) cc (by rw [List.length_set];exact q5) (by rw [List.length_set];exact q6) (by simp [hbl]) fun i hi=>?_
        rw [List.length_set] at hi
        rw [vq hi,vq oM]
        by_cases him : n.toNat = i
        ·rw [if_pos him,if_pos him];exact q3
        ·rw [if_neg him,if_neg him];exact (hk i hi).mono q4
      ·simp [V.kids] at hlt;omega
      ·obtain rfl:=bY a1 dC
       simp [V.kids] at hlt
       obtain rfl : n = 0:=oM
       cases hr with
       | opt k b kb b' cc v hcc h1 h2 h3 =>
        have h2s : aN G (.slice (some ⟨kb,0,none⟩) 1 cc) 1 1 (ag dH [b']):=⟨rfl,.inr ⟨kb,0,cc,rfl,hcc,h2⟩⟩
        refine (ui (u:=u) (n:=0) (m:=0) (bs:=[b']) hu (.inr F) F (by simp) (by simp) hn hp h1 h2s oM cx_sty ihz).mono ?_
        rintro v G' L' ⟨q1,q2,b2,zb,kb2,cc2,rfl,q3,q4,q5,q6⟩
        refine ⟨q1,q2,b2,F,?_⟩
        have q7:=u6 q6 (by simp)
        obtain ⟨kb',ko',kc',e9,hs9⟩:=q6.expl (by simp)
        simp only [Value.slice.injEq,Option.some.injEq,Addr.mk.injEq] at e9
        obtain ⟨⟨rfl,rfl,-⟩,-,rfl⟩:=e9
        exact RepR.opt k1 b2 kb2 zb cc2 _ q7 q5 hs9 q3
     ·rw [if_neg hlt] at hst;cases hst
    ·have hno : aB (ah vs) (c :: kr) v n = none:=by
      rcases eg hki hc hrf with e | e | e
      all_goals (rw [e];exact ji dC dC dC)
     rw [hno] at hs;cases hs
   | some t =>
    have hst:=eB (v:=v) (n:=n) hrf
    rw [hs] at hst
    cases hg : cm t.fields n with
    | none=>rw [hg] at hst;cases hst
    | some f =>
     rw [hg] at hst
     dsimp only at hst
     by_cases h69 : t.sort = 69
     ·rw [if_pos h69] at hst;cases hst
     ·rw [if_neg h69] at hst
      by_cases h82 : t.sort = 82
      ·rw [if_pos h82] at hst
       simp only [Option.some.injEq,Prod.mk.injEq] at hst
       obtain ⟨rfl,rfl⟩:=hst
       rcases bE ho hrf with ⟨_,fs,rfl,a3,a4,a5,a6⟩ | ⟨a1,_⟩ | ⟨a1,_⟩
       ·have hfs9 : fs.length ≤ 100000:=by
         have h7:=dq (fs.map aq)
         rw [bK] at htt
         have e1 : (fs.map aq).length = fs.length:=by simp
         omega
        have e1 : ∀ z,cC (ah vs) k (.nd 82 [] 0 (fs.map aq)) n z = .nd 82 [] 0 (cV (ah vs) f z (fs.map aq)):=fun z=>by
         unfold cC;rw [V.what,if_pos rfl,hrf]
         dsimp only
         rw [hg];rfl
        rw [e1]
        exact yX h hw hki hrf hg F (m3 a6) hfs9 hn hp hr oM oM cx_sty ihz
       ·omega
       ·omega
      ·rw [if_neg h82] at hst
       by_cases htg : v.tag = n
       ·rw [if_pos htg] at hst
        simp only [Option.some.injEq,Prod.mk.injEq] at hst
        obtain ⟨rfl,rfl⟩:=hst
        obtain ⟨hft,hfm⟩:=rR hg
        cases hr with
        | leaf w x k tx b h1 h2 =>
         rcases h2 with ⟨_,rfl,_⟩ | ⟨_,rfl,_⟩ | ⟨_,rfl,_⟩ <;> exact (dB hrf F dC).elim
        | lst k b ks bs a c h1 h2 h3 hk=>exact (dB hrf F dC).elim
        | non k b h1=>exact (dB hrf F dC).elim
        | opt k b kb b' cc w h0 h1 h2 h3=>exact (dB hrf F dC).elim
        | recd k b t' fs bs a a2 c c2 h0 h1 h2 h3 h4 h5 hk=>rw [hrf] at h0;obtain rfl:=Option.some.inj h0.1;exact (h82 h0.2).elim
        | enm k b tgb t' d h0 h1 h2 h3=>rw [hrf] at h0;obtain rfl:=Option.some.inj h0.1;exact (h69 h0.2).elim
        | uni k b tgb kb b' cc t' d w hcc h0 h1 h2 h3 h4 hk =>
         rw [hrf] at h0
         obtain rfl:=Option.some.inj h0.1
         have hdf : d = f:=fe (hw.ty _ (bj hrf)) h1 hfm (by rw [hft];exact htg)
         subst hdf
         obtain ⟨r,rfl⟩:=d5 hrf
         refine (yW (u:=u) (n:=n) hu hcc hn hp h2 h3 h4 oM cx_sty ihz).mono ?_
         rintro v G' L' ⟨q1,q2,b2,zb,kb2,cc2,rfl,q3,q4,q5,q6,q7⟩
         refine ⟨q1,q2,b2,F,?_⟩
         have e1 : ∀ z,cC (ah vs) (64 :: r) (.nd 85 [] d.tag [w]) n z = .nd 85 [] d.tag [z]:=fun z=>by
          unfold cC;rw [V.what,if_neg dC,if_neg dC];rfl
         rw [e1]
         exact RepR.uni _ b2 tgb kb2 zb cc2 _ d _ q4 ⟨hrf,h0.2⟩ h1 q5 q6 q7 q3
       ·rw [if_neg htg] at hst;cases hst
theorem zh {u : Value} {vs : List cG} (hw : SchW (ah vs)) (h : SchR G u vs) {k s : ael} (hki : ax (ah vs) k = true) :
  bJ aek 106 [u,S k,S s] G (fun r _=>r = Tu [S (if (co (ah vs) k s).isSome = true then s else []),Bo (co (ah vs) k s).isSome]):=by
 obtain ⟨ua,uc,rfl⟩:=h.sl.sl
 by_cases hl : s.length ≤ 400
 ·have cx_rd:=gA (u:=.slice ua vs.length uc) (vs:=vs) hw 12 oM G k s h hki oM
  have hvo : co (ah vs) k s = match rd (ah vs) 12 k s with
   | some (v,[])=>some v
   | _=>none:=by
   unfold co;rw [if_pos hl]
   all_goals (rcases rd (ah vs) 12 k s with _ | ⟨v,_ | _⟩ <;> rfl)
  refine jB [(0,_),(1,_),(2,_)] Tryz.func106 Tryz.ntmps106 fun B hok hB hW=>?_
  repeat' (first | refine jR ?_ | (refine jo ?_;first | refine jV (ay F F) ?_ | refine aP F ?_ | refine aE F ?_ | (refine ar F F F cx_rd F ?_;rintro _ G hle ⟨q1,r1,ok1,rfl,hyes,hno⟩;skip)) | refine me F F (fun _=>?_) (fun _=>?_) | refine ac F F ?_ | refine ad F (aH oM) ?_ | refine eG F (fun _=>?_) (fun _=>?_))
  all_goals refine jZ (vs:=[_,_]) F ⟨F,F,trivial⟩ F ⟨hle,F,?_⟩
  ·rename_i hz
   rw [hno (by simpa using hz)] at hvo
   rw [hvo];rfl
  ·rename_i hz hr
   obtain ⟨w,b,rfl,hf,hrep⟩:=hyes (by simpa using hz)
   rw [hf] at hvo
   have hvo2 : co (ah vs) k s = none:=by
    rw [hvo]
    cases r1 with
    | nil=>exact absurd F hr
    | cons c r=>rfl
   rw [hvo2];rfl
  ·rename_i hz hr
   obtain ⟨w,b,rfl,hf,hrep⟩:=hyes (by simpa using hz)
   obtain rfl : r1 = []:=by simpa using hr
   rw [hf] at hvo
   rw [hvo];rfl
 ·have hvo : co (ah vs) k s = none:=by unfold co;rw [if_neg hl]
  rw [hvo]
  refine jB [(0,_),(1,_),(2,_)] Tryz.func106 Tryz.ntmps106 fun B hok hB hW=>?_
  repeat' (first | refine jR ?_ | refine ac F (aA oM) ?_)
  all_goals refine jZ (vs:=[_,_]) F ⟨F,F,trivial⟩ F ⟨Gh.le.refl _,F,?_⟩
  all_goals rfl
def eT (s k w p x : ael) : Option ael:=match a9 s,cY s k w,df p with
 | some ts,some u,some q=>match bP ts k u q with
  | none=>none
  | some (k',_)=>match rd ts 12 k' x with
   | some (y,[])=>if (bD ts k u q y).out.length ≤ 400 ∧ (bD ts k u q y).deep ≤ 12 then some (bD ts k u q y).out else none
   | _=>none
 | _,_,_=>none
def lv (o : Option ael) : Value:=Tu [S (o.getD []),Bo o.isSome]
theorem tz {s k x : ael} {o : Option (List Int)} : (match a9 s,(none : Option V),o with
 | some ts,some u,some q=>match bP ts k u q with
  | none=>none
  | some (k',_)=>match rd ts 12 k' x with
   | some (y,[])=>if (bD ts k u q y).out.length ≤ 400 ∧ (bD ts k u q y).deep ≤ 12 then some (bD ts k u q y).out else none
   | _=>none
 | _,_,_=>none) = none:=by cases a9 s <;> rfl
theorem wO {s k w p x : ael} (h1 : s.length ≤ 1048576 ∧ k.length ≤ 1048576 ∧ w.length ≤ 1048576 ∧ p.length ≤ 1048576) (hx : x.length ≤ 1048576) : a7 aek 59 [S s,S k,S w,S p,S x] G (· = lv (eT s k w p x)):=by
 unfold eT
 cases hg : cY s k w with
 | none =>
  rw [tz]
  have cx_la0:=fun G=>lJ (G:=G) (s:=s) (k:=k) (w:=w) oM hg
  cases hpo : df p with
  | none =>
   have cx_sp:=oT h1.2.2.2 hpo
   refine jB (Post:=fun v G' L'=>G' = G ∧ L' = [] ∧ _) [(0,_),(1,_),(2,_),(3,_),(4,_)] Tryz.func59 Tryz.ntmps59 fun B hok hB hW=>?_
   repeat' (first | refine jR ?_ | (refine jo ?_;first | refine aP F ?_ | (refine ar F F F (cx_la0 _) F ?_;rintro _ G hle ⟨ua,qa,rfl⟩;skip) | (refine ar F F F (cx_sp _) F ?_;rintro _ G hle ⟨sa,sc,sn,rfl,hsp⟩;skip)) | refine aF F F F ?_ | refine ac F F ?_)
   all_goals refine Nx.base hok hB ?_
   all_goals refine jY (vs:=[_,_]) ?_
   all_goals rfl
  | some q =>
   have cx_sp:=mY h1.2.2.2 hpo
   refine jB (Post:=fun v G' L'=>G' = G ∧ L' = [] ∧ _) [(0,_),(1,_),(2,_),(3,_),(4,_)] Tryz.func59 Tryz.ntmps59 fun B hok hB hW=>?_
   repeat' (first | refine jR ?_ | (refine jo ?_;first | refine aP F ?_ | (refine ar F F F (cx_la0 _) F ?_;rintro _ G hle ⟨ua,qa,rfl⟩;skip) | (refine ar F F F (cx_sp _) F ?_;rintro _ G hle ⟨sa,sc,sn,rfl,hsp⟩;skip)) | refine aF F F F ?_ | refine ac F F ?_)
   all_goals refine Nx.base hok hB ?_
   all_goals refine jY (vs:=[_,_]) ?_
   all_goals rfl
 | some u =>
  obtain ⟨ts,hs,hki,hvo,hto,hwf⟩:=cQ hg
  have cx_l4x:=n6 (G:=G) (s:=s) (k:=k) (w:=w) oM hs hki hvo
  rw [hs]
  cases hpo : df p with
  | none =>
   have cx_sp:=oT h1.2.2.2 hpo
   refine jB (Post:=fun v G' L'=>G' = G ∧ L' = [] ∧ _) [(0,_),(1,_),(2,_),(3,_),(4,_)] Tryz.func59 Tryz.ntmps59 fun B hok hB hW=>?_
   repeat' (first | refine jR ?_ | (refine jo ?_;first | refine aE F ?_ | (refine ar F F F cx_l4x F ?_;rintro _ G hle ⟨av1,cv1,vs1,b1,rfl,hR1,hT1,hrep⟩;skip) | (refine ar F F F (cx_sp _) F ?_;rintro _ G hle ⟨sa,sc,sn,rfl,hsp⟩;skip)) | refine aw F F F ?_ | refine ac F F ?_)
   all_goals refine Nx.base hok hB ?_
   all_goals refine jY (vs:=[_,_]) ?_
   all_goals rfl
  | some q =>
   have cx_sp:=mY h1.2.2.2 hpo
   obtain ⟨hq8,hqn⟩:=rB hpo
   have hof:=c9 hvo
   have hw:=dV hs
   dsimp only
   refine jB (Post:=fun v G' L'=>G' = G ∧ L' = [] ∧ _) [(0,_),(1,_),(2,_),(3,_),(4,_)] Tryz.func59 Tryz.ntmps59 fun B hok hB hW=>?_
   repeat' (first | refine jR ?_ | (refine jo ?_;first | refine aE F ?_ | (refine ar F F F cx_l4x F ?_;rintro _ G hle ⟨av1,cv1,vs1,b1,rfl,hR1,hT1,hrep⟩;(try have hrep:=RepR.mono hle hrep);(try have hR1:=SchR.mono hR1 hle);(try have hsp:=aN.mono hsp hle);(try have hsg1:=bU.mono hsg1 hle)) | (refine ar F F F (cx_sp _) F ?_;rintro _ G hle ⟨sa,sc,sn,rfl,hsp⟩;(try have hrep:=RepR.mono hle hrep);(try have hR1:=SchR.mono hR1 hle);(try have hsp:=aN.mono hsp hle);(try have hsg1:=bU.mono hsg1 hle))) | refine aw F F F ?_ | refine ad F F ?_)
   obtain ⟨rfl,hsp⟩:=hsp
   subst hT1
   have hwk:=aaL hR1 hw hsp hqn oM hrep hof hki oM
   cases hfo : bP (ah vs1) k u q with
   | none =>
    have cx_wan:=gU.no hwk hfo
    repeat' (first | refine jR ?_ | (refine jo ?_;(refine ar F F F cx_wan F ?_;rintro _ G hle ⟨q1,rfl⟩;(try have hrep:=RepR.mono hle hrep);(try have hR1:=SchR.mono hR1 hle);(try have hsp:=aN.mono hsp hle);(try have hsg1:=bU.mono hsg1 hle))) | refine ac F F ?_)
    all_goals refine Nx.base hok hB ?_
    all_goals refine jY (vs:=[_,_]) ?_
    all_goals rfl
   | some y =>
    obtain ⟨k1,v1⟩:=y
    have cx_way:=gU.yes hwk hfo
    have hqn0:=fun n hn=>(hqn n hn).1
    obtain ⟨_,hk1⟩:=mn hw hof hki hqn0 hfo
    dsimp only
    repeat' (first | refine jR ?_ | (refine jo ?_;first | refine jV (ay F F) ?_ | (refine ar F F F cx_way F ?_;rintro _ G hle ⟨b1,rfl,hrep1⟩;(try have hrep:=RepR.mono hle hrep);(try have hR1:=SchR.mono hR1 hle);(try have hsp:=aN.mono hsp hle);(try have hsg1:=bU.mono hsg1 hle))) | refine ad F F ?_)
    obtain ⟨z1,z2,z3,hsg1⟩:=yv hrep1
    have cx_rd:=gA (u:=.slice av1 vs1.length cv1) (vs:=vs1) hw 12 oM G k1 x hR1 hk1 oM
    repeat' (first | refine jR ?_ | (refine jo ?_;first | refine aP F ?_ | refine aE F ?_ | refine jV (aj F F aS F F) ?_ | (refine ar F F F cx_rd F ?_;rintro _ G hle ⟨q1,r1,ok1,rfl,hyes,hno⟩;(try have hrep:=RepR.mono hle hrep);(try have hR1:=SchR.mono hR1 hle);(try have hsp:=aN.mono hsp hle);(try have hsg1:=bU.mono hsg1 hle))) | refine me F F (fun _=>?_) (fun _=>?_) | refine ac F F ?_ | refine eG F (fun _=>?_) (fun _=>?_))
    ·rename_i hz
     rw [hno (by simpa using hz)]
     refine Nx.base hok hB ?_
     refine jY (vs:=[_,_]) ?_
     rfl
    ·rename_i hz hr
     obtain ⟨w2,b2,rfl,hf2,hrep2⟩:=hyes (by simpa using hz)
     rw [hf2]
     refine Nx.base hok hB ?_
     refine jY (vs:=[_,_]) ?_
     cases r1 with
     | nil=>exact absurd F hr
     | cons c r=>rfl
    ·rename_i hz hr
     obtain ⟨w2,b2,rfl,hf2,hrep2⟩:=hyes (by simpa using hz)
     obtain rfl : r1 = []:=by simpa using hr
     rw [hf2]
     dsimp only
     have hoy:=pQ _ _ _ _ hf2
     have hyt:=gB _ _ _ _ hf2
     dsimp only at hoy hyt
     have cx_set:=xJ hw q hR1 hsp hqn hq8 hrep hof hki oM hfo hrep2 hoy oM
     have hcg:=dL hw hof hki hqn0 hfo hoy
     have hct:=g0 hw (y:=w2) hof hki hqn0 hfo
     repeat' (first | refine jR ?_ | (refine jo ?_;(refine ar F F F cx_set F ?_;rintro _ G hle ⟨bz,rfl,hrepz⟩;(try have hrep:=RepR.mono hle hrep);(try have hR1:=SchR.mono hR1 hle);(try have hsp:=aN.mono hsp hle);(try have hsg1:=bU.mono hsg1 hle))) | refine ad F F ?_)
     have cx_out:=gj hw hrepz oM
     have cx_bk:=zh (s:=(bD (ah vs1) k u q w2).out) hw hR1 hki
     by_cases hfit : (bD (ah vs1) k u q w2).out.length ≤ 400 ∧ (bD (ah vs1) k u q w2).deep ≤ 12
     ·rw [if_pos hfit]
      rw [oL hw hcg hfit.1 hfit.2] at cx_bk
      repeat' (first | refine jR ?_ | (refine jo ?_;first | refine ae F F F cx_out F ?_ | (refine ar F F F cx_bk F ?_;rintro _ G hle rfl;(try have hrep:=RepR.mono hle hrep);(try have hR1:=SchR.mono hR1 hle);(try have hsp:=aN.mono hsp hle);(try have hsg1:=bU.mono hsg1 hle))))
      all_goals refine Nx.base hok hB ?_
      all_goals refine jY (vs:=[_,_]) ?_
      all_goals rfl
     ·rw [if_neg hfit]
      rw [uI hw hcg hfit] at cx_bk
      repeat' (first | refine jR ?_ | (refine jo ?_;first | refine ae F F F cx_out F ?_ | (refine ar F F F cx_bk F ?_;rintro _ G hle rfl;(try have hrep:=RepR.mono hle hrep);(try have hR1:=SchR.mono hR1 hle);(try have hsp:=aN.mono hsp hle);(try have hsg1:=bU.mono hsg1 hle))))
      all_goals refine Nx.base hok hB ?_
      all_goals refine jY (vs:=[_,_]) ?_
      all_goals rfl
def ad5 (w : Nat) (x : ael) (t : Int) (js : List ael) : ael :=
 if w = 110 then [u8 ((aQ x 999999).getD 0 / 65536),u8 ((aQ x 999999).getD 0 / 256),u8 ((aQ x 999999).getD 0)] else if w = 116 then x ++ [0] else if w = 102 then (if x = [121,101,115] then [1] else [0]) else if w = 69 then [u8 t]
 else if w = 63 ∧ js = [] then [0] else if w = 85 ∨ w = 61 then u8 t :: js.flatten else if w = 63 then (js.map (1 :: ·)).flatten else (js.map (1 :: ·)).flatten ++ [0]
mutual
def V.key : V → ael
 | .nd w x t ks=>ad5 w x t (V.keys ks)
def V.keys : List V → List ael
 | []=>[]
 | v :: r=>V.key v :: V.keys r
end
def lx (s k w : ael) : Bool:=(cY s k w).isSome
theorem tu {s k w p x z : ael} (h : eT s k w p x = some z) : ∃ ts u q k1 v1 y,a9 s = some ts ∧ cY s k w = some u ∧ df p = some q ∧ bP ts k u q = some (k1,v1) ∧ rd ts 12 k1 x = some (y,[]) ∧ ((bD ts k u q y).out.length ≤ 400 ∧ (bD ts k u q y).deep ≤ 12) ∧ z = (bD ts k u q y).out:=by
 unfold eT at h
 split at h
 ·rename_i ts u q h1 h2 h3
  cases hf : bP ts k u q with
  | none=>rw [hf] at h;cases h
  | some y =>
   rw [hf] at h
   obtain ⟨k',v'⟩:=y
   dsimp only at h
   split at h
   ·rename_i y hy
    split at h
    ·rename_i hc
     simp only [Option.some.injEq] at h
     exact ⟨ts,u,q,k',v',y,h1,h2,h3,hf,hy,hc,h.symm⟩
    ·cases h
   ·cases h
 ·cases h
theorem yK {s k w : ael} {ts : List Ty} {u : V} (h1 : a9 s = some ts) (h2 : ax ts k = true) (h3 : co ts k w = some u) : cY s k w = some u:=by
 unfold cY
 rw [h1]
 dsimp only
 rw [if_pos h2,h3]
theorem aby {ts : List Ty} (hw : SchW ts) {k : ael} {v : V} (h : OfK ts k v) (hd : v.deep ≤ 12) : rd ts 12 k v.out = some (v,[]):=by
 have:=lZ hw 12 h hd [] lD
 rwa [List.append_nil] at this
theorem tv {s k w p x z : ael} (h : eT s k w p x = some z) : lx s k z = true ∧ z.length ≤ 400:=by
 obtain ⟨ts,u,q,k1,v1,y,h1,h2,h3,h4,h5,h6,rfl⟩:=tu h
 obtain ⟨ts',g1,g2,g3,g4,g5⟩:=cQ h2
 obtain rfl : ts = ts':=Option.some.inj (h1.symm.trans g1)
 have hw:=dV h1
 have ho:=c9 g3
 obtain ⟨b1,b2,b3,b4⟩:=uK h3
 have hq0 : ∀ n ∈ q,0 ≤ n:=fun n hn=>(b3 n hn).1
 have hy:=pQ _ _ _ _ h5
 have hc:=dL hw ho g2 hq0 h4 hy
 exact ⟨by unfold lx;rw [yK h1 g2 (oL hw hc h6.1 h6.2)];rfl,h6.1⟩
variable {ts : List Ty}
theorem tl {f g : Fld} {x y : V} (h : f.tag < g.tag) (vs : List V) : cV ts g y (nf ts f x ++ vs) = nf ts f x ++ cV ts g y vs:=by
 unfold nf
 split
 ·rfl
 ·rw [List.singleton_append,cK,if_pos (by rw [ku];exact h),List.singleton_append]
theorem wn {m : Int} {g : Fld} {y : V} (h : m < g.tag) : ∀ v ∈ nf ts g y,m < v.tag:=by
 intro v hv
 unfold nf at hv
 split at hv
 ·cases hv
 ·rw [List.mem_singleton.1 hv,ku];exact h
theorem tm {m : Int} {g : Fld} {y : V} (h : m < g.tag) : ∀ {vs : List V},(∀ v ∈ vs,m < v.tag) → ∀ v ∈ cV ts g y vs,m < v.tag
 | [],_,v,hv=>wn h v (by rw [dX] at hv;exact hv)
 | w :: vs,hw,v,hv=>by
  rw [cK] at hv
  split at hv
  ·rcases List.mem_cons.1 hv with rfl | hv
   ·exact hw _ (by simp)
   ·exact tm h (fun u hu=>hw u (by simp [hu])) v hv
  ·rcases List.mem_append.1 hv with hv | hv
   ·exact wn h v hv
   ·split at hv
    ·exact hw v (by simp [hv])
    ·exact hw v hv
theorem l5 {f g : Fld} {x y : V} (h : f.tag < g.tag) : ∀ {vs : List V},lL vs → cV ts g y (cV ts f x vs) = cV ts f x (cV ts g y vs)
 | [],_=>by
  have h1:=tl (ts:=ts) (x:=x) (y:=y) h []
  rw [List.append_nil,dX] at h1
  rw [dX,dX,h1,qQ (wn h)]
 | v :: vs,hs=>by
  replace hs:=List.pairwise_cons.1 hs
  by_cases h1 : v.tag < f.tag
  ·rw [cK (f:=f),if_pos h1,cK (f:=g),if_pos oM,cK (f:=g),if_pos oM,cK (f:=f),if_pos h1,l5 h hs.2]
  ·rw [cK (f:=f),if_neg h1,tl h]
   by_cases h2 : v.tag = f.tag
   ·rw [if_pos h2,cK (f:=g),if_pos oM,cK (f:=f),if_neg h1,if_pos h2]
   ·rw [if_neg h2,qQ (f:=f) (tm h (fun u hu=>by
     rcases List.mem_cons.1 hu with rfl | hu
     ·omega
     ·have:=hs.1 u hu;omega))]
theorem xa {f g : Fld} {x y : V} (h : f.tag ≠ g.tag) {vs : List V} (hs : lL vs) : cV ts g y (cV ts f x vs) = cV ts f x (cV ts g y vs):=by
 by_cases h1 : f.tag < g.tag
 ·exact l5 h1 hs
 ·exact (l5 oM hs).symm
theorem set_comm (hw : SchW ts) {k : ael} {v : V} (h : OfK ts k v) (hk : ax ts k = true) {a b : Int} (ha : 0 ≤ a) (hb : 0 ≤ b) (hab : a ≠ b) {ka kb : ael} {va vb : V}
  (sa : aB ts k v a = some (ka,va)) (sb : aB ts k v b = some (kb,vb)) (x y : V) : cC ts k (cC ts k v b y) a x = cC ts k (cC ts k v a x) b y:=by
 obtain ⟨c,r,rfl⟩:=dT hk
 unfold aB at sa sb
 dsimp only at sa sb
 by_cases hc : c.toNat = 91 ∨ c.toNat = 63
 ·rw [if_pos hc] at sa sb
  split at sa
  ·rename_i la
   split at sb
   ·rename_i lb
    rcases dg h oM with ⟨g1,_⟩ | ⟨g1,_⟩ | ⟨g1,_⟩ | ⟨g1,ks,g2,g3,rfl⟩ | ⟨g1,rfl | ⟨u,g3,rfl⟩⟩
    ·omega
    ·omega
    ·omega
    ·have e : ∀ ks n z,cC ts (c :: r) (.nd 91 [] 0 ks) n z = .nd 91 [] 0 (ks.set n.toNat z):=fun ks n z=>by
      unfold cC;rw [V.what,if_neg dC,if_pos rfl];rfl
     rw [e,e,e,e,List.set_comm _ _ oM]
    ·simp [V.kids] at la;omega
    ·simp [V.kids] at la lb;omega
   ·cases sb
  ·cases sa
 ·rw [if_neg hc] at sa sb
  cases hr : aZ ts (c :: r) with
  | none=>rw [hr] at sa;cases sa
  | some t =>
   rw [hr] at sa sb
   dsimp only at sa sb
   cases hfa : cm t.fields a with
   | none=>rw [hfa] at sa;cases sa
   | some f =>
    cases hfb : cm t.fields b with
    | none=>rw [hfb] at sb;cases sb
    | some g =>
     rw [hfa] at sa
     rw [hfb] at sb
     dsimp only at sa sb
     have ta : f.tag = a:=by have:=List.find?_some hfa;simpa using this
     have tb : g.tag = b:=by have:=List.find?_some hfb;simpa using this
     by_cases h69 : t.sort = 69
     ·rw [if_pos h69] at sa;cases sa
     ·rw [if_neg h69] at sa sb
      by_cases h82 : t.sort = 82
      ·rcases bE h hr with ⟨_,fs,rfl,g3,g4,g5,g6⟩ | ⟨g1,_⟩ | ⟨g1,_⟩
       ·have ea : ∀ vs z,cC ts (c :: r) (.nd 82 [] 0 vs) a z = .nd 82 [] 0 (cV ts f z vs):=fun vs z=>by
         unfold cC;rw [V.what,if_pos rfl,hr]
         dsimp only
         rw [hfa];rfl
        have eb : ∀ vs z,cC ts (c :: r) (.nd 82 [] 0 vs) b z = .nd 82 [] 0 (cV ts g z vs):=fun vs z=>by
         unfold cC;rw [V.what,if_pos rfl,hr]
         dsimp only
         rw [hfb];rfl
        rw [eb,ea,ea,eb,xa oM (m3 g6)]
       ·omega
       ·omega
      ·rw [if_neg h82] at sa sb
       split at sa
       ·split at sb
        ·omega
        ·cases sb
       ·cases sa
theorem oD (hw : SchW ts) : ∀ {q p : List Int} {k : ael} {v x y : V} {k1 k2 : ael} {v1 v2 : V},OfK ts k v → ax ts k = true → (∀ n ∈ q,0 ≤ n) → (∀ n ∈ p,0 ≤ n) →
  bP ts k v q = some (k1,v1) → bP ts k v p = some (k2,v2) → OfK ts k1 x → OfK ts k2 y → fh p q → bD ts k (bD ts k v q x) p y = bD ts k (bD ts k v p y) q x
 | [],[],_,_,_,_,_,_,_,_,_,_,_,_,_,_,_,_,ha=>ha.elim
 | [],_ :: _,_,_,_,_,_,_,_,_,_,_,_,_,_,_,_,_,ha=>ha.elim
 | _ :: _,[],_,_,_,_,_,_,_,_,_,_,_,_,_,_,_,_,ha=>ha.elim
 | b :: q,a :: p,k,v,x,y,k1,k2,v1,v2,h,hk,hq,hp,eq,ep,hx,hy,ha=>by
  unfold bP at eq ep
  cases hsb : aB ts k v b with
  | none=>rw [hsb] at eq;cases eq
  | some zb =>
   cases hsa : aB ts k v a with
   | none=>rw [hsa] at ep;cases ep
   | some za =>
    rw [hsb] at eq
    rw [hsa] at ep
    obtain ⟨kb,vb⟩:=zb
    obtain ⟨ka,va⟩:=za
    dsimp only at eq ep
    have hb:=hq b (by simp)
    have ha0:=hp a (by simp)
    obtain ⟨b1,b2⟩:=cJ hw h hk hb hsb
    obtain ⟨a1,a2⟩:=cJ hw h hk ha0 hsa
    have hq2 : ∀ m ∈ q,0 ≤ m:=fun m hm=>hq m (by simp [hm])
    have hp2 : ∀ m ∈ p,0 ≤ m:=fun m hm=>hp m (by simp [hm])
    have cb:=dL hw b1 b2 hq2 eq hx
    have ca:=dL hw a1 a2 hp2 ep hy
    obtain ⟨⟨s1,_⟩,s3,s4⟩:=iV hw h hk hb hsb cb
    obtain ⟨⟨r1,_⟩,r3,r4⟩:=iV hw h hk ha0 hsa ca
    rw [c5 hsb,c5 hsa]
    by_cases hab : a = b
    ·subst hab
     obtain ⟨rfl,rfl⟩:=Prod.mk.inj (Option.some.inj (hsa.symm.trans hsb))
     rcases ha with ha | ⟨_,ha⟩
     ·exact absurd F ha
     ·rw [c5 s1,c5 r1,s3,r3,oD hw b1 b2 hq2 hp2 eq ep hx hy ha]
    ·rw [c5 (s4 a ha0 hab ▸ hsa),c5 (r4 b hb (Ne.symm hab) ▸ hsb)]
     exact set_comm hw h hk ha0 hb hab hsa hsb _ _
variable {ts : List Ty}
def bZ (a b : V) : Bool:=if a.what = 82 then true else if a.what = 85 then decide (a.tag = b.tag) else if a.what = 91 ∨ a.what = 63 then decide (a.kids.length = b.kids.length ∧ 0 < a.kids.length) else false
def cM (v : V) : List Int:=if v.what = 82 then v.kids.map V.tag else [v.tag]
def aU (a b : V) : List Int:=if a.what = 91 ∨ a.what = 63 then (List.range a.kids.length).map fun i : Nat=>(i : Int)
 else ((List.range 200).map fun i : Nat=>(i : Int) + 1).filter fun n=>(cM a ++ cM b).contains n
def bB (ts : List Ty) : Nat → ael → V → V → List Int → List (List Int × V)
 | 0,_,_,_,_=>[]
 | n + 1,k,a,b,q=>if a.out = b.out then [] else if bZ a b = true then (aU a b).flatMap fun i=>match aB ts k a i,aB ts k b i with
   | some y,some z=>bB ts n y.1 y.2 z.2 (q ++ [i])
   | _,_=>[]
  else [(q,b)]
theorem rY (n : Nat) (k : ael) (a : V) (q : List Int) : bB ts n k a a q = []:=by
 cases n with
 | zero=>rfl
 | succ n=>rw [bB,if_pos rfl]
theorem gv (a b : V) : (aU a b).Pairwise (· < ·):=by
 unfold aU
 split
 ·exact List.pairwise_map.2 (List.pairwise_lt_range.imp fun h=>by omega)
 ·exact (List.pairwise_map.2 (List.pairwise_lt_range.imp fun h=>by omega)).filter _
theorem nE : ∀ {n : Nat} {k : ael} {a b : V} {q : List Int},∀ c ∈ bB ts n k a b q,∃ r,c.1 = q ++ r
 | 0,_,_,_,_,c,h=>by cases h
 | n + 1,k,a,b,q,c,h=>by
  rw [bB] at h
  split at h
  ·cases h
  ·split at h
   ·obtain ⟨i,_,hc⟩:=List.mem_flatMap.1 h
    split at hc
    ·obtain ⟨r,hr⟩:=nE c hc
     exact ⟨i :: r,by rw [hr,List.append_assoc];rfl⟩
    ·cases hc
   ·rw [List.mem_singleton.1 h];exact ⟨[],(List.append_nil _).symm⟩
theorem sm {p r : List Int} (h : fh p r) : ∀ q : List Int,fh (q ++ p) (q ++ r)
 | []=>h
 | _ :: q=>Or.inr ⟨rfl,sm h q⟩
theorem qj : ∀ {n : Nat} {k : ael} {a b : V} {q : List Int},(bB ts n k a b q).Pairwise fun c d=>fh c.1 d.1
 | 0,_,_,_,_=>List.Pairwise.nil
 | n + 1,k,a,b,q=>by
  rw [bB]
  split
  ·exact List.Pairwise.nil
  ·split
   ·refine List.pairwise_flatMap.2 ⟨fun i _=>?_,(gv a b).imp fun {i j} hij x hx y hy=>?_⟩
    ·split
     ·exact qj
     ·exact List.Pairwise.nil
    ·split at hx
     ·split at hy
      ·obtain ⟨r,hr⟩:=nE x hx
       obtain ⟨s,hs⟩:=nE y hy
       rw [hr,hs,List.append_assoc,List.append_assoc]
       exact sm (show fh (i :: r) (j :: s) from Or.inl oM) q
      ·cases hy
     ·cases hx
   ·exact List.pairwise_singleton _ _
variable {ts : List Ty}
theorem u5 {t : Ty} : ∀ {fs gs : List (Fld × V)},fs.Pairwise (fun a b=>a.1.tag < b.1.tag) → gs.Pairwise (fun a b=>a.1.tag < b.1.tag) → (∀ p,p ∈ fs ↔ p ∈ gs) → fs = gs
 | [],[],_,_,_=>rfl
 | [],q :: gs,_,_,h=>absurd ((h q).2 (by simp)) (by simp)
 | p :: fs,[],_,_,h=>absurd ((h p).1 (by simp)) (by simp)
 | p :: fs,q :: gs,h1,h2,h=>by
  replace h1:=List.pairwise_cons.1 h1
  replace h2:=List.pairwise_cons.1 h2
  have e : p = q:=by
   rcases List.mem_cons.1 ((h p).1 (by simp)) with e | hp
   ·exact e
   ·rcases List.mem_cons.1 ((h q).2 (by simp)) with e | hq
    ·exact e.symm
    ·have:=h1.1 q hq
     have:=h2.1 p hp
     omega
  subst e
  rw [u5 (t:=t) h1.2 h2.2 fun r=>⟨fun hr=>by
   rcases List.mem_cons.1 ((h r).1 (by simp [hr])) with e | h3
   ·subst e;have:=h1.1 r hr;omega
   ·exact h3,fun hr=>by
   rcases List.mem_cons.1 ((h r).2 (by simp [hr])) with e | h3
   ·subst e;have:=h2.1 r hr;omega
   ·exact h3⟩]
theorem u9 (hw : SchW ts) {t : Ty} (ht : t ∈ ts) (h69 : t.sort ≠ 69) {fs gs : List (Fld × V)} (f1 : ∀ p ∈ fs,p.1 ∈ t.fields) (f3 : ∀ p ∈ fs,p.2.out ≠ bT ts p.1) (f4 : fs.Pairwise fun a b=>a.1.tag < b.1.tag)
  (g1 : ∀ p ∈ gs,p.1 ∈ t.fields) (g2 : ∀ p ∈ gs,OfK ts p.1.kind p.2) (h : ∀ f ∈ t.fields,(cF f (fs.map aq)).getD (eh ts f) = (cF f (gs.map aq)).getD (eh ts f)) : ∀ p ∈ fs,p ∈ gs:=by
 intro p hp
 have hpt:=f1 p hp
 have e:=h p.1 hpt
 rw [rm (hw.ty t ht) f1 f4 hp] at e
 cases hg : cF p.1 (gs.map aq) with
 | none =>
  rw [hg] at e
  exact absurd (by rw [show p.2 = eh ts p.1 from e];exact (fB hw ht h69 hpt).2.2) (f3 p hp)
 | some w =>
  rw [hg] at e
  obtain ⟨_,q,hq,q1,q2⟩:=hO (hw.ty t ht) hpt (fun p hp=>⟨g1 p hp,g2 p hp⟩) hg
  obtain rfl : q = p:=Prod.ext q1 (q2.trans e.symm)
  exact hq
theorem ab1 (hw : SchW ts) {t : Ty} (ht : t ∈ ts) {f : Fld} (hf : f ∈ t.fields) : 0 ≤ f.tag:=by
 have:=((hw.ty t ht).fld f hf).tag
 omega
theorem ym (hw : SchW ts) {k : ael} {u v : V} (hu : OfK ts k u) (hv : OfK ts k v) (hk : ax ts k = true) (hd : u.what = 91 ∨ u.what = 63 ∨ u.what = 82 ∨ u.what = 85)
  (h : ∀ m,0 ≤ m → aB ts k u m = aB ts k v m) : u = v:=by
 obtain ⟨c,r,rfl⟩:=dT hk
 by_cases hc : c.toNat = 91 ∨ c.toNat = 63
 ·have hs : ∀ m : Nat,(if (m : Int) < (u.kids.length : Nat) then some (r,ab u.kids m) else none) = (if (m : Int) < (v.kids.length : Nat) then some (r,ab v.kids m) else none):=fun m=>by
   have:=h m oM
   unfold aB at this
   dsimp only at this
   rw [if_pos hc,if_pos hc] at this
   exact this
  have hl : u.kids.length = v.kids.length:=by
   have h1:=hs u.kids.length
   have h2:=hs v.kids.length
   rw [if_neg oM] at h1
   rw [if_neg (by omega : ¬ ((v.kids.length : Nat) : Int) < (v.kids.length : Nat))] at h2
   by_cases h3 : u.kids.length < v.kids.length
   ·rw [if_pos oM] at h1;cases h1
   ·by_cases h4 : v.kids.length < u.kids.length
    ·rw [if_pos oM] at h2;cases h2
    ·omega
  have hks : u.kids = v.kids:=by
   refine List.ext_getElem hl fun i hi hj=>?_
   have:=hs i
   rw [if_pos oM,if_pos oM,aI hi,aI hj] at this
   exact (Prod.mk.inj (Option.some.inj this)).2
  rcases dg hu oM with ⟨g1,_⟩ | ⟨g1,_⟩ | ⟨g1,_⟩ | ⟨g1,ks,g2,g3,rfl⟩ | ⟨g1,hu2⟩
  ·omega
  ·omega
  ·omega
  ·rcases dg hv oM with ⟨g4,_⟩ | ⟨g4,_⟩ | ⟨g4,_⟩ | ⟨g4,ks2,g5,g6,rfl⟩ | ⟨g4,_⟩
   ·omega
   ·omega
   ·omega
   ·rw [V.kids,V.kids] at hks;rw [hks]
   ·omega
  ·rcases dg hv oM with ⟨g4,_⟩ | ⟨g4,_⟩ | ⟨g4,_⟩ | ⟨g4,_⟩ | ⟨g4,hv2⟩
   ·omega
   ·omega
   ·omega
   ·omega
   ·rcases hu2 with rfl | ⟨w,_,rfl⟩ <;> rcases hv2 with rfl | ⟨z,_,rfl⟩
    ·rfl
    ·exact absurd (show ([] : List V) = [z] from hks) (by simp)
    ·exact absurd (show [w] = ([] : List V) from hks) (by simp)
    ·rw [show [w] = [z] from hks]
 ·cases hr : aZ ts (c :: r) with
  | none =>
   exfalso
   generalize hkk : c :: r = k' at hu hr
   cases hu with
   | num=>rw [V.what] at hd;omega
   | txt=>rw [V.what] at hd;omega
   | flg=>rw [V.what] at hd;omega
   | lst=>injection hkk with e1 e2;subst e1;exact hc dC
   | non=>injection hkk with e1 e2;subst e1;exact hc dC
   | opt=>injection hkk with e1 e2;subst e1;exact hc dC
   | recd _ t' fs g1=>rw [hr] at g1;cases g1
   | enm _ t' d g1=>rw [hr] at g1;cases g1
   | uni _ t' d v g1=>rw [hr] at g1;cases g1
  | some t =>
   have ht:=bj hr
   have hs : ∀ f ∈ t.fields,t.sort ≠ 69 → (if t.sort = 82 then some (f.kind,cZ ts u f) else if u.tag = f.tag then some (f.kind,ab u.kids 0) else none) = (if t.sort = 82 then some (f.kind,cZ ts v f) else if v.tag = f.tag then some (f.kind,ab v.kids 0) else none):=fun f hf h69=>by
    have:=h f.tag (ab1 hw ht hf)
    unfold aB at this
    dsimp only at this
    rw [if_neg hc,if_neg hc,hr] at this
    dsimp only at this
    rw [i8 (hw.ty t ht) hf] at this
    dsimp only at this
    rw [if_neg h69,if_neg h69] at this
    exact this
   rcases bE hu hr with ⟨a1,fs,rfl,a3,a4,a5,a6⟩ | ⟨a1,d,rfl,_⟩ | ⟨a1,a2,d,w,rfl,a4,a5⟩
   ·rcases bE hv hr with ⟨b1,gs,rfl,b3,b4,b5,b6⟩ | ⟨b1,_⟩ | ⟨b1,_⟩
    ·have e : ∀ f ∈ t.fields,(cF f (fs.map aq)).getD (eh ts f) = (cF f (gs.map aq)).getD (eh ts f):=fun f hf=>by
      have:=hs f hf oM
      rw [if_pos a1,if_pos a1] at this
      exact (Prod.mk.inj (Option.some.inj this)).2
     rw [u5 (t:=t) a6 b6 fun p=>⟨u9 hw ht oM a3 a5 a6 b3 b4 e p,u9 hw ht oM b3 b5 b6 a3 a4 (fun f hf=>(e f hf).symm) p⟩]
    ·omega
    ·omega
   ·rw [V.what] at hd;omega
   ·rcases bE hv hr with ⟨b1,_⟩ | ⟨b1,_⟩ | ⟨b1,b2,d2,w2,rfl,b4,b5⟩
    ·omega
    ·omega
    ·have:=hs d a4 a2
     rw [if_neg a1,if_neg a1,V.tag,V.tag,if_pos rfl] at this
     split at this
     ·rename_i e
      have:=(Prod.mk.inj (Option.some.inj this)).2
      rw [V.kids,V.kids] at this
      rw [show w = w2 from this,e]
     ·cases this
variable {ts : List Ty}
def dF (ts : List Ty) (k : ael) : V → List (List Int × V) → V
 | v,[]=>v
 | v,d :: r=>dF ts k (bD ts k v d.1 d.2) r
def iZ (ts : List Ty) (k : ael) : V → List (List Int × V) → Prop
 | _,[]=>True
 | v,d :: r=>((∃ k' v',bP ts k v d.1 = some (k',v') ∧ OfK ts k' d.2) ∧ ∀ n ∈ d.1,0 ≤ n) ∧ iZ ts k (bD ts k v d.1 d.2) r
theorem sd {k : ael} : ∀ {a b : List (List Int × V)} {v : V},dF ts k v (a ++ b) = dF ts k (dF ts k v a) b
 | [],_,_=>rfl
 | d :: a,b,v=>by rw [List.cons_append,dF,dF];exact sd
theorem tH {k : ael} : ∀ {a b : List (List Int × V)} {v : V},iZ ts k v a → iZ ts k (dF ts k v a) b → iZ ts k v (a ++ b)
 | [],_,_,_,h=>h
 | d :: a,b,v,h1,h2=>⟨h1.1,tH h1.2 h2⟩
theorem mB (hw : SchW ts) {k : ael} (hk : ax ts k = true) : ∀ {ds : List (List Int × V)} {v : V},OfK ts k v → iZ ts k v ds → OfK ts k (dF ts k v ds)
 | [],v,h,_=>h
 | d :: r,v,h,hd=>by
  obtain ⟨⟨⟨k',v',h1,h2⟩,h3⟩,h4⟩:=hd
  rw [dF]
  exact mB hw hk (dL hw h hk h3 h1 h2) h4
theorem rQ (hw : SchW ts) {k k1 : ael} (hk : ax ts k = true) {i : Int} (hi : 0 ≤ i) : ∀ {ds : List (List Int × V)} {v y : V},OfK ts k v → aB ts k v i = some (k1,y) → iZ ts k1 y ds →
  iZ ts k v (ds.map fun c=>(i :: c.1,c.2)) ∧ dF ts k v (ds.map fun c=>(i :: c.1,c.2)) = cC ts k v i (dF ts k1 y ds)
 | [],v,y,h,hs,_=>by
  obtain ⟨y1,y2⟩:=cJ hw h hk hi hs
  exact ⟨trivial,((iV hw h hk hi hs y1).1.2).symm⟩
 | d :: r,v,y,h,hs,hd=>by
  obtain ⟨y1,y2⟩:=cJ hw h hk hi hs
  obtain ⟨⟨⟨k',v',h1,h2⟩,h3⟩,h4⟩:=hd
  have hc:=dL hw y1 y2 h3 h1 h2
  obtain ⟨⟨s1,_⟩,s3,_⟩:=iV hw h hk hi hs hc
  have hq : ∀ n ∈ i :: d.1,0 ≤ n:=fun n hn=>by
   rcases List.mem_cons.1 hn with rfl | hn
   ·exact hi
   ·exact h3 n hn
  have hf : bP ts k v (i :: d.1) = some (k',v'):=by rw [kD hs];exact h1
  have hv2 : OfK ts k (cC ts k v i (bD ts k1 y d.1 d.2)):=by rw [← c5 hs];exact dL hw h hk hq hf h2
  obtain ⟨e1,e2⟩:=rQ hw hk hi hv2 s1 h4
  rw [List.map_cons]
  refine ⟨⟨⟨⟨k',v',hf,h2⟩,hq⟩,?_⟩,?_⟩
  ·dsimp only;rw [c5 hs];exact e1
  ·rw [dF,dF];dsimp only;rw [c5 hs,e2,s3]
theorem o9 : ∀ {n : Nat} {k : ael} {a b : V} {q : List Int},bB ts n k a b q = (bB ts n k a b []).map fun c=>(q ++ c.1,c.2)
 | 0,_,_,_,_=>rfl
 | n + 1,k,a,b,q=>by
  rw [bB,bB]
  split
  ·rfl
  ·split
   ·rw [List.map_flatMap]
    congr 1
    funext i
    split
    ·rw [o9 (q:=q ++ [i]),o9 (q:=[] ++ [i]),List.map_map]
     congr 1
     funext c
     simp
    ·rfl
   ·simp
theorem pF (hw : SchW ts) {k : ael} (hk : ax ts k = true) (S : Int → Option (ael × V)) (D : Int → List (List Int × V)) : ∀ {L : List Int} {v : V},OfK ts k v → (∀ i ∈ L,0 ≤ i) → L.Pairwise (· < ·) →
  (∀ i ∈ L,∃ k1 y z,aB ts k v i = some (k1,y) ∧ S i = some (k1,z) ∧ iZ ts k1 y (D i) ∧ dF ts k1 y (D i) = z) →
  iZ ts k v (L.flatMap fun i=>(D i).map fun c=>(i :: c.1,c.2)) ∧ ∀ m,0 ≤ m → aB ts k (dF ts k v (L.flatMap fun i=>(D i).map fun c=>(i :: c.1,c.2))) m = if m ∈ L then S m else aB ts k v m
 | [],v,_,_,_,_=>⟨trivial,fun m _=>by rw [if_neg (by simp)];rfl⟩
 | i :: L,v,h,h0,hp,hs=>by
  replace hp:=List.pairwise_cons.1 hp
  obtain ⟨k1,y,z,s1,s2,s3,s4⟩:=hs i (by simp)
  have hi:=h0 i (by simp)
  obtain ⟨y1,y2⟩:=cJ hw h hk hi s1
  obtain ⟨e1,e2⟩:=rQ hw hk hi h s1 s3
  rw [s4] at e2
  have hz : OfK ts k1 z:=by rw [← s4];exact mB hw y2 y1 s3
  obtain ⟨⟨t1,_⟩,_,t4⟩:=iV hw h hk hi s1 hz
  have hv2 : OfK ts k (cC ts k v i z):=by rw [← e2];exact mB hw hk h e1
  obtain ⟨f1,f2⟩:=pF hw hk S D hv2 (fun j hj=>h0 j (by simp [hj])) hp.2 fun j hj=>by
   have hne : j ≠ i:=by have:=hp.1 j hj;omega
   rw [t4 j (h0 j (by simp [hj])) hne]
   exact hs j (by simp [hj])
  rw [List.flatMap_cons]
  refine ⟨tH e1 (by rw [e2];exact f1),fun m hm=>?_⟩
  rw [sd,e2,f2 m hm]
  by_cases hmi : m = i
  ·subst hmi
   rw [if_neg (fun hin=>by have:=hp.1 m hin;omega),if_pos (by simp),t1,s2]
  ·by_cases hml : m ∈ L
   ·rw [if_pos hml,if_pos (by simp [hml])]
   ·rw [if_neg hml,if_neg (by simp [hmi,hml]),t4 m hm hmi]
variable {ts : List Ty}
theorem im {a b : V} (h : ¬ (a.what = 91 ∨ a.what = 63)) {n : Int} (h1 : 1 ≤ n ∧ n ≤ 200) (h2 : n ∈ cM a ∨ n ∈ cM b) : n ∈ aU a b:=by
 unfold aU
 rw [if_neg h]
 refine List.mem_filter.2 ⟨List.mem_map.2 ⟨(n - 1).toNat,List.mem_range.2 oM,oM⟩,?_⟩
 rw [List.contains_iff_mem]
 exact List.mem_append.2 h2
theorem ia {a b : V} (h : ¬ (a.what = 91 ∨ a.what = 63)) {n : Int} (h1 : n ∈ aU a b) : n ∈ cM a ∨ n ∈ cM b:=by
 unfold aU at h1
 rw [if_neg h] at h1
 have:=(List.mem_filter.1 h1).2
 rw [List.contains_iff_mem] at this
 exact List.mem_append.1 this
theorem hY {fs : List (Fld × V)} {n : Int} : n ∈ cM (.nd 82 [] 0 (fs.map aq)) ↔ ∃ p ∈ fs,p.1.tag = n:=by
 unfold cM
 rw [V.what,if_pos rfl,V.kids,List.map_map]
 constructor
 ·intro h
  obtain ⟨p,hp,e⟩:=List.mem_map.1 h
  exact ⟨p,hp,e⟩
 ·rintro ⟨p,hp,e⟩
  exact List.mem_map.2 ⟨p,hp,e⟩
theorem iU {c : UInt8} {r : ael} {t : Ty} {f : Fld} {n : Int} (hc : ¬ (c.toNat = 91 ∨ c.toNat = 63)) (hr : aZ ts (c :: r) = some t) (hf : cm t.fields n = some f) (h82 : t.sort = 82) (v : V) : aB ts (c :: r) v n = some (f.kind,cZ ts v f):=by
 unfold aB
 dsimp only
 rw [if_neg hc,hr]
 dsimp only
 rw [hf]
 dsimp only
 rw [if_neg oM,if_pos h82]
theorem gw {c : UInt8} {r : ael} {t : Ty} {n : Int} (hc : ¬ (c.toNat = 91 ∨ c.toNat = 63)) (hr : aZ ts (c :: r) = some t) (hf : cm t.fields n = none) (v : V) : aB ts (c :: r) v n = none:=by
 unfold aB
 dsimp only
 rw [if_neg hc,hr]
 dsimp only
 rw [hf]
theorem uX {t : Ty} (hw : TyW t) {f : Fld} (hf : f ∈ t.fields) {fs : List (Fld × V)} (h : ∀ p ∈ fs,p.1 ∈ t.fields ∧ OfK ts p.1.kind p.2) (hn : f.tag ∉ cM (.nd 82 [] 0 (fs.map aq))) : cF f (fs.map aq) = none:=by
 cases e : cF f (fs.map aq) with
 | none=>rfl
 | some u =>
  obtain ⟨_,p,hp,e1,_⟩:=hO hw hf h e
  exact absurd (hY.2 ⟨p,hp,by rw [e1]⟩) hn
theorem iI (hw : SchW ts) {k : ael} {a b : V} (ha : OfK ts k a) (hb : OfK ts k b) (hk : ax ts k = true) (hd : bZ a b = true) :
  (∀ i ∈ aU a b,∃ k1 y z,aB ts k a i = some (k1,y) ∧ aB ts k b i = some (k1,z)) ∧ (∀ m,0 ≤ m → m ∉ aU a b → aB ts k a m = aB ts k b m) ∧ (b.what = 91 ∨ b.what = 63 ∨ b.what = 82 ∨ b.what = 85):=by
 obtain ⟨c,r,rfl⟩:=dT hk
 by_cases hc : c.toNat = 91 ∨ c.toNat = 63
 ·have hs : ∀ v m,aB ts (c :: r) v m = if m < (v.kids.length : Nat) then some (r,ab v.kids m.toNat) else none:=fun v m=>by
   unfold aB
   dsimp only
   rw [if_pos hc]
  have hw2 : ∀ v,OfK ts (c :: r) v → v.what = 91 ∨ v.what = 63:=fun v hv=>by
   rcases dg hv oM with ⟨g1,_⟩ | ⟨g1,_⟩ | ⟨g1,_⟩ | ⟨g1,ks,_,_,rfl⟩ | ⟨g1,rfl | ⟨w,_,rfl⟩⟩
   ·omega
   ·omega
   ·omega
   ·exact Or.inl F
   ·exact Or.inr F
   ·exact Or.inr F
  have wa:=hw2 a ha
  have wb:=hw2 b hb
  unfold bZ at hd
  rw [if_neg oM,if_neg oM,if_pos wa] at hd
  have hl:=of_decide_eq_true hd
  have hst : ∀ i,i ∈ aU a b ↔ 0 ≤ i ∧ i < (a.kids.length : Nat):=fun i=>by
   unfold aU
   rw [if_pos wa]
   constructor
   ·intro h
    obtain ⟨j,hj,rfl⟩:=List.mem_map.1 h
    have:=List.mem_range.1 hj
    omega
   ·intro h
    exact List.mem_map.2 ⟨i.toNat,List.mem_range.2 oM,oM⟩
  refine ⟨fun i hi=>?_,fun m hm hn=>?_,oM⟩
  ·have:=(hst i).1 hi
   exact ⟨r,ab a.kids i.toNat,ab b.kids i.toNat,by rw [hs,if_pos this.2],by rw [hs,if_pos oM]⟩
  ·have : ¬ m < (a.kids.length : Nat):=fun h=>hn ((hst m).2 ⟨hm,h⟩)
   rw [hs,hs,if_neg this,if_neg oM]
 ·cases hr : aZ ts (c :: r) with
  | none =>
   exfalso
   have : a.what = 110 ∨ a.what = 116 ∨ a.what = 102:=by
    generalize hkk : c :: r = k' at ha hr
    cases ha with
    | num=>exact Or.inl F
    | txt=>exact Or.inr (Or.inl F)
    | flg=>exact Or.inr (Or.inr F)
    | lst=>injection hkk with e1 e2;subst e1;exact absurd dC hc
    | non=>injection hkk with e1 e2;subst e1;exact absurd dC hc
    | opt=>injection hkk with e1 e2;subst e1;exact absurd dC hc
    | recd _ t' fs g1=>rw [hr] at g1;cases g1
    | enm _ t' d g1=>rw [hr] at g1;cases g1
    | uni _ t' d v g1=>rw [hr] at g1;cases g1
   unfold bZ at hd
   rw [if_neg oM,if_neg oM,if_neg oM] at hd
   cases hd
  | some t =>
   have ht:=bj hr
   have htw:=hw.ty t ht
   rcases bE ha hr with ⟨a1,fs,rfl,a3,a4,a5,a6⟩ | ⟨a1,d,rfl,_⟩ | ⟨a1,a2,d,w,rfl,a4,a5⟩
   ·rcases bE hb hr with ⟨b1,gs,rfl,b3,b4,b5,b6⟩ | ⟨b1,_⟩ | ⟨b1,_⟩
    ·have hna : ¬ ((V.nd 82 [] 0 (fs.map aq)).what = 91 ∨ (V.nd 82 [] 0 (fs.map aq)).what = 63):=by rw [V.what];omega
     refine ⟨fun i hi=>?_,fun m hm hn=>?_,Or.inr (Or.inr (Or.inl F))⟩
     ·have hfi : ∃ f ∈ t.fields,f.tag = i:=by
       rcases ia hna hi with h | h
       ·obtain ⟨p,hp,e⟩:=hY.1 h;exact ⟨p.1,a3 p hp,e⟩
       ·obtain ⟨p,hp,e⟩:=hY.1 h;exact ⟨p.1,b3 p hp,e⟩
      obtain ⟨f,hf,rfl⟩:=hfi
      have hff:=i8 htw hf
      exact ⟨f.kind,_,_,iU hc hr hff a1 _,iU hc hr hff a1 _⟩
     ·cases hf : cm t.fields m with
      | none=>rw [gw hc hr hf,gw hc hr hf]
      | some f =>
       have hfm:=List.mem_of_find?_eq_some hf
       have hft : f.tag = m:=by have:=List.find?_some hf;simpa using this
       have hfr:=(htw.fld f hfm).tag
       rw [iU hc hr hf a1,iU hc hr hf a1]
       unfold cZ
       rw [V.kids,V.kids,uX htw hfm (fun p hp=>⟨a3 p hp,a4 p hp⟩) (fun h=>hn (im hna oM (Or.inl (hft ▸ h)))),
        uX htw hfm (fun p hp=>⟨b3 p hp,b4 p hp⟩) (fun h=>hn (im hna oM (Or.inr (hft ▸ h))))]
    ·omega
    ·omega
   ·unfold bZ at hd
    rw [V.what,if_neg dC,if_neg dC,if_neg dC] at hd
    cases hd
   ·rcases bE hb hr with ⟨b1,_⟩ | ⟨b1,_⟩ | ⟨b1,b2,d2,w2,rfl,b4,b5⟩
    ·omega
    ·omega
    ·have hna : ¬ ((V.nd 85 [] d.tag [w]).what = 91 ∨ (V.nd 85 [] d.tag [w]).what = 63):=by rw [V.what];omega
     unfold bZ at hd
     rw [V.what,if_neg dC,if_pos rfl] at hd
     have htg : d.tag = d2.tag:=of_decide_eq_true hd
     have hst : ∀ (x : V) (m : Int) (f : Fld),cm t.fields m = some f → aB ts (c :: r) x m = if x.tag = m then some (f.kind,ab x.kids 0) else none:=fun x m f hf=>by
      unfold aB
      dsimp only
      rw [if_neg hc,hr]
      dsimp only
      rw [hf]
      dsimp only
      rw [if_neg a2,if_neg a1]
     have htag : ∀ (e : Int) (x : V),cM (.nd 85 [] e [x]) = [e]:=fun e x=>by
      unfold cM;rw [V.what,if_neg dC];rfl
     refine ⟨fun i hi=>?_,fun m hm hn=>?_,Or.inr (Or.inr (Or.inr F))⟩
     ·have hi2 : i = d.tag:=by
       rcases ia hna hi with h | h
       ·rw [htag] at h;exact List.mem_singleton.1 h
       ·rw [htag] at h;rw [htg];exact List.mem_singleton.1 h
      subst hi2
      have hff:=i8 htw a4
      exact ⟨d.kind,w,w2,by rw [hst _ _ _ hff,V.tag,if_pos F];rfl,by rw [hst _ _ _ hff,V.tag,if_pos htg.symm];rfl⟩
     ·cases hf : cm t.fields m with
      | none=>rw [gw hc hr hf,gw hc hr hf]
      | some f =>
       have hfr:=(htw.fld d a4).tag
       have hmd : d.tag ≠ m:=fun e=>hn (e ▸ im hna oM (Or.inl (by rw [htag];simp)))
       rw [hst _ _ _ hf,hst _ _ _ hf,V.tag,V.tag,if_neg hmd,if_neg oM]
variable {ts : List Ty}
def jr (ts : List Ty) : Nat → ael → V → V → Prop
 | 0,_,_,_=>False
 | n + 1,k,a,b=>a.out = b.out ∨ bZ a b = false ∨ ∀ i ∈ aU a b,∀ y z,aB ts k a i = some y → aB ts k b i = some z → jr ts n y.1 y.2 z.2
def wd (ts : List Ty) (n : Nat) (k : ael) (a b : V) (i : Int) : List (List Int × V):=match aB ts k a i,aB ts k b i with
 | some y,some z=>bB ts n y.1 y.2 z.2 []
 | _,_=>[]
theorem xx {n : Nat} {k : ael} {a b : V} (h1 : a.out ≠ b.out) (h2 : bZ a b = true) : bB ts (n + 1) k a b [] = (aU a b).flatMap fun i=>(wd ts n k a b i).map fun c=>(i :: c.1,c.2):=by
 rw [bB,if_neg h1,if_pos h2]
 congr 1
 funext i
 unfold wd
 cases aB ts k a i with
 | none=>rfl
 | some y=>cases aB ts k b i with
  | none=>rfl
  | some z =>
   dsimp only
   rw [o9]
   rfl
theorem pe (hw : SchW ts) : ∀ {n : Nat} {k : ael} {a b : V},OfK ts k a → OfK ts k b → ax ts k = true → jr ts n k a b → iZ ts k a (bB ts n k a b []) ∧ dF ts k a (bB ts n k a b []) = b
 | 0,_,_,_,_,_,_,h=>h.elim
 | n + 1,k,a,b,ha,hb,hk,h=>by
  by_cases ho : a.out = b.out
  ·rw [bB,if_pos ho]
   exact ⟨trivial,iY hw ha hb ho⟩
  ·by_cases hd : bZ a b = true
   ·obtain ⟨d1,d2,d3⟩:=iI hw ha hb hk hd
    have hl : ∀ i ∈ aU a b,∀ y z,aB ts k a i = some y → aB ts k b i = some z → jr ts n y.1 y.2 z.2:=by
     rcases h with h | h | h
     ·exact absurd h ho
     ·rw [hd] at h;cases h
     ·exact h
    have h0 : ∀ i ∈ aU a b,0 ≤ i:=fun i hi=>by
     unfold aU at hi
     split at hi
     ·obtain ⟨j,_,rfl⟩:=List.mem_map.1 hi;omega
     ·obtain ⟨j,_,rfl⟩:=List.mem_map.1 (List.mem_filter.1 hi).1;omega
    obtain ⟨f1,f2⟩:=pF hw hk (aB ts k b) (wd ts n k a b) ha h0 (gv a b) fun i hi=>by
     obtain ⟨k1,y,z,s1,s2⟩:=d1 i hi
     obtain ⟨y1,y2⟩:=cJ hw ha hk (h0 i hi) s1
     obtain ⟨z1,_⟩:=cJ hw hb hk (h0 i hi) s2
     have hrec:=pe hw y1 z1 y2 (hl i hi _ _ s1 s2)
     refine ⟨k1,y,z,s1,s2,?_⟩
     unfold wd
     rw [s1,s2]
     exact hrec
    rw [xx ho hd]
    refine ⟨f1,(ym hw hb (mB hw hk ha f1) hk d3 fun m hm=>?_).symm⟩
    rw [f2 m hm]
    by_cases hin : m ∈ aU a b
    ·rw [if_pos hin]
    ·rw [if_neg hin,d2 m hm hin]
   ·rw [bB,if_neg ho,if_neg hd]
    exact ⟨⟨⟨⟨k,a,F,hb⟩,fun n hn=>by cases hn⟩,trivial⟩,F⟩
variable {ts : List Ty}
theorem zx : ∀ {a b r s : ael},fk 61 a → fk 61 b → a ++ 61 :: r = b ++ 61 :: s → a = b ∧ r = s
 | [],[],_,_,_,_,h=>⟨rfl,(List.cons.inj h).2⟩
 | [],y :: b,_,_,_,hb,h=>absurd (by rw [← (List.cons.inj h).1];rfl) (hb y (by simp))
 | x :: a,[],_,_,ha,_,h=>absurd (by rw [(List.cons.inj h).1];rfl) (ha x (by simp))
 | x :: a,y :: b,_,_,ha,hb,h=>by
  obtain ⟨h1,h2⟩:=List.cons.inj h
  obtain ⟨h3,h4⟩:=zx (fun c hc=>ha c (by simp [hc])) (fun c hc=>hb c (by simp [hc])) h2
  exact ⟨by rw [h1,h3],h4⟩
theorem rZ {n : Int} (h : 0 ≤ n) : fk 61 (bi n):=fun c hc=>by
 have h1:=(iq _ (Nat.le_refl _) h).2 c hc
 unfold bn at h1
 have h2:=of_decide_eq_true h1
 omega
def gk (ts : List Ty) (k : ael) (v : V) : Prop:=v.kids = [] ∨ ∃ n,v.out = bW ts n k
theorem nS (hw : SchW ts) {k : ael} {t : Ty} (hr : aZ ts k = some t) (h82 : t.sort ≠ 82) (h69 : t.sort ≠ 69) {d : Fld} (hd : d ∈ t.fields) {w : V} {n : Nat} (h : V.out (.nd 85 [] d.tag [w]) = bW ts n k) :
  ∃ m,n = m + 1 ∧ d = t.fields.headD default ∧ w.out = bW ts m (e7 t) ∧ bW ts n k = 60 :: (bi (tag0 t) ++ 61 :: (bW ts m (e7 t) ++ [62])):=by
 have ho:=nX (v:=w) (n:=d.tag) (r:=[])
 rw [List.append_nil] at ho
 rw [ho] at h
 have htw:=hw.ty t (bj hr)
 cases n with
 | zero=>rw [bW] at h;cases h
 | succ n =>
  cases k with
  | nil=>rw [bW] at h;cases h
  | cons c r =>
   rw [bW] at h ⊢
   split at h
   ·exact absurd (List.cons.inj h).1 dC
   ·split at h
    ·exact absurd (List.cons.inj h).1 dC
    ·rename_i h91 h63
     rw [if_neg h91,if_neg h63]
     rw [hr] at h ⊢
     dsimp only at h ⊢
     rw [if_neg h82,if_neg h69] at h ⊢
     have hd0:=zJ htw h82
     have h1:=zx (rZ (by have:=(htw.fld d hd).tag;omega)) (rZ (by have:=(htw.fld _ hd0).tag;unfold tag0;omega)) (List.cons.inj h).2
     have h2 : d.tag = tag0 t:=by
      have a1:=gR (m:=d.tag) (top:=999999) (by have:=(htw.fld d hd).tag;omega) (by have:=(htw.fld d hd).tag;omega) dC
      have a2:=gR (m:=tag0 t) (top:=999999) (by have:=(htw.fld _ hd0).tag;unfold tag0;omega) (by have:=(htw.fld _ hd0).tag;unfold tag0;omega) dC
      rw [h1.1,a2] at a1
      exact (Option.some.inj a1).symm
     refine ⟨n,F,fe htw hd hd0 h2,?_,F⟩
     exact List.append_cancel_right h1.2
theorem nn {k : ael} {v : V} (h : OfK ts k v) : v.out ≠ []:=by
 cases h with
 | num k n=>rw [V.out];intro h;have:=gH n;rw [show c7 110 (bi n) 0 _ _ = bi n from rfl] at h;rw [h] at this;simp at this
 | txt=>rw [V.out];exact fun h=>by cases h
 | flg k x hx=>rw [V.out];rcases hx with rfl | rfl <;> exact fun h=>by cases h
 | lst=>rw [V.out];exact fun h=>by cases h
 | non=>rw [V.out];exact fun h=>by cases h
 | opt=>rw [V.out];exact fun h=>by cases h
 | recd=>rw [V.out];exact fun h=>by cases h
 | enm=>rw [V.out];exact fun h=>by cases h
 | uni=>rw [V.out];exact fun h=>by cases h
theorem uY (hw : SchW ts) : ∀ (n m : Nat) {k : ael} {a b : V},OfK ts k a → OfK ts k b → a.out = bW ts n k → b.out = bW ts m k → a.out = b.out
 | 0,_,_,_,_,ha,_,h,_=>absurd h (nn ha)
 | _ + 1,0,_,_,_,_,hb,_,h=>absurd h (nn hb)
 | n + 1,m + 1,[],a,b,ha,_,h,_=>absurd h (nn ha)
 | n + 1,m + 1,c :: r,a,b,ha,hb,h1,h2=>by
  have hu : ∀ t,aZ ts (c :: r) = some t → t.sort ≠ 82 → t.sort ≠ 69 → a.out = b.out:=fun t hr h82 h69=>by
   rcases bE ha hr with ⟨a1,_⟩ | ⟨a1,_⟩ | ⟨_,_,d,w,rfl,a4,a5⟩
   ·exact absurd a1 h82
   ·exact absurd a1 h69
   ·rcases bE hb hr with ⟨a1,_⟩ | ⟨a1,_⟩ | ⟨_,_,e,x,rfl,b4,b5⟩
    ·exact absurd a1 h82
    ·exact absurd a1 h69
    ·obtain ⟨n1,e1,f1,g1,i1⟩:=nS hw hr h82 h69 a4 h1
     obtain ⟨m1,e2,f2,g2,i2⟩:=nS hw hr h82 h69 b4 h2
     obtain rfl : n = n1:=oM
     obtain rfl : m = m1:=oM
     have hk : e7 t = d.kind:=by rw [f1];rfl
     have hk2 : e7 t = e.kind:=by rw [f2];rfl
     have ih:=uY hw n m (k:=e7 t) (by rw [hk];exact a5) (by rw [hk2];exact b5) g1 g2
     rw [h1,h2,i1,i2,← g1,← g2,ih]
  rw [h1,h2]
  rw [bW,bW]
  by_cases h91 : c.toNat = 91
  ·simp only [if_pos h91]
  by_cases h63 : c.toNat = 63
  ·simp only [if_neg h91,if_pos h63]
  cases hr : aZ ts (c :: r) with
  | none=>simp only [if_neg h91,if_neg h63]
  | some t =>
   by_cases h82 : t.sort = 82
   ·simp only [if_neg h91,if_neg h63,if_pos h82]
   by_cases h69 : t.sort = 69
   ·simp only [if_neg h91,if_neg h63,if_neg h82,if_pos h69]
   have:=hu t hr h82 h69
   rw [h1,h2,bW,bW,hr] at this
   exact this
theorem j4 (hw : SchW ts) {k : ael} {v : V} (h : OfK ts k v) (hs : gk ts k v) (h85 : v.what ≠ 85) : v.kids = []:=by
 rcases hs with hs | ⟨n,hs⟩
 ·exact hs
 cases n with
 | zero=>exact absurd hs (nn h)
 | succ n =>
  cases k with
  | nil=>exact absurd hs (nn h)
  | cons c r =>
   rw [bW] at hs
   cases hr : aZ ts (c :: r) with
   | some t =>
    have hc : c.toNat = 64:=by obtain ⟨r0,e⟩:=d5 hr;injection e with e1 e2;rw [e1];rfl
    rcases bE h hr with ⟨a1,fs,rfl,a3,a4,a5,a6⟩ | ⟨a1,d,rfl,_⟩ | ⟨a1,a2,d,w,rfl,a4,a5⟩
    ·rw [if_neg oM,if_neg oM,hr] at hs
     dsimp only at hs
     rw [if_pos a1] at hs
     have:=iY hw h (.recd _ t [] hr a1 (by simp) (by simp) (by simp) (by simp)) (hs.trans (by rw [V.out];rfl))
     rw [this];rfl
    ·rfl
    ·exact absurd F h85
   | none =>
    generalize hkk : c :: r = k' at h hr
    cases h with
    | num=>rfl
    | txt=>rfl
    | flg=>rfl
    | lst k ks h1 h2 =>
     injection hkk with e1 e2
     subst e1
     rw [if_pos dC] at hs
     have:=iY hw (OfK.lst k ks h1 h2) (.lst k [] (by simp) (by simp)) (hs.trans (by rw [V.out];rfl))
     rw [this];rfl
    | non=>rfl
    | opt k u h1 =>
     injection hkk with e1 e2
     subst e1
     rw [if_neg dC,if_pos dC] at hs
     have:=iY hw (OfK.opt k u h1) (.non k) (hs.trans (by rw [V.out];rfl))
     cases this
    | recd _ t' fs g1=>rw [hr] at g1;cases g1
    | enm _ t' d g1=>rw [hr] at g1;cases g1
    | uni _ t' d v g1=>rw [hr] at g1;cases g1
theorem sS (hw : SchW ts) {t : Ty} (ht : t ∈ ts) (hs : t.sort ≠ 69) {d : Fld} (hd : d ∈ t.fields) : gk ts d.kind (eh ts d):=by
 obtain ⟨h1,_,h3⟩:=fB hw ht hs hd
 unfold bT at h3
 by_cases h0 : d.stand = []
 ·rw [if_pos h0] at h3
  exact Or.inr ⟨_,h3⟩
 ·have h2:=(((hw.ty t ht).fld d hd).stand h0).2
  unfold cd at h2
  have hp : d.kind = [110] ∨ d.kind = [116] ∨ d.kind = [102]:=by
   split at h2
   ·rename_i h;exact Or.inl h
   ·split at h2
    ·rename_i h;exact Or.inr (Or.inl h)
    ·split at h2
     ·rename_i h;exact Or.inr (Or.inr h)
     ·cases h2
  left
  generalize eh ts d = v at h1
  rcases hp with e | e | e <;> rw [e] at h1 <;> rcases dg h1 dC with ⟨g1,_,_,_,rfl⟩ | ⟨g1,_,_,rfl⟩ | ⟨g1,_,_,rfl⟩ | ⟨g1,ks,_,_,rfl⟩ | ⟨g1,rfl | ⟨w,_,rfl⟩⟩ <;> first | rfl | exact absurd g1 dC
theorem rD (hw : SchW ts) {k : ael} {a b : V} (ha : OfK ts k a) (hb : OfK ts k b) (hk : ax ts k = true) (hne : a.out ≠ b.out) (hd : bZ a b = true) {n : Nat} (h1 : a.deep ≤ n ∨ gk ts k a) (h2 : b.deep ≤ n ∨ gk ts k b)
  {i : Int} (hi : i ∈ aU a b) {y z : ael × V} (hy : aB ts k a i = some y) (hz : aB ts k b i = some z) : ∃ m,n = m + 1 ∧ (y.2.deep ≤ m ∨ gk ts y.1 y.2) ∧ (z.2.deep ≤ m ∨ gk ts z.1 z.2):=by
 obtain ⟨c,r,rfl⟩:=dT hk
 by_cases hc : c.toNat = 91 ∨ c.toNat = 63
 ·have hs : ∀ v m,aB ts (c :: r) v m = if m < (v.kids.length : Nat) then some (r,ab v.kids m.toNat) else none:=fun v m=>by
   unfold aB
   dsimp only
   rw [if_pos hc]
  have hw2 : ∀ v,OfK ts (c :: r) v → v.what = 91 ∨ v.what = 63:=fun v hv=>by
   rcases dg hv oM with ⟨g1,_⟩ | ⟨g1,_⟩ | ⟨g1,_⟩ | ⟨g1,ks,_,_,rfl⟩ | ⟨g1,rfl | ⟨w,_,rfl⟩⟩
   ·omega
   ·omega
   ·omega
   ·exact Or.inl F
   ·exact Or.inr F
   ·exact Or.inr F
  have wa:=hw2 a ha
  have wb:=hw2 b hb
  have hst:=hi
  unfold aU at hst
  rw [if_pos wa] at hst
  obtain ⟨j,hj,rfl⟩:=List.mem_map.1 hst
  have hj:=List.mem_range.1 hj
  unfold bZ at hd
  rw [if_neg oM,if_neg oM,if_pos wa] at hd
  have hl:=of_decide_eq_true hd
  have key : ∀ v,OfK ts (c :: r) v → (v.what = 91 ∨ v.what = 63) → (v.deep ≤ n ∨ gk ts (c :: r) v) → j < v.kids.length → ∃ m,n = m + 1 ∧ (ab v.kids j).deep ≤ m:=fun v hv hwv hfv hjv=>by
   rcases hfv with h | h
   ·obtain ⟨w,x,t,ks⟩:=v
    have hw61 : ¬ w = 61:=by rw [V.what] at hwv;omega
    rw [eo hw61] at h
    rw [V.kids] at hjv ⊢
    have:=V.deep_mem (bC hjv)
    exact ⟨n - 1,oM,oM⟩
   ·have:=j4 hw hv h oM
    rw [this] at hjv
    cases hjv
  rw [hs,if_pos oM] at hy
  rw [hs,if_pos oM] at hz
  cases hy
  cases hz
  obtain ⟨m,e1,e2⟩:=key a ha wa h1 hj
  obtain ⟨m',e3,e4⟩:=key b hb wb h2 oM
  obtain rfl : m = m':=oM
  exact ⟨m,e1,Or.inl (by rw [Int.toNat_natCast];exact e2),Or.inl (by rw [Int.toNat_natCast];exact e4)⟩
 ·cases hr : aZ ts (c :: r) with
  | none =>
   unfold aB at hy
   dsimp only at hy
   rw [if_neg hc,hr] at hy
   cases hy
  | some t =>
   have ht:=bj hr
   have htw:=hw.ty t ht
   cases hf : cm t.fields i with
   | none=>rw [gw hc hr hf] at hy;cases hy
   | some f =>
    have hfm:=List.mem_of_find?_eq_some hf
    have hft : f.tag = i:=by have:=List.find?_some hf;simpa using this
    rcases bE ha hr with ⟨a1,fs,rfl,a3,a4,a5,a6⟩ | ⟨a1,d,rfl,_⟩ | ⟨a1,a2,d,w,rfl,a4,a5⟩
    ·rcases bE hb hr with ⟨b1,gs,rfl,b3,b4,b5,b6⟩ | ⟨b1,_⟩ | ⟨b1,_⟩
     ·have hna : ¬ ((V.nd 82 [] 0 (fs.map aq)).what = 91 ∨ (V.nd 82 [] 0 (fs.map aq)).what = 63):=by rw [V.what];omega
      rw [iU hc hr hf a1] at hy hz
      cases hy
      cases hz
      have pos : ∀ hs : List (Fld × V),OfK ts (c :: r) (.nd 82 [] 0 (hs.map aq)) → ((V.nd 82 [] 0 (hs.map aq)).deep ≤ n ∨ gk ts (c :: r) (.nd 82 [] 0 (hs.map aq))) → hs ≠ [] → 1 ≤ n ∧ V.deeps (hs.map aq) + 1 ≤ n:=fun hs ho hh hne=>by
       rcases hh with h | h
       ·rw [eo dC] at h
        omega
       ·have:=j4 hw ho h (by rw [V.what];decide)
        rw [V.kids] at this
        exact absurd (List.map_eq_nil_iff.1 this) hne
      have hn : 1 ≤ n:=by
       rcases ia hna hi with h | h
       ·obtain ⟨p,hp,_⟩:=hY.1 h
        exact (pos fs ha h1 (by intro e;rw [e] at hp;cases hp)).1
       ·obtain ⟨p,hp,_⟩:=hY.1 h
        exact (pos gs hb h2 (by intro e;rw [e] at hp;cases hp)).1
      have told : ∀ hs : List (Fld × V),OfK ts (c :: r) (.nd 82 [] 0 (hs.map aq)) → ((V.nd 82 [] 0 (hs.map aq)).deep ≤ n ∨ gk ts (c :: r) (.nd 82 [] 0 (hs.map aq))) → (∀ p ∈ hs,p.1 ∈ t.fields ∧ OfK ts p.1.kind p.2) →
        (cZ ts (.nd 82 [] 0 (hs.map aq)) f).deep ≤ n - 1 ∨ gk ts f.kind (cZ ts (.nd 82 [] 0 (hs.map aq)) f):=fun hs ho hh hp=>by
       unfold cZ
       rw [V.kids]
       cases e : cF f (hs.map aq) with
       | none=>exact Or.inr (sS hw ht oM hfm)
       | some u =>
        left
        obtain ⟨_,p,hp1,_,hp3⟩:=hO htw hfm hp e
        have h5:=(pos hs ho hh (by intro e;rw [e] at hp1;cases hp1)).2
        have h6:=V.deep_mem (List.mem_map_of_mem (f:=aq) hp1)
        rw [kE,hp3] at h6
        show u.deep ≤ n - 1
        omega
      exact ⟨n - 1,oM,told fs ha h1 fun p hp=>⟨a3 p hp,a4 p hp⟩,told gs hb h2 fun p hp=>⟨b3 p hp,b4 p hp⟩⟩
     ·omega
     ·omega
    ·unfold bZ at hd
     rw [V.what,if_neg dC,if_neg dC,if_neg dC] at hd
     cases hd
    ·rcases bE hb hr with ⟨b1,_⟩ | ⟨b1,_⟩ | ⟨b1,b2,e,x,rfl,b4,b5⟩
     ·omega
     ·omega
     ·have hn : ∀ (d : Fld) (w : V),((V.nd 85 [] d.tag [w]).deep ≤ n) → ∃ m,n = m + 1 ∧ w.deep ≤ m:=fun d w h=>by
       rw [eo dC,V.deeps,V.deeps] at h
       exact ⟨n - 1,oM,oM⟩
      have hst : ∀ (d : Fld) (w : V),d ∈ t.fields → gk ts (c :: r) (.nd 85 [] d.tag [w]) → gk ts d.kind w ∧ ∃ j,V.out (.nd 85 [] d.tag [w]) = bW ts j (c :: r):=fun d w hd h=>by
       rcases h with h | ⟨j,h⟩
       ·cases h
       ·obtain ⟨m,_,e2,e3,_⟩:=nS hw hr a1 a2 hd h
        exact ⟨Or.inr ⟨m,by rw [e3,e2];rfl⟩,j,h⟩
      have sel : ∀ (d : Fld) (w : V),d ∈ t.fields → ∀ q,aB ts (c :: r) (.nd 85 [] d.tag [w]) i = some q → q = (d.kind,w):=fun d w hd q hq=>by
       unfold aB at hq
       dsimp only at hq
       rw [if_neg hc,hr] at hq
       dsimp only at hq
       rw [hf] at hq
       dsimp only at hq
       rw [if_neg a2,if_neg a1] at hq
       split at hq
       ·rename_i htg
        obtain rfl:=fe htw hfm hd (by rw [hft];exact htg.symm)
        cases hq
        rfl
       ·cases hq
      cases sel d w a4 y hy
      cases sel e x b4 z hz
      have hfit : ∀ (d : Fld) (w : V) (m : Nat),n = m + 1 → d ∈ t.fields → ((V.nd 85 [] d.tag [w]).deep ≤ n ∨ gk ts (c :: r) (.nd 85 [] d.tag [w])) → w.deep ≤ m ∨ gk ts d.kind w:=fun d w m hm hd h=>by
       rcases h with h | h
       ·obtain ⟨m',e1,e2⟩:=hn d w h
        exact Or.inl oM
       ·exact Or.inr (hst d w hd h).1
      have hm : ∃ m,n = m + 1:=by
       rcases h1 with h1 | h1
       ·obtain ⟨m,e1,_⟩:=hn d w h1;exact ⟨m,e1⟩
       ·rcases h2 with h2 | h2
        ·obtain ⟨m,e1,_⟩:=hn e x h2;exact ⟨m,e1⟩
        ·obtain ⟨_,j1,g1⟩:=hst d w a4 h1
         obtain ⟨_,j2,g2⟩:=hst e x b4 h2
         exact absurd (uY hw _ _ ha hb g1 g2) hne
      obtain ⟨m,hm⟩:=hm
      exact ⟨m,hm,hfit d w m hm a4 h1,hfit e x m hm b4 h2⟩
theorem sC (hw : SchW ts) : ∀ (n : Nat) {k : ael} {a b : V},OfK ts k a → OfK ts k b → ax ts k = true → (a.deep ≤ n ∨ gk ts k a) → (b.deep ≤ n ∨ gk ts k b) → jr ts (n + 1) k a b:=by
 intro n
 induction n with
 | zero =>
  intro k a b ha hb hk h1 h2
  by_cases hne : a.out = b.out
  ·exact Or.inl hne
  cases hd : bZ a b with
  | false=>exact Or.inr (Or.inl hd)
  | true =>
   refine Or.inr (Or.inr fun i hi y z hy hz=>?_)
   obtain ⟨m,e,_⟩:=rD hw ha hb hk hne hd h1 h2 hi hy hz
   cases e
 | succ n ih =>
  intro k a b ha hb hk h1 h2
  by_cases hne : a.out = b.out
  ·exact Or.inl hne
  cases hd : bZ a b with
  | false=>exact Or.inr (Or.inl hd)
  | true =>
   refine Or.inr (Or.inr fun i hi y z hy hz=>?_)
   obtain ⟨m,e,f1,f2⟩:=rD hw ha hb hk hne hd h1 h2 hi hy hz
   obtain rfl : n = m:=oM
   have hi0 : 0 ≤ i:=by
    unfold aU at hi
    split at hi
    ·obtain ⟨j,_,rfl⟩:=List.mem_map.1 hi;omega
    ·obtain ⟨j,_,rfl⟩:=List.mem_map.1 (List.mem_filter.1 hi).1;omega
   obtain ⟨y1,y2⟩:=cJ hw ha hk hi0 (k':=y.1) (v':=y.2) hy
   obtain ⟨z1,z2⟩:=cJ hw hb hk hi0 (k':=z.1) (v':=z.2) hz
   obtain ⟨k1,y',z',e1,e2⟩:=(iI hw ha hb hk hd).1 i hi
   rw [e1] at hy
   rw [e2] at hz
   cases hy
   cases hz
   exact ih y1 z1 y2 f1 f2
abbrev Mt:=ael × ael × ael
def mtF (m : Mt) : List Value:=[S m.1,S m.2.1,S m.2.2]
instance : RowF mtF 3:=⟨fun _=>rfl⟩
abbrev Ch:=ael × ael
def dk (c : Ch) : List Value:=[S c.1,S c.2]
instance : RowF dk 2:=⟨fun _=>rfl⟩
abbrev mR (c : Ch) : Prop:=c.1.length ≤ 1048576 ∧ c.2.length ≤ 1048576
open Go.ChangeShapes Go.WideShapes Go.ChangeAt Go.RowKit
theorem qx {s k w : ael} (h : s.length ≤ 1048576 ∧ k.length ≤ 1048576 ∧ w.length ≤ 1048576) : a7 aek 33 [S s,S k,S w] G (· = Bo (lx s k w)):=by
 unfold lx
 cases hg : cY s k w with
 | none =>
  have cx_gi0:=kL (G:=G) h hg
  refine jB (Post:=fun v G' L'=>G' = G ∧ L' = [] ∧ _) [(0,_),(1,_),(2,_)] Tryz.func33 Tryz.ntmps33 fun B hok hB hW=>?_
  repeat' (first | refine jR ?_ | (refine jo ?_;first | refine jL fun _=>?_ | refine jC F F F ?_ | (refine ar F F F cx_gi0 F ?_;rintro _ G hle ⟨p1,a1,b1,c1,rfl⟩;skip)))
  all_goals refine Nx.base hok hB ?_
  all_goals refine jY (vs:=[_]) ?_
  all_goals rfl
 | some u =>
  obtain ⟨ts,hs,hki,hvo,hto,hwf⟩:=cQ hg
  have cx_gi1:=kK (G:=G) h hs hki hvo
  refine jB (Post:=fun v G' L'=>G' = G ∧ L' = [] ∧ _) [(0,_),(1,_),(2,_)] Tryz.func33 Tryz.ntmps33 fun B hok hB hW=>?_
  repeat' (first | refine jR ?_ | (refine jo ?_;first | refine jL fun _=>?_ | refine jC F F F ?_ | (refine ar F F F cx_gi1 F ?_;rintro _ G hle ⟨bg,qg,cv,rfl,hTg,hRg,hrv⟩;skip)))
  all_goals refine Nx.base hok hB ?_
  all_goals refine jY (vs:=[_]) ?_
  all_goals rfl
theorem wN {s k w : ael} (h : s.length ≤ 1048576 ∧ k.length ≤ 1048576 ∧ w.length ≤ 1048576) : a7 aek 58 [S s,S k,S w] G (· = Bo (lx s k w)):=by
 unfold lx
 cases hg : cY s k w with
 | none =>
  have cx_l40:=lJ (G:=G) h hg
  refine jB (Post:=fun v G' L'=>G' = G ∧ L' = [] ∧ _) [(0,_),(1,_),(2,_)] Tryz.func58 Tryz.ntmps58 fun B hok hB hW=>?_
  repeat' (first | refine jR ?_ | (refine jo ?_;(refine ar F F F cx_l40 F ?_;rintro _ G hle ⟨uu,q1,rfl⟩;skip)))
  all_goals refine Nx.base hok hB ?_
  all_goals refine jY (vs:=[_]) ?_
  all_goals rfl
 | some u =>
  obtain ⟨ts,hs,hki,hvo,hto,hwf⟩:=cQ hg
  have cx_l4:=aaY (G:=G) h hs hki hvo
  refine jB (Post:=fun v G' L'=>G' = G ∧ L' = [] ∧ _) [(0,_),(1,_),(2,_)] Tryz.func58 Tryz.ntmps58 fun B hok hB hW=>?_
  repeat' (first | refine jR ?_ | (refine jo ?_;(refine ar F F F cx_l4 F ?_;rintro _ G hle ⟨uu,q1,rfl,hyes⟩;skip)))
  all_goals refine Nx.base hok hB ?_
  all_goals refine jY (vs:=[_]) ?_
  all_goals rfl
abbrev zu : TypeId:=3
theorem qq {s : ael} (h : s.length ≤ 1048576) : bJ aek 73 [S s] G (yf s):=by
 by_cases h0 : s = []
 ·subst h0
  refine jB [(0,_)] Tryz.func73 Tryz.ntmps73 fun B hok hB hW=>?_
  repeat' (first | refine jR ?_ | refine ac F F ?_)
  refine jZ (vs:=[_,_]) F ⟨F,F,trivial⟩ F ⟨Gh.le.refl _,F,?_⟩
  exact ⟨_,_,_,F,fun p hp=>by
   obtain rfl : p = []:=by unfold df at hp;simpa using hp.symm
   exact ⟨F,aN.nil0⟩⟩
 have cx_split : bJ aek 118 [S s,S [47]] G (fun v G'=>∃ b o cap,v = .slice (some ⟨b,o,none⟩) (a8 47 s).length cap ∧ bU G' b o (ag dc (a8 47 s))):=by
  refine (vR (c:=47) oM).mono ?_
  rintro v G' L' ⟨h1,h2,h3⟩
  have hp : 0 < (a8 47 s).length:=eH
  exact ⟨h1,h2,h3.expl hp⟩
 have hcl:=ir (k:=47) (s:=s)
 have hbad:=fun {i : Nat}=>p5 h0 (i:=i)
 have hpo:=nk h0
 have hxl : ∀ i,i < (a8 47 s).length → (ab (a8 47 s) i).length ≤ 100000000:=fun i hi=>by
  have:=dD (bC hi)
  omega
 generalize a8 47 s = xs at *
 refine jB [(0,_)] Tryz.func73 Tryz.ntmps73 fun B hok hB hW=>?_
 repeat' (first | refine jR ?_ | (refine jo ?_;first | refine jV (af F) ?_ | (refine ar F F F cx_split F ?_;rintro _ G hle ⟨b1,o1,cap1,rfl,hseg⟩;skip)) | refine ad F (aH ‹_›) ?_)
 refine Nx.addNil zu 1 ?_
 refine aW (ι:=List Int × Option Addr × Nat × Nat) (fun j=>(j.1.length = j.2.2.2 ∧ j.2.2.2 ≤ xs.length ∧ j.2.2.2 ≤ 8) ∧ cN (xs.take j.2.2.2) = some j.1) (fun j=>[(4,.slice j.2.1 j.1.length j.2.2.1),(12,.slice (some ⟨b1,o1,none⟩) xs.length cap1),(13,I xs.length),(14,I j.2.2.2)]) (fun _=>G) (fun j=>[.acc (.slice j.2.1 j.1.length j.2.2.1) zu 1 j.1.length (ag cL j.1)]) (fun j=>xs.length - j.2.2.2) ([],none,0,0) ?_ tU F bc (fun j Hj=>?_)
 ·exact ⟨⟨F,Nat.zero_le _,Nat.zero_le _⟩,F⟩
 obtain ⟨ps,a,c,i⟩:=j
 dsimp only at Hj ⊢
 obtain ⟨⟨hpl,hi0,hi8⟩,hst⟩:=Hj
 by_cases hi : i < xs.length
 ·have hxl1:=hxl i hi
  cases hn : aQ (ab xs i) 999999 with
  | none =>
   have hno:=hbad hi hn
   have hns : (!(aQ (ab xs i) 999999).isSome) = true:=by rw [hn];rfl
   repeat' (first | refine jR ?_ | (refine jo ?_;first | refine jV (ak F F oM) ?_ | (refine jV (fR F F aS ?_) ?_;focus omega) | refine aP F ?_ | (refine eE F F F (eU oM) F ?_;rintro _ ⟨n,rfl,hnum⟩)) | refine aF F F ‹_› ?_ | (refine ac F (by first | rfl | (refine decide_eq_true ?_;(omega))) ?_))
   all_goals refine jZ (vs:=[_,_]) F ⟨F,F,trivial⟩ F ⟨hle,F,?_⟩
   all_goals exact ⟨_,_,_,by rw [hno];rfl,fun p hp=>by rw [hno] at hp;cases hp⟩
  | some m =>
   have hns : (!(aQ (ab xs i) 999999).isSome) = false:=by rw [hn];rfl
   by_cases h8 : i = 8
   ·subst h8
    have hno : df s = none:=by
     rw [hpo]
     cases hso : cN xs with
     | none=>rfl
     | some q =>
      have:=(lf hso).1
      dsimp only
      rw [if_neg oM]
    have h88 : ((ps.length : Nat) : Int) = 8:=oM
    repeat' (first | refine jR ?_ | (refine jo ?_;first | refine jV (af F) ?_ | refine jV (ak F F oM) ?_ | (refine jV (fR F F aS ?_) ?_;focus omega) | refine aE F ?_ | (refine eE F F F (eU oM) F ?_;rintro _ ⟨n,rfl,hnum⟩)) | refine aw F F ‹_› ?_ | (refine ac F (by refine decide_eq_true ?_;first | assumption | omega) ?_))
    all_goals refine jZ (vs:=[_,_]) F ⟨F,F,trivial⟩ F ⟨hle,F,?_⟩
    all_goals exact ⟨_,_,_,by rw [hno];rfl,fun p hp=>by rw [hno] at hp;cases hp⟩
   ·have h88 : ¬ ((ps.length : Nat) : Int) = 8:=oM
    repeat' (first | refine jM ?_ | (refine jo ?_;first | refine jV (af F) ?_ | refine jV (ak F F oM) ?_ | (refine jV (fR F F aS ?_) ?_;focus omega) | refine aE F ?_ | refine jF fun _=>?_ | refine bG F F F F F F F F F oM fun _ _=>?_ | (refine eE F F F (eU oM) F ?_;rintro _ ⟨n,rfl,hnum⟩)) | refine aw F F ‹_› ?_ | refine ac F (aA oM) ?_ | refine ad F (aH ‹_›) ?_)
    rename_i y1 yc
    have hmn:=hnum m hn
    subst hmn
    have hst2 : cN (xs.take (i + 1)) = some (ps ++ [n]):=by rw [dO hi,kw hst,hn];rfl
    have hl1 : (ps ++ [n]).length = ps.length + 1:=by simp
    rw [show ag cL ps ++ [I n] = ag cL (ps ++ [n]) from (bX cL ps n).symm]
    exact br (ps ++ [n],some ⟨y1,0,none⟩,yc,i + 1) ⟨⟨by dsimp only;omega,by dsimp only;omega,by dsimp only;omega⟩,hst2⟩ (by dsimp only;omega) (by rw [hl1];repeat (first | exact trivial | refine ⟨F,?_⟩)) F (by rw [hl1];repeat (first | exact List.nil_sublist _ | apply List.Sublist.cons_cons))
 ·rw [List.take_of_length_le oM] at hst
  rw [hst] at hpo
  dsimp only at hpo
  rw [if_pos oM] at hpo
  repeat' (first | refine jR ?_ | refine ad F (aH oM) ?_)
  refine Nx.sealS (v:=.slice a ps.length c) fun G2 hG2 hsl=>?_
  refine jZ (vs:=[_,_]) F ⟨F,F,trivial⟩ F ⟨hle.trans hG2,F,?_⟩
  refine ⟨_,_,_,by rw [hpo];rfl,fun p hp=>?_⟩
  rw [hpo] at hp
  simp only [Option.some.injEq] at hp;subst hp;exact ⟨F,hsl⟩
theorem act {b : Nat} {qs : List c8} {k s : ael} {u : V} (hS : ScI G b qs) (hw : SchW (al qs)) (hk : ax (al qs) k = true) (hvo : co (al qs) k s = some u) :
  bJ aek 110 [Pt b 0,Ag (cT k),S s] G (fun r G'=>∃ c,r = Ag (be c) ∧ V.rep G' u c):=by
 have hl:=(iS hvo).2
 have cx_ris : bJ aek 60 [Pt b 0,Ag [S (sg k),S (bs k),S (nm k)],S s] G (fun v G'=>∃ cv,v = Tu [Ag (be cv),Bo true] ∧ V.rep G' u cv):=by
  refine (lE (G:=G) (b:=b) (s:=s) hS hw hk oM).mono ?_
  rintro v G' L' ⟨h1,h2,⟨h4,_⟩ | ⟨u',c,h4,rfl,h5⟩⟩
  ·rw [hvo] at h4;cases h4
  ·rw [hvo] at h4;obtain rfl:=Option.some.inj h4;exact ⟨h1,h2,c,F,h5⟩
 unfold cT
 refine jB [(0,_),(1,_),(2,_)] Tryz.func110 Tryz.ntmps110 fun B hok hB hW=>?_
 repeat' (first | refine jR ?_ | (refine jo ?_;first | refine jO fun _=>?_ | refine jL fun _=>?_ | refine bO F ?_ | refine jC F F F ?_ | (refine ar F F F cx_ris F ?_;rintro _ G hle ⟨cv,rfl,hrv⟩;skip)))
 all_goals refine jZ (vs:=[_]) F ⟨aJ F F F F,trivial⟩ F ⟨hle,F,?_⟩
 all_goals exact ⟨cv,F,hrv⟩
theorem xk {ts : List Ty} {f : Fld} {fs : List (Fld × V)} {j : Nat} (hj : j < fs.length) (hjn : (ab fs j).1.tag = f.tag) (hno : ∀ i,i < j → (ab fs i).1.tag ≠ f.tag) : cZ ts (.nd 82 [] 0 (fs.map aq)) f = (ab fs j).2:=by
 unfold cZ
 rw [V.kids,oQ hj hjn hno];rfl
theorem uM {ts : List Ty} {f : Fld} {fs : List (Fld × V)} (hno : ∀ i,i < fs.length → (ab fs i).1.tag ≠ f.tag) : cZ ts (.nd 82 [] 0 (fs.map aq)) f = eh ts f:=by
 unfold cZ
 rw [V.kids,oP hno];rfl
theorem uo {b bf of j : Nat} {qs : List c8} {t : Ty} {fs : List (Fld × V)} {c : VC} (hS : ScI G b qs) (hw : SchW (al qs)) (ht : t ∈ al qs) (hso : t.sort = 82) (hsf : bU G bf of (ag gG t.fields)) (hj : j < t.fields.length) (hrep : V.rep G (.nd 82 [] 0 (fs.map aq)) c) (h9 : fs.length ≤ 1000000) :
  bJ aek 67 [Pt b 0,Ag (be c),Pt bf (of + j * 6)] G (fun r G'=>∃ c',r = Ag (be c') ∧ V.rep G' (cZ (al qs) (.nd 82 [] 0 (fs.map aq)) (ab t.fields j)) c'):=by
 obtain ⟨a,k,cs,rfl,_,_,_,hcl,hsl,hrs⟩:=cU hrep
 have hml : (fs.map aq).length = fs.length:=by simp
 rw [hml] at hcl hsl
 have hfm : ab t.fields j ∈ t.fields:=bC hj
 have hdk : ax (al qs) (ab t.fields j).kind = true:=d6 hw ht oM hfm
 obtain ⟨g1,g2,g3⟩:=fB hw ht oM hfm
 have cx_of:=wG hS hw hsf hj hdk
 have hnt : ∀ i,i < fs.length → ab (fs.map aq) i = aq (ab fs i):=fun i hi=>by rw [aI (by simpa using hi),aI hi];simp
 have hrn : ∀ i,i < fs.length → V.rep G (aq (ab fs i)) (ab cs i):=fun i hi=>by
  have:=fZ hrs i oM
  rwa [hnt i hi] at this
 have e0 : be ⟨82,[],0,a,(fs.map aq).length,k⟩ = [U8 (82 : Nat),S [],I 0,.slice a fs.length k]:=by rw [← hml];rfl
 rw [e0]
 refine jB [(0,_),(1,_),(2,_)] Tryz.func67 Tryz.ntmps67 fun B hok hB hW=>?_
 repeat' (first | refine jR ?_ | (refine jo ?_;first | refine jO fun _=>?_ | refine jL fun _=>?_ | refine aC F ?_ | refine jV (af F) ?_))
 rename_i y4 y6
 refine aW (ι:=Nat) (fun i=>i ≤ fs.length ∧ ∀ l,l < i → (ab fs l).1.tag ≠ (ab t.fields j).tag) (fun i=>[(0,Pt b 0),(2,Pt bf (of + j * 6)),(6,Pt y6 0),(10,.slice a fs.length k),(11,I fs.length),(12,I i)]) (fun _=>G) (fun i=>[.blk y6 (.cells (List.toArray [U8 0,S [],I 0,aK]) di (0,0))]) (fun i=>fs.length - i) 0 ?_ tU F sB (fun i Hi=>?_)
 ·exact ⟨Nat.zero_le _,fun l hl=>absurd hl oM⟩
 obtain ⟨hi0,hno⟩:=Hi
 by_cases hi : i < fs.length
 ·obtain ⟨xb,xo,xc,e,hsx⟩:=hsl.expl oM
  simp only [Value.slice.injEq] at e
  obtain ⟨rfl,-,rfl⟩:=e
  obtain ⟨a1,k1,cs1,hci,_,_,_,hcl1,hsl1,hrs1⟩:=cU (hrn i hi)
  rw [V.reps] at hrs1
  obtain ⟨c1,cs2,rfl,hr1,hr2⟩:=hrs1
  rw [V.reps] at hr2
  subst hr2
  have hci : ab cs i = ⟨61,[],(ab fs i).1.tag,a1,1,k1⟩:=hci
  have hsl1 : aN G (.slice a1 1 k1) 4 ([c1] : List VC).length (ag be [c1]):=hsl1
  obtain ⟨zb,zo,zc,e,hsz⟩:=hsl1.expl oM
  simp only [Value.slice.injEq] at e
  obtain ⟨rfl,-,rfl⟩:=e
  by_cases ht2 : (ab fs i).1.tag = (ab t.fields j).tag
  ·have hget:=xk (ts:=al qs) hi ht2 hno
   rw [hget]
   repeat' (first | refine jR ?_ | (refine jo ?_;first | refine jL fun _=>?_ | refine aC F ?_ | (refine jV (gY F F aS ?_ aS) ?_;focus omega) | refine jV (ak F F oM) ?_ | refine jC F F F ?_) | (refine ac F (by refine decide_eq_true ?_;first | assumption | omega) ?_) | (refine an (ao (id:=4) _ (fun _ h=>h) am ?_);refine jT 3 [0,2,3,4] (aa 7 29) ?_;(refine jG (aa 7 31) 1 F (aV F F F) ?_);((refine jG (aa 7 63) 5 F (b9 F F aS ?_ F F) ?_;focus omega));refine jT 0 [6] (aa 7 127) ?_;refine jQ ?_))
   dsimp only [be,VC.sl]
   repeat' (first | refine jR ?_ | (refine jo ?_;first | (refine jV (dJ F F aS ?_) ?_;focus omega) | refine jV (aT F F oM) ?_ | refine jC F F F ?_))
   all_goals refine jZ (vs:=[_]) F ⟨aJ F F F F,trivial⟩ F ⟨Gh.le.refl _,F,?_⟩
   all_goals exact ⟨c1,F,hr1⟩
  ·repeat' (first | refine jM ?_ | (refine jo ?_;first | refine jL fun _=>?_ | (refine jV (gY F F aS ?_ aS) ?_;focus omega) | refine jV (ak F F oM) ?_ | refine jC F F F ?_) | refine ac F (aA oM) ?_ | refine ad F (aH ‹_›) ?_ | (refine an (ao (id:=4) _ (fun _ h=>h) am ?_);refine jT 3 [0,2,3,4] (aa 7 29) ?_;(refine jG (aa 7 31) 1 F (aV F F F) ?_);((refine jG (aa 7 63) 5 F (b9 F F aS ?_ F F) ?_;focus omega));refine jT 0 [6] (aa 7 127) ?_;refine jQ ?_))
   exact br (i + 1) ⟨oM,fun l hl=>(by
    rcases Nat.lt_or_ge l i with h | h
    ·exact hno l h
    ·have : l = i:=oM
     subst this;exact ht2)⟩ oM tU F sB
 ·have hget:=uM (ts:=al qs) (f:=ab t.fields j) (fs:=fs) fun l hl=>hno l oM
  rw [hget]
  have cx_mu:=act hS hw hdk g2
  unfold cT at cx_mu
  repeat' (first | refine jR ?_ | refine ad F (aH oM) ?_ | (refine an (em (id:=7) (tt:=6) F am ?_);refine jW 4 [0,1,2,3,5,6] (aa 10 111) ?_;((refine jG (aa 10 127) 4 F (gi F F aS ?_ F F) ?_;focus omega));refine jA 7 F ?_;(refine ae F F F cx_of F ?_);refine jK (aa 10 255) ?_;refine jA 8 F ?_;(refine ar F F F cx_mu F ?_;rintro _ G hle ⟨cv,rfl,hrv⟩;skip);refine jK (aa 10 511) ?_;refine jA 9 F ?_;(refine jC F F F ?_);refine jK (aa 10 1023) ?_;refine jQ ?_))
  all_goals refine jZ (vs:=[_]) F ⟨aJ F F F F,trivial⟩ F ⟨hle,F,?_⟩
  all_goals exact ⟨cv,F,hrv⟩
def eY (ts : List Ty) (o : Option (ael × V)) (r : Value) (G' : Gh) : Prop:=(o = none ∧ r = Tu [Ag [S [],S [],S []],zP,Bo false]) ∨ ∃ k' v' c',o = some (k',v') ∧ r = Tu [Ag (cT k'),Ag (be c'),Bo true] ∧ V.rep G' v' c'
theorem eY.no {f : FuncId} {args : List Value} {ts : List Ty} {o : Option (ael × V)} (h : bJ aek f args G (eY ts o)) (e : o = none) : bJ aek f args G (fun r _=>r = Tu [Ag [S [],S [],S []],zP,Bo false]):=by
 refine h.mono ?_
 rintro v G' L' ⟨h1,h2,⟨_,h3⟩ | ⟨k',v',b',h3,_⟩⟩
 ·exact ⟨h1,h2,h3⟩
 ·rw [e] at h3;cases h3
theorem eY.yes {f : FuncId} {args : List Value} {ts : List Ty} {o : Option (ael × V)} {k' : ael} {v' : V} (h : bJ aek f args G (eY ts o)) (e : o = some (k',v')) : bJ aek f args G (fun r G'=>∃ c',r = Tu [Ag [S (sg k'),S (bs k'),S (nm k')],Ag (be c'),Bo true] ∧ V.rep G' v' c'):=by
 refine h.mono ?_
 rintro v G' L' ⟨h1,h2,⟨h3,_⟩ | ⟨k2,v2,b',h3,h4,h5⟩⟩
 ·rw [e] at h3;cases h3
 ·rw [e] at h3
  simp only [Option.some.injEq,Prod.mk.injEq] at h3
  obtain ⟨rfl,rfl⟩:=h3
  exact ⟨h1,h2,b',h4,h5⟩
theorem aaP {b : Nat} {k : ael} {ts : List Ty} {ks : List V} {c : VC} {n : Int} (hr : V.rep G (.nd 91 [] 0 ks) c) (hn : 0 ≤ n ∧ n ≤ 999999) (hkl : ks.length ≤ 1000000) :
  bJ aek 120 [Pt b 0,Ag (cT (91 :: k)),Ag (be c),I n] G (eY ts (aB ts (91 :: k) (.nd 91 [] 0 ks) n)):=by
 obtain ⟨e1,e2,e3,_⟩:=ic (c:=91) (k:=k) (.inl rfl)
 have cx_sign:=@km G 91 (sg k) (bs k) (nm k)
 have cx_pt:=@lG G 91 (sg k) (bs k) (nm k)
 obtain ⟨a,kc,cs,rfl,_,_,_,hcl,hsl,hrs⟩:=cU hr
 have hst:=dZ (ts:=ts) (c:=91) (r:=k) (v:=.nd 91 [] 0 ks) (n:=n) (.inl rfl)
 rw [V.kids] at hst
 rw [hst]
 unfold cT
 rw [e1,e2,e3]
 have e0 : be ⟨91,[],0,a,ks.length,kc⟩ = [U8 (91 : Nat),S [],I 0,.slice a ks.length kc]:=rfl
 rw [e0]
 by_cases hn2 : n < ((ks.length : Nat) : Int)
 ·obtain ⟨i,rfl⟩ : ∃ i : Nat,n = i:=⟨n.toNat,oM⟩
  obtain ⟨xb,xo,xc,e,hsx⟩:=hsl.expl oM
  simp only [Value.slice.injEq] at e
  obtain ⟨rfl,-,rfl⟩:=e
  have hri:=fZ hrs i oM
  obtain ⟨d,hxi⟩ : ∃ d,ab cs i = d:=⟨_,rfl⟩
  rw [hxi] at hri
  rw [if_pos hn2]
  refine jB [(0,_),(1,_),(2,_),(3,_)] Tryz.func120 Tryz.ntmps120 fun B hok hB hW=>?_
  repeat' (first | refine jR ?_ | (refine jo ?_;first | refine jO fun _=>?_ | refine jL fun _=>?_ | refine aC F ?_ | refine bO F ?_ | refine jV (af F) ?_ | refine ae F F F cx_sign F ?_) | refine ac F F ?_ | refine ad F (aH oM) ?_)
  rename_i y5 y6 y8 y9
  (refine an (ao (id:=5) [.blk y6 (.cells (List.toArray [U8 (91 : Nat),S [],I 0,.slice (some ⟨xb,xo,none⟩) ks.length kc]) di (0,0)),.blk y5 (.cells (List.toArray [S (91 :: sg k),S (bs k),S (nm k)]) fJ (0,0))] (by intro y hy;simp only [List.mem_cons,List.not_mem_nil,or_false] at hy ⊢;rcases hy with hy | hy <;> simp [hy]) am ?_);refine jW 8 [2,4] (aa 10 20) ?_;(refine jG (aa 10 21) 0 F (bS F F F F) ?_);(refine jG (aa 10 29) 3 F (aV F F F) ?_);((refine jG (aa 10 61) 5 F (ak F F ?_) ?_;focus omega));((refine jG (aa 10 125) 6 F (gY F F aS ?_ aS) ?_;focus omega));refine jA 1 F ?_;(refine ae F F F cx_pt F ?_);refine jK (aa 10 127) ?_;refine jA 7 F ?_;(refine jC F F F ?_);refine jK (aa 10 255) ?_;refine jA 8 F ?_;(refine jC F F F ?_);refine jK (aa 10 511) ?_;refine jW 0 [9] (aa 10 1023) ?_;refine jQ ?_)
  all_goals repeat' (refine jR ?_)
  all_goals refine jZ (vs:=[_,_,_]) F ⟨aJ F F F F,aJ F F F F,F,trivial⟩ F ⟨Gh.le.refl _,F,?_⟩
  all_goals exact .inr ⟨k,ab ks i,d,F,F,hri⟩
 ·rw [if_neg hn2]
  refine jB [(0,_),(1,_),(2,_),(3,_)] Tryz.func120 Tryz.ntmps120 fun B hok hB hW=>?_
  repeat' (first | refine jR ?_ | (refine jo ?_;first | refine jO fun _=>?_ | refine jL fun _=>?_ | refine aC F ?_ | refine bO F ?_ | refine jV (af F) ?_ | refine jV (ay F F) ?_ | refine jC F F F ?_ | refine ae F F F cx_sign F ?_) | (refine ac F (by first | rfl | (refine decide_eq_true ?_;(omega))) ?_))
  all_goals refine jZ (vs:=[_,_,_]) F ⟨aJ F F F F,aJ F F F F,F,trivial⟩ F ⟨Gh.le.refl _,F,?_⟩
  all_goals exact .inl ⟨F,F⟩
theorem vH {b : Nat} {k : ael} {ts : List Ty} {ks : List V} {c : VC} {n : Int} (hks : ks = [] ∨ ∃ w,ks = [w]) (hr : V.rep G (.nd 63 [] 0 ks) c) (hn : 0 ≤ n ∧ n ≤ 999999) :
  bJ aek 120 [Pt b 0,Ag (cT (63 :: k)),Ag (be c),I n] G (eY ts (aB ts (63 :: k) (.nd 63 [] 0 ks) n)):=by
 obtain ⟨e1,e2,e3,_⟩:=ic (c:=63) (k:=k) (.inr rfl)
 have cx_sign:=@km G 63 (sg k) (bs k) (nm k)
 have cx_pt:=@lG G 63 (sg k) (bs k) (nm k)
 obtain ⟨a,kc,cs,rfl,_,_,_,hcl,hsl,hrs⟩:=cU hr
 have hst:=dZ (ts:=ts) (c:=63) (r:=k) (v:=.nd 63 [] 0 ks) (n:=n) (.inr rfl)
 rw [V.kids] at hst
 rw [hst]
 unfold cT
 rw [e1,e2,e3]
 have e0 : be ⟨63,[],0,a,ks.length,kc⟩ = [U8 (63 : Nat),S [],I 0,.slice a ks.length kc]:=rfl
 rw [e0]
 rcases hks with rfl | ⟨w,rfl⟩
 ·rw [if_neg (by simp;omega)]
  by_cases hn0 : n = 0
  all_goals
   refine jB [(0,_),(1,_),(2,_),(3,_)] Tryz.func120 Tryz.ntmps120 fun B hok hB hW=>?_
   repeat' (first | refine jR ?_ | (refine jo ?_;first | refine jO fun _=>?_ | refine jL fun _=>?_ | refine aC F ?_ | refine bO F ?_ | refine jV (af F) ?_ | refine jV (ay F F) ?_ | refine jC F F F ?_ | refine aP F ?_ | refine aE F ?_ | refine ae F F F cx_sign F ?_) | refine aF F F (aA ‹_›) ?_ | refine aw F F (aH oM) ?_ | refine ac F F ?_ | refine ad F F ?_)
   all_goals refine jZ (vs:=[_,_,_]) F ⟨aJ F F F F,aJ F F F F,F,trivial⟩ F ⟨Gh.le.refl _,F,?_⟩
   all_goals exact .inl ⟨F,F⟩
 ·rw [V.reps] at hrs
  obtain ⟨d,cs2,rfl,hri,hr2⟩:=hrs
  rw [V.reps] at hr2
  subst hr2
  have hsl : aN G (.slice a 1 kc) 4 ([d] : List VC).length (ag be [d]):=hsl
  obtain ⟨xb,xo,xc,e,hsx⟩:=hsl.expl (by simp)
  simp only [Value.slice.injEq] at e
  obtain ⟨rfl,-,rfl⟩:=e
  have hxi : ab [d] (Int.toNat 0) = d:=rfl
  show bJ _ _ [Pt b 0,Ag [S (63 :: sg k),S (bs k),S (nm k)],Ag [U8 (63 : Nat),S [],I 0,.slice (some ⟨xb,xo,none⟩) 1 kc],I n] G _
  by_cases hn0 : n = 0
  ·subst hn0
   rw [if_pos (by simp)]
   refine jB [(0,_),(1,_),(2,_),(3,_)] Tryz.func120 Tryz.ntmps120 fun B hok hB hW=>?_
   repeat' (first | refine jR ?_ | (refine jo ?_;first | refine jO fun _=>?_ | refine jL fun _=>?_ | refine aC F ?_ | refine bO F ?_ | refine jV (af F) ?_ | refine aE F ?_ | refine ae F F F cx_sign F ?_) | refine aw F F F ?_ | refine ac F F ?_ | refine ad F F ?_)
   rename_i y5 y6 y8 y9
   (refine an (ao (id:=9) [.blk y6 (.cells (List.toArray [U8 (63 : Nat),S [],I 0,.slice (some ⟨xb,xo,none⟩) 1 kc]) di (0,0)),.blk y5 (.cells (List.toArray [S (63 :: sg k),S (bs k),S (nm k)]) fJ (0,0))] (by intro y hy;simp only [List.mem_cons,List.not_mem_nil,or_false] at hy ⊢;rcases hy with hy | hy <;> simp [hy]) am ?_);refine jW 8 [2] (aa 9 4) ?_;(refine jG (aa 9 5) 0 F (bS F F F F) ?_);(refine jG (aa 9 13) 3 F (aV F F F) ?_);((refine jG (aa 9 29) 4 F (aT F F ?_) ?_;focus omega));((refine jG (aa 9 61) 5 F (gY F F aS ?_ aS) ?_;(focus ((simp only [List.length_append,List.length_cons,List.length_nil,List.length_take];omega);done))));refine jA 1 F ?_;(refine ae F F F cx_pt F ?_);refine jK (aa 9 63) ?_;refine jA 6 F ?_;(refine jC F F F ?_);refine jK (aa 9 127) ?_;refine jA 7 F ?_;(refine jC F F F ?_);refine jK (aa 9 255) ?_;refine jW 0 [8] (aa 9 511) ?_;refine jQ ?_)
   all_goals repeat' (refine jR ?_)
   all_goals refine jZ (vs:=[_,_,_]) F ⟨aJ F F F F,aJ F F F F,F,trivial⟩ F ⟨Gh.le.refl _,F,?_⟩
   all_goals exact .inr ⟨k,w,d,F,F,hri⟩
  ·rw [if_neg (show ¬ n < (([w].length : Nat) : Int) by show ¬ n < ((1 : Nat) : Int);omega)]
   refine jB [(0,_),(1,_),(2,_),(3,_)] Tryz.func120 Tryz.ntmps120 fun B hok hB hW=>?_
   repeat' (first | refine jR ?_ | (refine jo ?_;first | refine jO fun _=>?_ | refine jL fun _=>?_ | refine bO F ?_ | refine jV (ay F F) ?_ | refine jC F F F ?_ | refine aP F ?_ | refine ae F F F cx_sign F ?_) | refine aF F F (aA ‹_›) ?_ | refine ac F F ?_ | refine ad F F ?_)
   all_goals refine jZ (vs:=[_,_,_]) F ⟨aJ F F F F,aJ F F F F,F,trivial⟩ F ⟨Gh.le.refl _,F,?_⟩
   all_goals exact .inl ⟨F,F⟩
theorem aaO {b : Nat} {x : ael} {ts : List Ty} {v : V} {c : VC} {n : Int} (hx : x = [110] ∨ x = [116] ∨ x = [102]) :
  bJ aek 120 [Pt b 0,Ag (cT x),Ag (be c),I n] G (eY ts (aB ts x v n)):=by
 have hno : aB ts x v n = none:=by
  rcases hx with rfl | rfl | rfl
  all_goals exact ji dC dC dC
 rw [hno]
 obtain ⟨w,tx,tg,a,m,kc⟩:=c
 have e0 : be ⟨w,tx,tg,a,m,kc⟩ = [U8 (w : Nat),S tx,I tg,.slice a m kc]:=rfl
 rw [e0]
 have e1 : cT x = [S [],S x,S []]:=by rcases hx with rfl | rfl | rfl <;> rfl
 rw [e1]
 have cx_sign:=@fT G x []
 have hx64 : ¬ x = [64]:=by rcases hx with rfl | rfl | rfl <;> decide
 refine jB [(0,_),(1,_),(2,_),(3,_)] Tryz.func120 Tryz.ntmps120 fun B hok hB hW=>?_
 repeat' (first | refine jR ?_ | (refine jo ?_;first | refine jO fun _=>?_ | refine jL fun _=>?_ | refine aC F ?_ | refine bO F ?_ | refine jV (ay F F) ?_ | refine jC F F F ?_ | refine ae F F F cx_sign F ?_) | refine ac F (aA ‹_›) ?_ | refine ad F F ?_)
 all_goals refine jZ (vs:=[_,_,_]) F ⟨aJ F F F F,aJ F F F F,F,trivial⟩ F ⟨Gh.le.refl _,F,?_⟩
 all_goals exact .inl ⟨F,F⟩
theorem mc {qs : List c8} {k : ael} {t : Ty} (hki : ax (al qs) k = true) (hrf : aZ (al qs) k = some t) : cT k = [S [],S [64],S (nm k)] ∧ ∃ p,fE qs (nm k) = some (p,t) ∧ (p,t) ∈ qs:=by
 obtain ⟨r,rfl⟩:=d5 hrf
 have h91 : ¬ ((64 : UInt8).toNat = 91 ∨ (64 : UInt8).toNat = 63):=by decide
 have hsg:=nU (r:=r) h91
 have hcs:=gI (r:=r) h91
 have hrn : (cr (bV (64 :: r))).isSome = true:=by rw [hcs];rfl
 have hbs : bs (64 :: r) = [64]:=(n7 (dR hki)).2 hrn
 have hnm : cr (64 :: r) = some (nm (64 :: r)):=by unfold nm;rw [hcs];rfl
 have hft : iG (al qs) (nm (64 :: r)) = some t:=by unfold aZ at hrf;rw [hnm] at hrf;exact hrf
 rw [← i9] at hft
 rcases hfq : fE qs (nm (64 :: r)) with _ | ⟨p,t'⟩
 ·rw [hfq] at hft;cases hft
 rw [hfq] at hft
 obtain rfl : t' = t:=Option.some.inj hft
 exact ⟨by unfold cT;rw [hsg,hbs],p,rfl,ju hfq⟩
theorem aaN {b : Nat} {qs : List c8} {k : ael} {t : Ty} {v : V} {c : VC} {n : Int} (hS : ScI G b qs) (hw : SchW (al qs)) (hki : ax (al qs) k = true) (hrf : aZ (al qs) k = some t) (ho : OfK (al qs) k v) (hr : V.rep G v c) (hn : 0 ≤ n ∧ n ≤ 999999) (htt : v.tot ≤ 1000000) :
  bJ aek 120 [Pt b 0,Ag (cT k),Ag (be c),I n] G (eY (al qs) (aB (al qs) k v n)):=by
 obtain ⟨hkd,p,hfq,hqm⟩:=mc hki hrf
 have hst:=eB (v:=v) (n:=n) hrf
 have htm:=bj hrf
 have hW:=hw.ty t htm
 obtain ⟨fv,ln,hsg,hfv⟩:=hS.ty _ hqm
 dsimp only at hsg hfv
 have hkv:=f7 qs (nm k)
 rw [hfq] at hkv
 dsimp only [Option.map_some] at hkv
 obtain ⟨u,m,g1,g2,g3⟩:=hS.at'
 have hfl:=hW.len
 have cx_sign:=@fT G [64] (nm k)
 rw [hkd]
 cases hg : cm t.fields n with
 | none =>
  rw [hg] at hst
  dsimp only at hst
  rw [hst]
  have cx_fld:=jv (tag:=n) hsg hfv oM hg
  obtain ⟨w,tx,tg,a,mm,kc⟩:=c
  have e0 : be ⟨w,tx,tg,a,mm,kc⟩ = [U8 (w : Nat),S tx,I tg,.slice a mm kc]:=rfl
  rw [e0]
  refine jB [(0,_),(1,_),(2,_),(3,_)] Tryz.func120 Tryz.ntmps120 fun B hok hB hW=>?_
  repeat' (first | refine jR ?_ | (refine jo ?_;first | refine jO fun _=>?_ | refine jL fun _=>?_ | refine aC F ?_ | refine bO F ?_ | refine ae F F F cx_sign F ?_) | refine ad F F ?_)
  rename_i y5 y6 y8 y9
  (refine an (ao (id:=12) [.blk y9 (.cells (List.toArray [U8 0,S [],I 0,aK]) di (0,0)),.blk y8 (.cells (List.toArray [S [],S [],S []]) fJ (0,0)),.blk y6 (.cells (List.toArray [U8 (w : Nat),S tx,I tg,.slice a mm kc]) di (0,0)),.blk y5 (.cells (List.toArray [S [],S [64],S (nm k)]) fJ (0,0))] (by intro y hy;simp only [List.mem_cons,List.not_mem_nil,or_false] at hy ⊢;rcases hy with hy | hy | hy | hy <;> simp [hy]) am ?_);refine jT 4 [0,1,2,4] (aa 8 23) ?_;(refine jG (aa 8 31) 3 F (aj F F aS F F) ?_);(refine jG (aa 8 63) 5 F (aV F F F) ?_);((refine jG (aa 8 127) 6 F (dh F F (f6 aS) aS F) ?_));refine jT 0 [7] (aa 8 255) ?_;refine jQ ?_)
  all_goals repeat' (first | refine jR ?_ | (refine jo ?_;first | refine jV (ay F F) ?_ | refine jC F F F ?_ | refine aP F ?_ | refine jV (dn F F) ?_ | refine ae F F F cx_fld F ?_) | refine aF F F F ?_ | refine ac F F ?_)
  all_goals refine jZ (vs:=[_,_,_]) F ⟨aJ F F F F,aJ F F F F,F,trivial⟩ F ⟨Gh.le.refl _,F,?_⟩
  all_goals exact .inl ⟨F,F⟩
 | some f =>
  rw [hg] at hst
  dsimp only at hst
  obtain ⟨j,hj,hjf,hjn,hjx⟩:=gF hg
  obtain ⟨bf,of,cf,rfl,hsf⟩:=hfv.expl oM
  have cx_fld:=gM hsg hsf oM hj hjf hjn
  subst hjx
  rcases hW.sort with hso | hso | hso
  ·rw [if_neg oM,if_pos hso] at hst
   rw [hst]
   rcases bE ho hrf with ⟨_,fs,rfl,g4,g5,_,_⟩ | ⟨h1,_⟩ | ⟨h1,_⟩
   ·have h9 : fs.length ≤ 1000000:=by
     have h7:=dq (fs.map aq)
     rw [bK] at htt
     have e1 : (fs.map aq).length = fs.length:=by simp
     omega
    have cx_ge:=uo hS hw htm hso hsf hj hr h9
    obtain ⟨a,kc,cs,rfl,_,_,_,hcl,hsl,hrs⟩:=cU hr
    have hml : (fs.map aq).length = fs.length:=by simp
    have e0 : be ⟨82,[],0,a,(fs.map aq).length,kc⟩ = [U8 (82 : Nat),S [],I 0,.slice a fs.length kc]:=by rw [← hml];rfl
    rw [e0] at cx_ge ⊢
    refine jB [(0,_),(1,_),(2,_),(3,_)] Tryz.func120 Tryz.ntmps120 fun B hok hB hW=>?_
    repeat' (first | refine jR ?_ | (refine jo ?_;first | refine jO fun _=>?_ | refine jL fun _=>?_ | refine aC F ?_ | refine bO F ?_ | refine ae F F F cx_sign F ?_) | refine ad F F ?_)
    rename_i y5 y6 y8 y9
    (refine an (ao (id:=12) [.blk y9 (.cells (List.toArray [U8 0,S [],I 0,aK]) di (0,0)),.blk y8 (.cells (List.toArray [S [],S [],S []]) fJ (0,0)),.blk y6 (.cells (List.toArray [U8 (82 : Nat),S [],I 0,.slice a fs.length kc]) di (0,0)),.blk y5 (.cells (List.toArray [S [],S [64],S (nm k)]) fJ (0,0))] (by intro y hy;simp only [List.mem_cons,List.not_mem_nil,or_false] at hy ⊢;rcases hy with hy | hy | hy | hy <;> simp [hy]) am ?_);refine jT 4 [0,1,2,4] (aa 8 23) ?_;(refine jG (aa 8 31) 3 F (aj F F aS F F) ?_);(refine jG (aa 8 63) 5 F (aV F F F) ?_);((refine jG (aa 8 127) 6 F (dh F F (f6 aS) aS F) ?_));refine jT 0 [7] (aa 8 255) ?_;refine jQ ?_)
    all_goals repeat' (first | refine jR ?_ | (refine jo ?_;first | refine jV (aj F F aS F F) ?_ | refine aE F ?_ | refine jV (dn F F) ?_ | refine ae F F F cx_fld F ?_) | (refine aw F F (by first | rfl | (refine decide_eq_false ?_;(omega))) ?_) | (refine ad F (by first | rfl | (refine decide_eq_false ?_;(omega))) ?_))
    all_goals (refine an (ao (id:=18) [.blk y6 (.cells (List.toArray [U8 (82 : Nat),S [],I 0,.slice a fs.length kc]) di (0,0)),.blk y5 (.cells (List.toArray [S [],S [64],S (nm k)]) fJ (0,0))] (by intro y hy;simp only [List.mem_cons,List.not_mem_nil,or_false] at hy ⊢;rcases hy with hy | hy <;> simp [hy]) am ?_);refine jW 6 [0,1,2,4,6] (aa 11 87) ?_;((refine jG (aa 11 95) 3 F (gi F F aS ?_ F F) ?_;focus omega));(refine jG (aa 11 127) 5 F (bS F F F F) ?_);refine jA 7 F ?_;(refine ar F F F cx_ge F ?_;rintro _ G hle ⟨cv,rfl,hrv⟩;skip);refine jK (aa 11 255) ?_;refine jA 8 F ?_;(refine jC F F F ?_);refine jK (aa 11 511) ?_;refine jA 9 F ?_;(refine jC F F F ?_);refine jK (aa 11 1023) ?_;refine jW 0 [10] (aa 11 2047) ?_;refine jQ ?_)
    all_goals repeat' (refine jR ?_)
    all_goals refine jZ (vs:=[_,_,_]) F ⟨aJ F F F F,aJ F F F F,F,trivial⟩ F ⟨hle,F,?_⟩
    all_goals exact .inr ⟨_,_,cv,F,F,hrv⟩
   ·omega
   ·omega
  ·rw [if_neg oM,if_neg oM] at hst
   rcases bE ho hrf with ⟨h1,_⟩ | ⟨h1,_⟩ | ⟨_,_,d,w,rfl,g4,g5⟩
   ·omega
   ·omega
   ·obtain ⟨a,kc,cs,rfl,_,_,_,hcl,hsl,hrs⟩:=cU hr
    rw [V.reps] at hrs
    obtain ⟨c1,cs2,rfl,hri,hr2⟩:=hrs
    rw [V.reps] at hr2
    subst hr2
    have hsl : aN G (.slice a 1 kc) 4 ([c1] : List VC).length (ag be [c1]):=hsl
    obtain ⟨xb,xo,xc,e,hsx⟩:=hsl.expl (by simp)
    simp only [Value.slice.injEq] at e
    obtain ⟨rfl,-,rfl⟩:=e
    have hxi : ab [c1] (Int.toNat 0) = c1:=rfl
    show bJ _ _ [Pt b 0,Ag [S [],S [64],S (nm k)],Ag [U8 (85 : Nat),S [],I d.tag,.slice (some ⟨xb,xo,none⟩) 1 kc],I n] G _
    by_cases hdn : d.tag = n
    ·rw [if_pos (show V.tag (.nd 85 [] d.tag [w]) = n from hdn)] at hst
     rw [hst]
     refine jB [(0,_),(1,_),(2,_),(3,_)] Tryz.func120 Tryz.ntmps120 fun B hok hB hW=>?_
     repeat' (first | refine jR ?_ | (refine jo ?_;first | refine jO fun _=>?_ | refine jL fun _=>?_ | refine aC F ?_ | refine bO F ?_ | refine ae F F F cx_sign F ?_) | refine ad F F ?_)
     rename_i y5 y6 y8 y9
     (refine an (ao (id:=12) [.blk y9 (.cells (List.toArray [U8 0,S [],I 0,aK]) di (0,0)),.blk y8 (.cells (List.toArray [S [],S [],S []]) fJ (0,0)),.blk y6 (.cells (List.toArray [U8 (85 : Nat),S [],I d.tag,.slice (some ⟨xb,xo,none⟩) 1 kc]) di (0,0)),.blk y5 (.cells (List.toArray [S [],S [64],S (nm k)]) fJ (0,0))] (by intro y hy;simp only [List.mem_cons,List.not_mem_nil,or_false] at hy ⊢;rcases hy with hy | hy | hy | hy <;> simp [hy]) am ?_);refine jT 4 [0,1,2,4] (aa 8 23) ?_;(refine jG (aa 8 31) 3 F (aj F F aS F F) ?_);(refine jG (aa 8 63) 5 F (aV F F F) ?_);((refine jG (aa 8 127) 6 F (dh F F (f6 aS) aS F) ?_));refine jT 0 [7] (aa 8 255) ?_;refine jQ ?_)
     all_goals repeat' (first | refine jR ?_ | (refine jo ?_;first | refine aC F ?_ | refine jV (aj F F aS F F) ?_ | refine aP F ?_ | refine aE F ?_ | refine jV (dn F F) ?_ | refine ae F F F cx_fld F ?_) | refine aF F F (aA oM) ?_ | (refine aw F F (by first | rfl | (refine decide_eq_false ?_;(omega))) ?_) | refine ac F (aA oM) ?_ | refine ad F (aH oM) ?_)
     all_goals (refine an (ao (id:=17) [.blk y6 (.cells (List.toArray [U8 (85 : Nat),S [],I d.tag,.slice (some ⟨xb,xo,none⟩) 1 kc]) di (0,0)),.blk y5 (.cells (List.toArray [S [],S [64],S (nm k)]) fJ (0,0))] (by intro y hy;simp only [List.mem_cons,List.not_mem_nil,or_false] at hy ⊢;rcases hy with hy | hy <;> simp [hy]) am ?_);refine jW 7 [0,1,2,4] (aa 11 23) ?_;((refine jG (aa 11 31) 3 F (gi F F aS ?_ F F) ?_;focus omega));(refine jG (aa 11 63) 5 F (aV F F F) ?_);((refine jG (aa 11 127) 6 F (aT F F ?_) ?_;focus omega));((refine jG (aa 11 255) 7 F (gY F F aS ?_ aS) ?_;(focus ((simp only [List.length_append,List.length_cons,List.length_nil,List.length_take];omega);done))));refine jA 8 F ?_;(refine jC F F F ?_);refine jK (aa 11 511) ?_;refine jA 9 F ?_;(refine jC F F F ?_);refine jK (aa 11 1023) ?_;refine jW 0 [10] (aa 11 2047) ?_;refine jQ ?_)
     all_goals repeat' (refine jR ?_)
     all_goals refine jZ (vs:=[_,_,_]) F ⟨aJ F F F F,aJ F F F F,F,trivial⟩ F ⟨Gh.le.refl _,F,?_⟩
     all_goals exact .inr ⟨_,w,c1,F,F,hri⟩
    ·rw [if_neg (show ¬ V.tag (.nd 85 [] d.tag [w]) = n from hdn)] at hst
     rw [hst]
     refine jB [(0,_),(1,_),(2,_),(3,_)] Tryz.func120 Tryz.ntmps120 fun B hok hB hW=>?_
     repeat' (first | refine jR ?_ | (refine jo ?_;first | refine jO fun _=>?_ | refine jL fun _=>?_ | refine aC F ?_ | refine bO F ?_ | refine ae F F F cx_sign F ?_) | refine ad F F ?_)
     rename_i y5 y6 y8 y9
     (refine an (ao (id:=12) [.blk y9 (.cells (List.toArray [U8 0,S [],I 0,aK]) di (0,0)),.blk y8 (.cells (List.toArray [S [],S [],S []]) fJ (0,0)),.blk y6 (.cells (List.toArray [U8 (85 : Nat),S [],I d.tag,.slice (some ⟨xb,xo,none⟩) 1 kc]) di (0,0)),.blk y5 (.cells (List.toArray [S [],S [64],S (nm k)]) fJ (0,0))] (by intro y hy;simp only [List.mem_cons,List.not_mem_nil,or_false] at hy ⊢;rcases hy with hy | hy | hy | hy <;> simp [hy]) am ?_);refine jT 4 [0,1,2,4] (aa 8 23) ?_;(refine jG (aa 8 31) 3 F (aj F F aS F F) ?_);(refine jG (aa 8 63) 5 F (aV F F F) ?_);((refine jG (aa 8 127) 6 F (dh F F (f6 aS) aS F) ?_));refine jT 0 [7] (aa 8 255) ?_;refine jQ ?_)
     all_goals repeat' (first | refine jR ?_ | (refine jo ?_;first | refine aC F ?_ | refine jV (aj F F aS F F) ?_ | refine jV (ay F F) ?_ | refine jC F F F ?_ | refine aP F ?_ | refine aE F ?_ | refine jV (dn F F) ?_ | refine ae F F F cx_fld F ?_) | refine aF F F (aA oM) ?_ | (refine aw F F (by first | rfl | (refine decide_eq_false ?_;(omega))) ?_) | refine ac F (aA ‹_›) ?_)
     all_goals refine jZ (vs:=[_,_,_]) F ⟨aJ F F F F,aJ F F F F,F,trivial⟩ F ⟨Gh.le.refl _,F,?_⟩
     all_goals exact .inl ⟨F,F⟩
  ·rw [if_pos hso] at hst
   rw [hst]
   obtain ⟨w,tx,tg,a,mm,kc⟩:=c
   have e0 : be ⟨w,tx,tg,a,mm,kc⟩ = [U8 (w : Nat),S tx,I tg,.slice a mm kc]:=rfl
   rw [e0]
   refine jB [(0,_),(1,_),(2,_),(3,_)] Tryz.func120 Tryz.ntmps120 fun B hok hB hW=>?_
   repeat' (first | refine jR ?_ | (refine jo ?_;first | refine jO fun _=>?_ | refine jL fun _=>?_ | refine aC F ?_ | refine bO F ?_ | refine ae F F F cx_sign F ?_) | refine ad F F ?_)
   rename_i y5 y6 y8 y9
   (refine an (ao (id:=12) [.blk y9 (.cells (List.toArray [U8 0,S [],I 0,aK]) di (0,0)),.blk y8 (.cells (List.toArray [S [],S [],S []]) fJ (0,0)),.blk y6 (.cells (List.toArray [U8 (w : Nat),S tx,I tg,.slice a mm kc]) di (0,0)),.blk y5 (.cells (List.toArray [S [],S [64],S (nm k)]) fJ (0,0))] (by intro y hy;simp only [List.mem_cons,List.not_mem_nil,or_false] at hy ⊢;rcases hy with hy | hy | hy | hy <;> simp [hy]) am ?_);refine jT 4 [0,1,2,4] (aa 8 23) ?_;(refine jG (aa 8 31) 3 F (aj F F aS F F) ?_);(refine jG (aa 8 63) 5 F (aV F F F) ?_);((refine jG (aa 8 127) 6 F (dh F F (f6 aS) aS F) ?_));refine jT 0 [7] (aa 8 255) ?_;refine jQ ?_)
   all_goals repeat' (first | refine jR ?_ | (refine jo ?_;first | refine jV (aj F F aS F F) ?_ | refine jV (ay F F) ?_ | refine jC F F F ?_ | refine aP F ?_ | refine aE F ?_ | refine jV (dn F F) ?_ | refine ae F F F cx_fld F ?_) | refine aF F F (aA oM) ?_ | refine aw F F F ?_ | refine ac F F ?_)
   all_goals refine jZ (vs:=[_,_,_]) F ⟨aJ F F F F,aJ F F F F,F,trivial⟩ F ⟨Gh.le.refl _,F,?_⟩
   all_goals exact .inl ⟨F,F⟩
theorem vI {b : Nat} {qs : List c8} {k : ael} {v : V} {c : VC} {n : Int} (hS : ScI G b qs) (hw : SchW (al qs)) (hki : ax (al qs) k = true) (ho : OfK (al qs) k v) (hr : V.rep G v c) (hn : 0 ≤ n ∧ n ≤ 999999) (htt : v.tot ≤ 1000000) :
  bJ aek 120 [Pt b 0,Ag (cT k),Ag (be c),I n] G (eY (al qs) (aB (al qs) k v n)):=by
 cases hrf : aZ (al qs) k with
 | some t=>exact aaN hS hw hki hrf ho hr hn htt
 | none =>
  obtain ⟨ch,r,rfl⟩:=dT hki
  by_cases h91 : ch.toNat = 91 ∨ ch.toNat = 63
  ·rcases dg ho oM with ⟨h1,_⟩ | ⟨h1,_⟩ | ⟨h1,_⟩ | ⟨h1,ks,_,_,rfl⟩ | ⟨h1,h2⟩
   ·omega
   ·omega
   ·omega
   ·obtain rfl:=bY h1 dC
    have:=dq ks
    rw [bK] at htt
    exact aaP hr hn oM
   ·obtain rfl:=bY h1 dC
    rcases h2 with rfl | ⟨w,_,rfl⟩
    ·exact vH (.inl F) hr hn
    ·exact vH (.inr ⟨w,F⟩) hr hn
  ·exact aaO (eg hki h91 hrf)
theorem nN {b : Nat} {qs : List c8} (hS : ScI G b qs) (hw : SchW (al qs)) {p : List Int} {pv : Value} (hp : aN G pv 1 p.length (ag cL p)) (hpn : ∀ n ∈ p,0 ≤ n ∧ n ≤ 999999) (hpl : p.length ≤ 1000) {k : ael} {v : V} {c : VC} (hr : V.rep G v c) (ho : OfK (al qs) k v) (hki : ax (al qs) k = true) (htt : v.tot ≤ 1000000) :
  bJ aek 74 [Pt b 0,Ag (cT k),Ag (be c),pv] G (eY (al qs) (bP (al qs) k v p)):=by
 obtain ⟨pa,pc,rfl⟩:=hp.sl
 unfold cT
 have e0 : be c = [U8 (c.what : Nat),S c.text,I c.tag,.slice c.a c.n c.c]:=rfl
 rw [e0]
 refine jB [(0,_),(1,_),(2,_),(3,_)] Tryz.func74 Tryz.ntmps74 fun B hok hB hW=>?_
 repeat' (first | refine jR ?_ | (refine jo ?_;first | refine jO fun _=>?_ | refine jL fun _=>?_ | refine jV (af F) ?_))
 rename_i y5 y6 y8 y9
 refine aW (ι:=ael × V × VC × Nat × Gh) (fun j=>((V.rep j.2.2.2.2 j.2.1 j.2.2.1 ∧ OfK (al qs) j.1 j.2.1) ∧ (ax (al qs) j.1 = true ∧ j.2.1.tot ≤ 1000000)) ∧ (Gh.le G j.2.2.2.2 ∧ j.2.2.2.1 ≤ p.length) ∧ bP (al qs) k v p = bP (al qs) j.1 j.2.1 (p.drop j.2.2.2.1)) (fun j=>[(0,Pt b 0),(5,Pt y5 0),(6,Pt y6 0),(8,Pt y8 0),(9,Pt y9 0),(14,.slice pa p.length pc),(15,I p.length),(16,I j.2.2.2.1)]) (fun j=>j.2.2.2.2) (fun j=>[.blk y9 (.cells (List.toArray [U8 0,S [],I 0,aK]) di (0,0)),.blk y8 (.cells (List.toArray [S [],S [],S []]) fJ (0,0)),.blk y6 (.cells (List.toArray [U8 (j.2.2.1.what : Nat),S j.2.2.1.text,I j.2.2.1.tag,.slice j.2.2.1.a j.2.2.1.n j.2.2.1.c]) di (0,0)),.blk y5 (.cells (List.toArray [S (sg j.1),S (bs j.1),S (nm j.1)]) fJ (0,0))]) (fun j=>p.length - j.2.2.2.1) (k,v,c,0,G) ?_ tU F bc (fun j Hj=>?_)
 ·exact ⟨⟨⟨hr,ho⟩,hki,htt⟩,⟨Gh.le.refl _,Nat.zero_le _⟩,F⟩
 obtain ⟨k0,v0,c0,i,Gq⟩:=j
 dsimp only at Hj ⊢
 obtain ⟨⟨⟨hr0,ho0⟩,hk0,ht0⟩,⟨hgq,hi0⟩,he⟩:=Hj
 by_cases hi : i < p.length
 ·obtain ⟨xb,xo,xc,e,hs1⟩:=(hp.mono hgq).expl oM
  simp only [Value.slice.injEq] at e
  obtain ⟨rfl,-,rfl⟩:=e
  have hni:=hpn _ (bC hi)
  have hti : ab p i = ab p i:=rfl
  have hstp:=vI (hS.mono hgq) hw hk0 ho0 hr0 hni ht0
  unfold cT at hstp
  rw [show be c0 = [U8 (c0.what : Nat),S c0.text,I c0.tag,.slice c0.a c0.n c0.c] from rfl] at hstp
  rw [nz hi] at he
  cases hsv : aB (al qs) k0 v0 (ab p i) with
  | none =>
   have cx_stn:=eY.no hstp hsv
   rw [hsv] at he
   repeat' (first | refine jR ?_ | (refine jo ?_;first | refine jV (ak F F oM) ?_ | refine bO F ?_ | (refine jV (cn F F aS ?_ aS F) ?_;focus omega) | refine jC F F F ?_ | refine jV (ay F F) ?_ | (refine ar F F F cx_stn F ?_;rintro _ G hle rfl;skip)) | (refine ac F (by first | rfl | (refine decide_eq_true ?_;(omega))) ?_))
   all_goals refine jZ (vs:=[_,_,_]) F ⟨aJ F F F F,aJ F F F F,F,trivial⟩ F ⟨hgq.trans hle,F,?_⟩
   all_goals exact .inl ⟨he,F⟩
  | some y =>
   obtain ⟨k1,v1⟩:=y
   have cx_sty:=eY.yes hstp hsv
   rw [hsv] at he
   obtain ⟨g1,g2⟩:=cJ hw ho0 hk0 hni.1 hsv
   have g3:=kS hw ho0 hk0 hni.1 hsv ht0 oM
   repeat' (first | refine jM ?_ | (refine jo ?_;first | refine jV (ak F F oM) ?_ | refine bO F ?_ | (refine jV (cn F F aS ?_ aS F) ?_;focus omega) | refine jC F F F ?_ | (refine ar F F F cx_sty F ?_;rintro _ G hle ⟨cv,rfl,hrv⟩;skip)) | refine ac F (aA oM) ?_ | refine ad F F ?_)
   exact br (k1,v1,cv,i + 1,G) ⟨⟨⟨hrv,g1⟩,g2,g3⟩,⟨hgq.trans hle,by dsimp only;omega⟩,he⟩ (by dsimp only;omega) tU rfl bc
 ·have hd : p.drop i = []:=List.drop_eq_nil_of_le oM
  rw [hd] at he
  repeat' (first | refine jR ?_ | refine ad F (aH oM) ?_)
  (refine an (ao (id:=9) [.blk y6 (.cells (List.toArray [U8 (c0.what : Nat),S c0.text,I c0.tag,.slice c0.a c0.n c0.c]) di (0,0)),.blk y5 (.cells (List.toArray [S (sg k0),S (bs k0),S (nm k0)]) fJ (0,0))] (by intro y hy;simp only [List.mem_cons,List.not_mem_nil,or_false] at hy ⊢;rcases hy with hy | hy <;> simp [hy]) am ?_);(refine jG (aa 5 1) 0 F (bS F F F F) ?_);(refine jG (aa 5 3) 1 F (bS F F F F) ?_);refine jA 2 F ?_;(refine jC F F F ?_);refine jK (aa 5 7) ?_;refine jA 3 F ?_;(refine jC F F F ?_);refine jK (aa 5 15) ?_;refine jW 0 [4] (aa 5 31) ?_;refine jQ ?_)
  all_goals repeat' (refine jR ?_)
  all_goals refine jZ (vs:=[_,_,_]) F ⟨aJ F F F F,aJ F F F F,F,trivial⟩ F ⟨hgq,F,?_⟩
  all_goals exact .inr ⟨_,_,c0,he,F,hr0⟩
theorem om {s : ael} (h : s.length ≤ 1048576) (hp : df s = none) : ∀ G,bJ aek 73 [S s] G (fun v _=>∃ a c n,v = Tu [.slice a n c,Bo false] ∧ True):=fun G=>by
 refine (qq (G:=G) h).mono ?_
 rintro v G' L' ⟨h1,h2,a,c,n,rfl,_⟩
 exact ⟨h1,h2,a,c,n,by rw [hp];rfl,trivial⟩
theorem m5 {s : ael} {p : List Int} (h : s.length ≤ 1048576) (hp : df s = some p) : ∀ G,bJ aek 73 [S s] G (fun v G'=>∃ a c n,v = Tu [.slice a n c,Bo true] ∧ n = p.length ∧ aN G' (.slice a n c) 1 p.length (ag cL p)):=fun G=>by
 refine (qq (G:=G) h).mono ?_
 rintro v G' L' ⟨h1,h2,a,c,n,rfl,h3⟩
 exact ⟨h1,h2,a,c,n,by rw [hp];rfl,h3 p hp⟩
abbrev wc : TypeId:=4
abbrev yl : TypeId:=109
theorem acz {v : V} {c : VC} (h : V.rep G v c) (ht : v.tot ≤ 1000000) : a7 aek 76 [Ag (be c)] G (· = Bo (decide (v.out.length ≤ 400 ∧ v.deep ≤ 12))):=by
 have cx_pr:=ew (G:=G) v.tot (Nat.le_refl _) ht h
 have cx_dp:=xS (G:=G) v.tot (Nat.le_refl _) ht h
 have hdl:=ph v
 obtain ⟨w,tx,tg,a,m,kc⟩:=c
 have e0 : be ⟨w,tx,tg,a,m,kc⟩ = [U8 (w : Nat),S tx,I tg,.slice a m kc]:=rfl
 rw [e0] at cx_pr cx_dp ⊢
 by_cases h1 : v.out.length ≤ 400
 ·by_cases h2 : v.deep ≤ 12
  ·rw [decide_eq_true (p:=v.out.length ≤ 400 ∧ v.deep ≤ 12) ⟨h1,h2⟩]
   refine jE [(0,_)] Tryz.func76 Tryz.ntmps76 fun B hB=>?_
   repeat' (first | refine jR ?_ | (refine jo ?_;first | refine jO fun _=>?_ | refine bO F ?_ | refine aP F ?_ | refine ae F F F cx_pr F ?_ | refine ae F F F cx_dp F ?_) | refine aF F F (aA oM) ?_)
   all_goals refine jY (vs:=[_]) ?_
   all_goals (rw [aM,decide_eq_true oM])
  ·rw [decide_eq_false (p:=v.out.length ≤ 400 ∧ v.deep ≤ 12) (fun h=>h2 h.2)]
   refine jE [(0,_)] Tryz.func76 Tryz.ntmps76 fun B hB=>?_
   repeat' (first | refine jR ?_ | (refine jo ?_;first | refine jO fun _=>?_ | refine bO F ?_ | refine aP F ?_ | refine ae F F F cx_pr F ?_ | refine ae F F F cx_dp F ?_) | refine aF F F (aA oM) ?_)
   all_goals refine jY (vs:=[_]) ?_
   all_goals (rw [aM,decide_eq_false oM])
 ·rw [decide_eq_false (p:=v.out.length ≤ 400 ∧ v.deep ≤ 12) (fun h=>h1 h.1)]
  refine jE [(0,_)] Tryz.func76 Tryz.ntmps76 fun B hB=>?_
  repeat' (first | refine jR ?_ | (refine jo ?_;first | refine jO fun _=>?_ | refine bO F ?_ | refine aE F ?_ | refine ae F F F cx_pr F ?_) | refine aw F F (aH oM) ?_)
  all_goals refine jY (vs:=[_]) ?_
  all_goals rfl
def ng (bo bd bt bq bx : Nat) (told d : Bool) (pf : Value) (xc : List Value) (a : Option Addr) (k : Nat) (cs : List VC) : List Own :=
 [.acc (.slice a cs.length k) di 4 cs.length (ag be cs),.blk bd (.cells (List.toArray [Bo d]) wc (0,0)),.blk bt (.cells (List.toArray [Bo told]) wc (0,0)),.blk bo (.cells (List.toArray [U8 82,S [],I 0,.slice a cs.length k]) di (0,0)),.blk bx (.cells xc.toArray di (0,0)),.blk bq (.cells (List.toArray [pf]) yl (0,0))]
theorem aah {a : Own} {l r : List Own} : (a :: (l ++ r)).Perm (l ++ a :: r):=List.perm_middle.symm
theorem uF {G2 : Gh} {y : Nat} {t : Int} {x : V} {dx : VC} {gs : List V} {cs : List VC} (hG2 : Gh.le G G2) (htg : 0 ≤ t ∧ t ≤ 999999) (hx : V.rep G x dx) (hreps : V.reps G gs cs) (hsg : bU G2 y 0 [U8 (dx.what : Nat),S dx.text,I dx.tag,.slice dx.a dx.n dx.c]) : V.reps G2 (gs ++ [.nd 61 [] t [x]]) (cs ++ [⟨61,[],t,some ⟨y,0,none⟩,1,1⟩]) :=
 io (d4 dC htg (fun _=>rfl) rfl (cs:=[dx]) ⟨rfl,.inr ⟨y,0,1,rfl,Nat.le_refl _,hsg⟩⟩ (by rw [V.reps];exact ⟨dx,[],F,aD hG2 hx,by rw [V.reps]⟩)) (cO hG2 hreps)
theorem zX {bo bd bt bq bx bf of j : Nat} {told d : Bool} {t : Ty} {x : V} {dx : VC} {gs : List V} {cs : List VC} {a : Option Addr} {k : Nat} (hreps : V.reps G gs cs) (hx : V.rep G x dx) (hsf : bU G bf of (ag gG t.fields)) (hj : j < t.fields.length) (hgl : gs.length ≤ 1000000) (htg : 0 ≤ (ab t.fields j).tag ∧ (ab t.fields j).tag ≤ 999999) :
  Fn aek 153 [Pt bt 0,Pt bd 0,Pt bo 0,Pt bq 0,Pt bx 0] G (ng bo bd bt bq bx told d (Pt bf (of + j * 6)) [U8 (dx.what : Nat),S dx.text,I dx.tag,.slice dx.a dx.n dx.c] a k cs)
   (fun _ G' L'=>∃ cs2 a2 k2,Gh.le G G' ∧ V.reps G' (gs ++ (if told && !d then [.nd 61 [] (ab t.fields j).tag [x]] else [])) cs2 ∧ L' = ng bo bd bt bq bx told true (Pt bf (of + j * 6)) [U8 (dx.what : Nat),S dx.text,I dx.tag,.slice dx.a dx.n dx.c] a2 k2 cs2):=by
 have hcl:=gy hreps
 unfold ng
 cases told with
 | false =>
  rw [if_neg (by simp),List.append_nil]
  refine jB [(0,_),(1,_),(2,_),(3,_),(4,_)] Tryz.func153 Tryz.ntmps153 fun B hok hB hW=>?_
  repeat' (first | refine jR ?_ | (refine jo ?_;first | refine aC F ?_ | refine aE F ?_ | refine jD F F F ?_) | refine aw F F F ?_ | refine ad F F ?_)
  exact kC (vs:=[]) F trivial F (List.Sublist.refl _) ⟨cs,a,k,Gh.le.refl _,hreps,F⟩
 | true =>
  cases d with
  | true =>
   rw [if_neg (by simp),List.append_nil]
   refine jB [(0,_),(1,_),(2,_),(3,_),(4,_)] Tryz.func153 Tryz.ntmps153 fun B hok hB hW=>?_
   repeat' (first | refine jR ?_ | (refine jo ?_;first | refine aC F ?_ | refine aP F ?_ | refine jD F F F ?_) | refine aF F F F ?_ | refine ad F F ?_)
   exact kC (vs:=[]) F trivial F (List.Sublist.refl _) ⟨cs,a,k,Gh.le.refl _,hreps,F⟩
  | false =>
   rw [if_pos (by simp)]
   refine jB [(0,_),(1,_),(2,_),(3,_),(4,_)] Tryz.func153 Tryz.ntmps153 fun B hok hB hW=>?_
   repeat' (first | refine jR ?_ | (refine jo ?_;first | refine aC F ?_ | refine aP F ?_) | refine aF F F F ?_ | refine ac F F ?_)
   (refine an (ao (id:=1) [.blk bx (.cells (List.toArray [U8 (dx.what : Nat),S dx.text,I dx.tag,.slice dx.a dx.n dx.c]) di (0,0)),.blk bq (.cells (List.toArray [Pt bf (of + j * 6)]) yl (0,0))] (by intro y hy;simp only [List.mem_cons,List.not_mem_nil,or_false] at hy ⊢;rcases hy with hy | hy <;> simp [hy]) am ?_);refine jW 15 [0] (aa 16 1) ?_;(refine jG (aa 16 5) 2 F (aV F F F) ?_);refine jW 12 [3,4] (aa 16 29) ?_;((refine jG (aa 16 61) 5 F (b9 F F aS ?_ F F) ?_;focus omega));(refine jG (aa 16 125) 6 F (bS F F F F) ?_);refine b8 [1,7,10] kR dC ⟨?_,?_,?_,trivial⟩;(focus (refine aO F F ?_;(refine aC F ?_);refine jK (aa 16 127) ?_;(refine jG (aa 16 639) 9 F (af F) ?_);refine b8 [7,10] kR dC ⟨?_,?_,trivial⟩;(focus (refine aO F F ?_;(refine jF fun _=>?_);refine jK (aa 16 767) ?_;(refine jG (aa 16 1023) 8 F (ay F F) ?_);refine jA 10 F ?_;(refine jF fun _=>?_);refine jK (aa 16 2047) ?_;refine jA 11 F ?_;((refine bG F F F F F F F F F ?_ fun _ _=>?_;focus omega));refine jK (aa 16 4095) ?_;refine jW 3 [14] (aa 16 20479) ?_;((refine jG (aa 16 24575) 12 F (ak F F ?_) ?_;focus omega));refine b8 [13,15] kR dC ⟨?_,?_,trivial⟩;(focus (refine aO F F ?_;((refine d8 F F F F F F F F inferInstance ?_ ?_;(focus ((rw [cS];omega);done))));refine jK (aa 16 32767) ?_;refine jA 15 F ?_;(refine jD F F F ?_);refine jK (aa 16 65535) ?_;refine jQ ?_));rotate_left 1;(focus (refine aO F F ?_;(refine jD F F F ?_);refine jK (aa 16 57343) ?_;refine jA 13 F ?_;((refine d8 F F F F F F F F inferInstance ?_ ?_;(focus ((rw [cS];omega);done))));refine jK (aa 16 65535) ?_;refine jQ ?_));rotate_left 1));rotate_left 2;(focus (refine aO F F ?_;(refine jF fun _=>?_);refine jK (aa 16 1663) ?_;refine jA 7 F ?_;(refine jF fun _=>?_);refine jK (aa 16 1791) ?_;(refine jG (aa 16 2047) 8 F (ay F F) ?_);refine jA 11 F ?_;((refine bG F F F F F F F F F ?_ fun _ _=>?_;focus omega));refine jK (aa 16 4095) ?_;refine jW 3 [14] (aa 16 20479) ?_;((refine jG (aa 16 24575) 12 F (ak F F ?_) ?_;focus omega));refine b8 [13,15] kR dC ⟨?_,?_,trivial⟩;(focus (refine aO F F ?_;((refine d8 F F F F F F F F inferInstance ?_ ?_;(focus ((rw [cS];omega);done))));refine jK (aa 16 32767) ?_;refine jA 15 F ?_;(refine jD F F F ?_);refine jK (aa 16 65535) ?_;refine jQ ?_));rotate_left 1;(focus (refine aO F F ?_;(refine jD F F F ?_);refine jK (aa 16 57343) ?_;refine jA 13 F ?_;((refine d8 F F F F F F F F inferInstance ?_ ?_;(focus ((rw [cS];omega);done))));refine jK (aa 16 65535) ?_;refine jQ ?_));rotate_left 1));rotate_left 2));rotate_left 4;(focus (refine aO F F ?_;(refine jF fun _=>?_);refine jK (aa 16 253) ?_;(refine jG (aa 16 509) 8 F (ay F F) ?_);refine b8 [1,10] kR dC ⟨?_,?_,trivial⟩;(focus (refine aO F F ?_;(refine aC F ?_);refine jK (aa 16 511) ?_;(refine jG (aa 16 1023) 9 F (af F) ?_);refine jA 10 F ?_;(refine jF fun _=>?_);refine jK (aa 16 2047) ?_;refine jA 11 F ?_;((refine bG F F F F F F F F F ?_ fun _ _=>?_;focus omega));refine jK (aa 16 4095) ?_;refine jW 3 [14] (aa 16 20479) ?_;((refine jG (aa 16 24575) 12 F (ak F F ?_) ?_;focus omega));refine b8 [13,15] kR dC ⟨?_,?_,trivial⟩;(focus (refine aO F F ?_;((refine d8 F F F F F F F F inferInstance ?_ ?_;(focus ((rw [cS];omega);done))));refine jK (aa 16 32767) ?_;refine jA 15 F ?_;(refine jD F F F ?_);refine jK (aa 16 65535) ?_;refine jQ ?_));rotate_left 1;(focus (refine aO F F ?_;(refine jD F F F ?_);refine jK (aa 16 57343) ?_;refine jA 13 F ?_;((refine d8 F F F F F F F F inferInstance ?_ ?_;(focus ((rw [cS];omega);done))));refine jK (aa 16 65535) ?_;refine jQ ?_));rotate_left 1));rotate_left 2;(focus (refine aO F F ?_;(refine jF fun _=>?_);refine jK (aa 16 1533) ?_;refine jA 1 F ?_;(refine aC F ?_);refine jK (aa 16 1535) ?_;(refine jG (aa 16 2047) 9 F (af F) ?_);refine jA 11 F ?_;((refine bG F F F F F F F F F ?_ fun _ _=>?_;focus omega));refine jK (aa 16 4095) ?_;refine jW 3 [14] (aa 16 20479) ?_;((refine jG (aa 16 24575) 12 F (ak F F ?_) ?_;focus omega));refine b8 [13,15] kR dC ⟨?_,?_,trivial⟩;(focus (refine aO F F ?_;((refine d8 F F F F F F F F inferInstance ?_ ?_;(focus ((rw [cS];omega);done))));refine jK (aa 16 32767) ?_;refine jA 15 F ?_;(refine jD F F F ?_);refine jK (aa 16 65535) ?_;refine jQ ?_));rotate_left 1;(focus (refine aO F F ?_;(refine jD F F F ?_);refine jK (aa 16 57343) ?_;refine jA 13 F ?_;((refine d8 F F F F F F F F inferInstance ?_ ?_;(focus ((rw [cS];omega);done))));refine jK (aa 16 65535) ?_;refine jQ ?_));rotate_left 1));rotate_left 2));rotate_left 4;(focus (refine aO F F ?_;(refine jF fun _=>?_);refine jK (aa 16 1149) ?_;refine b8 [1,7] kR dC ⟨?_,?_,trivial⟩;(focus (refine aO F F ?_;(refine aC F ?_);refine jK (aa 16 1151) ?_;(refine jG (aa 16 1663) 9 F (af F) ?_);refine jA 7 F ?_;(refine jF fun _=>?_);refine jK (aa 16 1791) ?_;(refine jG (aa 16 2047) 8 F (ay F F) ?_);refine jA 11 F ?_;((refine bG F F F F F F F F F ?_ fun _ _=>?_;focus omega));refine jK (aa 16 4095) ?_;refine jW 3 [14] (aa 16 20479) ?_;((refine jG (aa 16 24575) 12 F (ak F F ?_) ?_;focus omega));refine b8 [13,15] kR dC ⟨?_,?_,trivial⟩;(focus (refine aO F F ?_;((refine d8 F F F F F F F F inferInstance ?_ ?_;(focus ((rw [cS];omega);done))));refine jK (aa 16 32767) ?_;refine jA 15 F ?_;(refine jD F F F ?_);refine jK (aa 16 65535) ?_;refine jQ ?_));rotate_left 1;(focus (refine aO F F ?_;(refine jD F F F ?_);refine jK (aa 16 57343) ?_;refine jA 13 F ?_;((refine d8 F F F F F F F F inferInstance ?_ ?_;(focus ((rw [cS];omega);done))));refine jK (aa 16 65535) ?_;refine jQ ?_));rotate_left 1));rotate_left 2;(focus (refine aO F F ?_;(refine jF fun _=>?_);refine jK (aa 16 1277) ?_;(refine jG (aa 16 1533) 8 F (ay F F) ?_);refine jA 1 F ?_;(refine aC F ?_);refine jK (aa 16 1535) ?_;(refine jG (aa 16 2047) 9 F (af F) ?_);refine jA 11 F ?_;((refine bG F F F F F F F F F ?_ fun _ _=>?_;focus omega));refine jK (aa 16 4095) ?_;refine jW 3 [14] (aa 16 20479) ?_;((refine jG (aa 16 24575) 12 F (ak F F ?_) ?_;focus omega));refine b8 [13,15] kR dC ⟨?_,?_,trivial⟩;(focus (refine aO F F ?_;((refine d8 F F F F F F F F inferInstance ?_ ?_;(focus ((rw [cS];omega);done))));refine jK (aa 16 32767) ?_;refine jA 15 F ?_;(refine jD F F F ?_);refine jK (aa 16 65535) ?_;refine jQ ?_));rotate_left 1;(focus (refine aO F F ?_;(refine jD F F F ?_);refine jK (aa 16 57343) ?_;refine jA 13 F ?_;((refine d8 F F F F F F F F inferInstance ?_ ?_;(focus ((rw [cS];omega);done))));refine jK (aa 16 65535) ?_;refine jQ ?_));rotate_left 1));rotate_left 2));rotate_left 4)
   all_goals repeat' (first | refine jR ?_ | (refine jo ?_;refine jD F F F ?_))
   all_goals
    rename_i x3 x2 x1 k1
    have hlen : ∀ y : Nat,(cs ++ [(⟨61,[],(ab t.fields j).tag,some ⟨y,0,none⟩,1,1⟩ : VC)]).length = cs.length + 1:=fun y=>by simp
    first | (refine Nx.sealC (b:=x3) fun G2 hG2 hsg=>?_;refine kC (vs:=[]) F trivial F ?_ ⟨_,some ⟨x1,0,none⟩,k1,hG2,uF (y:=x3) hG2 htg hx hreps hsg,F⟩;rw [hlen,← (show ag be cs ++ [U8 ((61 : Nat) : Int),S [],I (ab t.fields j).tag,.slice (some ⟨x3,0,none⟩) 1 1] = _ from (bX be cs (⟨61,[],(ab t.fields j).tag,some ⟨x3,0,none⟩,1,1⟩ : VC)).symm)];repeat (first | exact List.Sublist.refl _ | apply List.Sublist.cons_cons | apply List.Sublist.cons)) | (refine Nx.sealC (b:=x2) fun G2 hG2 hsg=>?_;refine kC (vs:=[]) F trivial F ?_ ⟨_,some ⟨x1,0,none⟩,k1,hG2,uF (y:=x2) hG2 htg hx hreps hsg,F⟩;rw [hlen,← (show ag be cs ++ [U8 ((61 : Nat) : Int),S [],I (ab t.fields j).tag,.slice (some ⟨x2,0,none⟩) 1 1] = _ from (bX be cs (⟨61,[],(ab t.fields j).tag,some ⟨x2,0,none⟩,1,1⟩ : VC)).symm)];repeat (first | exact List.Sublist.refl _ | apply List.Sublist.cons_cons | apply List.Sublist.cons))
theorem aaf {α : Type} [Inhabited α] {tg : α → Int} {told : Bool} {node : α} {tag : Int} {l : List α} {i : Nat} (hi : i < l.length) {d : Bool} : iA tg told node tag (l.drop i) d = (if tag ≤ tg (ab l i) ∧ (told && !d) = true then [node] else []) ++ ((if tg (ab l i) = tag then [] else [ab l i]) ++ iA tg told node tag (l.drop (i + 1)) (d || decide (tag ≤ tg (ab l i)))):=by
 rw [List.drop_eq_getElem_cons hi,aI hi,iA]
theorem adn {b bf of j : Nat} {qs : List c8} {t : Ty} {fs : List (Fld × V)} {c dx : VC} {x : V} (hS : ScI G b qs) (hw : SchW (al qs)) (ht : t ∈ al qs) (hso : t.sort = 82) (hsf : bU G bf of (ag gG t.fields)) (hj : j < t.fields.length) (hrep : V.rep G (.nd 82 [] 0 (fs.map aq)) c) (hx : V.rep G x dx) (h9 : fs.length ≤ 90000) (hxt : x.tot ≤ 1000000) (hsr : lL (fs.map aq)) :
  bJ aek 121 [Pt b 0,Ag (be c),Pt bf (of + j * 6),Ag (be dx)] G (fun r G'=>∃ c',r = Ag (be c') ∧ V.rep G' (.nd 82 [] 0 (cV (al qs) (ab t.fields j) x (fs.map aq))) c'):=by
 have hTW:=hw.ty t ht
 have hfm : ab t.fields j ∈ t.fields:=bC hj
 have htg:=(hTW.fld _ hfm).tag
 have hdk : ax (al qs) (ab t.fields j).kind = true:=d6 hw ht oM hfm
 have cx_of:=wG hS hw hsf hj hdk
 have cx_pr:=ew (G:=G) (c:=dx) x.tot (Nat.le_refl _) hxt hx
 obtain ⟨a,k,cs,rfl,_,_,_,hcl,hsl,hrs⟩:=cU hrep
 have e0 : be ⟨82,[],0,a,(fs.map aq).length,k⟩ = [U8 (82 : Nat),S [],I 0,.slice a (fs.map aq).length k]:=rfl
 have e1 : be dx = [U8 (dx.what : Nat),S dx.text,I dx.tag,.slice dx.a dx.n dx.c]:=rfl
 rw [e0]
 rw [e1] at cx_pr ⊢
 have hml : (fs.map aq).length = fs.length:=by simp
 have hnt : ∀ i,i < fs.length → ab (fs.map aq) i = aq (ab fs i):=fun i hi=>by rw [aI (by simpa using hi),aI hi];simp
 have hrn : ∀ i,i < fs.length → V.rep G (aq (ab fs i)) (ab cs i):=fun i hi=>by
  have:=fZ hrs i oM
  rwa [hnt i hi] at this
 obtain ⟨told,htold⟩ : ∃ told,decide (x.out ≠ bT (al qs) (ab t.fields j)) = told:=⟨_,rfl⟩
 have hput : iA V.tag told (.nd 61 [] (ab t.fields j).tag [x]) (ab t.fields j).tag (fs.map aq) false = cV (al qs) (ab t.fields j) x (fs.map aq):=by rw [← htold];exact vj hsr
 refine jB [(0,_),(1,_),(2,_),(3,_)] Tryz.func121 Tryz.ntmps121 fun B hok hB hW=>?_
 repeat' (first | refine jR ?_ | (refine jo ?_;first | refine jO fun _=>?_ | refine jL fun _=>?_ | refine jV (ay F F) ?_ | refine jD F F F ?_ | refine jC F F F ?_ | refine aC F ?_ | refine jV (ml F F) ?_ | refine jV (af F) ?_) | (refine an (ao (id:=2) _ (fun _ h=>h) am ?_);refine jT 7 [2] (aa 8 4) ?_;(refine jG (aa 8 5) 0 F (bS F F F F) ?_);(refine jG (aa 8 13) 3 F (aV F F F) ?_);refine b8 [1,6] kR dC ⟨?_,?_,trivial⟩;(focus (refine aO F F ?_;(refine ae F F F cx_pr F ?_);refine jK (aa 8 15) ?_;refine b8 [4,6] kR dC ⟨?_,?_,trivial⟩;(focus (refine aO F F ?_;(refine ae F F F cx_of F ?_);refine jK (aa 8 31) ?_;refine jW 2 [5] (aa 8 63) ?_;refine jA 6 F ?_;(refine jL fun _=>?_);refine jK (aa 8 127) ?_;refine jA 7 F ?_;(refine jD F F F ?_);refine jK (aa 8 255) ?_;refine jQ ?_));rotate_left 1;(focus (refine aO F F ?_;(refine jL fun _=>?_);refine jK (aa 8 79) ?_;refine jA 4 F ?_;(refine ae F F F cx_of F ?_);refine jK (aa 8 95) ?_;refine jW 1 [5] (aa 8 127) ?_;refine jA 7 F ?_;(refine jD F F F ?_);refine jK (aa 8 255) ?_;refine jQ ?_));rotate_left 1));rotate_left 2;(focus (refine aO F F ?_;(refine jL fun _=>?_);refine jK (aa 8 77) ?_;refine jA 1 F ?_;(refine ae F F F cx_pr F ?_);refine jK (aa 8 79) ?_;refine jA 4 F ?_;(refine ae F F F cx_of F ?_);refine jK (aa 8 95) ?_;refine jW 1 [5] (aa 8 127) ?_;refine jA 7 F ?_;(refine jD F F F ?_);refine jK (aa 8 255) ?_;refine jQ ?_));rotate_left 1))
 all_goals
  rw [← hput]
  rename_i y6 y5 y4 y3 y2 y1 y0
  rw [htold]
  refine Nx.addNil di 4 (Nx.perm (.cons _ (.cons _ (.cons _ (.cons _ ((List.Perm.swap _ _ _).trans (.cons _ (List.Perm.swap _ _ _))))))) ?_)
  refine aW (ι:=List V × List VC × Option Addr × Nat × Bool × Nat × Gh) (fun q=>(V.reps q.2.2.2.2.2.2 q.1 q.2.1 ∧ Gh.le G q.2.2.2.2.2.2) ∧ (q.2.2.2.2.2.1 ≤ fs.length ∧ q.1.length ≤ 2 * q.2.2.2.2.2.1 + 1) ∧ iA V.tag told (.nd 61 [] (ab t.fields j).tag [x]) (ab t.fields j).tag (fs.map aq) false = q.1 ++ iA V.tag told (.nd 61 [] (ab t.fields j).tag [x]) (ab t.fields j).tag ((fs.map aq).drop q.2.2.2.2.2.1) q.2.2.2.2.1) (fun q=>[(9,Pt y2 0),(12,.func (.func 153) #[] #[Pt y1 0,Pt y0 0,Pt y2 0,Pt y5 0,Pt y4 0]),(6,Pt y5 0),(24,.slice a (fs.map aq).length k),(25,I (fs.map aq).length),(26,I q.2.2.2.2.2.1),(8,Pt y3 0)]) (fun q=>q.2.2.2.2.2.2) (fun q=>[.acc (.slice q.2.2.1 q.2.1.length q.2.2.2.1) di 4 q.2.1.length (ag be q.2.1),.blk y0 (.cells (List.toArray [Bo q.2.2.2.2.1]) wc (0,0)),.blk y1 (.cells (List.toArray [Bo told]) wc (0,0)),.blk y2 (.cells (List.toArray [U8 82,S [],I 0,.slice q.2.2.1 q.2.1.length q.2.2.2.1]) di (0,0)),.blk y4 (.cells (List.toArray [U8 (dx.what : Nat),S dx.text,I dx.tag,.slice dx.a dx.n dx.c]) di (0,0)),.blk y5 (.cells (List.toArray [Pt bf (of + j * 6)]) yl (0,0)),.blk y3 (.cells (List.toArray [U8 0,S [],I 0,aK]) di (0,0))]) (fun q=>fs.length - q.2.2.2.2.2.1) ([],[],none,0,false,0,G) ?_ tU F sB (fun q Hq=>?_)
  ·exact ⟨⟨by rw [V.reps],Gh.le.refl _⟩,⟨Nat.zero_le _,Nat.zero_le _⟩,F⟩
  obtain ⟨gs,cs1,a1,k1,d,i,Gq⟩:=q
  dsimp only at Hq ⊢
  obtain ⟨⟨hreps,hgq⟩,⟨hi0,hgl⟩,hinv⟩:=Hq
  have hcl1:=gy hreps
  have hsf2:=hsf.mono hgq
  by_cases hi : i < fs.length
  ·have hpa:=aaf (tg:=V.tag) (told:=told) (node:=.nd 61 [] (ab t.fields j).tag [x]) (tag:=(ab t.fields j).tag) (l:=fs.map aq) (i:=i) oM (d:=d)
   rw [hnt i hi,show (aq (ab fs i)).tag = (ab fs i).1.tag from rfl] at hpa
   rw [hpa] at hinv
   clear hpa
   obtain ⟨xb,xo,xc,e,hsx⟩:=(hsl.mono hgq).expl oM
   simp only [Value.slice.injEq] at e
   obtain ⟨rfl,-,rfl⟩:=e
   have hri:=aD hgq (hrn i hi)
   obtain ⟨ai,ki,csi,hci,_,_,_,hcli,hsli,hrsi⟩:=cU hri
   have hci : ab cs i = ⟨61,[],(ab fs i).1.tag,ai,1,ki⟩:=hci
   by_cases hge : (ab t.fields j).tag ≤ (ab fs i).1.tag
   ·rw [decide_eq_true hge] at hinv
    simp only [hge,true_and,Bool.or_true] at hinv
    repeat' (first | refine jR ?_ | (refine jo ?_;first | refine jL fun _=>?_ | refine jC F F F ?_ | (refine jV (gY F F aS ?_ aS) ?_;focus omega) | refine jV (ak F F oM) ?_) | refine ac F (aA oM) ?_)
    dsimp only [VC.sl]
    rename_i yz
    (refine an (ao (id:=8) _ (fun _ h=>h) am ?_);refine jT 6 [0] (aa 7 1) ?_;(refine jG (aa 7 3) 1 F (aV F F F) ?_);(refine jG (aa 7 7) 2 F (aV F F F) ?_);refine jT 2 [3,4] (aa 7 31) ?_;((refine jG (aa 7 63) 5 F (b9 F F aS ?_ F F) ?_;focus omega));refine jT 0 [6] (aa 7 127) ?_;refine jQ ?_)
    repeat' (first | refine jR ?_ | refine ac F (aA ‹_›) ?_)
    refine jo ?_
    refine iL (vs:=[Pt y1 0,Pt y0 0,Pt y2 0,Pt y5 0,Pt y4 0]) (Lp:=ng y2 y0 y1 y5 y4 told d (Pt bf (of + j * 6)) [U8 (dx.what : Nat),S dx.text,I dx.tag,.slice dx.a dx.n dx.c] a1 k1 cs1) (R:=[_,_]) F F F (zX hreps (aD hgq hx) hsf2 hj oM ⟨oM,oM⟩) (aah (l:=ng y2 y0 y1 y5 y4 told d (Pt bf (of + j * 6)) [U8 (dx.what : Nat),S dx.text,I dx.tag,.slice dx.a dx.n dx.c] a1 k1 cs1) (r:=[_])) F ?_
    rintro r3 G3 L3 ⟨cs2,a2,k2,hle,hr2,rfl⟩
    simp only [ng,List.cons_append,List.nil_append]
    have hcl2:=gy hr2
    have hl2 : cs2.length ≤ cs1.length + 1:=by rw [hcl2,hcl1,List.length_append];split <;> simp
    have hsf3:=hsf2.mono hle
    by_cases heq : (ab fs i).1.tag = (ab t.fields j).tag
    ·rw [if_pos heq,List.nil_append,← List.append_assoc] at hinv
     repeat' (refine jR ?_)
     (refine an (ao (id:=10) _ (fun _ h=>h) am ?_);refine jT 6 [0] (aa 7 1) ?_;(refine jG (aa 7 3) 1 F (aV F F F) ?_);(refine jG (aa 7 7) 2 F (aV F F F) ?_);refine jT 2 [3,4] (aa 7 31) ?_;((refine jG (aa 7 63) 5 F (b9 F F aS ?_ F F) ?_;focus omega));refine jT 0 [6] (aa 7 127) ?_;refine jQ ?_)
     repeat' (first | refine jM ?_ | refine ad F (aH oM) ?_)
     exact br (_,cs2,a2,k2,true,i + 1,G3) ⟨⟨hr2,hgq.trans hle⟩,⟨by dsimp only;omega,by dsimp only;split <;> simp <;> omega⟩,hinv⟩ (by dsimp only;omega) tU rfl sB
    ·rw [if_neg heq,← List.append_assoc,← List.append_assoc] at hinv
     repeat' (refine jR ?_)
     (refine an (ao (id:=10) _ (fun _ h=>h) am ?_);refine jT 6 [0] (aa 7 1) ?_;(refine jG (aa 7 3) 1 F (aV F F F) ?_);(refine jG (aa 7 7) 2 F (aV F F F) ?_);refine jT 2 [3,4] (aa 7 31) ?_;((refine jG (aa 7 63) 5 F (b9 F F aS ?_ F F) ?_;focus omega));refine jT 0 [6] (aa 7 127) ?_;refine jQ ?_)
     repeat' (first | refine jR ?_ | refine ac F (aA ‹_›) ?_)
     (refine an (ao (id:=11) [.blk yz (.cells (List.toArray [U8 (61 : Nat),S [],I (ab fs i).1.tag,.slice ai 1 ki]) di (0,0))] (by intro y hy;simp only [List.mem_cons,List.not_mem_nil,or_false] at hy ⊢;simp [hy]) am ?_);refine jW 9 [0] (aa 10 1) ?_;(refine jG (aa 10 5) 2 F (bS F F F F) ?_);refine b8 [1,4] kR dC ⟨?_,?_,trivial⟩;(focus (refine aO F F ?_;(refine aC F ?_);refine jK (aa 10 7) ?_;(refine jG (aa 10 15) 3 F (af F) ?_);refine jA 4 F ?_;(refine jF fun _=>?_);refine jK (aa 10 31) ?_;refine jA 5 F ?_;((refine bG F F F F F F F F F ?_ fun _ _=>?_;focus omega));refine jK (aa 10 63) ?_;refine jW 3 [8] (aa 10 319) ?_;((refine jG (aa 10 383) 6 F (ak F F ?_) ?_;focus omega));refine b8 [7,9] kR dC ⟨?_,?_,trivial⟩;(focus (refine aO F F ?_;((refine d8 F F F F F F F F inferInstance ?_ ?_;(focus ((rw [cS];omega);done))));refine jK (aa 10 511) ?_;refine jA 9 F ?_;(refine jD F F F ?_);refine jK (aa 10 1023) ?_;refine jQ ?_));rotate_left 1;(focus (refine aO F F ?_;(refine jD F F F ?_);refine jK (aa 10 895) ?_;refine jA 7 F ?_;((refine d8 F F F F F F F F inferInstance ?_ ?_;(focus ((rw [cS];omega);done))));refine jK (aa 10 1023) ?_;refine jQ ?_));rotate_left 1));rotate_left 2;(focus (refine aO F F ?_;(refine jF fun _=>?_);refine jK (aa 10 21) ?_;refine jA 1 F ?_;(refine aC F ?_);refine jK (aa 10 23) ?_;(refine jG (aa 10 31) 3 F (af F) ?_);refine jA 5 F ?_;((refine bG F F F F F F F F F ?_ fun _ _=>?_;focus omega));refine jK (aa 10 63) ?_;refine jW 3 [8] (aa 10 319) ?_;((refine jG (aa 10 383) 6 F (ak F F ?_) ?_;focus omega));refine b8 [7,9] kR dC ⟨?_,?_,trivial⟩;(focus (refine aO F F ?_;((refine d8 F F F F F F F F inferInstance ?_ ?_;(focus ((rw [cS];omega);done))));refine jK (aa 10 511) ?_;refine jA 9 F ?_;(refine jD F F F ?_);refine jK (aa 10 1023) ?_;refine jQ ?_));rotate_left 1;(focus (refine aO F F ?_;(refine jD F F F ?_);refine jK (aa 10 895) ?_;refine jA 7 F ?_;((refine d8 F F F F F F F F inferInstance ?_ ?_;(focus ((rw [cS];omega);done))));refine jK (aa 10 1023) ?_;refine jQ ?_));rotate_left 1));rotate_left 2)
     all_goals repeat' (refine jM ?_)
     all_goals
      rename_i _ z1 zc
      rw [show ag be cs2 ++ [U8 (61 : Nat),S [],I (ab fs i).1.tag,.slice ai 1 ki] = ag be (cs2 ++ [⟨61,[],(ab fs i).1.tag,ai,1,ki⟩]) from (bX be cs2 (⟨61,[],(ab fs i).1.tag,ai,1,ki⟩ : VC)).symm,← show (cs2 ++ [(⟨61,[],(ab fs i).1.tag,ai,1,ki⟩ : VC)]).length = cs2.length + 1 by simp]
      exact br (_,cs2 ++ [⟨61,[],(ab fs i).1.tag,ai,1,ki⟩],some ⟨z1,0,none⟩,zc,true,i + 1,G3) ⟨⟨io (hci ▸ aD hle hri) hr2,hgq.trans hle⟩,⟨by dsimp only;omega,by dsimp only;simp only [List.length_append,List.length_cons,List.length_nil];split <;> simp <;> omega⟩,hinv⟩ (by dsimp only;omega) tU rfl sB
   ·have heq : ¬ (ab fs i).1.tag = (ab t.fields j).tag:=oM
    rw [decide_eq_false hge,if_neg (fun h=>hge h.1),if_neg heq,Bool.or_false,List.nil_append,← List.append_assoc] at hinv
    repeat' (first | refine jR ?_ | (refine jo ?_;first | refine jL fun _=>?_ | refine jC F F F ?_ | (refine jV (gY F F aS ?_ aS) ?_;focus omega) | refine jV (ak F F oM) ?_) | refine ac F (aA oM) ?_)
    dsimp only [VC.sl]
    rename_i yz
    (refine an (ao (id:=8) _ (fun _ h=>h) am ?_);refine jT 6 [0] (aa 7 1) ?_;(refine jG (aa 7 3) 1 F (aV F F F) ?_);(refine jG (aa 7 7) 2 F (aV F F F) ?_);refine jT 2 [3,4] (aa 7 31) ?_;((refine jG (aa 7 63) 5 F (b9 F F aS ?_ F F) ?_;focus omega));refine jT 0 [6] (aa 7 127) ?_;refine jQ ?_)
    repeat' (first | refine jR ?_ | refine ad F (aH ‹_›) ?_)
    (refine an (ao (id:=10) _ (fun _ h=>h) am ?_);refine jT 6 [0] (aa 7 1) ?_;(refine jG (aa 7 3) 1 F (aV F F F) ?_);(refine jG (aa 7 7) 2 F (aV F F F) ?_);refine jT 2 [3,4] (aa 7 31) ?_;((refine jG (aa 7 63) 5 F (b9 F F aS ?_ F F) ?_;focus omega));refine jT 0 [6] (aa 7 127) ?_;refine jQ ?_)
    repeat' (first | refine jR ?_ | refine ac F (aA ‹_›) ?_)
    (refine an (ao (id:=11) [.blk yz (.cells (List.toArray [U8 (61 : Nat),S [],I (ab fs i).1.tag,.slice ai 1 ki]) di (0,0))] (by intro y hy;simp only [List.mem_cons,List.not_mem_nil,or_false] at hy ⊢;simp [hy]) am ?_);refine jW 9 [0] (aa 10 1) ?_;(refine jG (aa 10 5) 2 F (bS F F F F) ?_);refine b8 [1,4] kR dC ⟨?_,?_,trivial⟩;(focus (refine aO F F ?_;(refine aC F ?_);refine jK (aa 10 7) ?_;(refine jG (aa 10 15) 3 F (af F) ?_);refine jA 4 F ?_;(refine jF fun _=>?_);refine jK (aa 10 31) ?_;refine jA 5 F ?_;((refine bG F F F F F F F F F ?_ fun _ _=>?_;focus omega));refine jK (aa 10 63) ?_;refine jW 3 [8] (aa 10 319) ?_;((refine jG (aa 10 383) 6 F (ak F F ?_) ?_;focus omega));refine b8 [7,9] kR dC ⟨?_,?_,trivial⟩;(focus (refine aO F F ?_;((refine d8 F F F F F F F F inferInstance ?_ ?_;(focus ((rw [cS];omega);done))));refine jK (aa 10 511) ?_;refine jA 9 F ?_;(refine jD F F F ?_);refine jK (aa 10 1023) ?_;refine jQ ?_));rotate_left 1;(focus (refine aO F F ?_;(refine jD F F F ?_);refine jK (aa 10 895) ?_;refine jA 7 F ?_;((refine d8 F F F F F F F F inferInstance ?_ ?_;(focus ((rw [cS];omega);done))));refine jK (aa 10 1023) ?_;refine jQ ?_));rotate_left 1));rotate_left 2;(focus (refine aO F F ?_;(refine jF fun _=>?_);refine jK (aa 10 21) ?_;refine jA 1 F ?_;(refine aC F ?_);refine jK (aa 10 23) ?_;(refine jG (aa 10 31) 3 F (af F) ?_);refine jA 5 F ?_;((refine bG F F F F F F F F F ?_ fun _ _=>?_;focus omega));refine jK (aa 10 63) ?_;refine jW 3 [8] (aa 10 319) ?_;((refine jG (aa 10 383) 6 F (ak F F ?_) ?_;focus omega));refine b8 [7,9] kR dC ⟨?_,?_,trivial⟩;(focus (refine aO F F ?_;((refine d8 F F F F F F F F inferInstance ?_ ?_;(focus ((rw [cS];omega);done))));refine jK (aa 10 511) ?_;refine jA 9 F ?_;(refine jD F F F ?_);refine jK (aa 10 1023) ?_;refine jQ ?_));rotate_left 1;(focus (refine aO F F ?_;(refine jD F F F ?_);refine jK (aa 10 895) ?_;refine jA 7 F ?_;((refine d8 F F F F F F F F inferInstance ?_ ?_;(focus ((rw [cS];omega);done))));refine jK (aa 10 1023) ?_;refine jQ ?_));rotate_left 1));rotate_left 2)
    all_goals repeat' (refine jM ?_)
    all_goals
     rename_i _ z1 zc
     rw [show ag be cs1 ++ [U8 (61 : Nat),S [],I (ab fs i).1.tag,.slice ai 1 ki] = ag be (cs1 ++ [⟨61,[],(ab fs i).1.tag,ai,1,ki⟩]) from (bX be cs1 (⟨61,[],(ab fs i).1.tag,ai,1,ki⟩ : VC)).symm,← show (cs1 ++ [(⟨61,[],(ab fs i).1.tag,ai,1,ki⟩ : VC)]).length = cs1.length + 1 by simp]
     exact br (_,cs1 ++ [⟨61,[],(ab fs i).1.tag,ai,1,ki⟩],some ⟨z1,0,none⟩,zc,d,i + 1,Gq) ⟨⟨io (hci ▸ hri) hreps,hgq⟩,⟨by dsimp only;omega,by dsimp only;simp only [List.length_append,List.length_cons,List.length_nil];omega⟩,hinv⟩ (by dsimp only;omega) tU rfl sB
  ·rw [List.drop_eq_nil_of_le oM,iA] at hinv
   repeat' (first | refine jR ?_ | refine ad F (aH oM) ?_)
   refine jo ?_
   refine iL (vs:=[Pt y1 0,Pt y0 0,Pt y2 0,Pt y5 0,Pt y4 0]) (Lp:=ng y2 y0 y1 y5 y4 told d (Pt bf (of + j * 6)) [U8 (dx.what : Nat),S dx.text,I dx.tag,.slice dx.a dx.n dx.c] a1 k1 cs1) (R:=[_]) F F F (zX hreps (aD hgq hx) hsf2 hj oM ⟨oM,oM⟩) (List.Perm.refl _) F ?_
   rintro r3 G3 L3 ⟨cs2,a2,k2,hle,hr2,rfl⟩
   simp only [ng,List.cons_append,List.nil_append]
   have hcl2:=gy hr2
   repeat' (first | refine jR ?_ | (refine jo ?_;first | refine jC F F F ?_ | refine bO F ?_))
   refine Nx.sealS (v:=.slice a2 cs2.length k2) fun G5 hG5 hsl5=>?_
   refine jZ (vs:=[_]) F ⟨aJ F F F F,trivial⟩ F ⟨((hgq.trans hle).trans hG5),F,?_⟩
   exact ⟨⟨82,[],0,a2,cs2.length,k2⟩,F,by rw [hinv];exact d4 dC dC (fun h=>absurd h dC) hcl2 hsl5 (cO hG5 hr2)⟩
theorem xz {b o c : Nat} {n : Int} {p : List Int} (h : aN G (.slice (some ⟨b,o,none⟩) (n :: p).length c) 1 (n :: p).length (ag cL (n :: p))) : aN G (.slice (some ⟨b,lu o c (Int.toNat 1) 1,none⟩) ((n :: p).length - Int.toNat 1) (c - Int.toNat 1)) 1 p.length (ag cL p):=by
 have h1:=h.cutAt (m:=Int.toNat 1) (by show 1 ≤ p.length + 1;omega)
 exact h1
section
variable {qs : List c8} {k k1 : ael} {v1 z : V} {n : Int} {p : List Int} {b pb po pc : Nat} {c dy : VC}
theorem aa5 {fs : List (Fld × V)} {t : Ty} {f : Fld} (hS : ScI G b qs) (hw : SchW (al qs)) (hki : ax (al qs) k = true) (hrf : aZ (al qs) k = some t) (hso : t.sort = 82) (hg : cm t.fields n = some f) (hk1 : k1 = f.kind) (hsr : lL (fs.map aq)) (hfs : fs.length ≤ 90000) (hn : 0 ≤ n ∧ n ≤ 999999) (hp : aN G (.slice (some ⟨pb,po,none⟩) (n :: p).length pc) 1 (n :: p).length (ag cL (n :: p)))
  (hr : V.rep G (.nd 82 [] 0 (fs.map aq)) c) (hpl : p.length ≤ 100) (hzt : z.tot ≤ 1000000)
  (cx_sty : bJ aek 120 [Pt b 0,Ag (cT k),Ag (be c),I n] G (fun r G'=>∃ c',r = Tu [Ag [S (sg k1),S (bs k1),S (nm k1)],Ag (be c'),Bo true] ∧ V.rep G' v1 c'))
  (ihz : ∀ {G2 : Gh} {c1 : VC},Gh.le G G2 → V.rep G2 v1 c1 → bJ aek 75 [Pt b 0,Ag (cT k1),Ag (be c1),.slice (some ⟨pb,lu po pc (Int.toNat 1) 1,none⟩) ((n :: p).length - Int.toNat 1) (pc - Int.toNat 1),Ag (be dy)] G2 (fun r G'=>∃ c',r = Ag (be c') ∧ V.rep G' z c')) :
  bJ aek 75 [Pt b 0,Ag (cT k),Ag (be c),.slice (some ⟨pb,po,none⟩) (n :: p).length pc,Ag (be dy)] G (fun r G'=>∃ c',r = Ag (be c') ∧ V.rep G' (.nd 82 [] 0 (cV (al qs) f z (fs.map aq))) c'):=by
 obtain ⟨G0,rfl⟩ : ∃ G0,G0 = G:=⟨G,rfl⟩
 have hg0 : Gh.le G0 G0:=Gh.le.refl _
 obtain ⟨a,kc,cs,rfl,_,_,_,hcl,hsl,hrs⟩:=cU hr
 have e0 : be ⟨82,[],0,a,(fs.map aq).length,kc⟩ = [U8 (82 : Nat),S [],I 0,.slice a (fs.map aq).length kc]:=rfl
 have e1 : be dy = [U8 (dy.what : Nat),S dy.text,I dy.tag,.slice dy.a dy.n dy.c]:=rfl
 have hpl0 : (n :: p).length = p.length + 1:=rfl
 have hti : ab (n :: p) (Int.toNat 0) = n:=rfl
 have hsx : bU G0 pb po (ag cL (n :: p)):=by
  obtain ⟨b',o',c',e',hs'⟩:=hp.expl (by simp)
  simp only [Value.slice.injEq,Option.some.injEq,Addr.mk.injEq] at e'
  obtain ⟨⟨rfl,rfl,_⟩,_,rfl⟩:=e'
  exact hs'
 obtain ⟨hkd,p0,hfq,hqm⟩:=mc hki hrf
 have htm:=bj hrf
 have hTW:=hw.ty t htm
 have hfl:=hTW.len
 obtain ⟨j,hj,hjf,hjn,hjx⟩:=gF hg
 subst hjx
 rw [hkd,e0] at cx_sty ⊢
 rw [e1]
 refine jB [(0,_),(1,_),(2,_),(3,_),(4,_)] Tryz.func75 Tryz.ntmps75 fun B hok hB hW=>?_
 repeat' (first | refine jR ?_ | (refine jo ?_;first | refine jO fun _=>?_ | refine jL fun _=>?_ | refine jV (af F) ?_ | (refine jV (fS F F aS ?_ aS F F) ?_;focus omega) | refine bO F ?_ | refine jC F F F ?_ | refine jV (aT F F oM) ?_ | (refine ar F F F cx_sty F ?_;rintro _ G hle ⟨cv,rfl,hrv⟩;(have hg0:=hg0.trans hle);(have hS:=hS.mono hle);(have hr:=aD hle hr);(try have hrv:=aD hle hrv);(try have hrz:=aD hle hrz))) | refine ad F F ?_)
 rename_i y6 y7 y9 y10 y12 y13
 dsimp only [VC.sl]
 have cx_ch:=ihz hg0 hrv
 unfold cT at cx_ch
 rw [show be cv = [U8 (cv.what : Nat),S cv.text,I cv.tag,.slice cv.a cv.n cv.c] from rfl,e1] at cx_ch
 (refine an (ao (id:=5) _ (fun _ h=>h) am ?_);refine jT 7 [0,3] (aa 9 9) ?_;(refine jG (aa 9 11) 1 F (bS F F F F) ?_);(refine jG (aa 9 15) 2 F (bS F F F F) ?_);(refine jG (aa 9 31) 4 F (nZ F F oM) ?_);(refine jG (aa 9 63) 5 F (bS F F F F) ?_);refine b8 [6,7] kR dC ⟨?_,?_,trivial⟩;(focus (refine aO F F ?_;(refine ar F F F cx_ch F ?_;rintro _ G hle ⟨cz,rfl,hrz⟩;(have hg0:=hg0.trans hle);(have hS:=hS.mono hle);(have hr:=aD hle hr);(try have hrv:=aD hle hrv);(try have hrz:=aD hle hrz));refine jK (aa 9 127) ?_;refine jA 7 F ?_;(refine jL fun _=>?_);refine jK (aa 9 255) ?_;refine jA 8 F ?_;(refine jC F F F ?_);refine jK (aa 9 511) ?_;refine jQ ?_));rotate_left 1;(focus (refine aO F F ?_;(refine jL fun _=>?_);refine jK (aa 9 191) ?_;refine jA 6 F ?_;(refine ar F F F cx_ch F ?_;rintro _ G hle ⟨cz,rfl,hrz⟩;(have hg0:=hg0.trans hle);(have hS:=hS.mono hle);(have hr:=aD hle hr);(try have hrv:=aD hle hrv);(try have hrz:=aD hle hrz));refine jK (aa 9 255) ?_;refine jA 8 F ?_;(refine jC F F F ?_);refine jK (aa 9 511) ?_;refine jQ ?_));rotate_left 1)
 all_goals
  dsimp only [VC.sl]
  obtain ⟨fv,ln,hsg,hfv⟩:=hS.ty _ hqm
  dsimp only at hsg hfv
  have hkv:=f7 qs (nm k)
  rw [hfq] at hkv
  dsimp only [Option.map_some] at hkv
  obtain ⟨u,m,g1,g2,g3⟩:=hS.at'
  obtain ⟨bf,of,cf,rfl,hsf⟩:=hfv.expl oM
  have cx_fld:=gM hsg hsf oM hj hjf hjn
  have cx_put:=adn hS hw htm hso hsf hj hr hrz hfs oM hsr
  rw [e0,show be cz = [U8 (cz.what : Nat),S cz.text,I cz.tag,.slice cz.a cz.n cz.c] from rfl] at cx_put
  repeat' (first | refine jR ?_ | (refine jo ?_;refine aC F ?_) | refine ac F F ?_)
  (refine an (em (id:=7) (tt:=10) F am ?_);refine jW 8 [0,2,3,4,6,9] (aa 14 605) ?_;(refine jG (aa 14 607) 1 F (bS F F F F) ?_);(refine jG (aa 14 639) 5 F (aj F F aS F F) ?_);(refine jG (aa 14 767) 7 F (aV F F F) ?_);((refine jG (aa 14 1023) 8 F (dh F F (f6 aS) aS F) ?_));(refine jG (aa 14 3071) 11 F (bS F F F F) ?_);refine jA 10 F ?_;(refine ae F F F cx_fld F ?_);refine jK (aa 14 4095) ?_;refine jA 12 F ?_;(refine ar F F F cx_put F ?_;rintro _ G hle ⟨cz,rfl,hrz⟩;(have hg0:=hg0.trans hle);(have hS:=hS.mono hle);(have hr:=aD hle hr);(try have hrv:=aD hle hrv);(try have hrz:=aD hle hrz));refine jK (aa 14 8191) ?_;refine jA 13 F ?_;(refine jC F F F ?_);refine jK (aa 14 16383) ?_;refine jQ ?_)
  all_goals repeat' (refine jR ?_)
  all_goals refine jZ (vs:=[_]) F ⟨aJ F F F F,trivial⟩ F ⟨hg0,F,?_⟩
  all_goals exact ⟨cz,F,hrz⟩
theorem oV {i : Nat} : ∀ {ks : List V} {cs : List VC} {j : Nat},V.reps G ks cs → ∀ {z : V} {cz : VC},V.rep G z cz → V.reps G (ks.set j z) (cs.set j cz)
 | [],cs,j,h,z,cz,hz=>by rw [V.reps] at h;subst h;exact (by rw [List.set_nil,List.set_nil,V.reps])
 | v :: r,cs,0,h,z,cz,hz=>by
  rw [V.reps] at h
  obtain ⟨c,cs',rfl,h1,h2⟩:=h
  rw [List.set_cons_zero,List.set_cons_zero,V.reps]
  exact ⟨cz,cs',F,hz,h2⟩
 | v :: r,cs,j + 1,h,z,cz,hz=>by
  rw [V.reps] at h
  obtain ⟨c,cs',rfl,h1,h2⟩:=h
  rw [List.set_cons_succ,List.set_cons_succ,V.reps]
  exact ⟨c,_,F,h1,oV (i:=i) h2 hz⟩
theorem uE : ∀ cs : List VC,ed (ag be cs) = true
 | []=>rfl
 | c :: cs=>by rw [fC,oI,uE cs];rfl
theorem ri {w0 i : Nat} {tg : Int} {ks : List V} (hw0 : (w0 = 91 ∧ i = n.toNat) ∨ ((w0 = 63 ∨ w0 = 85) ∧ i = 0)) (hi : i < ks.length) (hkl : ks.length ≤ 1000000) (hn : 0 ≤ n ∧ n ≤ 999999) (hp : aN G (.slice (some ⟨pb,po,none⟩) (n :: p).length pc) 1 (n :: p).length (ag cL (n :: p)))
  (hr : V.rep G (.nd w0 [] tg ks) c) (hpl : p.length ≤ 100)
  (cx_sty : bJ aek 120 [Pt b 0,Ag (cT k),Ag (be c),I n] G (fun r G'=>∃ c',r = Tu [Ag [S (sg k1),S (bs k1),S (nm k1)],Ag (be c'),Bo true] ∧ V.rep G' v1 c'))
  (ihz : ∀ {G2 : Gh} {c1 : VC},Gh.le G G2 → V.rep G2 v1 c1 → bJ aek 75 [Pt b 0,Ag (cT k1),Ag (be c1),.slice (some ⟨pb,lu po pc (Int.toNat 1) 1,none⟩) ((n :: p).length - Int.toNat 1) (pc - Int.toNat 1),Ag (be dy)] G2 (fun r G'=>∃ c',r = Ag (be c') ∧ V.rep G' z c')) :
  bJ aek 75 [Pt b 0,Ag (cT k),Ag (be c),.slice (some ⟨pb,po,none⟩) (n :: p).length pc,Ag (be dy)] G (fun r G'=>∃ c',r = Ag (be c') ∧ V.rep G' (.nd w0 [] tg (ks.set i z)) c'):=by
 obtain ⟨G0,rfl⟩ : ∃ G0,G0 = G:=⟨G,rfl⟩
 have hg0 : Gh.le G0 G0:=Gh.le.refl _
 obtain ⟨a,kc,cs,rfl,hw255,htg,h61,hcl,hsl,hrs⟩:=cU hr
 have e0 : be ⟨w0,[],tg,a,ks.length,kc⟩ = [U8 (w0 : Nat),S [],I tg,.slice a ks.length kc]:=rfl
 have e1 : be dy = [U8 (dy.what : Nat),S dy.text,I dy.tag,.slice dy.a dy.n dy.c]:=rfl
 have hpl0 : (n :: p).length = p.length + 1:=rfl
 have hti : ab (n :: p) (Int.toNat 0) = n:=rfl
 have hsx : bU G0 pb po (ag cL (n :: p)):=by
  obtain ⟨b',o',c',e',hs'⟩:=hp.expl (by simp)
  simp only [Value.slice.injEq,Option.some.injEq,Addr.mk.injEq] at e'
  obtain ⟨⟨rfl,rfl,_⟩,_,rfl⟩:=e'
  exact hs'
 rw [hcl] at hsl
 have hal:=uE cs
 have e2 : cT k = [S (sg k),S (bs k),S (nm k)]:=rfl
 rw [e0,e2] at cx_sty ⊢
 rw [e1]
 rcases hw0 with ⟨rfl,hie⟩ | ⟨rfl | rfl,hie⟩
 all_goals
  refine jB [(0,_),(1,_),(2,_),(3,_),(4,_)] Tryz.func75 Tryz.ntmps75 fun B hok hB hW=>?_
  repeat' (first | refine jR ?_ | (refine jo ?_;first | refine jO fun _=>?_ | refine jL fun _=>?_ | refine jV (af F) ?_ | (refine jV (fS F F aS ?_ aS F F) ?_;focus omega) | refine bO F ?_ | refine jC F F F ?_ | refine jV (aT F F oM) ?_ | (refine ar F F F cx_sty F ?_;rintro _ G hle ⟨cv,rfl,hrv⟩;(have hg0:=hg0.trans hle);(have hsl:=hsl.mono hle);(try have hrv:=aD hle hrv);(try have hrz:=aD hle hrz))) | refine ad F F ?_)
  rename_i y6 y7 y9 y10 y12 y13
  dsimp only [VC.sl]
  have cx_ch:=ihz hg0 hrv
  unfold cT at cx_ch
  rw [show be cv = [U8 (cv.what : Nat),S cv.text,I cv.tag,.slice cv.a cv.n cv.c] from rfl,e1] at cx_ch
  (refine an (ao (id:=5) _ (fun _ h=>h) am ?_);refine jT 7 [0,3] (aa 9 9) ?_;(refine jG (aa 9 11) 1 F (bS F F F F) ?_);(refine jG (aa 9 15) 2 F (bS F F F F) ?_);(refine jG (aa 9 31) 4 F (nZ F F oM) ?_);(refine jG (aa 9 63) 5 F (bS F F F F) ?_);refine b8 [6,7] kR dC ⟨?_,?_,trivial⟩;(focus (refine aO F F ?_;(refine ar F F F cx_ch F ?_;rintro _ G hle ⟨cz,rfl,hrz⟩;(have hg0:=hg0.trans hle);(have hsl:=hsl.mono hle);(try have hrv:=aD hle hrv);(try have hrz:=aD hle hrz));refine jK (aa 9 127) ?_;refine jA 7 F ?_;(refine jL fun _=>?_);refine jK (aa 9 255) ?_;refine jA 8 F ?_;(refine jC F F F ?_);refine jK (aa 9 511) ?_;refine jQ ?_));rotate_left 1;(focus (refine aO F F ?_;(refine jL fun _=>?_);refine jK (aa 9 191) ?_;refine jA 6 F ?_;(refine ar F F F cx_ch F ?_;rintro _ G hle ⟨cz,rfl,hrz⟩;(have hg0:=hg0.trans hle);(have hsl:=hsl.mono hle);(try have hrv:=aD hle hrv);(try have hrz:=aD hle hrz));refine jK (aa 9 255) ?_;refine jA 8 F ?_;(refine jC F F F ?_);refine jK (aa 9 511) ?_;refine jQ ?_));rotate_left 1)
  all_goals
   dsimp only [VC.sl]
   repeat' (first | refine jR ?_ | (refine jo ?_;refine aC F ?_) | refine ad F F ?_)
   (refine an (ao (id:=8) _ (fun _ h=>h) am ?_);refine jT 7 [0,2,4] (aa 10 21) ?_;(refine jG (aa 10 23) 1 F (aV F F F) ?_);(refine jG (aa 10 31) 3 F (aV F F F) ?_);(refine jG (aa 10 63) 5 F (aV F F F) ?_);refine b8 [6,8] kR dC ⟨?_,?_,trivial⟩;(focus (refine aO F F ?_;((refine xW F F aS F aS F F F F ?_ ?_ fun _ _=>?_;(focus omega);focus omega));refine jK (aa 10 127) ?_;(refine jG (aa 10 255) 7 F (ay F F) ?_);refine jA 8 F ?_;(refine jL fun _=>?_);refine jK (aa 10 511) ?_;refine jA 9 F ?_;(refine jC F F F ?_);refine jK (aa 10 1023) ?_;refine jQ ?_));rotate_left 1;(focus (refine aO F F ?_;(refine jL fun _=>?_);refine jK (aa 10 319) ?_;refine jA 6 F ?_;((refine xW F F aS F aS F F F F ?_ ?_ fun _ _=>?_;(focus omega);focus omega));refine jK (aa 10 383) ?_;(refine jG (aa 10 511) 7 F (ay F F) ?_);refine jA 9 F ?_;(refine jC F F F ?_);refine jK (aa 10 1023) ?_;refine jQ ?_));rotate_left 1)
   all_goals repeat' (first | refine jR ?_ | (refine jo ?_;first | refine aC F ?_ | refine bO F ?_ | refine jV (aT F F oM) ?_) | refine ac F F ?_ | refine ad F F ?_)
   all_goals refine jo ?_
   all_goals refine aco (f:=be) (c:=cz) (cs:=cs) (i:=i) F F F F F oM oM ?_
   all_goals repeat' (first | refine jR ?_ | (refine jo ?_;first | refine bO F ?_ | refine jC F F F ?_))
   all_goals
    rename_i u1 u2 u3 u4
    first | (refine Nx.sealS (v:=.slice (some ⟨u2,0,none⟩) ks.length u3) fun G5 hG5 hsl5=>?_;refine jZ (vs:=[_]) F ⟨aJ F F F F,trivial⟩ F ⟨(hg0.trans hG5),F,?_⟩;exact ⟨⟨_,[],tg,some ⟨u2,0,none⟩,ks.length,u3⟩,F,d4 hw255 htg (fun h=>by rw [List.length_set];exact h61 h) (by rw [List.length_set]) (by rw [List.length_set,hcl];exact hsl5) (cO hG5 (oV (i:=0) (cO hg0 hrs) hrz))⟩) | (refine Nx.sealS (v:=.slice (some ⟨u3,0,none⟩) ks.length u4) fun G5 hG5 hsl5=>?_;refine jZ (vs:=[_]) F ⟨aJ F F F F,trivial⟩ F ⟨(hg0.trans hG5),F,?_⟩;exact ⟨⟨_,[],tg,some ⟨u3,0,none⟩,ks.length,u4⟩,F,d4 hw255 htg (fun h=>by rw [List.length_set];exact h61 h) (by rw [List.length_set]) (by rw [List.length_set,hcl];exact hsl5) (cO hG5 (oV (i:=0) (cO hg0 hrs) hrz))⟩)
theorem si (hw : SchW (al qs)) : ∀ (p : List Int) {G : Gh} {pv : Value} {k : ael} {v y : V} {c dy : VC} {k' : ael} {v' : V},ScI G b qs → aN G pv 1 p.length (ag cL p) → (∀ n ∈ p,0 ≤ n ∧ n ≤ 999999) → p.length ≤ 8 → V.rep G v c → OfK (al qs) k v → ax (al qs) k = true → v.tot ≤ 400000 → bP (al qs) k v p = some (k',v') → V.rep G y dy → OfK (al qs) k' y → y.tot ≤ 40000 →
  bJ aek 75 [Pt b 0,Ag (cT k),Ag (be c),pv,Ag (be dy)] G (fun r G'=>∃ c',r = Ag (be c') ∧ V.rep G' (bD (al qs) k v p y) c')
 | [],G,pv,k,v,y,c,dy,k',v',hS,hp,hpn,hpl,hr,ho,hki,htt,hf,hy,hoy,hyt=>by
  simp only [bP,Option.some.injEq,Prod.mk.injEq] at hf
  obtain ⟨rfl,rfl⟩:=hf
  obtain ⟨pa,pc,rfl⟩:=hp.sl
  have hl0 : ([] : List Int).length = 0:=rfl
  have e1 : be dy = [U8 (dy.what : Nat),S dy.text,I dy.tag,.slice dy.a dy.n dy.c]:=rfl
  have e3 : be c = [U8 (c.what : Nat),S c.text,I c.tag,.slice c.a c.n c.c]:=rfl
  have e2 : cT k = [S (sg k),S (bs k),S (nm k)]:=rfl
  rw [bD,e1,e2,e3]
  refine jB [(0,_),(1,_),(2,_),(3,_),(4,_)] Tryz.func75 Tryz.ntmps75 fun B hok hB hW=>?_
  repeat' (first | refine jR ?_ | (refine jo ?_;first | refine jO fun _=>?_ | refine jL fun _=>?_ | refine jV (af F) ?_ | refine bO F ?_ | refine jC F F F ?_) | refine ac F F ?_)
  all_goals refine jZ (vs:=[_]) F ⟨aJ F F F F,trivial⟩ F ⟨Gh.le.refl _,F,?_⟩
  all_goals exact ⟨dy,F,hy⟩
 | n :: p,G,pv,k,v,y,c,dy,k',v',hS,hp,hpn,hpl,hr,ho,hki,htt,hf,hy,hoy,hyt=>by
  obtain ⟨pb,po,pc,rfl,_⟩:=hp.expl (by simp)
  have hn:=hpn n (by simp)
  have hpn2 : ∀ m ∈ p,0 ≤ m ∧ m ≤ 999999:=fun m hm=>hpn m (by simp [hm])
  have hpl2 : p.length ≤ 8:=by simp at hpl;omega
  unfold bP at hf
  cases hs : aB (al qs) k v n with
  | none=>rw [hs] at hf;cases hf
  | some x =>
   rw [hs] at hf
   obtain ⟨k1,v1⟩:=x
   dsimp only at hf
   obtain ⟨g1,g2⟩:=cJ hw ho hki hn.1 hs
   have g3:=kS hw ho hki hn.1 hs (N:=400000) htt oM
   have g4:=g0 hw (y:=y) g1 g2 (fun m hm=>(hpn2 m hm).1) hf
   have cx_sty:=eY.yes (vI hS hw hki ho hr hn oM) hs
   have hcut:=xz hp
   have ihz : ∀ {G2 : Gh} {c1 : VC},Gh.le G G2 → V.rep G2 v1 c1 → bJ aek 75 [Pt b 0,Ag (cT k1),Ag (be c1),.slice (some ⟨pb,lu po pc (Int.toNat 1) 1,none⟩) ((n :: p).length - Int.toNat 1) (pc - Int.toNat 1),Ag (be dy)] G2 (fun r G'=>∃ c',r = Ag (be c') ∧ V.rep G' (bD (al qs) k1 v1 p y) c'):=fun hle hr1 =>
    si hw p (hS.mono hle) (hcut.mono hle) hpn2 hpl2 hr1 g1 g2 g3 hf (aD hle hy) hoy hyt
   rw [c5 hs]
   cases hrf : aZ (al qs) k with
   | none =>
    obtain ⟨ch,kr,rfl⟩:=dT hki
    by_cases hc : ch.toNat = 91 ∨ ch.toNat = 63
    ·have hst:=dZ (ts:=al qs) (c:=ch) (r:=kr) (v:=v) (n:=n) hc
     rw [hs] at hst
     by_cases hlt : n < ((v.kids.length : Nat) : Int)
     ·have htl:=dq v.kids
      rcases dg ho oM with ⟨a1,_⟩ | ⟨a1,_⟩ | ⟨a1,_⟩ | ⟨a1,ks,a2,a3,rfl⟩ | ⟨a1,rfl | ⟨w,a3,rfl⟩⟩
      ·omega
      ·omega
      ·omega
      ·rw [V.kids] at hlt
       have e1 : ∀ z,cC (al qs) (ch :: kr) (.nd 91 [] 0 ks) n z = .nd 91 [] 0 (ks.set n.toNat z):=fun z=>by
        unfold cC;rw [V.what,if_neg dC,if_pos rfl];rfl
       rw [e1]
       exact ri (.inl ⟨F,F⟩) oM oM hn hp hr oM cx_sty ihz
      ·simp [V.kids] at hlt;omega
      ·simp [V.kids] at hlt
       obtain rfl : n = 0:=oM
       have e1 : ∀ z,cC (al qs) (ch :: kr) (.nd 63 [] 0 [w]) 0 z = .nd 63 [] 0 ([w].set 0 z):=fun z=>by
        unfold cC;rw [V.what,if_neg dC,if_neg dC];rfl
       rw [e1]
       exact ri (.inr ⟨.inl F,F⟩) (by simp) (by simp) hn hp hr oM cx_sty ihz
     ·rw [if_neg hlt] at hst;cases hst
    ·have hno : aB (al qs) (ch :: kr) v n = none:=by
      rcases eg hki hc hrf with e | e | e
      all_goals (rw [e];exact ji dC dC dC)
     rw [hno] at hs;cases hs
   | some t =>
    have hst:=eB (v:=v) (n:=n) hrf
    rw [hs] at hst
    cases hg : cm t.fields n with
    | none=>rw [hg] at hst;cases hst
    | some f =>
     rw [hg] at hst
     dsimp only at hst
     by_cases h69 : t.sort = 69
     ·rw [if_pos h69] at hst;cases hst
     ·rw [if_neg h69] at hst
      by_cases h82 : t.sort = 82
      ·rw [if_pos h82] at hst
       simp only [Option.some.injEq,Prod.mk.injEq] at hst
       obtain ⟨rfl,rfl⟩:=hst
       rcases bE ho hrf with ⟨_,fs,rfl,a3,a4,a5,a6⟩ | ⟨a1,_⟩ | ⟨a1,_⟩
       ·have hfs9 : fs.length ≤ 90000:=by
         have h7:=dq (fs.map aq)
         rw [bK] at htt
         have e1 : (fs.map aq).length = fs.length:=by simp
         omega
        have e1 : ∀ z,cC (al qs) k (.nd 82 [] 0 (fs.map aq)) n z = .nd 82 [] 0 (cV (al qs) f z (fs.map aq)):=fun z=>by
         unfold cC;rw [V.what,if_pos rfl,hrf]
         dsimp only
         rw [hg];rfl
        rw [e1]
        exact aa5 hS hw hki hrf h82 hg F (m3 a6) hfs9 hn hp hr oM oM cx_sty ihz
       ·omega
       ·omega
      ·rw [if_neg h82] at hst
       by_cases htg : v.tag = n
       ·rw [if_pos htg] at hst
        rcases bE ho hrf with ⟨a1,_⟩ | ⟨a1,_⟩ | ⟨_,_,d,w,rfl,g4,g5⟩
        ·omega
        ·omega
        ·have e1 : ∀ z,cC (al qs) k (.nd 85 [] d.tag [w]) n z = .nd 85 [] d.tag ([w].set 0 z):=fun z=>by
          unfold cC;rw [V.what,if_neg dC,if_neg dC];rfl
         rw [e1]
         exact ri (.inr ⟨.inr F,F⟩) (by simp) (by simp) hn hp hr oM cx_sty ihz
       ·rw [if_neg htg] at hst;cases hst
end
theorem tj {ts : List Ty} {f : Fld} {y : V} (h : y.out ≠ bT ts f) : ∀ {vs : List V},.nd 61 [] f.tag [y] ∈ cV ts f y vs
 | []=>by rw [dX];unfold nf;rw [if_neg h];simp
 | v :: vs=>by
  rw [cK]
  split
  ·exact List.mem_cons_of_mem _ (tj h)
  ·unfold nf;rw [if_neg h];simp
theorem yq {ts : List Ty} (hw : SchW ts) {k : ael} {v : V} (h : OfK ts k v) (hk : ax ts k = true) {n : Int} (hn : 0 ≤ n) {k1 : ael} {v1 : V} (e : aB ts k v n = some (k1,v1)) {y : V} (hy : 400 < y.out.length) : 400 < (cC ts k v n y).out.length:=by
 obtain ⟨c,r,rfl⟩:=dT hk
 unfold aB at e
 dsimp only at e
 split at e
 ·rename_i hc
  split at e
  ·rename_i hlt
   rcases dg h oM with ⟨g1,_⟩ | ⟨g1,_⟩ | ⟨g1,_⟩ | ⟨g1,ks,g2,g3,rfl⟩ | ⟨g1,rfl | ⟨u,g3,rfl⟩⟩
   ·omega
   ·omega
   ·omega
   ·rw [V.kids] at hlt
    unfold cC
    rw [V.what,if_neg dC,if_pos rfl,V.kids]
    show 400 < (V.nd 91 [] 0 (ks.set n.toNat y)).out.length
    rw [rE]
    have hm : y ∈ ks.set n.toNat y:=List.mem_iff_getElem.2 ⟨n.toNat,by rw [List.length_set];omega,by simp⟩
    have:=kY (xs:=(ks.set n.toNat y).map V.out) (List.mem_map_of_mem (f:=V.out) hm)
    simp only [List.length_cons,List.length_append]
    omega
   ·simp [V.kids] at hlt;omega
   ·unfold cC
    rw [V.what,if_neg dC,if_neg dC]
    have e1 : V.out (.nd 63 [] 0 [y]) = 43 :: y.out:=by rw [V.out];simp [V.outs,aR,c7]
    show 400 < (V.nd 63 [] 0 [y]).out.length
    rw [e1,List.length_cons];omega
  ·cases e
 ·split at e
  ·cases e
  ·rename_i t hr
   have ht:=bj hr
   split at e
   ·cases e
   ·rename_i f hf
    have hfm:=List.mem_of_find?_eq_some hf
    split at e
    ·cases e
    ·rename_i h69
     split at e
     ·rename_i h82
      rcases bE h hr with ⟨_,fs,rfl,g3,g4,_,_⟩ | ⟨g1,_⟩ | ⟨g1,_⟩
      ·have e1 : cC ts (c :: r) (.nd 82 [] 0 (fs.map aq)) n y = .nd 82 [] 0 (cV ts f y (fs.map aq)):=by
        unfold cC;rw [V.what,if_pos rfl,hr]
        dsimp only
        rw [hf];rfl
       have hst:=(iS (fB hw ht h69 hfm).2.1).2
       have hne : y.out ≠ bT ts f:=fun e=>by rw [e] at hy;omega
       have:=kY (xs:=(cV ts f y (fs.map aq)).map V.out) (List.mem_map_of_mem (f:=V.out) (tj hne))
       rw [gn] at this
       rw [e1,tF]
       simp only [List.length_cons,List.length_append] at this ⊢
       omega
      ·omega
      ·omega
     ·rename_i h82
      split at e
      ·rcases bE h hr with ⟨h1,_⟩ | ⟨h1,_⟩ | ⟨_,_,d,u,rfl,g4,g5⟩
       ·omega
       ·omega
       ·unfold cC
        rw [V.what,if_neg dC,if_neg dC]
        have e1 : V.out (.nd 85 [] d.tag [y]) = 60 :: (bi d.tag ++ 61 :: (y.out ++ [62])):=by rw [V.out];simp [V.outs,aR,c7]
        show 400 < (V.nd 85 [] d.tag [y]).out.length
        rw [e1]
        simp only [List.length_cons,List.length_append]
        omega
      ·cases e
theorem oE {ts : List Ty} (hw : SchW ts) : ∀ {p : List Int} {k : ael} {v y : V} {k' : ael} {v' : V},OfK ts k v → ax ts k = true → (∀ n ∈ p,0 ≤ n) → bP ts k v p = some (k',v') → 400 < y.out.length → 400 < (bD ts k v p y).out.length
 | [],k,v,y,k',v',h,hk,_,e,hy=>by rw [bD];exact hy
 | n :: p,k,v,y,k',v',h,hk,hp,e,hy=>by
  unfold bP at e
  cases hs : aB ts k v n with
  | none=>rw [hs] at e;cases e
  | some x =>
   rw [hs] at e
   obtain ⟨k1,v1⟩:=x
   have hn:=hp n (by simp)
   obtain ⟨h1,h2⟩:=cJ hw h hk hn hs
   rw [c5 hs]
   exact yq hw h hk hn hs (oE hw h1 h2 (fun m hm=>hp m (by simp [hm])) e hy)
theorem qy {s k w p x : ael} (h1 : s.length ≤ 1048576 ∧ k.length ≤ 1048576 ∧ w.length ≤ 1048576 ∧ p.length ≤ 1048576) (hx : x.length ≤ 1048576) : a7 aek 34 [S s,S k,S w,S p,S x] G (· = lv (eT s k w p x)):=by
 unfold eT
 cases hg : cY s k w with
 | none =>
  rw [tz]
  have cx_gi0:=kL (G:=G) (s:=s) (k:=k) (w:=w) oM hg
  cases hpo : df p with
  | none =>
   have cx_sp:=om h1.2.2.2 hpo
   refine jB (Post:=fun v G' L'=>G' = G ∧ L' = [] ∧ _) [(0,_),(1,_),(2,_),(3,_),(4,_)] Tryz.func34 Tryz.ntmps34 fun B hok hB hW=>?_
   repeat' (first | refine jR ?_ | (refine jo ?_;first | refine jL fun _=>?_ | refine jC F F F ?_ | refine aP F ?_ | (refine ar F F F cx_gi0 F ?_;rintro _ G hle ⟨p1,a1,b1,c1,rfl⟩;skip) | (refine ar F F F (cx_sp _) F ?_;rintro _ G hle ⟨sa,sc,sn,rfl,hsp⟩;skip)) | refine aF F F F ?_ | refine ac F F ?_)
   all_goals refine Nx.base hok hB ?_
   all_goals refine jY (vs:=[_,_]) ?_
   all_goals rfl
  | some q =>
   have cx_sp:=m5 h1.2.2.2 hpo
   refine jB (Post:=fun v G' L'=>G' = G ∧ L' = [] ∧ _) [(0,_),(1,_),(2,_),(3,_),(4,_)] Tryz.func34 Tryz.ntmps34 fun B hok hB hW=>?_
   repeat' (first | refine jR ?_ | (refine jo ?_;first | refine jL fun _=>?_ | refine jC F F F ?_ | refine aP F ?_ | (refine ar F F F cx_gi0 F ?_;rintro _ G hle ⟨p1,a1,b1,c1,rfl⟩;skip) | (refine ar F F F (cx_sp _) F ?_;rintro _ G hle ⟨sa,sc,sn,rfl,hsp⟩;skip)) | refine aF F F F ?_ | refine ac F F ?_)
   all_goals refine Nx.base hok hB ?_
   all_goals refine jY (vs:=[_,_]) ?_
   all_goals rfl
 | some u =>
  obtain ⟨ts,hs,hki,hvo,hto,hwf⟩:=cQ hg
  have cx_gi1:=kK (G:=G) (s:=s) (k:=k) (w:=w) oM hs hki hvo
  rw [hs]
  cases hpo : df p with
  | none =>
   have cx_sp:=om h1.2.2.2 hpo
   refine jB (Post:=fun v G' L'=>G' = G ∧ L' = [] ∧ _) [(0,_),(1,_),(2,_),(3,_),(4,_)] Tryz.func34 Tryz.ntmps34 fun B hok hB hW=>?_
   repeat' (first | refine jR ?_ | (refine jo ?_;first | refine jL fun _=>?_ | refine jC F F F ?_ | refine aE F ?_ | (refine ar F F F cx_gi1 F ?_;rintro _ G hle ⟨bg,qg,cv,rfl,hTg,hRg,hrv⟩;skip) | (refine ar F F F (cx_sp _) F ?_;rintro _ G hle ⟨sa,sc,sn,rfl,hsp⟩;skip)) | refine aw F F F ?_ | refine ac F F ?_)
   all_goals refine Nx.base hok hB ?_
   all_goals refine jY (vs:=[_,_]) ?_
   all_goals rfl
  | some q =>
   have cx_sp:=m5 h1.2.2.2 hpo
   obtain ⟨hq8,hqn⟩:=rB hpo
   have hof:=c9 hvo
   have hw:=dV hs
   have hqn0 : ∀ n ∈ q,0 ≤ n:=fun n hn=>(hqn n hn).1
   dsimp only
   cases hfo : bP ts k u q with
   | none =>
    dsimp only
    refine jB (Post:=fun v G' L'=>G' = G ∧ L' = [] ∧ _) [(0,_),(1,_),(2,_),(3,_),(4,_)] Tryz.func34 Tryz.ntmps34 fun B hok hB hW=>?_
    repeat' (first | refine jR ?_ | (refine jo ?_;first | refine jL fun _=>?_ | refine jC F F F ?_ | refine aE F ?_ | refine bO F ?_ | (refine ar F F F cx_gi1 F ?_;rintro _ G hle ⟨bg,qg,cv,rfl,hTg,hRg,hrv⟩;(try have hru:=aD hle hru);(try have hRg:=ScI.mono hRg hle);(try have hsp:=aN.mono hsp hle)) | (refine ar F F F (cx_sp _) F ?_;rintro _ G hle ⟨sa,sc,sn,rfl,hsp⟩;(try have hru:=aD hle hru);(try have hRg:=ScI.mono hRg hle);(try have hsp:=aN.mono hsp hle))) | refine aw F F F ?_ | refine ad F F ?_)
    obtain ⟨rfl,hsp⟩:=hsp
    subst hTg
    have hru:=aD hle hrv
    have hfl:=nN hRg hw hsp hqn oM hru hof hki oM
    unfold cT at hfl
    rw [show be cv = [U8 (cv.what : Nat),S cv.text,I cv.tag,.slice cv.a cv.n cv.c] from rfl] at hfl
    have cx_fon:=eY.no hfl hfo
    repeat' (first | refine jR ?_ | (refine jo ?_;first | refine jL fun _=>?_ | refine jC F F F ?_ | (refine ar F F F cx_fon F ?_;rintro _ G hle rfl;(try have hru:=aD hle hru);(try have hRg:=ScI.mono hRg hle);(try have hsp:=aN.mono hsp hle))) | refine ac F F ?_)
    all_goals refine Nx.base hok hB ?_
    all_goals refine jY (vs:=[_,_]) ?_
    all_goals rfl
   | some y =>
    obtain ⟨k1,v1⟩:=y
    obtain ⟨_,hk1⟩:=mn hw hof hki hqn0 hfo
    dsimp only
    cases hvx : co ts k1 x with
    | none =>
     suffices key : a7 aek 34 [S s,S k,S w,S p,S x] G (· = lv none) by
      rcases hrd : rd ts 12 k1 x with _ | ⟨y,_ | _⟩
      ·exact key
      ·have hxl : ¬ x.length ≤ 400:=fun hl=>by
        unfold co at hvx
        rw [if_pos hl,hrd] at hvx
        cases hvx
       have hyo:=pP _ _ _ _ hrd
       dsimp only at hyo
       rw [List.append_nil] at hyo
       have:=oE hw (y:=y) hof hki hqn0 hfo (by rw [← hyo];omega)
       dsimp only
       rw [if_neg (fun h=>by omega)]
       exact key
      ·exact key
     refine jB (Post:=fun v G' L'=>G' = G ∧ L' = [] ∧ _) [(0,_),(1,_),(2,_),(3,_),(4,_)] Tryz.func34 Tryz.ntmps34 fun B hok hB hW=>?_
     repeat' (first | refine jR ?_ | (refine jo ?_;first | refine jL fun _=>?_ | refine jC F F F ?_ | refine aE F ?_ | refine bO F ?_ | (refine ar F F F cx_gi1 F ?_;rintro _ G hle ⟨bg,qg,cv,rfl,hTg,hRg,hrv⟩;(try have hru:=aD hle hru);(try have hRg:=ScI.mono hRg hle);(try have hsp:=aN.mono hsp hle)) | (refine ar F F F (cx_sp _) F ?_;rintro _ G hle ⟨sa,sc,sn,rfl,hsp⟩;(try have hru:=aD hle hru);(try have hRg:=ScI.mono hRg hle);(try have hsp:=aN.mono hsp hle))) | refine aw F F F ?_ | refine ad F F ?_)
     obtain ⟨rfl,hsp⟩:=hsp
     subst hTg
     have hru:=aD hle hrv
     have hfl:=nN hRg hw hsp hqn oM hru hof hki oM
     unfold cT at hfl
     rw [show be cv = [U8 (cv.what : Nat),S cv.text,I cv.tag,.slice cv.a cv.n cv.c] from rfl] at hfl
     have cx_foy:=eY.yes hfl hfo
     repeat' (first | refine jR ?_ | (refine jo ?_;first | refine jL fun _=>?_ | refine jC F F F ?_ | refine bO F ?_ | (refine ar F F F cx_foy F ?_;rintro _ G hle ⟨cv,rfl,hrv⟩;(try have hru:=aD hle hru);(try have hRg:=ScI.mono hRg hle);(try have hsp:=aN.mono hsp hle))) | refine ad F F ?_)
     have cx_rin : bJ aek 60 [Pt bg 0,Ag [S (sg k1),S (bs k1),S (nm k1)],S x] G (fun v _=>v = Tu [zP,Bo false]):=by
      refine (lE (G:=G) (b:=bg) (s:=x) hRg hw hk1 oM).mono ?_
      rintro v G' L' ⟨a1,a2,⟨_,a3⟩ | ⟨u',c',a4,_⟩⟩
      ·exact ⟨a1,a2,a3⟩
      ·rw [hvx] at a4;cases a4
     repeat' (first | refine jR ?_ | (refine jo ?_;first | refine jL fun _=>?_ | refine jC F F F ?_ | (refine ar F F F cx_rin F ?_;rintro _ G hle rfl;(try have hru:=aD hle hru);(try have hRg:=ScI.mono hRg hle);(try have hsp:=aN.mono hsp hle))) | refine ac F F ?_)
     all_goals refine Nx.base hok hB ?_
     all_goals refine jY (vs:=[_,_]) ?_
     all_goals rfl
    | some y =>
     obtain ⟨hrd,hxl⟩:=iS hvx
     rw [hrd]
     dsimp only
     have hoy:=c9 hvx
     have hyt:=gB _ _ _ _ hrd
     dsimp only at hyt
     have hcg:=dL hw hof hki hqn0 hfo hoy
     have hct:=g0 hw (y:=y) hof hki hqn0 hfo
     obtain ⟨o,ho⟩ : ∃ o,(if (bD ts k u q y).out.length ≤ 400 ∧ (bD ts k u q y).deep ≤ 12 then some (bD ts k u q y).out else none) = o:=⟨_,rfl⟩
     rw [ho]
     refine jB (Post:=fun v G' L'=>G' = G ∧ L' = [] ∧ _) [(0,_),(1,_),(2,_),(3,_),(4,_)] Tryz.func34 Tryz.ntmps34 fun B hok hB hW=>?_
     repeat' (first | refine jR ?_ | (refine jo ?_;first | refine jL fun _=>?_ | refine jC F F F ?_ | refine aE F ?_ | refine bO F ?_ | (refine ar F F F cx_gi1 F ?_;rintro _ G hle ⟨bg,qg,cv,rfl,hTg,hRg,hrv⟩;(try have hru:=aD hle hru);(try have hRg:=ScI.mono hRg hle);(try have hsp:=aN.mono hsp hle)) | (refine ar F F F (cx_sp _) F ?_;rintro _ G hle ⟨sa,sc,sn,rfl,hsp⟩;(try have hru:=aD hle hru);(try have hRg:=ScI.mono hRg hle);(try have hsp:=aN.mono hsp hle))) | refine aw F F F ?_ | refine ad F F ?_)
     obtain ⟨rfl,hsp⟩:=hsp
     subst hTg
     have hru:=aD hle hrv
     have hfl:=nN hRg hw hsp hqn oM hru hof hki oM
     unfold cT at hfl
     rw [show be cv = [U8 (cv.what : Nat),S cv.text,I cv.tag,.slice cv.a cv.n cv.c] from rfl] at hfl
     have cx_foy:=eY.yes hfl hfo
     repeat' (first | refine jR ?_ | (refine jo ?_;first | refine jL fun _=>?_ | refine jC F F F ?_ | refine bO F ?_ | (refine ar F F F cx_foy F ?_;rintro _ G hle ⟨cv,rfl,hrv⟩;(try have hru:=aD hle hru);(try have hRg:=ScI.mono hRg hle);(try have hsp:=aN.mono hsp hle))) | refine ad F F ?_)
     have cx_ris : bJ aek 60 [Pt bg 0,Ag [S (sg k1),S (bs k1),S (nm k1)],S x] G (fun v G'=>∃ cv,v = Tu [Ag (be cv),Bo true] ∧ V.rep G' y cv):=by
      refine (lE (G:=G) (b:=bg) (s:=x) hRg hw hk1 oM).mono ?_
      rintro v G' L' ⟨a1,a2,⟨a4,_⟩ | ⟨u',c',a4,rfl,a5⟩⟩
      ·rw [hvx] at a4;cases a4
      ·rw [hvx] at a4;obtain rfl:=Option.some.inj a4;exact ⟨a1,a2,c',F,a5⟩
     repeat' (first | refine jR ?_ | (refine jo ?_;first | refine jL fun _=>?_ | refine jC F F F ?_ | refine bO F ?_ | (refine ar F F F cx_ris F ?_;rintro _ G hle ⟨cv,rfl,hrv⟩;(try have hru:=aD hle hru);(try have hRg:=ScI.mono hRg hle);(try have hsp:=aN.mono hsp hle))) | refine ad F F ?_)
     have cx_ch:=si hw q hRg hsp hqn hq8 hru hof hki oM hfo hrv hoy oM
     simp only [cT,be,VC.sl] at cx_ch
     dsimp only [be,VC.sl]
     repeat' (first | refine jR ?_ | (refine jo ?_;first | refine jL fun _=>?_ | refine jC F F F ?_ | refine bO F ?_ | (refine ar F F F cx_ch F ?_;rintro _ G hle ⟨cz,rfl,hrz⟩;(try have hru:=aD hle hru);(try have hRg:=ScI.mono hRg hle);(try have hsp:=aN.mono hsp hle))))
     have cx_fit:=acz hrz oM
     have cx_pr:=ew (G:=G) (c:=cz) _ (Nat.le_refl _) oM hrz
     simp only [be,VC.sl] at cx_fit cx_pr
     by_cases hfit : (bD (al qg) k u q y).out.length ≤ 400 ∧ (bD (al qg) k u q y).deep ≤ 12
     ·rw [if_pos hfit] at ho
      subst ho
      rw [decide_eq_true hfit] at cx_fit
      repeat' (first | refine jR ?_ | (refine jo ?_;first | refine bO F ?_ | refine ae F F F cx_fit F ?_ | refine ae F F F cx_pr F ?_) | refine ad F F ?_)
      all_goals refine Nx.base hok hB ?_
      all_goals refine jY (vs:=[_,_]) ?_
      all_goals rfl
     ·rw [if_neg hfit] at ho
      subst ho
      rw [decide_eq_false hfit] at cx_fit
      repeat' (first | refine jR ?_ | (refine jo ?_;refine ae F F F cx_fit F ?_) | refine ac F F ?_)
      all_goals refine Nx.base hok hB ?_
      all_goals refine jY (vs:=[_,_]) ?_
      all_goals rfl
def f9 (s k : ael) : ael → List Ch → Option ael
 | w,[]=>some w
 | w,c :: r=>match eT s k w c.1 c.2 with
  | none=>none
  | some t=>f9 s k t r
def gZ (s k w : ael) (l : List Ch) : Option ael:=if lx s k w = true then f9 s k w l else none
theorem kN {s k w : ael} {u : Value} {l : List Ch} (h : s.length ≤ 1048576 ∧ k.length ≤ 1048576 ∧ w.length ≤ 1048576) (hu : aN G u 2 l.length (ag dk l)) (hn : l.length ≤ 1048576) (hl : ∀ x ∈ l,mR x) :
  a7 aek 14 [S s,S k,S w,u] G (· = lv (gZ s k w l)):=by
 unfold gZ
 have cx_o1:=qx (G:=G) h
 cases ho : lx s k w with
 | false =>
  rw [ho] at cx_o1
  rw [if_neg (by simp)]
  refine jE [(0,_),(1,_),(2,_),(3,_)] Tryz.func14 Tryz.ntmps14 fun B hB=>?_
  repeat' (first | refine jR ?_ | (refine jo ?_;refine ae F F F cx_o1 F ?_) | refine ac F F ?_)
  all_goals refine jY (vs:=[_,_]) ?_
  all_goals rfl
 | true =>
  rw [ho] at cx_o1
  rw [if_pos rfl]
  refine jE [(0,_),(1,_),(2,_),(3,_)] Tryz.func14 Tryz.ntmps14 fun B hB=>?_
  repeat' (first | refine jR ?_ | (refine jo ?_;first | refine jV (eL F aS) ?_ | refine ae F F F cx_o1 F ?_) | refine ad F F ?_)
  refine aW (ι:=Nat × ael) (fun j=>(j.1 ≤ l.length ∧ f9 s k w l = f9 s k j.2 (l.drop j.1)) ∧ j.2.length ≤ 1048576) (fun j=>[(0,S s),(1,S k),(2,S j.2),(18,u),(19,I (l.length : Nat)),(20,I (j.1 : Nat))]) (fun _=>G) (fun j=>[]) (fun j=>l.length - j.1) (0,w) ?_ tU F bc (fun j Hj=>?_)
  ·exact ⟨⟨Nat.zero_le _,F⟩,h.2.2⟩
  obtain ⟨i,t⟩:=j
  dsimp only at Hj ⊢
  obtain ⟨⟨hj1,hj2⟩,hj3⟩:=Hj
  by_cases hi : i < l.length
  ·obtain ⟨ba,oa,ca,rfl,sa⟩:=hu.expl oM
   have hx:=hl _ (bC hi)
   have cx_ps1:=qy (G:=G) (s:=s) (k:=k) (w:=t) (p:=(ab l i).1) (x:=(ab l i).2) ⟨h.1,h.2.1,hj3,hx.1⟩ hx.2
   rw [fN hi,f9] at hj2
   unfold lv at cx_ps1
   cases hp : eT s k t (ab l i).1 (ab l i).2 with
   | none =>
    rw [hp] at cx_ps1 hj2
    dsimp only [Option.getD,Option.isSome] at cx_ps1 hj2
    repeat' (first | refine jR ?_ | (refine jo ?_;first | refine jV (ak F F oM) ?_ | refine aC F ?_ | (refine jV (dJ F F aS ?_) ?_;focus omega) | refine jL fun _=>?_ | refine jC F F F ?_ | refine ae F F F cx_ps1 F ?_) | (refine ac F (by first | rfl | (refine decide_eq_true ?_;(omega))) ?_))
    all_goals refine jY (vs:=[_,_]) ?_
    all_goals (rw [hj2];all_goals rfl)
   | some z =>
    have hz:=(tv hp).2
    rw [hp] at cx_ps1 hj2
    dsimp only [Option.getD,Option.isSome] at cx_ps1 hj2
    repeat' (first | refine jM ?_ | (refine jo ?_;first | refine jV (ak F F oM) ?_ | refine aC F ?_ | (refine jV (dJ F F aS ?_) ?_;focus omega) | refine jL fun _=>?_ | refine jC F F F ?_ | refine ae F F F cx_ps1 F ?_) | refine ac F (aA oM) ?_ | refine ad F F ?_)
    exact br (i + 1,z) ⟨⟨oM,hj2⟩,by dsimp only;omega⟩ (by dsimp only;omega) tU rfl (by repeat (exact List.nil_sublist _))
  ·have ei : i = l.length:=oM
   subst ei
   rw [List.drop_length,f9] at hj2
   repeat' (first | refine jR ?_ | refine ad F (aH oM) ?_)
   all_goals refine jY (vs:=[_,_]) ?_
   all_goals (rw [hj2];all_goals rfl)
variable {ts : List Ty}
def eZ (g : Int → Nat) : List Int → Nat
 | []=>0
 | i :: l=>g i + eZ g l
theorem oS (g h : Int → Nat) : ∀ l,eZ (fun i=>g i + h i) l = eZ g l + eZ h l
 | []=>rfl
 | i :: l=>by rw [eZ,eZ,eZ,oS g h l];omega
theorem jp {g : Int → Nat} : ∀ {l : List Int},(∀ i ∈ l,g i = 0) → eZ g l = 0
 | [],_=>rfl
 | i :: l,h=>by rw [eZ,h i (by simp),jp fun j hj=>h j (by simp [hj])]
theorem lU {t : Int} {w : Nat} : ∀ {l : List Int},l.Pairwise (· < ·) → eZ (fun i=>if t = i then w else 0) l ≤ w
 | [],_=>Nat.zero_le _
 | i :: l,h=>by
  replace h:=List.pairwise_cons.1 h
  rw [eZ]
  by_cases e : t = i
  ·rw [if_pos e,jp fun j hj=>if_neg (by have:=h.1 j hj;omega)]
   omega
  ·rw [if_neg e]
   have:=lU (t:=t) (w:=w) h.2
   omega
theorem sR (g : Int → Nat) : ∀ a b,eZ g (a ++ b) = eZ g a + eZ g b
 | [],b=>by rw [List.nil_append,eZ,Nat.zero_add]
 | i :: a,b=>by rw [List.cons_append,eZ,eZ,sR g a b];omega
theorem vA {α : Type} {f : Int → List α} {g : Int → Nat} : ∀ {l : List Int},(∀ i ∈ l,(f i).length ≤ g i) → (l.flatMap f).length ≤ eZ g l
 | [],_=>Nat.le_refl _
 | i :: l,h=>by
  rw [List.flatMap_cons,List.length_append,eZ]
  have:=h i (by simp)
  have:=vA (l:=l) fun j hj=>h j (List.mem_cons_of_mem _ hj)
  omega
def mM : List V → Int → Nat
 | [],_=>0
 | v :: r,i=>(if v.tag = i then v.tot else 0) + mM r i
theorem qG : ∀ (vs : List V) {l : List Int},l.Pairwise (· < ·) → eZ (mM vs) l ≤ V.tots vs
 | [],l,_=>by rw [jp (g:=mM []) fun i _=>rfl];exact Nat.zero_le _
 | v :: r,l,h=>by
  have e : mM (v :: r) = fun i=>(if v.tag = i then v.tot else 0) + mM r i:=by funext i;rfl
  rw [e,oS,V.tots]
  have:=lU (t:=v.tag) (w:=v.tot) h
  have:=qG r h
  omega
theorem sH {f : Fld} : ∀ {vs : List V} {u : V},(∀ v ∈ vs,∃ p : Fld × V,v = aq p) → cF f vs = some u → u.tot ≤ mM vs f.tag
 | [],_,_,h=>by cases h
 | v :: r,u,hp,h=>by
  rw [cF] at h
  rw [mM]
  split at h
  ·rename_i e
   rw [if_pos e]
   obtain ⟨p,rfl⟩:=hp v (by simp)
   obtain rfl : p.2 = u:=Option.some.inj h
   rw [bK,V.tots,V.tots]
   omega
  ·have:=sH (fun v hv=>hp v (by simp [hv])) h
   omega
theorem qH {n : Int} : ∀ {vs : List V},n ∈ vs.map V.tag → 1 ≤ mM vs n
 | [],h=>by cases h
 | v :: r,h=>by
  rw [mM]
  rcases List.mem_cons.1 h with h | h
  ·rw [if_pos h.symm];have:=iT v;omega
  ·have:=qH (n:=n) h;omega
theorem mW (ks : List V) : ∀ n,n ≤ ks.length → eZ (fun i=>(ab ks i.toNat).tot) ((List.range n).map fun i : Nat=>(i : Int)) = V.tots (ks.take n)
 | 0,_=>rfl
 | n + 1,h=>by
  rw [List.range_succ,List.map_append,sR,mW ks n oM,dO oM,fI]
  simp only [List.map_cons,List.map_nil,eZ,V.tots,Int.toNat_natCast]
theorem kQ {k : ael} {a b : V} (ha : OfK ts k a) {i : Int} (h : i ∈ aU a b) : 0 ≤ i ∧ i ≤ 200:=by
 have hk : (a.what = 91 ∨ a.what = 63) → a.kids.length ≤ 20:=fun hwh=>by
  cases ha with
  | num=>rw [V.what] at hwh;omega
  | txt=>rw [V.what] at hwh;omega
  | flg=>rw [V.what] at hwh;omega
  | lst k ks h1 h2=>exact h1
  | non=>exact Nat.zero_le _
  | opt=>exact (by decide : (1 : Nat) ≤ 20)
  | recd=>rw [V.what] at hwh;omega
  | enm=>rw [V.what] at hwh;omega
  | uni=>rw [V.what] at hwh;omega
 unfold aU at h
 split at h
 ·rename_i hwh
  obtain ⟨j,hj,rfl⟩:=List.mem_map.1 h
  have:=List.mem_range.1 hj
  have:=hk hwh
  omega
 ·obtain ⟨j,hj,rfl⟩:=List.mem_map.1 (List.mem_filter.1 h).1
  have:=List.mem_range.1 hj
  omega
theorem pd (hw : SchW ts) : ∀ {n : Nat} {k : ael} {a b : V} {q : List Int} {wa wb : Nat},OfK ts k a → OfK ts k b → ax ts k = true → (a.tot ≤ wa ∨ gk ts k a) → (b.tot ≤ wb ∨ gk ts k b) → 1 ≤ wa + wb → (bB ts n k a b q).length ≤ wa + wb
 | 0,_,_,_,_,_,_,_,_,_,_,_,_=>Nat.zero_le _
 | n + 1,k,a,b,q,wa,wb,ha,hb,hk,h1,h2,h3=>by
  rw [bB]
  split
  ·exact Nat.zero_le _
  rename_i hne
  split
  case isFalse=>exact h3
  rename_i hd
  obtain ⟨d1,_,_⟩:=iI hw ha hb hk hd
  have go : ∀ (ga gb : Int → Nat),(∀ i ∈ aU a b,∀ k1 y z,aB ts k a i = some (k1,y) → aB ts k b i = some (k1,z) → (y.tot ≤ ga i ∨ gk ts k1 y) ∧ (z.tot ≤ gb i ∨ gk ts k1 z) ∧ 1 ≤ ga i + gb i) → eZ ga (aU a b) ≤ wa → eZ gb (aU a b) ≤ wb →
    ((aU a b).flatMap fun i=>match aB ts k a i,aB ts k b i with
     | some y,some z=>bB ts n y.1 y.2 z.2 (q ++ [i])
     | _,_=>[]).length ≤ wa + wb:=fun ga gb hg s1 s2=>by
   have:=vA (l:=aU a b) (g:=fun i=>ga i + gb i) (f:=fun i=>match aB ts k a i,aB ts k b i with
     | some y,some z=>bB ts n y.1 y.2 z.2 (q ++ [i])
     | _,_=>[]) fun i hi=>by
    obtain ⟨k1,y,z,e1,e2⟩:=d1 i hi
    have hi0:=(kQ ha hi).1
    obtain ⟨y1,y2⟩:=cJ hw ha hk hi0 e1
    obtain ⟨z1,_⟩:=cJ hw hb hk hi0 e2
    obtain ⟨g1,g2,g3⟩:=hg i hi k1 y z e1 e2
    rw [e1,e2]
    exact pd hw y1 z1 y2 g1 g2 g3
   rw [oS] at this
   omega
  obtain ⟨c,r,rfl⟩:=dT hk
  by_cases hc : c.toNat = 91 ∨ c.toNat = 63
  ·have hs : ∀ v m,aB ts (c :: r) v m = if m < (v.kids.length : Nat) then some (r,ab v.kids m.toNat) else none:=fun v m=>by
    unfold aB
    dsimp only
    rw [if_pos hc]
   have hw2 : ∀ v,OfK ts (c :: r) v → v.what = 91 ∨ v.what = 63:=fun v hv=>by
    rcases dg hv oM with ⟨g1,_⟩ | ⟨g1,_⟩ | ⟨g1,_⟩ | ⟨g1,ks,_,_,rfl⟩ | ⟨g1,rfl | ⟨w,_,rfl⟩⟩
    ·omega
    ·omega
    ·omega
    ·exact Or.inl F
    ·exact Or.inr F
    ·exact Or.inr F
   have wa2:=hw2 a ha
   have wb2:=hw2 b hb
   have hd2:=hd
   unfold bZ at hd2
   rw [if_neg oM,if_neg oM,if_pos wa2] at hd2
   have hl:=of_decide_eq_true hd2
   have big : ∀ (v : V) (w : Nat),OfK ts (c :: r) v → (v.what = 91 ∨ v.what = 63) → 0 < v.kids.length → (v.tot ≤ w ∨ gk ts (c :: r) v) → V.tots v.kids ≤ w:=fun v w hv hwv hk hh=>by
    rcases hh with h | h
    ·obtain ⟨w1,x,t,ks⟩:=v
     rw [bK] at h
     rw [V.kids]
     omega
    ·rw [j4 hw hv h oM] at hk
     cases hk
   have e : aU a b = (List.range a.kids.length).map fun i : Nat=>(i : Int):=by unfold aU;rw [if_pos wa2]
   refine go (fun i=>(ab a.kids i.toNat).tot) (fun i=>(ab b.kids i.toNat).tot) (fun i hi k1 y z e1 e2=>?_) ?_ ?_
   ·rw [hs] at e1 e2
    split at e1
    ·split at e2
     ·cases e1
      cases e2
      have:=iT (ab a.kids i.toNat)
      exact ⟨Or.inl (Nat.le_refl _),Or.inl (Nat.le_refl _),oM⟩
     ·cases e2
    ·cases e1
   ·rw [e,mW a.kids _ (Nat.le_refl _),List.take_length]
    exact big a wa ha wa2 hl.2 h1
   ·rw [e,mW b.kids _ oM,hl.1,List.take_length]
    exact big b wb hb wb2 oM h2
  ·cases hr : aZ ts (c :: r) with
   | none =>
    refine go (fun _=>0) (fun _=>0) (fun i hi k1 y z e1 e2=>?_) ?_ ?_
    ·unfold aB at e1
     dsimp only at e1
     rw [if_neg hc,hr] at e1
     cases e1
    ·rw [jp fun _ _=>rfl];exact Nat.zero_le _
    ·rw [jp fun _ _=>rfl];exact Nat.zero_le _
   | some t =>
    have ht:=bj hr
    have htw:=hw.ty t ht
    rcases bE ha hr with ⟨a1,fs,rfl,a3,a4,a5,a6⟩ | ⟨a1,d,rfl,_⟩ | ⟨a1,a2,d,w,rfl,a4,a5⟩
    ·rcases bE hb hr with ⟨b1,gs,rfl,b3,b4,b5,b6⟩ | ⟨b1,_⟩ | ⟨b1,_⟩
     ·have hna : ¬ ((V.nd 82 [] 0 (fs.map aq)).what = 91 ∨ (V.nd 82 [] 0 (fs.map aq)).what = 63):=by rw [V.what];omega
      have big : ∀ (hs : List (Fld × V)) (w : Nat),OfK ts (c :: r) (.nd 82 [] 0 (hs.map aq)) → ((V.nd 82 [] 0 (hs.map aq)).tot ≤ w ∨ gk ts (c :: r) (.nd 82 [] 0 (hs.map aq))) → V.tots (hs.map aq) ≤ w:=fun hs w ho hh=>by
       rcases hh with h | h
       ·rw [bK] at h;omega
       ·have:=j4 hw ho h (by rw [V.what];decide)
        rw [V.kids] at this
        rw [this]
        exact Nat.zero_le _
      have told : ∀ (hs : List (Fld × V)) (f : Fld),f ∈ t.fields → (cZ ts (.nd 82 [] 0 (hs.map aq)) f).tot ≤ mM (hs.map aq) f.tag ∨ gk ts f.kind (cZ ts (.nd 82 [] 0 (hs.map aq)) f):=fun hs f hf=>by
       unfold cZ
       rw [V.kids]
       cases e : cF f (hs.map aq) with
       | none=>exact Or.inr (sS hw ht oM hf)
       | some u =>
        exact Or.inl (sH (fun v hv=>by obtain ⟨p,_,e⟩:=List.mem_map.1 hv;exact ⟨p,e.symm⟩) e)
      refine go (mM (fs.map aq)) (mM (gs.map aq)) (fun i hi k1 y z e1 e2=>?_) (Nat.le_trans (qG _ (gv _ _)) (big fs wa ha h1)) (Nat.le_trans (qG _ (gv _ _)) (big gs wb hb h2))
      cases hf : cm t.fields i with
      | none=>rw [gw hc hr hf] at e1;cases e1
      | some f =>
       have hfm:=List.mem_of_find?_eq_some hf
       have hft : f.tag = i:=by have:=List.find?_some hf;simpa using this
       rw [iU hc hr hf a1] at e1 e2
       cases e1
       cases e2
       have t1:=told fs f hfm
       have t2:=told gs f hfm
       rw [hft] at t1 t2
       refine ⟨t1,t2,?_⟩
       rcases ia hna hi with h | h
       ·have h : i ∈ (fs.map aq).map V.tag:=by
         unfold cM at h
         rw [V.what,if_pos rfl,V.kids] at h
         exact h
        have:=qH h
        omega
       ·have h : i ∈ (gs.map aq).map V.tag:=by
         unfold cM at h
         rw [V.what,if_pos rfl,V.kids] at h
         exact h
        have:=qH h
        omega
     ·omega
     ·omega
    ·unfold bZ at hd
     rw [V.what,if_neg dC,if_neg dC,if_neg dC] at hd
     cases hd
    ·rcases bE hb hr with ⟨b1,_⟩ | ⟨b1,_⟩ | ⟨b1,b2,e,x,rfl,b4,b5⟩
     ·omega
     ·omega
     ·have hde : d.tag = e.tag:=by
       unfold bZ at hd
       rw [V.what,if_neg dC,if_pos rfl] at hd
       exact of_decide_eq_true hd
      have hkid : ∀ (d : Fld) (w : V) (m : Nat),d ∈ t.fields → ((V.nd 85 [] d.tag [w]).tot ≤ m ∨ gk ts (c :: r) (.nd 85 [] d.tag [w])) → w.tot ≤ m ∨ gk ts d.kind w:=fun d w m hd h=>by
       rcases h with h | h | ⟨j,h⟩
       ·rw [bK,V.tots,V.tots] at h;exact Or.inl oM
       ·cases h
       ·obtain ⟨m,_,e2,e3,_⟩:=nS hw hr a1 a2 hd h
        exact Or.inr (Or.inr ⟨m,by rw [e3,e2];rfl⟩)
      refine go (fun i=>if d.tag = i then wa else 0) (fun i=>if e.tag = i then wb else 0) (fun i hi k1 y z e1 e2=>?_) (lU (gv _ _)) (lU (gv _ _))
      have sel : ∀ (d : Fld) (w : V),d ∈ t.fields → ∀ q,aB ts (c :: r) (.nd 85 [] d.tag [w]) i = some q → q = (d.kind,w) ∧ d.tag = i:=fun d w hd q hq=>by
       cases hf : cm t.fields i with
       | none=>rw [gw hc hr hf] at hq;cases hq
       | some f =>
        have hfm:=List.mem_of_find?_eq_some hf
        have hft : f.tag = i:=by have:=List.find?_some hf;simpa using this
        unfold aB at hq
        dsimp only at hq
        rw [if_neg hc,hr] at hq
        dsimp only at hq
        rw [hf] at hq
        dsimp only at hq
        rw [if_neg a2,if_neg a1] at hq
        split at hq
        ·rename_i htg
         obtain rfl:=fe htw hfm hd (by rw [hft];exact htg.symm)
         cases hq
         exact ⟨F,htg⟩
        ·cases hq
      obtain ⟨q1,q2⟩:=sel d w a4 _ e1
      obtain ⟨q3,q4⟩:=sel e x b4 _ e2
      cases q1
      injection q3 with q3 q5
      subst q5
      rw [if_pos q2,if_pos q4]
      refine ⟨hkid d w wa a4 h1,?_,h3⟩
      rw [q3]
      exact hkid e z wb b4 h2
theorem kj (hw : SchW ts) : ∀ {n : Nat} {k : ael} {a b : V} {q : List Int},OfK ts k a → OfK ts k b → ax ts k = true → (a.deep ≤ 12 ∧ a.out.length ≤ 400) → (b.deep ≤ 12 ∧ b.out.length ≤ 400) → (∀ m ∈ q,0 ≤ m ∧ m ≤ 999999) →
  ∀ c ∈ bB ts n k a b q,(∀ m ∈ c.1,0 ≤ m ∧ m ≤ 999999) ∧ c.1.length ≤ q.length + n ∧ c.2.out.length ≤ 400
 | 0,_,_,_,_,_,_,_,_,_,_,c,h=>by cases h
 | n + 1,k,a,b,q,ha,hb,hk,fa,fb,hq,c,h=>by
  rw [bB] at h
  split at h
  ·cases h
  ·split at h
   ·rename_i hd
    obtain ⟨i,hi,hc⟩:=List.mem_flatMap.1 h
    obtain ⟨k1,y,z,e1,e2⟩:=(iI hw ha hb hk hd).1 i hi
    have hi0:=kQ ha hi
    obtain ⟨y1,y2⟩:=cJ hw ha hk hi0.1 e1
    obtain ⟨z1,_⟩:=cJ hw hb hk hi0.1 e2
    have fy:=gN hw ha hk hi0.1 e1 fa.1 fa.2
    have fz:=gN hw hb hk hi0.1 e2 fb.1 fb.2
    rw [e1,e2] at hc
    have hm : ∀ m ∈ q ++ [i],0 ≤ m ∧ m ≤ 999999:=fun m hm=>by
     rcases List.mem_append.1 hm with hm | hm
     ·exact hq m hm
     ·rw [List.mem_singleton.1 hm];omega
    obtain ⟨r1,r2,r3⟩:=kj hw y1 z1 y2 fy fz hm c hc
    refine ⟨r1,?_,r3⟩
    rw [List.length_append,List.length_singleton] at r2
    omega
   ·rw [List.mem_singleton.1 h]
    exact ⟨hq,Nat.le_add_right _ _,fb.2⟩
def c6 (c : List Int × V) : Ch:=(bN c.1,c.2.out)
theorem yJ (hw : SchW ts) {s k : ael} {v u : V} (h1 : a9 s = some ts) (hv : OfK ts k v) (h : cY s k v.out = some u) : u = v:=by
 obtain ⟨ts',g1,g2,g3,g4,g5⟩:=cQ h
 obtain rfl : ts = ts':=Option.some.inj (h1.symm.trans g1)
 exact iY hw (c9 g3) hv (eA g3).1
theorem pq (hw : SchW ts) {s k : ael} (h1 : a9 s = some ts) (hk : ax ts k = true) : ∀ {ds : List (List Int × V)} {v : V} {z : ael},OfK ts k v → iZ ts k v ds → (∀ d ∈ ds,∀ m ∈ d.1,0 ≤ m ∧ m ≤ 999999) → f9 s k v.out (ds.map c6) = some z →
  z = (dF ts k v ds).out ∧ ∀ d ∈ ds,d.1.length ≤ 8
 | [],v,z,_,_,_,e=>by
  rw [List.map_nil,f9] at e
  exact ⟨(Option.some.inj e).symm,fun d hd=>by cases hd⟩
 | d :: r,v,z,hv,hd,hm,e=>by
  rw [List.map_cons,f9] at e
  cases hp : eT s k v.out (c6 d).1 (c6 d).2 with
  | none=>rw [hp] at e;cases e
  | some t =>
   rw [hp] at e
   dsimp only at e
   obtain ⟨ts',u,q,k1,v1,y,g1,g2,g3,g4,g5,g6,rfl⟩:=tu hp
   obtain rfl : ts = ts':=Option.some.inj (h1.symm.trans g1)
   obtain rfl:=yJ hw h1 hv g2
   have hpo:=rC (hm d (by simp))
   have g3' : df (bN d.1) = some q:=g3
   rw [hpo] at g3'
   split at g3'
   ·rename_i h8
    obtain rfl : d.1 = q:=Option.some.inj g3'
    obtain ⟨⟨⟨k',v',f1,f2⟩,f3⟩,f4⟩:=hd
    rw [g4] at f1
    cases f1
    have hy:=pQ _ _ _ _ g5
    have hyx:=pP _ _ _ _ g5
    dsimp only at hy hyx
    rw [List.append_nil] at hyx
    obtain rfl:=iY hw f2 hy hyx
    have:=pq hw h1 hk (dL hw hv hk f3 g4 f2) f4 (fun x hx=>hm x (by simp [hx])) e
    refine ⟨this.1,fun x hx=>?_⟩
    rcases List.mem_cons.1 hx with rfl | hx
    ·exact h8
    ·exact this.2 x hx
   ·cases g3'
def dK (ts : List Ty) (k : ael) (a b : V) : List Ch:=(bB ts 13 k a b []).map c6
def cD (s k w t : ael) : Option (List Ch):=match a9 s,cY s k w,cY s k t with
 | some ts,some a,some b=>if (dK ts k a b).length ≤ 30 ∧ (gZ s k w (dK ts k a b)).isSome = true then some (dK ts k a b) else none
 | _,_,_=>none
theorem r9 {s k w t : ael} {a b : V} (h1 : a9 s = some ts) (ha : cY s k w = some a) (hb : cY s k t = some b) {z : ael} (h : gZ s k w (dK ts k a b) = some z) : z = t ∧ ∀ d ∈ bB ts 13 k a b [],d.1.length ≤ 8:=by
 obtain ⟨ts',g1,g2,g3,g4,g5⟩:=cQ ha
 obtain rfl : ts = ts':=Option.some.inj (h1.symm.trans g1)
 obtain ⟨ts',i1,i2,i3,i4,i5⟩:=cQ hb
 obtain rfl : ts = ts':=Option.some.inj (h1.symm.trans i1)
 have hw:=dV h1
 have oa:=c9 g3
 have ob:=c9 i3
 obtain ⟨a1,a2,a3⟩:=eA g3
 obtain ⟨b1,b2,b3⟩:=eA i3
 have hl:=sC hw 12 oa ob g2 (Or.inl a3) (Or.inl b3)
 obtain ⟨e1,e2⟩:=pe hw oa ob g2 hl
 unfold gZ at h
 split at h
 ·rw [← a1] at h
  have hin:=kj (n:=13) (q:=[]) hw oa ob g2 ⟨a3,by rw [a1];exact a2⟩ ⟨b3,by rw [b1];exact b2⟩ (fun m hm=>by cases hm)
  have:=pq hw h1 g2 oa e1 (fun d hd=>(hin d hd).1) h
  rw [e2,b1] at this
  exact this
 ·cases h
theorem ue {s k w : ael} (h : lx s k w = true) : cD s k w w = some []:=by
 obtain ⟨a,ha⟩:=Option.isSome_iff_exists.1 h
 obtain ⟨ts,g1,_⟩:=cQ ha
 unfold cD
 rw [g1,ha]
 dsimp only
 rw [dK,rY,List.map_nil,if_pos]
 refine ⟨by simp,?_⟩
 unfold gZ
 rw [if_pos h,f9]
 rfl
theorem uO {s k w t : ael} {l : List Ch} (h : cD s k w t = some l) : gZ s k w l = some t ∧ cD s k w w = some [] ∧ (w = t ↔ l = []):=by
 unfold cD at h
 split at h
 ·rename_i ts a b h1 ha hb
  split at h
  ·rename_i hc
   cases h
   obtain ⟨z,hz⟩:=Option.isSome_iff_exists.1 hc.2
   obtain ⟨rfl,_⟩:=r9 h1 ha hb hz
   have ho : lx s k w = true:=by unfold lx;rw [ha];rfl
   refine ⟨hz,ue ho,fun e=>?_,fun e=>?_⟩
   ·subst e
    obtain rfl : a = b:=Option.some.inj (ha.symm.trans hb)
    rw [dK,rY];rfl
   ·rw [e] at hz
    unfold gZ at hz
    rw [if_pos ho,f9] at hz
    exact Option.some.inj hz
  ·cases h
 ·cases h
theorem tD {n : Int} : bN [n] = bi n:=rfl
theorem xe {q : List Int} {n : Int} (h : q ≠ []) : bN q ++ [47] ++ bi n = bN (q ++ [n]):=by
 rw [nh h (by simp),tD];simp
theorem yC {q : List Int} : bN q = [] ↔ q = []:=⟨fun h=>by
 cases q with
 | nil=>rfl
 | cons n q=>exact absurd h (lk (by simp)),fun h=>by rw [h];rfl⟩
theorem gC : ∀ {q : List Int},(∀ n ∈ q,0 ≤ n ∧ n ≤ 999999) → (bN q).length ≤ 7 * q.length
 | [],_=>by simp [bN,aR]
 | [n],h=>by
  have:=kF (h n (by simp)).2
  rw [tD];simp only [List.length_cons,List.length_nil];omega
 | n :: m :: q,h=>by
  have h1:=kF (h n (by simp)).2
  have h2:=gC (q:=m :: q) fun x hx=>h x (by simp [List.mem_cons] at hx ⊢;exact .inr hx)
  rw [gg (by simp)]
  simp only [List.length_append,List.length_cons] at h2 ⊢
  omega
theorem lr {q : List Int} {s : Int} (hq : ∀ n ∈ q,0 ≤ n ∧ n ≤ 999999) (h : 0 ≤ s ∧ s ≤ 999999) : ∀ n ∈ q ++ [s],0 ≤ n ∧ n ≤ 999999:=fun n hn=>by
 rcases List.mem_append.1 hn with hn | hn
 ·exact hq n hn
 ·simp only [List.mem_singleton] at hn;subst hn;exact h
section
variable {P : Program} {n : Nat} {D : List Deferred} {E : bQ} {B : Base} {G : Gh} {L : List Own} {K : Act → World → Prop} {Q : Exit → Act → World → Prop} {ty : TypeId} {pos : String} {aft : Array Edge}
theorem xX {fo : Operand} {l : List Operand} {ah : Array TypeId} {d : Nat} {g : Option (Nat × Bool)} {f : FuncId} {fi ca az vs : List Value} {xs : List Value} {el : TypeId} {u : Value} {sz m : Nat} {R : List Own} {Post : Value → Gh → List Own → Prop}
  [ha2 : AccI L u el sz m xs R] (hf : ev E fo = some (.func (.func f) fi.toArray ca.toArray)) (ha : evs E l = some az) (hv : fi ++ az ++ ca = vs) (hc : fp P f vs G [.acc u el sz m xs] Post) (hlt : Nat.blt d n = true)
  (k : ∀ v G' L',Gh.le G G' → Post v G' L' → Nx n D ((d,v) :: E) B G' (L' ++ R) K) : Nx n D E B G L (ow P ⟨some d,.call ⟨.value fo,l.toArray,ah⟩,ty,pos,aft,g⟩ Q K) :=
 iL (Lp:=[.acc u el sz m xs]) hf ha hv hc ha2.del.perm hlt fun v G' L' h=>k v G' L' h.1 h.2
end
variable {G : Gh}
def iy (v : V) : List Int:=if v.what = 82 then v.kids.map V.tag else if v.what = 85 ∨ v.what = 69 then [v.tag] else []
theorem lX {ts : List Ty} {v : V} {k : ael} {b : Nat} (h : RepR G ts v k b) : ∃ tx a1 c1 a2 c2,bU G b 0 [S k,S tx,.slice a1 (iy v).length c1,.slice a2 v.kids.length c2] ∧ aN G (.slice a1 (iy v).length c1) 1 (iy v).length (ag cL (iy v)) ∧
  (((∃ r,k = 64 :: r) ∧ ((v.what = 82 ∧ tx = [82]) ∨ (v.what = 85 ∧ tx = [85]) ∨ (v.what = 69 ∧ tx = [69]))) ∨ ((∃ r,k = 91 :: r) ∧ v.what = 91) ∨ ((∃ r,k = 63 :: r) ∧ v.what = 63) ∨ ((k = [110] ∨ k = [116] ∨ k = [102]) ∧ (v.what = 110 ∨ v.what = 116 ∨ v.what = 102))):=by
 have h0 : ∀ G,aN G aK 1 0 (ag cL []):=fun G=>⟨rfl,.inl ⟨rfl,rfl⟩⟩
 cases h with
 | leaf w x k tx b h1 h2 =>
  rcases h2 with ⟨rfl,rfl,_⟩ | ⟨rfl,rfl,_⟩ | ⟨rfl,rfl,_⟩
  ·exact ⟨tx,none,0,none,0,h1,h0 G,.inr (.inr (.inr ⟨.inl F,.inl F⟩))⟩
  ·exact ⟨tx,none,0,none,0,h1,h0 G,.inr (.inr (.inr ⟨.inr (.inl F),.inr (.inl F)⟩))⟩
  ·exact ⟨tx,none,0,none,0,h1,h0 G,.inr (.inr (.inr ⟨.inr (.inr F),.inr (.inr F)⟩))⟩
 | lst k b ks bs a c h1 h2 h3 hk=>exact ⟨_,none,0,a,c,h1,h0 G,.inr (.inl ⟨⟨_,F⟩,F⟩)⟩
 | non k b h1=>exact ⟨_,none,0,none,0,h1,h0 G,.inr (.inr (.inl ⟨⟨_,F⟩,F⟩))⟩
 | opt k b kb b' cc w h0' h1 h2 h3=>exact ⟨_,none,0,_,_,h1,h0 G,.inr (.inr (.inl ⟨⟨_,F⟩,F⟩))⟩
 | recd k b t fs bs a a2 c c2 h0 h1 h2 h3 h4 h5 hk =>
  have e : iy (.nd 82 [] 0 (fs.map fun p=>.nd 61 [] p.1.tag [p.2])) = fs.map fun p=>p.1.tag:=by
   unfold iy
   rw [V.what,if_pos rfl,V.kids,List.map_map]
   rfl
  rw [e,V.kids]
  refine ⟨[82],a,c,a2,c2,by rw [List.length_map,List.length_map];exact h1,by rw [List.length_map];exact h2,.inl ⟨d5 h0.1,.inl ⟨F,F⟩⟩⟩
 | enm k b tgb t d h0 h1 h2 h3=>exact ⟨[69],_,_,none,0,h2,⟨F,.inr ⟨tgb,0,_,F,Nat.le_add_left _ _,h3⟩⟩,.inl ⟨d5 h0.1,.inr (.inr ⟨F,F⟩)⟩⟩
 | uni k b tgb kb b' cc t d w hcc h0 h1 h2 h3 h4 hk=>exact ⟨[85],_,_,_,_,h2,⟨F,.inr ⟨tgb,0,_,F,Nat.le_add_left _ _,h3⟩⟩,.inl ⟨d5 h0.1,.inr (.inl ⟨F,F⟩)⟩⟩
theorem pC {ts : List Ty} {k : ael} {a b : V} (ha : OfK ts k a) (hb : OfK ts k b) : a.what = b.what:=by
 cases hr : aZ ts k with
 | some t =>
  rcases bE ha hr with ⟨a1,fs,rfl,_⟩ | ⟨a1,d,rfl,_⟩ | ⟨a1,a2,d,w,rfl,_⟩ <;> rcases bE hb hr with ⟨b1,gs,rfl,_⟩ | ⟨b1,e,rfl,_⟩ | ⟨b1,b2,e,x,rfl,_⟩ <;> (first | rfl | omega)
 | none =>
  cases ha with
  | recd _ t' fs g1=>rw [hr] at g1;cases g1
  | enm _ t' d g1=>rw [hr] at g1;cases g1
  | uni _ t' d v g1=>rw [hr] at g1;cases g1
  | num =>
   cases hb with
   | num=>rfl
   | recd _ t' fs g1=>rw [hr] at g1;cases g1
   | enm _ t' d g1=>rw [hr] at g1;cases g1
   | uni _ t' d v g1=>rw [hr] at g1;cases g1
  | txt =>
   cases hb with
   | txt=>rfl
   | recd _ t' fs g1=>rw [hr] at g1;cases g1
   | enm _ t' d g1=>rw [hr] at g1;cases g1
   | uni _ t' d v g1=>rw [hr] at g1;cases g1
  | flg =>
   cases hb with
   | flg=>rfl
   | recd _ t' fs g1=>rw [hr] at g1;cases g1
   | enm _ t' d g1=>rw [hr] at g1;cases g1
   | uni _ t' d v g1=>rw [hr] at g1;cases g1
  | lst =>
   cases hb with
   | lst=>rfl
   | recd _ t' fs g1=>rw [hr] at g1;cases g1
   | enm _ t' d g1=>rw [hr] at g1;cases g1
   | uni _ t' d v g1=>rw [hr] at g1;cases g1
  | non =>
   cases hb with
   | non=>rfl
   | opt=>rfl
   | recd _ t' fs g1=>rw [hr] at g1;cases g1
   | enm _ t' d g1=>rw [hr] at g1;cases g1
   | uni _ t' d v g1=>rw [hr] at g1;cases g1
  | opt =>
   cases hb with
   | non=>rfl
   | opt=>rfl
   | recd _ t' fs g1=>rw [hr] at g1;cases g1
   | enm _ t' d g1=>rw [hr] at g1;cases g1
   | uni _ t' d v g1=>rw [hr] at g1;cases g1
theorem xR {q : List Int} {n : Int} (hn : 0 ≤ n ∧ n ≤ 999999) (hl : (bN q).length ≤ 100000) : a7 aek 55 [S (bN q),I n] G (· = S (bN (q ++ [n]))):=by
 have hdl:=kF hn.2
 by_cases hq : q = []
 ·subst hq
  have hp : bN [] = []:=rfl
  refine jE [(0,_),(1,_)] Tryz.func55 Tryz.ntmps55 fun B hB=>?_
  repeat' (first | refine jR ?_ | (refine jo ?_;refine ae F F F (fU oM) F ?_) | refine ac F F ?_)
  all_goals refine jY (vs:=[_]) ?_
  all_goals (rw [aM];rfl)
 ·have hp : bN q ≠ []:=fun h=>hq (yC.1 h)
  refine jE [(0,_),(1,_)] Tryz.func55 Tryz.ntmps55 fun B hB=>?_
  repeat' (first | refine jX ?_ | (refine jo ?_;refine ae F F F (fU oM) F ?_) | refine ad F (aH ‹_›) ?_)
  all_goals refine jY (vs:=[_]) ?_
  all_goals (rw [aM,← xe hq])
theorem sh {ts : List Ty} {k : ael} {a b : V} {ba bb : Nat} (ha : RepR G ts a k ba) (hb : RepR G ts b k bb) (oa : OfK ts k a) (ob : OfK ts k b) : a7 aek 52 [Pt ba 0,Pt bb 0] G (· = Bo (bZ a b)):=by
 have hwh:=pC oa ob
 obtain ⟨tx,a1,c1,a2,c2,hsa,hta,hca⟩:=lX ha
 obtain ⟨ty,b1,d1,b2,d2,hsb,htb,hcb⟩:=lX hb
 rcases hca with ⟨⟨r,rfl⟩,h⟩ | ⟨⟨r,rfl⟩,h⟩ | ⟨⟨r,rfl⟩,h⟩ | ⟨hk,h⟩
 ·have hk0 : bt (64 :: r) (Int.toNat 0) = 64:=bH 64 r
  have hkl : (64 :: r).length = r.length + 1:=rfl
  rcases h with ⟨h,rfl⟩ | ⟨h,rfl⟩ | ⟨h,rfl⟩
  ·have e : bZ a b = true:=by unfold bZ;rw [if_pos h]
   rw [e]
   refine jE [(0,_),(1,_)] Tryz.func52 Tryz.ntmps52 fun B hB=>?_
   repeat' (first | refine jM ?_ | (refine jo ?_;first | refine jV (aj F F aS F F) ?_ | refine aP F ?_) | refine aF F F F ?_ | refine ac F F ?_)
   all_goals refine jY (vs:=[_]) ?_
   all_goals rfl
  ·have e : bZ a b = decide (a.tag = b.tag):=by unfold bZ;rw [if_neg oM,if_pos h]
   have ea : iy a = [a.tag]:=by unfold iy;rw [if_neg oM,if_pos oM]
   have eb : iy b = [b.tag]:=by unfold iy;rw [if_neg oM,if_pos oM]
   rw [ea] at hta hsa
   rw [eb] at htb hsb
   obtain ⟨xb,xo,xc,e1,hxa⟩:=hta.expl (by simp)
   simp only [Value.slice.injEq] at e1
   obtain ⟨rfl,-,rfl⟩:=e1
   obtain ⟨yb,yo,yc,e1,hxb⟩:=htb.expl (by simp)
   simp only [Value.slice.injEq] at e1
   obtain ⟨rfl,-,rfl⟩:=e1
   have hla : ([a.tag]).length = 1:=rfl
   have hlb : ([b.tag]).length = 1:=rfl
   rw [hla] at hsa
   rw [hlb] at hsb
   have hxa : bU G xb xo [I a.tag]:=hxa
   have hxb : bU G yb yo [I b.tag]:=hxb
   rw [e]
   refine jE [(0,_),(1,_)] Tryz.func52 Tryz.ntmps52 fun B hB=>?_
   repeat' (first | refine jM ?_ | (refine jo ?_;first | refine jV (aj F F aS F F) ?_ | refine aP F ?_) | refine aF F F F ?_ | refine ac F F ?_ | refine ad F F ?_ | (refine an (ao (id:=4) _ (fun _ h=>h) am ?_);refine jT 8 [0,1,2,6,7,8] (aa 14 455) ?_;(refine jG (aa 14 463) 3 F (aj F F aS F F) ?_);(refine jG (aa 14 479) 4 F (aT F F oM) ?_);(refine jG (aa 14 511) 5 F (aj F F aS F F) ?_);(refine jG (aa 14 1023) 9 F (aj F F aS F F) ?_);(refine jG (aa 14 2047) 10 F (aT F F oM) ?_);(refine jG (aa 14 4095) 11 F (aj F F aS F F) ?_);refine jT 0 [12,13] (aa 14 16383) ?_;refine jQ ?_))
   all_goals refine jY (vs:=[_]) ?_
   all_goals rfl
  ·have e : bZ a b = false:=by unfold bZ;rw [if_neg oM,if_neg oM,if_neg oM]
   rw [e]
   refine jE [(0,_),(1,_)] Tryz.func52 Tryz.ntmps52 fun B hB=>?_
   repeat' (first | refine jM ?_ | (refine jo ?_;first | refine jV (aj F F aS F F) ?_ | refine aP F ?_ | refine aE F ?_) | refine aF F F F ?_ | refine aw F F F ?_ | refine ad F F ?_)
   all_goals refine jY (vs:=[_]) ?_
   all_goals rfl
 ·have hk0 : bt (91 :: r) (Int.toNat 0) = 91:=bH 91 r
  have hkl : (91 :: r).length = r.length + 1:=rfl
  have e : bZ a b = decide (a.kids.length = b.kids.length ∧ 0 < a.kids.length):=by unfold bZ;rw [if_neg oM,if_neg oM,if_pos oM]
  rw [e]
  clear e
  by_cases hl : a.kids.length = b.kids.length
  ·by_cases h0 : 0 < a.kids.length
   ·rw [decide_eq_true ⟨hl,h0⟩]
    refine jE [(0,_),(1,_)] Tryz.func52 Tryz.ntmps52 fun B hB=>?_
    repeat' (first | refine jM ?_ | (refine jo ?_;first | refine jV (aj F F aS F F) ?_ | refine aP F ?_ | refine aE F ?_) | refine aF F F F ?_ | refine aw F F F ?_ | refine ac F F ?_ | refine ad F F ?_ | (refine an (ao (id:=6) _ (fun _ h=>h) am ?_);refine jT 14 [0,1,2,5,6,7] (aa 20 231) ?_;(refine jG (aa 20 239) 3 F (aj F F aS F F) ?_);(refine jG (aa 20 255) 4 F (af F) ?_);(refine jG (aa 20 511) 8 F (aj F F aS F F) ?_);(refine jG (aa 20 1023) 9 F (af F) ?_);refine jT 8 [10,11] (aa 20 4095) ?_;(try ((refine Nx.re (d:=72) (v':=Bo true) F (congrArg Value.bool (aA oM)) ?_)));refine jT 5 [12,13,14] (aa 20 32767) ?_;(refine jG (aa 20 65535) 15 F (aj F F aS F F) ?_);(refine jG (aa 20 131071) 16 F (af F) ?_);refine jT 2 [17] (aa 20 262143) ?_;(refine jG (aa 20 524287) 18 F (bR F F F) ?_);refine jT 0 [19] (aa 20 1048575) ?_;refine jQ ?_))
    all_goals refine jY (vs:=[_]) ?_
    all_goals (rw [aM];simp_all;done)
   ·rw [decide_eq_false (fun h=>h0 h.2)]
    refine jE [(0,_),(1,_)] Tryz.func52 Tryz.ntmps52 fun B hB=>?_
    repeat' (first | refine jM ?_ | (refine jo ?_;first | refine jV (aj F F aS F F) ?_ | refine aP F ?_ | refine aE F ?_) | refine aF F F F ?_ | refine aw F F F ?_ | refine ac F F ?_ | refine ad F F ?_ | (refine an (ao (id:=6) _ (fun _ h=>h) am ?_);refine jT 14 [0,1,2,5,6,7] (aa 20 231) ?_;(refine jG (aa 20 239) 3 F (aj F F aS F F) ?_);(refine jG (aa 20 255) 4 F (af F) ?_);(refine jG (aa 20 511) 8 F (aj F F aS F F) ?_);(refine jG (aa 20 1023) 9 F (af F) ?_);refine jT 8 [10,11] (aa 20 4095) ?_;(try ((refine Nx.re (d:=72) (v':=Bo true) F (congrArg Value.bool (aA oM)) ?_)));refine jT 5 [12,13,14] (aa 20 32767) ?_;(refine jG (aa 20 65535) 15 F (aj F F aS F F) ?_);(refine jG (aa 20 131071) 16 F (af F) ?_);refine jT 2 [17] (aa 20 262143) ?_;(refine jG (aa 20 524287) 18 F (bR F F F) ?_);refine jT 0 [19] (aa 20 1048575) ?_;refine jQ ?_))
    all_goals refine jY (vs:=[_]) ?_
    all_goals (rw [aM];simp_all;done)
  ·rw [decide_eq_false (fun h=>hl h.1)]
   refine jE [(0,_),(1,_)] Tryz.func52 Tryz.ntmps52 fun B hB=>?_
   repeat' (first | refine jM ?_ | (refine jo ?_;first | refine jV (aj F F aS F F) ?_ | refine aP F ?_ | refine aE F ?_) | refine aF F F F ?_ | refine aw F F F ?_ | refine ac F F ?_ | refine ad F F ?_ | (refine an (ao (id:=6) _ (fun _ h=>h) am ?_);refine jT 14 [0,1,2,5,6,7] (aa 20 231) ?_;(refine jG (aa 20 239) 3 F (aj F F aS F F) ?_);(refine jG (aa 20 255) 4 F (af F) ?_);(refine jG (aa 20 511) 8 F (aj F F aS F F) ?_);(refine jG (aa 20 1023) 9 F (af F) ?_);refine jT 8 [10,11] (aa 20 4095) ?_;(try ((refine Nx.re (d:=72) (v':=Bo false) F (congrArg Value.bool (aH oM)) ?_)));refine jT 5 [12,13,14] (aa 20 32767) ?_;(refine jN (aa 20 65535) 15 F ?_);(refine jN (aa 20 131071) 16 F ?_);refine jT 2 [17] (aa 20 262143) ?_;(refine jG (aa 20 524287) 18 F (bm F F F) ?_);refine jT 0 [19] (aa 20 1048575) ?_;refine jQ ?_))
   all_goals refine jY (vs:=[_]) ?_
   all_goals (rfl)
 ·have hk0 : bt (63 :: r) (Int.toNat 0) = 63:=bH 63 r
  have hkl : (63 :: r).length = r.length + 1:=rfl
  have e : bZ a b = decide (a.kids.length = b.kids.length ∧ 0 < a.kids.length):=by unfold bZ;rw [if_neg oM,if_neg oM,if_pos oM]
  rw [e]
  clear e
  by_cases hl : a.kids.length = b.kids.length
  ·by_cases h0 : 0 < a.kids.length
   ·rw [decide_eq_true ⟨hl,h0⟩]
    refine jE [(0,_),(1,_)] Tryz.func52 Tryz.ntmps52 fun B hB=>?_
    repeat' (first | refine jM ?_ | (refine jo ?_;first | refine jV (aj F F aS F F) ?_ | refine aE F ?_) | refine aw F F F ?_ | refine ac F F ?_ | refine ad F F ?_ | (refine an (ao (id:=6) _ (fun _ h=>h) am ?_);refine jT 14 [0,1,2,5,6,7] (aa 20 231) ?_;(refine jG (aa 20 239) 3 F (aj F F aS F F) ?_);(refine jG (aa 20 255) 4 F (af F) ?_);(refine jG (aa 20 511) 8 F (aj F F aS F F) ?_);(refine jG (aa 20 1023) 9 F (af F) ?_);refine jT 8 [10,11] (aa 20 4095) ?_;(try ((refine Nx.re (d:=72) (v':=Bo true) F (congrArg Value.bool (aA oM)) ?_)));refine jT 5 [12,13,14] (aa 20 32767) ?_;(refine jG (aa 20 65535) 15 F (aj F F aS F F) ?_);(refine jG (aa 20 131071) 16 F (af F) ?_);refine jT 2 [17] (aa 20 262143) ?_;(refine jG (aa 20 524287) 18 F (bR F F F) ?_);refine jT 0 [19] (aa 20 1048575) ?_;refine jQ ?_))
    all_goals refine jY (vs:=[_]) ?_
    all_goals (rw [aM];simp_all;done)
   ·rw [decide_eq_false (fun h=>h0 h.2)]
    refine jE [(0,_),(1,_)] Tryz.func52 Tryz.ntmps52 fun B hB=>?_
    repeat' (first | refine jM ?_ | (refine jo ?_;first | refine jV (aj F F aS F F) ?_ | refine aE F ?_) | refine aw F F F ?_ | refine ac F F ?_ | refine ad F F ?_ | (refine an (ao (id:=6) _ (fun _ h=>h) am ?_);refine jT 14 [0,1,2,5,6,7] (aa 20 231) ?_;(refine jG (aa 20 239) 3 F (aj F F aS F F) ?_);(refine jG (aa 20 255) 4 F (af F) ?_);(refine jG (aa 20 511) 8 F (aj F F aS F F) ?_);(refine jG (aa 20 1023) 9 F (af F) ?_);refine jT 8 [10,11] (aa 20 4095) ?_;(try ((refine Nx.re (d:=72) (v':=Bo true) F (congrArg Value.bool (aA oM)) ?_)));refine jT 5 [12,13,14] (aa 20 32767) ?_;(refine jG (aa 20 65535) 15 F (aj F F aS F F) ?_);(refine jG (aa 20 131071) 16 F (af F) ?_);refine jT 2 [17] (aa 20 262143) ?_;(refine jG (aa 20 524287) 18 F (bR F F F) ?_);refine jT 0 [19] (aa 20 1048575) ?_;refine jQ ?_))
    all_goals refine jY (vs:=[_]) ?_
    all_goals (rw [aM];simp_all;done)
  ·rw [decide_eq_false (fun h=>hl h.1)]
   refine jE [(0,_),(1,_)] Tryz.func52 Tryz.ntmps52 fun B hB=>?_
   repeat' (first | refine jM ?_ | (refine jo ?_;first | refine jV (aj F F aS F F) ?_ | refine aE F ?_) | refine aw F F F ?_ | refine ac F F ?_ | refine ad F F ?_ | (refine an (ao (id:=6) _ (fun _ h=>h) am ?_);refine jT 14 [0,1,2,5,6,7] (aa 20 231) ?_;(refine jG (aa 20 239) 3 F (aj F F aS F F) ?_);(refine jG (aa 20 255) 4 F (af F) ?_);(refine jG (aa 20 511) 8 F (aj F F aS F F) ?_);(refine jG (aa 20 1023) 9 F (af F) ?_);refine jT 8 [10,11] (aa 20 4095) ?_;(try ((refine Nx.re (d:=72) (v':=Bo false) F (congrArg Value.bool (aH oM)) ?_)));refine jT 5 [12,13,14] (aa 20 32767) ?_;(refine jN (aa 20 65535) 15 F ?_);(refine jN (aa 20 131071) 16 F ?_);refine jT 2 [17] (aa 20 262143) ?_;(refine jG (aa 20 524287) 18 F (bm F F F) ?_);refine jT 0 [19] (aa 20 1048575) ?_;refine jQ ?_))
   all_goals refine jY (vs:=[_]) ?_
   all_goals (rfl)
 ·have e : bZ a b = false:=by unfold bZ;rw [if_neg oM,if_neg oM,if_neg oM]
  rw [e]
  rcases hk with rfl | rfl | rfl
  all_goals
   refine jE [(0,_),(1,_)] Tryz.func52 Tryz.ntmps52 fun B hB=>?_
   repeat' (first | refine jX ?_ | (refine jo ?_;first | refine jV (aj F F aS F F) ?_ | refine aE F ?_) | refine aw F F F ?_ | refine ad F F ?_)
   all_goals refine jY (vs:=[_]) ?_
   all_goals rfl
end Go.E
