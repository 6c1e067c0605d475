/- Contracts and plain laws that the statement rests on, part 6. Conditions: as each says. -/
import Derived.Test.YthcpkoephapecaaGreatDoorU5
set_option linter.unusedVariables false
set_option linter.unusedSimpArgs false
namespace Go.E
set_option maxRecDepth 20000
set_option maxHeartbeats 2000000
open Go.Proofs
variable {G : Gh}
theorem sD {ts : List Ty} {f : Fld} {z : V} {zb : Nat} {ps : List ((Fld × V) × Nat)} {vs : List V} (e : vs = ps.map rv) (hs : nL vs) {d : Bool} (hd : d = decide (z.out = bT ts f)) : (da dE ((f,z),zb) f.tag ps d).map rv = dG ts f z vs:=by
 rw [sF (tg:=dE) (tg':=V.tag) (h:=rv) (fun _=>rfl),← e,hd]
 exact uC hs
theorem yi {b o c : Nat} {n : Int} {p : List Int} (h : aU G (.slice (some ⟨b,o,none⟩) (n :: p).length c) 1 (n :: p).length (ak cH (n :: p))) : aU G (.slice (some ⟨b,lm o c (Int.toNat 1) 1,none⟩) ((n :: p).length - Int.toNat 1) (c - Int.toNat 1)) 1 p.length (ak cH p):=by
 have h1:=h.cutAt (m:=Int.toNat 1) (by show 1 ≤ p.length + 1;omega)
 exact h1
theorem qA {α : Type} [Inhabited α] {l : List α} {m i : Nat} {x : α} (hi : i < l.length) : ab (l.set m x) i = if m = i then x else ab l i:=by
 rw [aA (by rw [List.length_set];exact hi),aA hi,List.getElem_set]
theorem uw {b o m c sz : Nat} {xs : List Value} (h : aU G (.slice (some ⟨b,o,none⟩) m c) sz m xs) (hm : 1 ≤ m) : 1 ≤ c:=by
 obtain ⟨_,⟨h2,_⟩ | ⟨b',o',c',e,hc,_⟩⟩:=h
 ·cases h2
 ·simp only [Value.slice.injEq] at e
  omega
abbrev rV : TypeId:=56
section
variable {u : Value} {vs : List cy} {k1 : adA} {v1 z : V} {n : Int} {p : List Int} {pb po pc b yb : Nat}
theorem yl (h : SchR G u vs) (hw : SchW (ah vs)) {k : adA} {fs : List (Fld × V)} {t : Ty} {f : Fld} (hki : aB (ah vs) k = true) (hrf : a8 (ah vs) k = some t) (hg : ck t.fields n = some f) (hk1 : k1 = f.kind) (hsr : nL (fs.map aw)) (hfs : fs.length ≤ 100000) (hn : 0 ≤ n ∧ n ≤ 999999) (hp : aU G (.slice (some ⟨pb,po,none⟩) (n :: p).length pc) 1 (n :: p).length (ak cH (n :: p)))
  (hr : RepR G (ah vs) (.nd 82 [] 0 (fs.map aw)) k b) (hpl : p.length ≤ 100) (hzt : z.tot ≤ 10000000000)
  (cx_sty : bB adz 63 [u,Pt b 0,I n] G (fun r G'=>∃ b',r = Tu [Pt b' 0,Bo true] ∧ RepR G' (ah vs) v1 k1 b'))
  (ihz : ∀ {G2 : Gh} {b1 : Nat},Gh.le G G2 → RepR G2 (ah vs) v1 k1 b1 → bB adz 51 [u,Pt b1 0,.slice (some ⟨pb,lm po pc (Int.toNat 1) 1,none⟩) ((n :: p).length - Int.toNat 1) (pc - Int.toNat 1),Pt yb 0] G2 (fun r G'=>∃ b',r = Tu [Pt b' 0,Bo true] ∧ RepR G' (ah vs) z k1 b')) :
  bB adz 51 [u,Pt b 0,.slice (some ⟨pb,po,none⟩) (n :: p).length pc,Pt yb 0] G (fun r G'=>∃ b',r = Tu [Pt b' 0,Bo true] ∧ RepR G' (ah vs) (.nd 82 [] 0 (dG (ah vs) f z (fs.map aw))) k b'):=by
 have hu:=h.sl.one
 obtain ⟨ua,uc,rfl⟩:=h.sl.sl
 obtain ⟨hso,ps,a,a2,c,c2,e,h1,h2,h3,hm⟩:=xI hr hrf
 have hTW:=hw.ty _ (br hrf)
 have hkk:=cV (dh hki)
 obtain ⟨r,rfl⟩:=dn hrf
 have hk0 : bt (64 :: r) (Int.toNat 0) = 64:=bj 64 r
 have hkl2 : (64 :: r).length = r.length + 1:=rfl
 have hpl0 : (n :: p).length = p.length + 1:=rfl
 have hti : ab (n :: p) (Int.toNat 0) = n:=rfl
 have hvl : vs.length ≤ 8:=by have:=hw.len;unfold ah at this;simpa using this
 have href:=ff vs (64 :: r)
 rcases hrv : fc vs (64 :: r) with _ | x
 ·rw [hrv,hrf] at href;cases href
 rw [hrv] at href
 have htx : x.2 = t:=by rw [hrf] at href;exact Option.some.inj href
 subst htx
 have hxm:=gq hrv
 have hfl:=hTW.len
 obtain ⟨hft,hfm⟩:=rz hg
 have hdk : aB (ah vs) f.kind = true:=dT hw (br hrf) oM hfm
 have hpsl : ps.length ≤ 100000:=by
  have e1 : (fs.map aw).length = ps.length:=by rw [e];simp
  simp at e1;omega
 obtain ⟨G0,rfl⟩ : ∃ G0,G0 = G:=⟨G,rfl⟩
 have hg0 : Gh.le G0 G0:=Gh.le.refl _
 have hsx : b9 G0 pb po (ak cH (n :: p)):=by
  obtain ⟨b',o',c',e',hs'⟩:=hp.expl (by simp)
  simp only [Value.slice.injEq,Option.some.injEq,Addr.mk.injEq] at e'
  obtain ⟨⟨rfl,rfl,_⟩,_,rfl⟩:=e'
  exact hs'
 refine jB [(0,_),(1,_),(2,_),(3,_)] Tryz.func51 Tryz.ntmps51 fun B hok hB hW=>?_
 repeat' (first | refine jR ?_ | (refine jo ?_;first | refine jV (af rfl) ?_ | refine jV (aN rfl rfl oM) ?_ | (refine jV (gf rfl rfl aS ?_ aS rfl rfl) ?_;focus omega) | refine jV (pV rfl rfl oM) ?_ | (refine an rfl rfl rfl cx_sty rfl ?_;rintro _ G hle ⟨b1,rfl,hrep1⟩;(have hg0:=hg0.trans hle);(have h1:=h1.mono hle);(have h2:=h2.mono hle);(have h3:=h3.mono hle);(have h:=h.mono hle);(try have hrep1:=RepR.mono hle hrep1);(try have hrepz:=RepR.mono hle hrepz))) | refine ad rfl rfl ?_)
 have cx_set:=ihz hg0 hrep1
 repeat' (first | refine jM ?_ | (refine jo ?_;first | refine jV (aj rfl rfl aS rfl rfl) ?_ | refine aM rfl ?_ | (refine an rfl rfl rfl cx_set rfl ?_;rintro _ G hle ⟨bz,rfl,hrepz⟩;(have hg0:=hg0.trans hle);(have h1:=h1.mono hle);(have h2:=h2.mono hle);(have h3:=h3.mono hle);(have h:=h.mono hle);(try have hrep1:=RepR.mono hle hrep1);(try have hrepz:=RepR.mono hle hrepz))) | refine aF rfl rfl rfl ?_ | refine ac rfl rfl ?_ | refine ad rfl rfl ?_)
 have cx_rf:=i8 (k:=64 :: r) h oM hkk.1 oM
 rw [hrv] at cx_rf
 have cx_rec:=p9 (n:=n) hu (h.fl x hxm) oM cx_rf hso
 rw [hg] at cx_rec
 simp only [Option.getD_some,Option.isSome_some] at cx_rec
 have cx_out:=fP hw hrepz oM
 have cx_sta:=my (f:=f) h hw hdk
 subst hk1
 have hm2 : ∀ q ∈ ps,q.1.1 ∈ x.2.fields ∧ RepR G (ah vs) q.1.2 q.1.1.kind q.2:=fun q hq=>⟨(hm q hq).1,((hm q hq).2).mono hg0⟩
 by_cases hst : z.out = bT (ah vs) f
 ·have cx_wi:=aaa (node:=((f,z),0)) (tag:=f.tag) hrf hso h1 h2 h3 hm2 hpsl
  rw [sD e hsr (decide_eq_true hst).symm,hft] at cx_wi
  repeat' (first | refine jR ?_ | (refine jo ?_;first | refine jL fun _=>?_ | refine jC rfl rfl rfl ?_ | refine ae rfl rfl rfl cx_rec rfl ?_ | (refine an rfl rfl rfl cx_wi rfl ?_;rintro _ G hle ⟨bw,rfl,hrepw⟩;(have hg0:=hg0.trans hle);(have h1:=h1.mono hle);(have h2:=h2.mono hle);(have h3:=h3.mono hle);(have h:=h.mono hle);(try have hrep1:=RepR.mono hle hrep1);(try have hrepz:=RepR.mono hle hrepz))) | refine ac rfl (ay ‹_›) ?_ | (refine am (ao (id:=12) _ (fun _ h=>h) al ?_);refine jT 4 [0,2] (aa 6 5) ?_;(refine jG (aa 6 13) 3 rfl (bP rfl rfl rfl rfl) ?_);refine jA 1 rfl ?_;(refine ae rfl rfl rfl cx_out rfl ?_);refine jS (aa 6 15) ?_;refine jA 4 rfl ?_;(refine ae rfl rfl rfl cx_sta rfl ?_);refine jS (aa 6 31) ?_;refine jT 0 [5] (aa 6 63) ?_;refine jQ ?_))
  all_goals refine jZ (vs:=[_,_]) rfl ⟨rfl,rfl,trivial⟩ rfl ⟨hg0,rfl,?_⟩
  all_goals exact ⟨_,rfl,hrepw⟩
 ·have cx_wi:=z9 (f:=f) (z:=z) hrf hso h1 h2 h3 hm2 hpsl hfm hrepz
  rw [sD e hsr (decide_eq_false hst).symm,hft] at cx_wi
  repeat' (first | refine jR ?_ | (refine jo ?_;first | refine jL fun _=>?_ | refine jC rfl rfl rfl ?_ | refine ae rfl rfl rfl cx_rec rfl ?_ | (refine an rfl rfl rfl cx_wi rfl ?_;rintro _ G hle ⟨bw,rfl,hrepw⟩;(have hg0:=hg0.trans hle);(have h1:=h1.mono hle);(have h2:=h2.mono hle);(have h3:=h3.mono hle);(have h:=h.mono hle);(try have hrep1:=RepR.mono hle hrep1);(try have hrepz:=RepR.mono hle hrepz))) | refine ad rfl (aG ‹_›) ?_ | (refine am (ao (id:=12) _ (fun _ h=>h) al ?_);refine jT 4 [0,2] (aa 6 5) ?_;(refine jG (aa 6 13) 3 rfl (bP rfl rfl rfl rfl) ?_);refine jA 1 rfl ?_;(refine ae rfl rfl rfl cx_out rfl ?_);refine jS (aa 6 15) ?_;refine jA 4 rfl ?_;(refine ae rfl rfl rfl cx_sta rfl ?_);refine jS (aa 6 31) ?_;refine jT 0 [5] (aa 6 63) ?_;refine jQ ?_))
  all_goals refine jZ (vs:=[_,_]) rfl ⟨rfl,rfl,trivial⟩ rfl ⟨hg0,rfl,?_⟩
  all_goals exact ⟨_,rfl,hrepw⟩
theorem wo {bs : List Nat} {i m : Nat} {zb : Nat} (hi : i < bs.length) : ((bs.set m zb).take (i + 1)) = (bs.set m zb).take i ++ [if i = m then zb else ab bs i]:=by
 rw [co (by rw [List.length_set];exact hi)]
 congr 2
 rw [aA (by rw [List.length_set];exact hi),aA hi,List.getElem_set]
 by_cases h : m = i
 ·rw [if_pos h,if_pos h.symm]
 ·rw [if_neg h,if_neg (fun e=>h e.symm)]
theorem tG (hu : u.oneCell' = true) {c0 : UInt8} {k : adA} {bs : List Nat} {a : Option Addr} {c : Nat} {m : Nat} (hc0 : c0 = 91 ∨ c0 = 63) (hnm : n = (m : Nat)) (hm : m < bs.length) (hbs : bs.length ≤ 100000) (hn : 0 ≤ n ∧ n ≤ 999999) (hp : aU G (.slice (some ⟨pb,po,none⟩) (n :: p).length pc) 1 (n :: p).length (ak cH (n :: p)))
  (h1 : b9 G b 0 [S (c0 :: k),S [],aQ,.slice a bs.length c]) (h2 : aU G (.slice a bs.length c) 1 bs.length (ak dw bs)) (hpl : p.length ≤ 100) {ts : List Ty}
  (cx_sty : bB adz 63 [u,Pt b 0,I n] G (fun r G'=>∃ b',r = Tu [Pt b' 0,Bo true] ∧ RepR G' ts v1 k1 b'))
  (ihz : ∀ {G2 : Gh} {b1 : Nat},Gh.le G G2 → RepR G2 ts v1 k1 b1 → bB adz 51 [u,Pt b1 0,.slice (some ⟨pb,lm po pc (Int.toNat 1) 1,none⟩) ((n :: p).length - Int.toNat 1) (pc - Int.toNat 1),Pt yb 0] G2 (fun r G'=>∃ b',r = Tu [Pt b' 0,Bo true] ∧ RepR G' ts z k1 b')) :
  bB adz 51 [u,Pt b 0,.slice (some ⟨pb,po,none⟩) (n :: p).length pc,Pt yb 0] G (fun r G'=>∃ b' zb kb cc,r = Tu [Pt b' 0,Bo true] ∧ RepR G' ts z k1 zb ∧ Gh.le G G' ∧ b9 G' b' 0 [S (c0 :: k),S [],aQ,.slice (some ⟨kb,0,none⟩) bs.length cc] ∧ aU G' (.slice (some ⟨kb,0,none⟩) bs.length cc) 1 bs.length (ak dw (bs.set m zb))):=by
 have hk0 : bt (c0 :: k) (Int.toNat 0) = c0.toNat:=bj c0 k
 have hc64 : ¬ c0.toNat = 64:=by rcases hc0 with rfl | rfl <;> decide
 have hkl2 : (c0 :: k).length = k.length + 1:=rfl
 have hpl0 : (n :: p).length = p.length + 1:=rfl
 have hti : ab (n :: p) (Int.toNat 0) = n:=rfl
 obtain ⟨G0,rfl⟩ : ∃ G0,G0 = G:=⟨G,rfl⟩
 have hg0 : Gh.le G0 G0:=Gh.le.refl _
 have hsx : b9 G0 pb po (ak cH (n :: p)):=by
  obtain ⟨b',o',c',e',hs'⟩:=hp.expl (by simp)
  simp only [Value.slice.injEq,Option.some.injEq,Addr.mk.injEq] at e'
  obtain ⟨⟨rfl,rfl,_⟩,_,rfl⟩:=e'
  exact hs'
 obtain ⟨xb,xo,xc,e,hs1⟩:=h2.expl oM
 simp only [Value.slice.injEq] at e
 obtain ⟨rfl,-,rfl⟩:=e
 refine jB [(0,_),(1,_),(2,_),(3,_)] Tryz.func51 Tryz.ntmps51 fun B hok hB hW=>?_
 repeat' (first | refine jR ?_ | (refine jo ?_;first | refine jV (af rfl) ?_ | refine jV (aN rfl rfl oM) ?_ | refine jV (aj rfl rfl aS rfl rfl) ?_ | refine jV (pV rfl rfl oM) ?_ | (refine an rfl rfl rfl cx_sty rfl ?_;rintro _ G hle ⟨b1,rfl,hrep1⟩;(have hg0:=hg0.trans hle);(have h1:=h1.mono hle);(have h2:=h2.mono hle);(have hs1:=hs1.mono hle);(try have hrep1:=RepR.mono hle hrep1);(try have hrepz:=RepR.mono hle hrepz))) | refine ad rfl rfl ?_)
 have cx_set:=ihz hg0 hrep1
 repeat' (first | refine jR ?_ | (refine jo ?_;first | refine jV (aj rfl rfl aS rfl rfl) ?_ | refine aC rfl ?_ | (refine an rfl rfl rfl cx_set rfl ?_;rintro _ G hle ⟨bz,rfl,hrepz⟩;(have hg0:=hg0.trans hle);(have h1:=h1.mono hle);(have h2:=h2.mono hle);(have hs1:=hs1.mono hle);(try have hrep1:=RepR.mono hle hrep1);(try have hrepz:=RepR.mono hle hrepz))) | refine ar rfl rfl rfl ?_ | refine ad rfl rfl ?_ | (refine am (ao (id:=15) _ (fun _ h=>h) al ?_);refine jT 6 [0,1,2,4,5,6,8,9,10] (aa 15 1911) ?_;(refine jG (aa 15 1919) 3 rfl (aj rfl rfl aS rfl rfl) ?_);(refine jG (aa 15 2047) 7 rfl (aj rfl rfl aS rfl rfl) ?_);(refine jG (aa 15 4095) 11 rfl (aj rfl rfl aS rfl rfl) ?_);(refine jG (aa 15 8191) 12 rfl (ax rfl rfl) ?_);refine jA 13 rfl ?_;(refine jO fun _=>?_);refine jS (aa 15 16383) ?_;refine jT 0 [14] (aa 15 32767) ?_;refine jQ ?_))
 rename_i x
 refine Nx.addNil rV 1 ?_
 have hsl : ∀ zb : Nat,(bs.set m zb).length = bs.length:=fun zb=>List.length_set
 refine aT (ι:=Option Addr × Nat × Nat) (fun q=>q.2.2 ≤ bs.length) (fun q=>[(1,Pt b 0),(10,I n),(13,Pt bz 0),(17,Pt x 0),(18,I q.2.2)]) (fun _=>G) (fun q=>[.acc (.slice q.1 q.2.2 q.2.1) rV 1 q.2.2 (ak dw ((bs.set m bz).take q.2.2)),.blk x (.cells (List.toArray [S (c0 :: k),S [],aQ,.slice q.1 q.2.2 q.2.1]) n7 (0,0))]) (fun q=>bs.length - q.2.2) (none,0,0) ?_ tU rfl a7 (fun q Hq=>?_)
 ·exact Nat.zero_le _
 obtain ⟨a3,c3,i⟩:=q
 dsimp only at Hq ⊢
 by_cases hi : i < bs.length
 ·have hxi : ab bs i = ab bs i:=rfl
  have hst:=wo (m:=m) (zb:=bz) hi
  by_cases him : i = m
  ·rw [if_pos him] at hst
   have hin : ((i : Nat) : Int) = n:=oM
   repeat' (first | refine jM ?_ | (refine jo ?_;first | refine jV (af rfl) ?_ | refine aD rfl ?_ | refine jV (aj rfl rfl aS rfl rfl) ?_ | refine aM rfl ?_ | refine jD rfl rfl rfl ?_ | refine jF fun _=>?_ | refine bD rfl rfl rfl rfl rfl rfl rfl rfl rfl oM fun _ _=>?_) | refine aF rfl rfl (ay ‹_›) ?_ | (refine ac rfl (by first | rfl | (refine decide_eq_true ?_;(omega))) ?_))
   rename_i y1 yc1
   rw [show ak dw ((bs.set m bz).take i) ++ [Pt bz 0] = ak dw ((bs.set m bz).take (i + 1)) by rw [hst,bR];rfl]
   exact bh (some ⟨y1,0,none⟩,yc1,i + 1) (by dsimp only;omega) (by dsimp only;omega) tU rfl sB
  ·rw [if_neg him] at hst
   have hin : ¬ ((i : Nat) : Int) = n:=oM
   repeat' (first | refine jR ?_ | (refine jo ?_;first | refine jV (af rfl) ?_ | refine jV (aj rfl rfl aS rfl rfl) ?_ | refine aC rfl ?_) | (refine ar rfl rfl (by first | rfl | (refine decide_eq_false ?_;(assumption))) ?_) | refine ac rfl (ay oM) ?_ | refine ad rfl rfl ?_)
   (refine am (ao (id:=21) [] (fun _ h=>absurd h (by simp)) al ?_);refine jW 9 [0,1,2,3,5,6,7,9] (aa 17 751) ?_;(refine jG (aa 17 1007) 8 rfl (aj rfl rfl aS rfl rfl) ?_);((refine jG (aa 17 2031) 10 rfl (ag rfl rfl ?_) ?_;focus omega));((refine jG (aa 17 4079) 11 rfl (bW rfl rfl aS ?_ aS rfl) ?_;focus omega));refine b8 [4,12] kR dC ⟨?_,?_,trivial⟩;(focus (refine aO rfl rfl ?_;(refine aD rfl ?_);refine jK (aa 17 4095) ?_;refine jA 12 rfl ?_;(refine jF fun _=>?_);refine jK (aa 17 8191) ?_;refine jA 13 rfl ?_;((refine bD rfl rfl rfl rfl rfl rfl rfl rfl rfl ?_ fun _ _=>?_;focus omega));refine jK (aa 17 16383) ?_;refine jW 1 [14,15] (aa 17 65535) ?_;refine jA 16 rfl ?_;(refine jD rfl rfl rfl ?_);refine jK (aa 17 131071) ?_;refine jQ ?_));rotate_left 1;(focus (refine aO rfl rfl ?_;(refine jF fun _=>?_);refine jK (aa 17 8175) ?_;refine jA 4 rfl ?_;(refine aD rfl ?_);refine jK (aa 17 8191) ?_;refine jA 13 rfl ?_;((refine bD rfl rfl rfl rfl rfl rfl rfl rfl rfl ?_ fun _ _=>?_;focus omega));refine jK (aa 17 16383) ?_;refine jW 1 [14,15] (aa 17 65535) ?_;refine jA 16 rfl ?_;(refine jD rfl rfl rfl ?_);refine jK (aa 17 131071) ?_;refine jQ ?_));rotate_left 1)
   all_goals repeat' (refine jM ?_)
   all_goals
    rename_i _ y1 yc1
    rw [show ak dw ((bs.set m bz).take i) ++ [Pt (ab bs i) 0] = ak dw ((bs.set m bz).take (i + 1)) by rw [hst,bR];rfl]
    exact bh (some ⟨y1,0,none⟩,yc1,i + 1) (by dsimp only;omega) (by dsimp only;omega) tU rfl sB
 ·have hib : i = bs.length:=by have : i ≤ bs.length:=Hq;omega
  subst hib
  rw [List.take_of_length_le (by rw [hsl];exact Nat.le_refl _)]
  repeat' (first | refine jR ?_ | (refine jo ?_;first | refine jV (af rfl) ?_ | refine jV (aj rfl rfl aS rfl rfl) ?_) | refine ad rfl (aG oM) ?_)
  refine Nx.shp (.head _) fun hsh=>?_
  obtain ⟨kb,kc,e9⟩:=hsh.pos oM
  simp only [Value.slice.injEq] at e9
  obtain ⟨rfl,-,rfl⟩:=e9
  refine Nx.sealS (v:=.slice (some ⟨kb,0,none⟩) bs.length c3) fun G2 hG2 hs3=>?_
  refine Nx.sealC (b:=x) fun G4 hG4 hsg=>?_
  refine jZ (vs:=[_,_]) rfl ⟨rfl,rfl,trivial⟩ rfl ⟨(hg0.trans (hG2.trans hG4)),rfl,?_⟩
  exact ⟨x,bz,kb,c3,rfl,hrepz.mono (hG2.trans hG4),hg0.trans (hG2.trans hG4),hsg,hs3.mono hG4⟩
theorem yk (hu : u.oneCell' = true) {r : adA} {tgb wb0 kb0 cc tc : Nat} {tg : Int} (hcc : 1 ≤ cc) (hn : 0 ≤ n ∧ n ≤ 999999) (hp : aU G (.slice (some ⟨pb,po,none⟩) (n :: p).length pc) 1 (n :: p).length (ak cH (n :: p)))
  (h1 : b9 G b 0 [S (64 :: r),S [85],.slice (some ⟨tgb,0,none⟩) 1 (tc + 1),.slice (some ⟨kb0,0,none⟩) 1 cc]) (h2 : b9 G tgb 0 [I tg]) (h3 : b9 G kb0 0 [Pt wb0 0]) (hpl : p.length ≤ 100) {ts : List Ty}
  (cx_sty : bB adz 63 [u,Pt b 0,I n] G (fun r G'=>∃ b',r = Tu [Pt b' 0,Bo true] ∧ RepR G' ts v1 k1 b'))
  (ihz : ∀ {G2 : Gh} {b1 : Nat},Gh.le G G2 → RepR G2 ts v1 k1 b1 → bB adz 51 [u,Pt b1 0,.slice (some ⟨pb,lm po pc (Int.toNat 1) 1,none⟩) ((n :: p).length - Int.toNat 1) (pc - Int.toNat 1),Pt yb 0] G2 (fun r G'=>∃ b',r = Tu [Pt b' 0,Bo true] ∧ RepR G' ts z k1 b')) :
  bB adz 51 [u,Pt b 0,.slice (some ⟨pb,po,none⟩) (n :: p).length pc,Pt yb 0] G (fun rr G'=>∃ b' zb kb cc,rr = Tu [Pt b' 0,Bo true] ∧ RepR G' ts z k1 zb ∧ 1 ≤ cc ∧ b9 G' b' 0 [S (64 :: r),S [85],.slice (some ⟨tgb,0,none⟩) 1 (tc + 1),.slice (some ⟨kb,0,none⟩) 1 cc] ∧ b9 G' tgb 0 [I tg] ∧ b9 G' kb 0 [Pt zb 0]):=by
 have hk0 : bt (64 :: r) (Int.toNat 0) = 64:=bj 64 r
 have hkl2 : (64 :: r).length = r.length + 1:=rfl
 have hpl0 : (n :: p).length = p.length + 1:=rfl
 have hti : ab (n :: p) (Int.toNat 0) = n:=rfl
 obtain ⟨G0,rfl⟩ : ∃ G0,G0 = G:=⟨G,rfl⟩
 have hg0 : Gh.le G0 G0:=Gh.le.refl _
 have hsx : b9 G0 pb po (ak cH (n :: p)):=by
  obtain ⟨b',o',c',e',hs'⟩:=hp.expl (by simp)
  simp only [Value.slice.injEq,Option.some.injEq,Addr.mk.injEq] at e'
  obtain ⟨⟨rfl,rfl,_⟩,_,rfl⟩:=e'
  exact hs'
 refine jB [(0,_),(1,_),(2,_),(3,_)] Tryz.func51 Tryz.ntmps51 fun B hok hB hW=>?_
 repeat' (first | refine jR ?_ | (refine jo ?_;first | refine jV (af rfl) ?_ | refine jV (aN rfl rfl oM) ?_ | (refine jV (gf rfl rfl aS ?_ aS rfl rfl) ?_;focus omega) | refine jV (pV rfl rfl oM) ?_ | (refine an rfl rfl rfl cx_sty rfl ?_;rintro _ G hle ⟨b1,rfl,hrep1⟩;(have hg0:=hg0.trans hle);(have h1:=h1.mono hle);(have h2:=h2.mono hle);(have h3:=h3.mono hle);(try have hrep1:=RepR.mono hle hrep1);(try have hrepz:=RepR.mono hle hrepz))) | refine ad rfl rfl ?_)
 have cx_set:=ihz hg0 hrep1
 repeat' (first | refine jR ?_ | (refine jo ?_;first | refine jV (aj rfl rfl aS rfl rfl) ?_ | refine aC rfl ?_ | (refine an rfl rfl rfl cx_set rfl ?_;rintro _ G hle ⟨bz,rfl,hrepz⟩;(have hg0:=hg0.trans hle);(have h1:=h1.mono hle);(have h2:=h2.mono hle);(have h3:=h3.mono hle);(try have hrep1:=RepR.mono hle hrep1);(try have hrepz:=RepR.mono hle hrepz))) | refine ar rfl rfl rfl ?_ | refine ad rfl rfl ?_ | (refine am (ao (id:=15) _ (fun _ h=>h) al ?_);refine jT 6 [0,1,2,4,5,6,8,9,10] (aa 15 1911) ?_;(refine jG (aa 15 1919) 3 rfl (aj rfl rfl aS rfl rfl) ?_);(refine jG (aa 15 2047) 7 rfl (aj rfl rfl aS rfl rfl) ?_);(refine jG (aa 15 4095) 11 rfl (aj rfl rfl aS rfl rfl) ?_);(refine jG (aa 15 8191) 12 rfl (ax rfl rfl) ?_);refine jA 13 rfl ?_;(refine jO fun _=>?_);refine jS (aa 15 16383) ?_;refine jT 0 [14] (aa 15 32767) ?_;refine jQ ?_))
 rename_i x
 refine Nx.addNil rV 1 ?_
 refine aT (ι:=Option Addr × Nat × Nat) (fun q=>q.2.2 ≤ 1) (fun q=>[(1,Pt b 0),(10,I n),(13,Pt bz 0),(17,Pt x 0),(18,I q.2.2)]) (fun _=>G) (fun q=>[.acc (.slice q.1 q.2.2 q.2.1) rV 1 q.2.2 (ak dw (List.replicate q.2.2 bz)),.blk x (.cells (List.toArray [S (64 :: r),S [85],.slice (some ⟨tgb,0,none⟩) 1 (tc + 1),.slice q.1 q.2.2 q.2.1]) n7 (0,0))]) (fun q=>1 - q.2.2) (none,0,0) ?_ tU rfl a7 (fun q Hq=>?_)
 ·exact Nat.zero_le _
 obtain ⟨a3,c3,i⟩:=q
 dsimp only at Hq ⊢
 by_cases hi : i < 1
 ·have hi0 : i = 0:=oM
  subst hi0
  have hrr : ak dw (List.replicate 0 bz) ++ [Pt bz 0] = ak dw (List.replicate 1 bz):=rfl
  by_cases hn0 : ((0 : Nat) : Int) = n
  ·repeat' (first | refine jM ?_ | (refine jo ?_;first | refine jV (af rfl) ?_ | refine aD rfl ?_ | refine jV (aj rfl rfl aS rfl rfl) ?_ | refine aM rfl ?_ | refine jD rfl rfl rfl ?_ | refine jF fun _=>?_ | refine bD rfl rfl rfl rfl rfl rfl rfl rfl rfl oM fun _ _=>?_) | refine aF rfl rfl (ay ‹_›) ?_ | refine ac rfl rfl ?_)
   rename_i y1 yc1
   rw [hrr]
   exact bh (some ⟨y1,0,none⟩,yc1,1) (Nat.le_refl _) (by dsimp only;omega) tU rfl sB
  ·repeat' (first | refine jM ?_ | (refine jo ?_;first | refine jV (af rfl) ?_ | refine aD rfl ?_ | refine jV (aj rfl rfl aS rfl rfl) ?_ | refine aM rfl ?_ | refine aC rfl ?_ | refine jD rfl rfl rfl ?_ | refine jF fun _=>?_ | refine bD rfl rfl rfl rfl rfl rfl rfl rfl rfl oM fun _ _=>?_) | refine aF rfl rfl rfl ?_ | refine ar rfl rfl (aG ‹_›) ?_ | refine ac rfl rfl ?_)
   rename_i y1 yc1
   rw [hrr]
   exact bh (some ⟨y1,0,none⟩,yc1,1) (Nat.le_refl _) (by dsimp only;omega) tU rfl sB
 ·have hib : i = 1:=oM
  subst hib
  repeat' (first | refine jR ?_ | (refine jo ?_;first | refine jV (af rfl) ?_ | refine jV (aj rfl rfl aS rfl rfl) ?_) | refine ad rfl rfl ?_)
  refine Nx.shp (.head _) fun hsh=>?_
  obtain ⟨kb,kc,e9⟩:=hsh.pos oM
  simp only [Value.slice.injEq] at e9
  obtain ⟨rfl,-,rfl⟩:=e9
  refine Nx.sealS (v:=.slice (some ⟨kb,0,none⟩) 1 c3) fun G2 hG2 hs3=>?_
  refine Nx.sealC (b:=x) fun G4 hG4 hsg=>?_
  refine jZ (vs:=[_,_]) rfl ⟨rfl,rfl,trivial⟩ rfl ⟨(hg0.trans (hG2.trans hG4)),rfl,?_⟩
  obtain ⟨kb',ko',kc',e9,hs9⟩:=hs3.expl oM
  simp only [Value.slice.injEq,Option.some.injEq,Addr.mk.injEq] at e9
  obtain ⟨⟨rfl,rfl,-⟩,-,rfl⟩:=e9
  exact ⟨x,bz,kb,c3,rfl,hrepz.mono (hG2.trans hG4),uw (hs3.mono hG4) oM,hsg,h2.mono (hG2.trans hG4),hs9.mono hG4⟩
end
theorem w5 {vs : List cy} (hw : SchW (ah vs)) : ∀ (p : List Int) {G : Gh} {u pv : Value} {k : adA} {v y : V} {b yb : Nat} {k' : adA} {v' : V},SchR G u vs → aU G pv 1 p.length (ak cH p) → (∀ n ∈ p,0 ≤ n ∧ n ≤ 999999) → p.length ≤ 8 → RepR G (ah vs) v k b → OfK (ah vs) k v → aB (ah vs) k = true → v.tot ≤ 400000 → bi (ah vs) k v p = some (k',v') → RepR G (ah vs) y k' yb → OfK (ah vs) k' y → y.tot ≤ 200000000 →
  bB adz 51 [u,Pt b 0,pv,Pt yb 0] G (fun r G'=>∃ b',r = Tu [Pt b' 0,Bo true] ∧ RepR G' (ah vs) (bH (ah vs) k v p y) k b')
 | [],G,u,pv,k,v,y,b,yb,k',v',h,hp,hpn,hpl,hr,ho,hki,htt,hf,hy,hoy,hyt=>by
  simp only [bi,Option.some.injEq,Prod.mk.injEq] at hf
  obtain ⟨rfl,rfl⟩:=hf
  obtain ⟨pa,pc,rfl⟩:=hp.sl
  have hl0 : ([] : List Int).length = 0:=rfl
  rw [bH]
  refine jB [(0,_),(1,_),(2,_),(3,_)] Tryz.func51 Tryz.ntmps51 fun B hok hB hW=>?_
  repeat' (first | refine jR ?_ | (refine jo ?_;refine jV (af rfl) ?_) | refine ac rfl rfl ?_)
  all_goals refine jZ (vs:=[_,_]) rfl ⟨rfl,rfl,trivial⟩ rfl ⟨Gh.le.refl _,rfl,?_⟩
  all_goals exact ⟨yb,rfl,hy⟩
 | n :: p,G,u,pv,k,v,y,b,yb,k',v',h,hp,hpn,hpl,hr,ho,hki,htt,hf,hy,hoy,hyt=>by
  obtain ⟨pb,po,pc,rfl,_⟩:=hp.expl (by simp)
  have hn:=hpn n (by simp)
  have hpn2 : ∀ m ∈ p,0 ≤ m ∧ m ≤ 999999:=fun m hm=>hpn m (by simp [hm])
  have hpl2 : p.length ≤ 8:=by simp at hpl;omega
  unfold bi at hf
  cases hs : aE (ah vs) k v n with
  | none=>rw [hs] at hf;cases hf
  | some x =>
   rw [hs] at hf
   obtain ⟨k1,v1⟩:=x
   dsimp only at hf
   obtain ⟨g1,g2⟩:=cL hw ho hki hn.1 hs
   have g3:=jf hw ho hki hn.1 hs (N:=400000) htt oM
   have g4:=gP hw (y:=y) g1 g2 (fun m hm=>(hpn2 m hm).1) hf
   have cx_sty:=fZ.yes (nX h hw hr ho hki hn oM) hs
   have hcut:=yi hp
   have ihz : ∀ {G2 : Gh} {b1 : Nat},Gh.le G G2 → RepR G2 (ah vs) v1 k1 b1 → bB adz 51 [u,Pt b1 0,.slice (some ⟨pb,lm po pc (Int.toNat 1) 1,none⟩) ((n :: p).length - Int.toNat 1) (pc - Int.toNat 1),Pt yb 0] G2 (fun r G'=>∃ b',r = Tu [Pt b' 0,Bo true] ∧ RepR G' (ah vs) (bH (ah vs) k1 v1 p y) k1 b'):=fun hle hr1 =>
    w5 hw p (h.mono hle) (hcut.mono hle) hpn2 hpl2 hr1 g1 g2 g3 hf (hy.mono hle) hoy hyt
   rw [dA hs]
   have hu:=h.sl.one
   cases hrf : a8 (ah vs) k with
   | none =>
    obtain ⟨c,kr,rfl⟩:=d7 hki
    by_cases hc : c.toNat = 91 ∨ c.toNat = 63
    ·have hst:=gm (ts:=ah vs) (c:=c) (r:=kr) (v:=v) (n:=n) hc
     rw [hs] at hst
     by_cases hlt : n < ((v.kids.length : Nat) : Int)
     ·rw [if_pos hlt] at hst
      simp only [Option.some.injEq,Prod.mk.injEq] at hst
      obtain ⟨rfl,rfl⟩:=hst
      rcases dg ho oM with ⟨a1,_⟩ | ⟨a1,_⟩ | ⟨a1,_⟩ | ⟨a1,ks,a2,a3,rfl⟩ | ⟨a1,rfl | ⟨w,a3,rfl⟩⟩
      ·omega
      ·omega
      ·omega
      ·obtain rfl:=bX a1 dC
       rw [V.kids] at hlt
       cases hr with
       | leaf w x k tx b h1 h2=>rcases h2 with ⟨h,_⟩ | ⟨h,_⟩ | ⟨h,_⟩ <;> omega
       | lst k b ks bs a c h1 h2 h3 hk =>
        have hbl : bs.length = ks.length:=h3
        refine (tG (u:=u) (n:=n) (m:=n.toNat) (bs:=bs) hu (.inl rfl) oM oM oM hn hp (by rw [hbl];exact h1) (by rw [hbl];exact h2) oM cx_sty ihz).mono ?_
        rintro v G' L' ⟨q1,q2,b',zb,kb,cc,rfl,q3,q4,q5,q6⟩
        refine ⟨q1,q2,b',rfl,?_⟩
        have e1 : cN (ah vs) (91 :: k1) (.nd 91 [] 0 ks) n (bH (ah vs) k1 (ab ks n.toNat) p y) = .nd 91 [] 0 (ks.set n.toNat (bH (ah vs) k1 (ab ks n.toNat) p y)):=by
         unfold cN;rw [V.what,if_neg dC,if_pos rfl];rfl
        show RepR G' (ah vs) (cN (ah vs) (91 :: k1) (.nd 91 [] 0 ks) n (bH (ah vs) k1 (ab ks n.toNat) p y)) (91 :: k1) b'
        rw [e1]
        rw [hbl] at q5 q6
        refine RepR.lst k1 b' _ (bs.set n.toNat zb) (some ⟨kb,0,none⟩) cc (by rw [List.length_set];exact q5) (by rw [List.length_set];exact q6) (by simp [hbl]) fun i hi=>?_
        rw [List.length_set] at hi
        rw [qA hi,qA oM]
        by_cases him : n.toNat = i
        ·rw [if_pos him,if_pos him];exact q3
        ·rw [if_neg him,if_neg him];exact (hk i hi).mono q4
      ·simp [V.kids] at hlt;omega
      ·obtain rfl:=bX a1 dC
       simp [V.kids] at hlt
       obtain rfl : n = 0:=oM
       cases hr with
       | opt k b kb b' cc v hcc h1 h2 h3 =>
        have h2s : aU G (.slice (some ⟨kb,0,none⟩) 1 cc) 1 1 (ak dw [b']):=⟨rfl,.inr ⟨kb,0,cc,rfl,hcc,h2⟩⟩
        refine (tG (u:=u) (n:=0) (m:=0) (bs:=[b']) hu (.inr rfl) rfl (by simp) (by simp) hn hp h1 h2s oM cx_sty ihz).mono ?_
        rintro v G' L' ⟨q1,q2,b2,zb,kb2,cc2,rfl,q3,q4,q5,q6⟩
        refine ⟨q1,q2,b2,rfl,?_⟩
        have q7:=uw q6 (by simp)
        obtain ⟨kb',ko',kc',e9,hs9⟩:=q6.expl (by simp)
        simp only [Value.slice.injEq,Option.some.injEq,Addr.mk.injEq] at e9
        obtain ⟨⟨rfl,rfl,-⟩,-,rfl⟩:=e9
        exact RepR.opt k1 b2 kb2 zb cc2 _ q7 q5 hs9 q3
     ·rw [if_neg hlt] at hst;cases hst
    ·have hno : aE (ah vs) (c :: kr) v n = none:=by
      rcases dX hki hc hrf with e | e | e
      all_goals (rw [e];exact iX dC dC dC)
     rw [hno] at hs;cases hs
   | some t =>
    have hst:=hX (v:=v) (n:=n) hrf
    rw [hs] at hst
    cases hg : ck t.fields n with
    | none=>rw [hg] at hst;cases hst
    | some f =>
     rw [hg] at hst
     dsimp only at hst
     by_cases h69 : t.sort = 69
     ·rw [if_pos h69] at hst;cases hst
     ·rw [if_neg h69] at hst
      by_cases h82 : t.sort = 82
      ·rw [if_pos h82] at hst
       simp only [Option.some.injEq,Prod.mk.injEq] at hst
       obtain ⟨rfl,rfl⟩:=hst
       rcases bL ho hrf with ⟨_,fs,rfl,a3,a4,a5,a6⟩ | ⟨a1,_⟩ | ⟨a1,_⟩
       ·have hfs9 : fs.length ≤ 100000:=by
         have h7:=di (fs.map aw)
         rw [bA] at htt
         have e1 : (fs.map aw).length = fs.length:=by simp
         omega
        have e1 : ∀ z,cN (ah vs) k (.nd 82 [] 0 (fs.map aw)) n z = .nd 82 [] 0 (dG (ah vs) f z (fs.map aw)):=fun z=>by
         unfold cN;rw [V.what,if_pos rfl,hrf]
         dsimp only
         rw [hg];rfl
        rw [e1]
        exact yl h hw hki hrf hg rfl (pA a6) hfs9 hn hp hr oM oM cx_sty ihz
       ·omega
       ·omega
      ·rw [if_neg h82] at hst
       by_cases htg : v.tag = n
       ·rw [if_pos htg] at hst
        simp only [Option.some.injEq,Prod.mk.injEq] at hst
        obtain ⟨rfl,rfl⟩:=hst
        obtain ⟨hft,hfm⟩:=rz hg
        cases hr with
        | leaf w x k tx b h1 h2 =>
         rcases h2 with ⟨_,rfl,_⟩ | ⟨_,rfl,_⟩ | ⟨_,rfl,_⟩ <;> exact (dc hrf rfl dC).elim
        | lst k b ks bs a c h1 h2 h3 hk=>exact (dc hrf rfl dC).elim
        | non k b h1=>exact (dc hrf rfl dC).elim
        | opt k b kb b' cc w h0 h1 h2 h3=>exact (dc hrf rfl dC).elim
        | recd k b t' fs bs a a2 c c2 h0 h1 h2 h3 h4 h5 hk=>rw [hrf] at h0;obtain rfl:=Option.some.inj h0.1;exact (h82 h0.2).elim
        | enm k b tgb t' d h0 h1 h2 h3=>rw [hrf] at h0;obtain rfl:=Option.some.inj h0.1;exact (h69 h0.2).elim
        | uni k b tgb kb b' cc t' d w hcc h0 h1 h2 h3 h4 hk =>
         rw [hrf] at h0
         obtain rfl:=Option.some.inj h0.1
         have hdf : d = f:=gh (hw.ty _ (br hrf)) h1 hfm (by rw [hft];exact htg)
         subst hdf
         obtain ⟨r,rfl⟩:=dn hrf
         refine (yk (u:=u) (n:=n) hu hcc hn hp h2 h3 h4 oM cx_sty ihz).mono ?_
         rintro v G' L' ⟨q1,q2,b2,zb,kb2,cc2,rfl,q3,q4,q5,q6,q7⟩
         refine ⟨q1,q2,b2,rfl,?_⟩
         have e1 : ∀ z,cN (ah vs) (64 :: r) (.nd 85 [] d.tag [w]) n z = .nd 85 [] d.tag [z]:=fun z=>by
          unfold cN;rw [V.what,if_neg dC,if_neg dC];rfl
         rw [e1]
         exact RepR.uni _ b2 tgb kb2 zb cc2 _ d _ q4 ⟨hrf,h0.2⟩ h1 q5 q6 q7 q3
       ·rw [if_neg htg] at hst;cases hst
theorem yt {u : Value} {vs : List cy} (hw : SchW (ah vs)) (h : SchR G u vs) {k s : adA} (hki : aB (ah vs) k = true) :
  bB adz 52 [u,S k,S s] G (fun r _=>r = Tu [S (if (ce (ah vs) k s).isSome = true then s else []),Bo (ce (ah vs) k s).isSome]):=by
 obtain ⟨ua,uc,rfl⟩:=h.sl.sl
 by_cases hl : s.length ≤ 400
 ·have cx_rd:=gr (u:=.slice ua vs.length uc) (vs:=vs) hw 12 oM G k s h hki oM
  have hvo : ce (ah vs) k s = match rd (ah vs) 12 k s with
   | some (v,[])=>some v
   | _=>none:=by
   unfold ce;rw [if_pos hl]
   all_goals (rcases rd (ah vs) 12 k s with _ | ⟨v,_ | _⟩ <;> rfl)
  refine jB [(0,_),(1,_),(2,_)] Tryz.func52 Tryz.ntmps52 fun B hok hB hW=>?_
  repeat' (first | refine jR ?_ | (refine jo ?_;first | refine jV (ax rfl rfl) ?_ | refine aM rfl ?_ | refine aC rfl ?_ | (refine an rfl rfl rfl cx_rd rfl ?_;rintro _ G hle ⟨q1,r1,ok1,rfl,hyes,hno⟩;skip)) | refine nr rfl rfl (fun _=>?_) (fun _=>?_) | refine ac rfl rfl ?_ | refine ad rfl (aG oM) ?_ | refine eD rfl (fun _=>?_) (fun _=>?_))
  all_goals refine jZ (vs:=[_,_]) rfl ⟨rfl,rfl,trivial⟩ rfl ⟨hle,rfl,?_⟩
  ·rename_i hz
   rw [hno (by simpa using hz)] at hvo
   rw [hvo];rfl
  ·rename_i hz hr
   obtain ⟨w,b,rfl,hf,hrep⟩:=hyes (by simpa using hz)
   rw [hf] at hvo
   have hvo2 : ce (ah vs) k s = none:=by
    rw [hvo]
    cases r1 with
    | nil=>exact absurd rfl hr
    | cons c r=>rfl
   rw [hvo2];rfl
  ·rename_i hz hr
   obtain ⟨w,b,rfl,hf,hrep⟩:=hyes (by simpa using hz)
   obtain rfl : r1 = []:=by simpa using hr
   rw [hf] at hvo
   rw [hvo];rfl
 ·have hvo : ce (ah vs) k s = none:=by unfold ce;rw [if_neg hl]
  rw [hvo]
  refine jB [(0,_),(1,_),(2,_)] Tryz.func52 Tryz.ntmps52 fun B hok hB hW=>?_
  repeat' (first | refine jR ?_ | refine ac rfl (ay oM) ?_)
  all_goals refine jZ (vs:=[_,_]) rfl ⟨rfl,rfl,trivial⟩ rfl ⟨Gh.le.refl _,rfl,?_⟩
  all_goals rfl
def cF (s k w p x : adA) : Option adA:=match aV s,cB s k w,cG p with
 | some ts,some u,some q=>match bi ts k u q with
  | none=>none
  | some (k',_)=>match rd ts 12 k' x with
   | some (y,[])=>if (bH ts k u q y).out.length ≤ 400 ∧ (bH ts k u q y).deep ≤ 12 then some (bH ts k u q y).out else none
   | _=>none
 | _,_,_=>none
def na (o : Option adA) : Value:=Tu [S (o.getD []),Bo o.isSome]
theorem sG {s k x : adA} {o : Option (List Int)} : (match aV s,(none : Option V),o with
 | some ts,some u,some q=>match bi ts k u q with
  | none=>none
  | some (k',_)=>match rd ts 12 k' x with
   | some (y,[])=>if (bH ts k u q y).out.length ≤ 400 ∧ (bH ts k u q y).deep ≤ 12 then some (bH ts k u q y).out else none
   | _=>none
 | _,_,_=>none) = none:=by cases aV s <;> rfl
theorem qf {s k w p x : adA} (h1 : s.length ≤ 1048576 ∧ k.length ≤ 1048576 ∧ w.length ≤ 1048576 ∧ p.length ≤ 1048576) (hx : x.length ≤ 1048576) : a9 adz 29 [S s,S k,S w,S p,S x] G (· = na (cF s k w p x)):=by
 unfold cF
 cases hg : cB s k w with
 | none =>
  rw [sG]
  have cx_la0:=fun G=>iS (G:=G) (s:=s) (k:=k) (w:=w) oM hg
  cases hpo : cG p with
  | none =>
   have cx_sp:=iJ h1.2.2.2 hpo
   refine jB (Post:=fun v G' L'=>G' = G ∧ L' = [] ∧ _) [(0,_),(1,_),(2,_),(3,_),(4,_)] Tryz.func29 Tryz.ntmps29 fun B hok hB hW=>?_
   repeat' (first | refine jR ?_ | (refine jo ?_;first | refine aM rfl ?_ | (refine an rfl rfl rfl (cx_la0 _) rfl ?_;rintro _ G hle ⟨ua,qa,rfl⟩;skip) | (refine an rfl rfl rfl (cx_sp _) rfl ?_;rintro _ G hle ⟨sa,sc,sn,rfl,hsp⟩;skip)) | refine aF rfl rfl rfl ?_ | refine ac rfl rfl ?_)
   all_goals refine Nx.base hok hB ?_
   all_goals refine jY (vs:=[_,_]) ?_
   all_goals rfl
  | some q =>
   have cx_sp:=hO h1.2.2.2 hpo
   refine jB (Post:=fun v G' L'=>G' = G ∧ L' = [] ∧ _) [(0,_),(1,_),(2,_),(3,_),(4,_)] Tryz.func29 Tryz.ntmps29 fun B hok hB hW=>?_
   repeat' (first | refine jR ?_ | (refine jo ?_;first | refine aM rfl ?_ | (refine an rfl rfl rfl (cx_la0 _) rfl ?_;rintro _ G hle ⟨ua,qa,rfl⟩;skip) | (refine an rfl rfl rfl (cx_sp _) rfl ?_;rintro _ G hle ⟨sa,sc,sn,rfl,hsp⟩;skip)) | refine aF rfl rfl rfl ?_ | refine ac rfl rfl ?_)
   all_goals refine Nx.base hok hB ?_
   all_goals refine jY (vs:=[_,_]) ?_
   all_goals rfl
 | some u =>
  obtain ⟨ts,hs,hki,hvo,hto,hwf⟩:=cJ hg
  have cx_l4x:=j8 (G:=G) (s:=s) (k:=k) (w:=w) oM hs hki hvo
  rw [hs]
  cases hpo : cG p with
  | none =>
   have cx_sp:=iJ h1.2.2.2 hpo
   refine jB (Post:=fun v G' L'=>G' = G ∧ L' = [] ∧ _) [(0,_),(1,_),(2,_),(3,_),(4,_)] Tryz.func29 Tryz.ntmps29 fun B hok hB hW=>?_
   repeat' (first | refine jR ?_ | (refine jo ?_;first | refine aC rfl ?_ | (refine an rfl rfl rfl cx_l4x rfl ?_;rintro _ G hle ⟨av1,cv1,vs1,b1,rfl,hR1,hT1,hrep⟩;skip) | (refine an rfl rfl rfl (cx_sp _) rfl ?_;rintro _ G hle ⟨sa,sc,sn,rfl,hsp⟩;skip)) | refine ar rfl rfl rfl ?_ | refine ac rfl rfl ?_)
   all_goals refine Nx.base hok hB ?_
   all_goals refine jY (vs:=[_,_]) ?_
   all_goals rfl
  | some q =>
   have cx_sp:=hO h1.2.2.2 hpo
   obtain ⟨hq8,hqn⟩:=kN hpo
   have hof:=cQ hvo
   have hw:=cY hs
   dsimp only
   refine jB (Post:=fun v G' L'=>G' = G ∧ L' = [] ∧ _) [(0,_),(1,_),(2,_),(3,_),(4,_)] Tryz.func29 Tryz.ntmps29 fun B hok hB hW=>?_
   repeat' (first | refine jR ?_ | (refine jo ?_;first | refine aC rfl ?_ | (refine an rfl rfl rfl cx_l4x rfl ?_;rintro _ G hle ⟨av1,cv1,vs1,b1,rfl,hR1,hT1,hrep⟩;(try have hrep:=RepR.mono hle hrep);(try have hR1:=SchR.mono hR1 hle);(try have hsp:=aU.mono hsp hle);(try have hsg1:=b9.mono hsg1 hle)) | (refine an rfl rfl rfl (cx_sp _) rfl ?_;rintro _ G hle ⟨sa,sc,sn,rfl,hsp⟩;(try have hrep:=RepR.mono hle hrep);(try have hR1:=SchR.mono hR1 hle);(try have hsp:=aU.mono hsp hle);(try have hsg1:=b9.mono hsg1 hle))) | refine ar rfl rfl rfl ?_ | refine ad rfl rfl ?_)
   obtain ⟨rfl,hsp⟩:=hsp
   subst hT1
   have hwk:=uY hR1 hw hsp hqn oM hrep hof hki oM
   cases hfo : bi (ah vs1) k u q with
   | none =>
    have cx_wan:=fZ.no hwk hfo
    repeat' (first | refine jR ?_ | (refine jo ?_;(refine an rfl rfl rfl cx_wan rfl ?_;rintro _ G hle ⟨q1,rfl⟩;(try have hrep:=RepR.mono hle hrep);(try have hR1:=SchR.mono hR1 hle);(try have hsp:=aU.mono hsp hle);(try have hsg1:=b9.mono hsg1 hle))) | refine ac rfl rfl ?_)
    all_goals refine Nx.base hok hB ?_
    all_goals refine jY (vs:=[_,_]) ?_
    all_goals rfl
   | some y =>
    obtain ⟨k1,v1⟩:=y
    have cx_way:=fZ.yes hwk hfo
    have hqn0:=fun n hn=>(hqn n hn).1
    obtain ⟨_,hk1⟩:=gI hw hof hki hqn0 hfo
    dsimp only
    repeat' (first | refine jR ?_ | (refine jo ?_;first | refine jV (ax rfl rfl) ?_ | (refine an rfl rfl rfl cx_way rfl ?_;rintro _ G hle ⟨b1,rfl,hrep1⟩;(try have hrep:=RepR.mono hle hrep);(try have hR1:=SchR.mono hR1 hle);(try have hsp:=aU.mono hsp hle);(try have hsg1:=b9.mono hsg1 hle))) | refine ad rfl rfl ?_)
    obtain ⟨z1,z2,z3,hsg1⟩:=ss hrep1
    have cx_rd:=gr (u:=.slice av1 vs1.length cv1) (vs:=vs1) hw 12 oM G k1 x hR1 hk1 oM
    repeat' (first | refine jR ?_ | (refine jo ?_;first | refine aM rfl ?_ | refine aC rfl ?_ | refine jV (aj rfl rfl aS rfl rfl) ?_ | (refine an rfl rfl rfl cx_rd rfl ?_;rintro _ G hle ⟨q1,r1,ok1,rfl,hyes,hno⟩;(try have hrep:=RepR.mono hle hrep);(try have hR1:=SchR.mono hR1 hle);(try have hsp:=aU.mono hsp hle);(try have hsg1:=b9.mono hsg1 hle))) | refine nr rfl rfl (fun _=>?_) (fun _=>?_) | refine ac rfl rfl ?_ | refine eD rfl (fun _=>?_) (fun _=>?_))
    ·rename_i hz
     rw [hno (by simpa using hz)]
     refine Nx.base hok hB ?_
     refine jY (vs:=[_,_]) ?_
     rfl
    ·rename_i hz hr
     obtain ⟨w2,b2,rfl,hf2,hrep2⟩:=hyes (by simpa using hz)
     rw [hf2]
     refine Nx.base hok hB ?_
     refine jY (vs:=[_,_]) ?_
     cases r1 with
     | nil=>exact absurd rfl hr
     | cons c r=>rfl
    ·rename_i hz hr
     obtain ⟨w2,b2,rfl,hf2,hrep2⟩:=hyes (by simpa using hz)
     obtain rfl : r1 = []:=by simpa using hr
     rw [hf2]
     dsimp only
     have hoy:=nQ _ _ _ _ hf2
     have hyt:=gt _ _ _ _ hf2
     dsimp only at hoy hyt
     have cx_set:=w5 hw q hR1 hsp hqn hq8 hrep hof hki oM hfo hrep2 hoy oM
     have hcg:=ew hw hof hki hqn0 hfo hoy
     have hct:=gP hw (y:=w2) hof hki hqn0 hfo
     repeat' (first | refine jR ?_ | (refine jo ?_;(refine an rfl rfl rfl cx_set rfl ?_;rintro _ G hle ⟨bz,rfl,hrepz⟩;(try have hrep:=RepR.mono hle hrep);(try have hR1:=SchR.mono hR1 hle);(try have hsp:=aU.mono hsp hle);(try have hsg1:=b9.mono hsg1 hle))) | refine ad rfl rfl ?_)
     have cx_out:=fP hw hrepz oM
     have cx_bk:=yt (s:=(bH (ah vs1) k u q w2).out) hw hR1 hki
     by_cases hfit : (bH (ah vs1) k u q w2).out.length ≤ 400 ∧ (bH (ah vs1) k u q w2).deep ≤ 12
     ·rw [if_pos hfit]
      rw [lM hw hcg hfit.1 hfit.2] at cx_bk
      repeat' (first | refine jR ?_ | (refine jo ?_;first | refine ae rfl rfl rfl cx_out rfl ?_ | (refine an rfl rfl rfl cx_bk rfl ?_;rintro _ G hle rfl;(try have hrep:=RepR.mono hle hrep);(try have hR1:=SchR.mono hR1 hle);(try have hsp:=aU.mono hsp hle);(try have hsg1:=b9.mono hsg1 hle))))
      all_goals refine Nx.base hok hB ?_
      all_goals refine jY (vs:=[_,_]) ?_
      all_goals rfl
     ·rw [if_neg hfit]
      rw [t9 hw hcg hfit] at cx_bk
      repeat' (first | refine jR ?_ | (refine jo ?_;first | refine ae rfl rfl rfl cx_out rfl ?_ | (refine an rfl rfl rfl cx_bk rfl ?_;rintro _ G hle rfl;(try have hrep:=RepR.mono hle hrep);(try have hR1:=SchR.mono hR1 hle);(try have hsp:=aU.mono hsp hle);(try have hsg1:=b9.mono hsg1 hle))))
      all_goals refine Nx.base hok hB ?_
      all_goals refine jY (vs:=[_,_]) ?_
      all_goals rfl
def adl (w : Nat) (x : adA) (t : Int) (js : List adA) : adA :=
 if w = 110 then [u8 ((aK x 999999).getD 0 / 65536),u8 ((aK x 999999).getD 0 / 256),u8 ((aK x 999999).getD 0)] else if w = 116 then x ++ [0] else if w = 102 then (if x = [121,101,115] then [1] else [0]) else if w = 69 then [u8 t]
 else if w = 63 ∧ js = [] then [0] else if w = 85 ∨ w = 61 then u8 t :: js.flatten else if w = 63 then (js.map (1 :: ·)).flatten else (js.map (1 :: ·)).flatten ++ [0]
mutual
def V.key : V → adA
 | .nd w x t ks=>adl w x t (V.keys ks)
def V.keys : List V → List adA
 | []=>[]
 | v :: r=>V.key v :: V.keys r
end
def kv (s k w : adA) : Bool:=(cB s k w).isSome
theorem xP {s k w p k1 x1 : adA} (h : cU s k w p = some (k1,x1)) : ∃ ts u q v1,aV s = some ts ∧ cB s k w = some u ∧ cG p = some q ∧ bi ts k u q = some (k1,v1) ∧ x1 = v1.out:=by
 unfold cU at h
 split at h
 ·rename_i ts u q h1 h2 h3
  cases hf : bi ts k u q with
  | none=>rw [hf] at h;cases h
  | some y =>
   rw [hf] at h
   obtain ⟨k',v'⟩:=y
   simp only [Option.map_some,Option.some.injEq,Prod.mk.injEq] at h
   obtain ⟨rfl,rfl⟩:=h
   exact ⟨ts,u,q,v',h1,h2,h3,hf,rfl⟩
 ·cases h
theorem wv {s k w p k1 : adA} {ts : List Ty} {u v1 : V} {q : List Int} (h1 : aV s = some ts) (h2 : cB s k w = some u) (h3 : cG p = some q) (h4 : bi ts k u q = some (k1,v1)) : cU s k w p = some (k1,v1.out):=by
 unfold cU
 rw [h1,h2,h3]
 dsimp only
 rw [h4];rfl
theorem oR {s k w p x z : adA} (h : cF s k w p x = some z) : ∃ ts u q k1 v1 y,aV s = some ts ∧ cB s k w = some u ∧ cG p = some q ∧ bi ts k u q = some (k1,v1) ∧ rd ts 12 k1 x = some (y,[]) ∧ ((bH ts k u q y).out.length ≤ 400 ∧ (bH ts k u q y).deep ≤ 12) ∧ z = (bH ts k u q y).out:=by
 unfold cF at h
 split at h
 ·rename_i ts u q h1 h2 h3
  cases hf : bi ts k u q with
  | none=>rw [hf] at h;cases h
  | some y =>
   rw [hf] at h
   obtain ⟨k',v'⟩:=y
   dsimp only at h
   split at h
   ·rename_i y hy
    split at h
    ·rename_i hc
     simp only [Option.some.injEq] at h
     exact ⟨ts,u,q,k',v',y,h1,h2,h3,hf,hy,hc,h.symm⟩
    ·cases h
   ·cases h
 ·cases h
theorem aaY {s k w p x k1 : adA} {ts : List Ty} {u v1 y : V} {q : List Int} (h1 : aV s = some ts) (h2 : cB s k w = some u) (h3 : cG p = some q) (h4 : bi ts k u q = some (k1,v1)) (h5 : rd ts 12 k1 x = some (y,[])) (h6 : (bH ts k u q y).out.length ≤ 400 ∧ (bH ts k u q y).deep ≤ 12) : cF s k w p x = some (bH ts k u q y).out:=by
 unfold cF
 rw [h1,h2,h3]
 dsimp only
 rw [h4]
 dsimp only
 rw [h5]
 dsimp only
 rw [if_pos h6]
theorem s0 {s k w : adA} {ts : List Ty} {u : V} (h1 : aV s = some ts) (h2 : aB ts k = true) (h3 : ce ts k w = some u) : cB s k w = some u:=by
 unfold cB
 rw [h1]
 dsimp only
 rw [if_pos h2,h3]
theorem wr {ts : List Ty} (hw : SchW ts) {k : adA} {v : V} (h : OfK ts k v) (hd : v.deep ≤ 12) : rd ts 12 k v.out = some (v,[]):=by
 have:=l4 hw 12 h hd [] lE
 rwa [List.append_nil] at this
theorem xQ {s k w p x z : adA} (h : cF s k w p x = some z) : ∃ k1 old,cU s k w p = some (k1,old) ∧ cU s k z p = some (k1,x) ∧ cF s k z p old = some w:=by
 obtain ⟨ts,u,q,k1,v1,y,h1,h2,h3,h4,h5,h6,rfl⟩:=oR h
 obtain ⟨ts',g1,g2,g3,g4,g5⟩:=cJ h2
 obtain rfl : ts = ts':=Option.some.inj (h1.symm.trans g1)
 have hw:=cY h1
 have ho:=cQ g3
 obtain ⟨a1,a2,a3⟩:=eR g3
 obtain ⟨b1,b2,b3,b4⟩:=lf h3
 have hq0 : ∀ n ∈ q,0 ≤ n:=fun n hn=>(b3 n hn).1
 obtain ⟨c1,c2⟩:=gI hw ho g2 hq0 h4
 obtain ⟨d1,d2⟩:=kB hw ho g2 hq0 h4 a3 (by rw [a1];exact a2)
 have hy:=nQ _ _ _ _ h5
 dsimp only at hy
 have hyx:=m4 _ _ _ _ h5
 dsimp only at hyx
 rw [List.append_nil] at hyx
 have hc:=ew hw ho g2 hq0 h4 hy
 have hz:=s0 h1 g2 (lM hw hc h6.1 h6.2)
 obtain ⟨e1,e2,e3⟩:=mM hw (x:=y) (y:=v1) ho g2 hq0 h4 hy
 have e4:=e3.trans e2
 refine ⟨k1,v1.out,wv h1 h2 h3 h4,by rw [hyx];exact wv h1 hz h3 e1,?_⟩
 have:=aaY (x:=v1.out) h1 hz h3 e1 (wr hw c1 d1) (by rw [e4,a1];exact ⟨a2,a3⟩)
 rwa [e4,a1] at this
theorem lu {s k w p x z : adA} (h : cF s k w p x = some z) : kv s k z = true ∧ z.length ≤ 400:=by
 obtain ⟨ts,u,q,k1,v1,y,h1,h2,h3,h4,h5,h6,rfl⟩:=oR h
 obtain ⟨ts',g1,g2,g3,g4,g5⟩:=cJ h2
 obtain rfl : ts = ts':=Option.some.inj (h1.symm.trans g1)
 have hw:=cY h1
 have ho:=cQ g3
 obtain ⟨b1,b2,b3,b4⟩:=lf h3
 have hq0 : ∀ n ∈ q,0 ≤ n:=fun n hn=>(b3 n hn).1
 have hy:=nQ _ _ _ _ h5
 have hc:=ew hw ho g2 hq0 h4 hy
 exact ⟨by unfold kv;rw [s0 h1 g2 (lM hw hc h6.1 h6.2)];rfl,h6.1⟩
variable {ts : List Ty}
def cR (a b : V) : Bool:=if a.what = 82 then true else if a.what = 85 then decide (a.tag = b.tag) else if a.what = 91 ∨ a.what = 63 then decide (a.kids.length = b.kids.length ∧ 0 < a.kids.length) else false
def dM (v : V) : List Int:=if v.what = 82 then v.kids.map V.tag else [v.tag]
def be (a b : V) : List Int:=if a.what = 91 ∨ a.what = 63 then (List.range a.kids.length).map fun i : Nat=>(i : Int)
 else ((List.range 200).map fun i : Nat=>(i : Int) + 1).filter fun n=>(dM a ++ dM b).contains n
def cA (ts : List Ty) : Nat → adA → V → V → List Int → List (List Int × V)
 | 0,_,_,_,_=>[]
 | n + 1,k,a,b,q=>if a.out = b.out then [] else if cR a b = true then (be a b).flatMap fun i=>match aE ts k a i,aE ts k b i with
   | some y,some z=>cA ts n y.1 y.2 z.2 (q ++ [i])
   | _,_=>[]
  else [(q,b)]
theorem kh (a b : V) : (be a b).Pairwise (· < ·):=by
 unfold be
 split
 ·exact List.pairwise_map.2 (List.pairwise_lt_range.imp fun h=>by omega)
 ·exact (List.pairwise_map.2 (List.pairwise_lt_range.imp fun h=>by omega)).filter _
variable {ts : List Ty}
theorem uv {t : Ty} : ∀ {fs gs : List (Fld × V)},fs.Pairwise (fun a b=>a.1.tag < b.1.tag) → gs.Pairwise (fun a b=>a.1.tag < b.1.tag) → (∀ p,p ∈ fs ↔ p ∈ gs) → fs = gs
 | [],[],_,_,_=>rfl
 | [],q :: gs,_,_,h=>absurd ((h q).2 (by simp)) (by simp)
 | p :: fs,[],_,_,h=>absurd ((h p).1 (by simp)) (by simp)
 | p :: fs,q :: gs,h1,h2,h=>by
  replace h1:=List.pairwise_cons.1 h1
  replace h2:=List.pairwise_cons.1 h2
  have e : p = q:=by
   rcases List.mem_cons.1 ((h p).1 (by simp)) with e | hp
   ·exact e
   ·rcases List.mem_cons.1 ((h q).2 (by simp)) with e | hq
    ·exact e.symm
    ·have:=h1.1 q hq
     have:=h2.1 p hp
     omega
  subst e
  rw [uv (t:=t) h1.2 h2.2 fun r=>⟨fun hr=>by
   rcases List.mem_cons.1 ((h r).1 (by simp [hr])) with e | h3
   ·subst e;have:=h1.1 r hr;omega
   ·exact h3,fun hr=>by
   rcases List.mem_cons.1 ((h r).2 (by simp [hr])) with e | h3
   ·subst e;have:=h2.1 r hr;omega
   ·exact h3⟩]
theorem uy (hw : SchW ts) {t : Ty} (ht : t ∈ ts) (h69 : t.sort ≠ 69) {fs gs : List (Fld × V)} (f1 : ∀ p ∈ fs,p.1 ∈ t.fields) (f3 : ∀ p ∈ fs,p.2.out ≠ bT ts p.1) (f4 : fs.Pairwise fun a b=>a.1.tag < b.1.tag)
  (g1 : ∀ p ∈ gs,p.1 ∈ t.fields) (g2 : ∀ p ∈ gs,OfK ts p.1.kind p.2) (h : ∀ f ∈ t.fields,(cq f (fs.map aw)).getD (dZ ts f) = (cq f (gs.map aw)).getD (dZ ts f)) : ∀ p ∈ fs,p ∈ gs:=by
 intro p hp
 have hpt:=f1 p hp
 have e:=h p.1 hpt
 rw [mO (hw.ty t ht) f1 f4 hp] at e
 cases hg : cq p.1 (gs.map aw) with
 | none =>
  rw [hg] at e
  exact absurd (by rw [show p.2 = dZ ts p.1 from e];exact (fh hw ht h69 hpt).2.2) (f3 p hp)
 | some w =>
  rw [hg] at e
  obtain ⟨_,q,hq,q1,q2⟩:=gU (hw.ty t ht) hpt (fun p hp=>⟨g1 p hp,g2 p hp⟩) hg
  obtain rfl : q = p:=Prod.ext q1 (q2.trans e.symm)
  exact hq
theorem abq (hw : SchW ts) {t : Ty} (ht : t ∈ ts) {f : Fld} (hf : f ∈ t.fields) : 0 ≤ f.tag:=by
 have:=((hw.ty t ht).fld f hf).tag
 omega
theorem xz (hw : SchW ts) {k : adA} {u v : V} (hu : OfK ts k u) (hv : OfK ts k v) (hk : aB ts k = true) (hd : u.what = 91 ∨ u.what = 63 ∨ u.what = 82 ∨ u.what = 85)
  (h : ∀ m,0 ≤ m → aE ts k u m = aE ts k v m) : u = v:=by
 obtain ⟨c,r,rfl⟩:=d7 hk
 by_cases hc : c.toNat = 91 ∨ c.toNat = 63
 ·have hs : ∀ m : Nat,(if (m : Int) < (u.kids.length : Nat) then some (r,ab u.kids m) else none) = (if (m : Int) < (v.kids.length : Nat) then some (r,ab v.kids m) else none):=fun m=>by
   have:=h m oM
   unfold aE at this
   dsimp only at this
   rw [if_pos hc,if_pos hc] at this
   exact this
  have hl : u.kids.length = v.kids.length:=by
   have h1:=hs u.kids.length
   have h2:=hs v.kids.length
   rw [if_neg oM] at h1
   rw [if_neg (by omega : ¬ ((v.kids.length : Nat) : Int) < (v.kids.length : Nat))] at h2
   by_cases h3 : u.kids.length < v.kids.length
   ·rw [if_pos oM] at h1;cases h1
   ·by_cases h4 : v.kids.length < u.kids.length
    ·rw [if_pos oM] at h2;cases h2
    ·omega
  have hks : u.kids = v.kids:=by
   refine List.ext_getElem hl fun i hi hj=>?_
   have:=hs i
   rw [if_pos oM,if_pos oM,aA hi,aA hj] at this
   exact (Prod.mk.inj (Option.some.inj this)).2
  rcases dg hu oM with ⟨g1,_⟩ | ⟨g1,_⟩ | ⟨g1,_⟩ | ⟨g1,ks,g2,g3,rfl⟩ | ⟨g1,hu2⟩
  ·omega
  ·omega
  ·omega
  ·rcases dg hv oM with ⟨g4,_⟩ | ⟨g4,_⟩ | ⟨g4,_⟩ | ⟨g4,ks2,g5,g6,rfl⟩ | ⟨g4,_⟩
   ·omega
   ·omega
   ·omega
   ·rw [V.kids,V.kids] at hks;rw [hks]
   ·omega
  ·rcases dg hv oM with ⟨g4,_⟩ | ⟨g4,_⟩ | ⟨g4,_⟩ | ⟨g4,_⟩ | ⟨g4,hv2⟩
   ·omega
   ·omega
   ·omega
   ·omega
   ·rcases hu2 with rfl | ⟨w,_,rfl⟩ <;> rcases hv2 with rfl | ⟨z,_,rfl⟩
    ·rfl
    ·exact absurd (show ([] : List V) = [z] from hks) (by simp)
    ·exact absurd (show [w] = ([] : List V) from hks) (by simp)
    ·rw [show [w] = [z] from hks]
 ·cases hr : a8 ts (c :: r) with
  | none =>
   exfalso
   generalize hkk : c :: r = k' at hu hr
   cases hu with
   | num=>rw [V.what] at hd;omega
   | txt=>rw [V.what] at hd;omega
   | flg=>rw [V.what] at hd;omega
   | lst=>injection hkk with e1 e2;subst e1;exact hc dC
   | non=>injection hkk with e1 e2;subst e1;exact hc dC
   | opt=>injection hkk with e1 e2;subst e1;exact hc dC
   | recd _ t' fs g1=>rw [hr] at g1;cases g1
   | enm _ t' d g1=>rw [hr] at g1;cases g1
   | uni _ t' d v g1=>rw [hr] at g1;cases g1
  | some t =>
   have ht:=br hr
   have hs : ∀ f ∈ t.fields,t.sort ≠ 69 → (if t.sort = 82 then some (f.kind,dP ts u f) else if u.tag = f.tag then some (f.kind,ab u.kids 0) else none) = (if t.sort = 82 then some (f.kind,dP ts v f) else if v.tag = f.tag then some (f.kind,ab v.kids 0) else none):=fun f hf h69=>by
    have:=h f.tag (abq hw ht hf)
    unfold aE at this
    dsimp only at this
    rw [if_neg hc,if_neg hc,hr] at this
    dsimp only at this
    rw [gx (hw.ty t ht) hf] at this
    dsimp only at this
    rw [if_neg h69,if_neg h69] at this
    exact this
   rcases bL hu hr with ⟨a1,fs,rfl,a3,a4,a5,a6⟩ | ⟨a1,d,rfl,_⟩ | ⟨a1,a2,d,w,rfl,a4,a5⟩
   ·rcases bL hv hr with ⟨b1,gs,rfl,b3,b4,b5,b6⟩ | ⟨b1,_⟩ | ⟨b1,_⟩
    ·have e : ∀ f ∈ t.fields,(cq f (fs.map aw)).getD (dZ ts f) = (cq f (gs.map aw)).getD (dZ ts f):=fun f hf=>by
      have:=hs f hf oM
      rw [if_pos a1,if_pos a1] at this
      exact (Prod.mk.inj (Option.some.inj this)).2
     rw [uv (t:=t) a6 b6 fun p=>⟨uy hw ht oM a3 a5 a6 b3 b4 e p,uy hw ht oM b3 b5 b6 a3 a4 (fun f hf=>(e f hf).symm) p⟩]
    ·omega
    ·omega
   ·rw [V.what] at hd;omega
   ·rcases bL hv hr with ⟨b1,_⟩ | ⟨b1,_⟩ | ⟨b1,b2,d2,w2,rfl,b4,b5⟩
    ·omega
    ·omega
    ·have:=hs d a4 a2
     rw [if_neg a1,if_neg a1,V.tag,V.tag,if_pos rfl] at this
     split at this
     ·rename_i e
      have:=(Prod.mk.inj (Option.some.inj this)).2
      rw [V.kids,V.kids] at this
      rw [show w = w2 from this,e]
     ·cases this
variable {ts : List Ty}
def fu (ts : List Ty) (k : adA) : V → List (List Int × V) → V
 | v,[]=>v
 | v,d :: r=>fu ts k (bH ts k v d.1 d.2) r
def kw (ts : List Ty) (k : adA) : V → List (List Int × V) → Prop
 | _,[]=>True
 | v,d :: r=>((∃ k' v',bi ts k v d.1 = some (k',v') ∧ OfK ts k' d.2) ∧ ∀ n ∈ d.1,0 ≤ n) ∧ kw ts k (bH ts k v d.1 d.2) r
theorem rL {k : adA} : ∀ {a b : List (List Int × V)} {v : V},fu ts k v (a ++ b) = fu ts k (fu ts k v a) b
 | [],_,_=>rfl
 | d :: a,b,v=>by rw [List.cons_append,fu,fu];exact rL
theorem sM {k : adA} : ∀ {a b : List (List Int × V)} {v : V},kw ts k v a → kw ts k (fu ts k v a) b → kw ts k v (a ++ b)
 | [],_,_,_,h=>h
 | d :: a,b,v,h1,h2=>⟨h1.1,sM h1.2 h2⟩
theorem mw (hw : SchW ts) {k : adA} (hk : aB ts k = true) : ∀ {ds : List (List Int × V)} {v : V},OfK ts k v → kw ts k v ds → OfK ts k (fu ts k v ds)
 | [],v,h,_=>h
 | d :: r,v,h,hd=>by
  obtain ⟨⟨⟨k',v',h1,h2⟩,h3⟩,h4⟩:=hd
  rw [fu]
  exact mw hw hk (ew hw h hk h3 h1 h2) h4
theorem ry (hw : SchW ts) {k k1 : adA} (hk : aB ts k = true) {i : Int} (hi : 0 ≤ i) : ∀ {ds : List (List Int × V)} {v y : V},OfK ts k v → aE ts k v i = some (k1,y) → kw ts k1 y ds →
  kw ts k v (ds.map fun c=>(i :: c.1,c.2)) ∧ fu ts k v (ds.map fun c=>(i :: c.1,c.2)) = cN ts k v i (fu ts k1 y ds)
 | [],v,y,h,hs,_=>by
  obtain ⟨y1,y2⟩:=cL hw h hk hi hs
  exact ⟨trivial,((lX hw h hk hi hs y1).1.2).symm⟩
 | d :: r,v,y,h,hs,hd=>by
  obtain ⟨y1,y2⟩:=cL hw h hk hi hs
  obtain ⟨⟨⟨k',v',h1,h2⟩,h3⟩,h4⟩:=hd
  have hc:=ew hw y1 y2 h3 h1 h2
  obtain ⟨⟨s1,_⟩,s3,_⟩:=lX hw h hk hi hs hc
  have hq : ∀ n ∈ i :: d.1,0 ≤ n:=fun n hn=>by
   rcases List.mem_cons.1 hn with rfl | hn
   ·exact hi
   ·exact h3 n hn
  have hf : bi ts k v (i :: d.1) = some (k',v'):=by rw [fN hs];exact h1
  have hv2 : OfK ts k (cN ts k v i (bH ts k1 y d.1 d.2)):=by rw [← dA hs];exact ew hw h hk hq hf h2
  obtain ⟨e1,e2⟩:=ry hw hk hi hv2 s1 h4
  rw [List.map_cons]
  refine ⟨⟨⟨⟨k',v',hf,h2⟩,hq⟩,?_⟩,?_⟩
  ·dsimp only;rw [dA hs];exact e1
  ·rw [fu,fu];dsimp only;rw [dA hs,e2,s3]
theorem oZ : ∀ {n : Nat} {k : adA} {a b : V} {q : List Int},cA ts n k a b q = (cA ts n k a b []).map fun c=>(q ++ c.1,c.2)
 | 0,_,_,_,_=>rfl
 | n + 1,k,a,b,q=>by
  rw [cA,cA]
  split
  ·rfl
  ·split
   ·rw [List.map_flatMap]
    congr 1
    funext i
    split
    ·rw [oZ (q:=q ++ [i]),oZ (q:=[] ++ [i]),List.map_map]
     congr 1
     funext c
     simp
    ·rfl
   ·simp
theorem pt (hw : SchW ts) {k : adA} (hk : aB ts k = true) (S : Int → Option (adA × V)) (D : Int → List (List Int × V)) : ∀ {L : List Int} {v : V},OfK ts k v → (∀ i ∈ L,0 ≤ i) → L.Pairwise (· < ·) →
  (∀ i ∈ L,∃ k1 y z,aE ts k v i = some (k1,y) ∧ S i = some (k1,z) ∧ kw ts k1 y (D i) ∧ fu ts k1 y (D i) = z) →
  kw ts k v (L.flatMap fun i=>(D i).map fun c=>(i :: c.1,c.2)) ∧ ∀ m,0 ≤ m → aE ts k (fu ts k v (L.flatMap fun i=>(D i).map fun c=>(i :: c.1,c.2))) m = if m ∈ L then S m else aE ts k v m
 | [],v,_,_,_,_=>⟨trivial,fun m _=>by rw [if_neg (by simp)];rfl⟩
 | i :: L,v,h,h0,hp,hs=>by
  replace hp:=List.pairwise_cons.1 hp
  obtain ⟨k1,y,z,s1,s2,s3,s4⟩:=hs i (by simp)
  have hi:=h0 i (by simp)
  obtain ⟨y1,y2⟩:=cL hw h hk hi s1
  obtain ⟨e1,e2⟩:=ry hw hk hi h s1 s3
  rw [s4] at e2
  have hz : OfK ts k1 z:=by rw [← s4];exact mw hw y2 y1 s3
  obtain ⟨⟨t1,_⟩,_,t4⟩:=lX hw h hk hi s1 hz
  have hv2 : OfK ts k (cN ts k v i z):=by rw [← e2];exact mw hw hk h e1
  obtain ⟨f1,f2⟩:=pt hw hk S D hv2 (fun j hj=>h0 j (by simp [hj])) hp.2 fun j hj=>by
   have hne : j ≠ i:=by have:=hp.1 j hj;omega
   rw [t4 j (h0 j (by simp [hj])) hne]
   exact hs j (by simp [hj])
  rw [List.flatMap_cons]
  refine ⟨sM e1 (by rw [e2];exact f1),fun m hm=>?_⟩
  rw [rL,e2,f2 m hm]
  by_cases hmi : m = i
  ·subst hmi
   rw [if_neg (fun hin=>by have:=hp.1 m hin;omega),if_pos (by simp),t1,s2]
  ·by_cases hml : m ∈ L
   ·rw [if_pos hml,if_pos (by simp [hml])]
   ·rw [if_neg hml,if_neg (by simp [hmi,hml]),t4 m hm hmi]
variable {ts : List Ty}
theorem mU {a b : V} (h : ¬ (a.what = 91 ∨ a.what = 63)) {n : Int} (h1 : 1 ≤ n ∧ n ≤ 200) (h2 : n ∈ dM a ∨ n ∈ dM b) : n ∈ be a b:=by
 unfold be
 rw [if_neg h]
 refine List.mem_filter.2 ⟨List.mem_map.2 ⟨(n - 1).toNat,List.mem_range.2 oM,oM⟩,?_⟩
 rw [List.contains_iff_mem]
 exact List.mem_append.2 h2
theorem lV {a b : V} (h : ¬ (a.what = 91 ∨ a.what = 63)) {n : Int} (h1 : n ∈ be a b) : n ∈ dM a ∨ n ∈ dM b:=by
 unfold be at h1
 rw [if_neg h] at h1
 have:=(List.mem_filter.1 h1).2
 rw [List.contains_iff_mem] at this
 exact List.mem_append.1 this
theorem kf {fs : List (Fld × V)} {n : Int} : n ∈ dM (.nd 82 [] 0 (fs.map aw)) ↔ ∃ p ∈ fs,p.1.tag = n:=by
 unfold dM
 rw [V.what,if_pos rfl,V.kids,List.map_map]
 constructor
 ·intro h
  obtain ⟨p,hp,e⟩:=List.mem_map.1 h
  exact ⟨p,hp,e⟩
 ·rintro ⟨p,hp,e⟩
  exact List.mem_map.2 ⟨p,hp,e⟩
theorem iK {c : UInt8} {r : adA} {t : Ty} {f : Fld} {n : Int} (hc : ¬ (c.toNat = 91 ∨ c.toNat = 63)) (hr : a8 ts (c :: r) = some t) (hf : ck t.fields n = some f) (h82 : t.sort = 82) (v : V) : aE ts (c :: r) v n = some (f.kind,dP ts v f):=by
 unfold aE
 dsimp only
 rw [if_neg hc,hr]
 dsimp only
 rw [hf]
 dsimp only
 rw [if_neg oM,if_pos h82]
theorem gl {c : UInt8} {r : adA} {t : Ty} {n : Int} (hc : ¬ (c.toNat = 91 ∨ c.toNat = 63)) (hr : a8 ts (c :: r) = some t) (hf : ck t.fields n = none) (v : V) : aE ts (c :: r) v n = none:=by
 unfold aE
 dsimp only
 rw [if_neg hc,hr]
 dsimp only
 rw [hf]
theorem ur {t : Ty} (hw : TyW t) {f : Fld} (hf : f ∈ t.fields) {fs : List (Fld × V)} (h : ∀ p ∈ fs,p.1 ∈ t.fields ∧ OfK ts p.1.kind p.2) (hn : f.tag ∉ dM (.nd 82 [] 0 (fs.map aw))) : cq f (fs.map aw) = none:=by
 cases e : cq f (fs.map aw) with
 | none=>rfl
 | some u =>
  obtain ⟨_,p,hp,e1,_⟩:=gU hw hf h e
  exact absurd (kf.2 ⟨p,hp,by rw [e1]⟩) hn
theorem iA (hw : SchW ts) {k : adA} {a b : V} (ha : OfK ts k a) (hb : OfK ts k b) (hk : aB ts k = true) (hd : cR a b = true) :
  (∀ i ∈ be a b,∃ k1 y z,aE ts k a i = some (k1,y) ∧ aE ts k b i = some (k1,z)) ∧ (∀ m,0 ≤ m → m ∉ be a b → aE ts k a m = aE ts k b m) ∧ (b.what = 91 ∨ b.what = 63 ∨ b.what = 82 ∨ b.what = 85):=by
 obtain ⟨c,r,rfl⟩:=d7 hk
 by_cases hc : c.toNat = 91 ∨ c.toNat = 63
 ·have hs : ∀ v m,aE ts (c :: r) v m = if m < (v.kids.length : Nat) then some (r,ab v.kids m.toNat) else none:=fun v m=>by
   unfold aE
   dsimp only
   rw [if_pos hc]
  have hw2 : ∀ v,OfK ts (c :: r) v → v.what = 91 ∨ v.what = 63:=fun v hv=>by
   rcases dg hv oM with ⟨g1,_⟩ | ⟨g1,_⟩ | ⟨g1,_⟩ | ⟨g1,ks,_,_,rfl⟩ | ⟨g1,rfl | ⟨w,_,rfl⟩⟩
   ·omega
   ·omega
   ·omega
   ·exact Or.inl rfl
   ·exact Or.inr rfl
   ·exact Or.inr rfl
  have wa:=hw2 a ha
  have wb:=hw2 b hb
  unfold cR at hd
  rw [if_neg oM,if_neg oM,if_pos wa] at hd
  have hl:=of_decide_eq_true hd
  have hst : ∀ i,i ∈ be a b ↔ 0 ≤ i ∧ i < (a.kids.length : Nat):=fun i=>by
   unfold be
   rw [if_pos wa]
   constructor
   ·intro h
    obtain ⟨j,hj,rfl⟩:=List.mem_map.1 h
    have:=List.mem_range.1 hj
    omega
   ·intro h
    exact List.mem_map.2 ⟨i.toNat,List.mem_range.2 oM,oM⟩
  refine ⟨fun i hi=>?_,fun m hm hn=>?_,oM⟩
  ·have:=(hst i).1 hi
   exact ⟨r,ab a.kids i.toNat,ab b.kids i.toNat,by rw [hs,if_pos this.2],by rw [hs,if_pos oM]⟩
  ·have : ¬ m < (a.kids.length : Nat):=fun h=>hn ((hst m).2 ⟨hm,h⟩)
   rw [hs,hs,if_neg this,if_neg oM]
 ·cases hr : a8 ts (c :: r) with
  | none =>
   exfalso
   have : a.what = 110 ∨ a.what = 116 ∨ a.what = 102:=by
    generalize hkk : c :: r = k' at ha hr
    cases ha with
    | num=>exact Or.inl rfl
    | txt=>exact Or.inr (Or.inl rfl)
    | flg=>exact Or.inr (Or.inr rfl)
    | lst=>injection hkk with e1 e2;subst e1;exact absurd dC hc
    | non=>injection hkk with e1 e2;subst e1;exact absurd dC hc
    | opt=>injection hkk with e1 e2;subst e1;exact absurd dC hc
    | recd _ t' fs g1=>rw [hr] at g1;cases g1
    | enm _ t' d g1=>rw [hr] at g1;cases g1
    | uni _ t' d v g1=>rw [hr] at g1;cases g1
   unfold cR at hd
   rw [if_neg oM,if_neg oM,if_neg oM] at hd
   cases hd
  | some t =>
   have ht:=br hr
   have htw:=hw.ty t ht
   rcases bL ha hr with ⟨a1,fs,rfl,a3,a4,a5,a6⟩ | ⟨a1,d,rfl,_⟩ | ⟨a1,a2,d,w,rfl,a4,a5⟩
   ·rcases bL hb hr with ⟨b1,gs,rfl,b3,b4,b5,b6⟩ | ⟨b1,_⟩ | ⟨b1,_⟩
    ·have hna : ¬ ((V.nd 82 [] 0 (fs.map aw)).what = 91 ∨ (V.nd 82 [] 0 (fs.map aw)).what = 63):=by rw [V.what];omega
     refine ⟨fun i hi=>?_,fun m hm hn=>?_,Or.inr (Or.inr (Or.inl rfl))⟩
     ·have hfi : ∃ f ∈ t.fields,f.tag = i:=by
       rcases lV hna hi with h | h
       ·obtain ⟨p,hp,e⟩:=kf.1 h;exact ⟨p.1,a3 p hp,e⟩
       ·obtain ⟨p,hp,e⟩:=kf.1 h;exact ⟨p.1,b3 p hp,e⟩
      obtain ⟨f,hf,rfl⟩:=hfi
      have hff:=gx htw hf
      exact ⟨f.kind,_,_,iK hc hr hff a1 _,iK hc hr hff a1 _⟩
     ·cases hf : ck t.fields m with
      | none=>rw [gl hc hr hf,gl hc hr hf]
      | some f =>
       have hfm:=List.mem_of_find?_eq_some hf
       have hft : f.tag = m:=by have:=List.find?_some hf;simpa using this
       have hfr:=(htw.fld f hfm).tag
       rw [iK hc hr hf a1,iK hc hr hf a1]
       unfold dP
       rw [V.kids,V.kids,ur htw hfm (fun p hp=>⟨a3 p hp,a4 p hp⟩) (fun h=>hn (mU hna oM (Or.inl (hft ▸ h)))),
        ur htw hfm (fun p hp=>⟨b3 p hp,b4 p hp⟩) (fun h=>hn (mU hna oM (Or.inr (hft ▸ h))))]
    ·omega
    ·omega
   ·unfold cR at hd
    rw [V.what,if_neg dC,if_neg dC,if_neg dC] at hd
    cases hd
   ·rcases bL hb hr with ⟨b1,_⟩ | ⟨b1,_⟩ | ⟨b1,b2,d2,w2,rfl,b4,b5⟩
    ·omega
    ·omega
    ·have hna : ¬ ((V.nd 85 [] d.tag [w]).what = 91 ∨ (V.nd 85 [] d.tag [w]).what = 63):=by rw [V.what];omega
     unfold cR at hd
     rw [V.what,if_neg dC,if_pos rfl] at hd
     have htg : d.tag = d2.tag:=of_decide_eq_true hd
     have hst : ∀ (x : V) (m : Int) (f : Fld),ck t.fields m = some f → aE ts (c :: r) x m = if x.tag = m then some (f.kind,ab x.kids 0) else none:=fun x m f hf=>by
      unfold aE
      dsimp only
      rw [if_neg hc,hr]
      dsimp only
      rw [hf]
      dsimp only
      rw [if_neg a2,if_neg a1]
     have htag : ∀ (e : Int) (x : V),dM (.nd 85 [] e [x]) = [e]:=fun e x=>by
      unfold dM;rw [V.what,if_neg dC];rfl
     refine ⟨fun i hi=>?_,fun m hm hn=>?_,Or.inr (Or.inr (Or.inr rfl))⟩
     ·have hi2 : i = d.tag:=by
       rcases lV hna hi with h | h
       ·rw [htag] at h;exact List.mem_singleton.1 h
       ·rw [htag] at h;rw [htg];exact List.mem_singleton.1 h
      subst hi2
      have hff:=gx htw a4
      exact ⟨d.kind,w,w2,by rw [hst _ _ _ hff,V.tag,if_pos rfl];rfl,by rw [hst _ _ _ hff,V.tag,if_pos htg.symm];rfl⟩
     ·cases hf : ck t.fields m with
      | none=>rw [gl hc hr hf,gl hc hr hf]
      | some f =>
       have hfr:=(htw.fld d a4).tag
       have hmd : d.tag ≠ m:=fun e=>hn (e ▸ mU hna oM (Or.inl (by rw [htag];simp)))
       rw [hst _ _ _ hf,hst _ _ _ hf,V.tag,V.tag,if_neg hmd,if_neg oM]
variable {ts : List Ty}
def lz (ts : List Ty) : Nat → adA → V → V → Prop
 | 0,_,_,_=>False
 | n + 1,k,a,b=>a.out = b.out ∨ cR a b = false ∨ ∀ i ∈ be a b,∀ y z,aE ts k a i = some y → aE ts k b i = some z → lz ts n y.1 y.2 z.2
def vv (ts : List Ty) (n : Nat) (k : adA) (a b : V) (i : Int) : List (List Int × V):=match aE ts k a i,aE ts k b i with
 | some y,some z=>cA ts n y.1 y.2 z.2 []
 | _,_=>[]
theorem wN {n : Nat} {k : adA} {a b : V} (h1 : a.out ≠ b.out) (h2 : cR a b = true) : cA ts (n + 1) k a b [] = (be a b).flatMap fun i=>(vv ts n k a b i).map fun c=>(i :: c.1,c.2):=by
 rw [cA,if_neg h1,if_pos h2]
 congr 1
 funext i
 unfold vv
 cases aE ts k a i with
 | none=>rfl
 | some y=>cases aE ts k b i with
  | none=>rfl
  | some z =>
   dsimp only
   rw [oZ]
   rfl
theorem tu (hw : SchW ts) : ∀ {n : Nat} {k : adA} {a b : V},OfK ts k a → OfK ts k b → aB ts k = true → lz ts n k a b → kw ts k a (cA ts n k a b []) ∧ fu ts k a (cA ts n k a b []) = b
 | 0,_,_,_,_,_,_,h=>h.elim
 | n + 1,k,a,b,ha,hb,hk,h=>by
  by_cases ho : a.out = b.out
  ·rw [cA,if_pos ho]
   exact ⟨trivial,iN hw ha hb ho⟩
  ·by_cases hd : cR a b = true
   ·obtain ⟨d1,d2,d3⟩:=iA hw ha hb hk hd
    have hl : ∀ i ∈ be a b,∀ y z,aE ts k a i = some y → aE ts k b i = some z → lz ts n y.1 y.2 z.2:=by
     rcases h with h | h | h
     ·exact absurd h ho
     ·rw [hd] at h;cases h
     ·exact h
    have h0 : ∀ i ∈ be a b,0 ≤ i:=fun i hi=>by
     unfold be at hi
     split at hi
     ·obtain ⟨j,_,rfl⟩:=List.mem_map.1 hi;omega
     ·obtain ⟨j,_,rfl⟩:=List.mem_map.1 (List.mem_filter.1 hi).1;omega
    obtain ⟨f1,f2⟩:=pt hw hk (aE ts k b) (vv ts n k a b) ha h0 (kh a b) fun i hi=>by
     obtain ⟨k1,y,z,s1,s2⟩:=d1 i hi
     obtain ⟨y1,y2⟩:=cL hw ha hk (h0 i hi) s1
     obtain ⟨z1,_⟩:=cL hw hb hk (h0 i hi) s2
     have hrec:=tu hw y1 z1 y2 (hl i hi _ _ s1 s2)
     refine ⟨k1,y,z,s1,s2,?_⟩
     unfold vv
     rw [s1,s2]
     exact hrec
    rw [wN ho hd]
    refine ⟨f1,(xz hw hb (mw hw hk ha f1) hk d3 fun m hm=>?_).symm⟩
    rw [f2 m hm]
    by_cases hin : m ∈ be a b
    ·rw [if_pos hin]
    ·rw [if_neg hin,d2 m hm hin]
   ·rw [cA,if_neg ho,if_neg hd]
    exact ⟨⟨⟨⟨k,a,rfl,hb⟩,fun n hn=>by cases hn⟩,trivial⟩,rfl⟩
variable {ts : List Ty}
theorem yI : ∀ {a b r s : adA},fJ 61 a → fJ 61 b → a ++ 61 :: r = b ++ 61 :: s → a = b ∧ r = s
 | [],[],_,_,_,_,h=>⟨rfl,(List.cons.inj h).2⟩
 | [],y :: b,_,_,_,hb,h=>absurd (by rw [← (List.cons.inj h).1];rfl) (hb y (by simp))
 | x :: a,[],_,_,ha,_,h=>absurd (by rw [(List.cons.inj h).1];rfl) (ha x (by simp))
 | x :: a,y :: b,_,_,ha,hb,h=>by
  obtain ⟨h1,h2⟩:=List.cons.inj h
  obtain ⟨h3,h4⟩:=yI (fun c hc=>ha c (by simp [hc])) (fun c hc=>hb c (by simp [hc])) h2
  exact ⟨by rw [h1,h3],h4⟩
theorem rG {n : Int} (h : 0 ≤ n) : fJ 61 (bI n):=fun c hc=>by
 have h1:=(ib _ (Nat.le_refl _) h).2 c hc
 unfold bn at h1
 have h2:=of_decide_eq_true h1
 omega
def f6 (ts : List Ty) (k : adA) (v : V) : Prop:=v.kids = [] ∨ ∃ n,v.out = bV ts n k
theorem nO (hw : SchW ts) {k : adA} {t : Ty} (hr : a8 ts k = some t) (h82 : t.sort ≠ 82) (h69 : t.sort ≠ 69) {d : Fld} (hd : d ∈ t.fields) {w : V} {n : Nat} (h : V.out (.nd 85 [] d.tag [w]) = bV ts n k) :
  ∃ m,n = m + 1 ∧ d = t.fields.headD default ∧ w.out = bV ts m (eP t) ∧ bV ts n k = 60 :: (bI (tag0 t) ++ 61 :: (bV ts m (eP t) ++ [62])):=by
 have ho:=nS (v:=w) (n:=d.tag) (r:=[])
 rw [List.append_nil] at ho
 rw [ho] at h
 have htw:=hw.ty t (br hr)
 cases n with
 | zero=>rw [bV] at h;cases h
 | succ n =>
  cases k with
  | nil=>rw [bV] at h;cases h
  | cons c r =>
   rw [bV] at h ⊢
   split at h
   ·exact absurd (List.cons.inj h).1 dC
   ·split at h
    ·exact absurd (List.cons.inj h).1 dC
    ·rename_i h91 h63
     rw [if_neg h91,if_neg h63]
     rw [hr] at h ⊢
     dsimp only at h ⊢
     rw [if_neg h82,if_neg h69] at h ⊢
     have hd0:=yR htw h82
     have h1:=yI (rG (by have:=(htw.fld d hd).tag;omega)) (rG (by have:=(htw.fld _ hd0).tag;unfold tag0;omega)) (List.cons.inj h).2
     have h2 : d.tag = tag0 t:=by
      have a1:=jx (m:=d.tag) (top:=999999) (by have:=(htw.fld d hd).tag;omega) (by have:=(htw.fld d hd).tag;omega) dC
      have a2:=jx (m:=tag0 t) (top:=999999) (by have:=(htw.fld _ hd0).tag;unfold tag0;omega) (by have:=(htw.fld _ hd0).tag;unfold tag0;omega) dC
      rw [h1.1,a2] at a1
      exact (Option.some.inj a1).symm
     refine ⟨n,rfl,gh htw hd hd0 h2,?_,rfl⟩
     exact List.append_cancel_right h1.2
theorem ni {k : adA} {v : V} (h : OfK ts k v) : v.out ≠ []:=by
 cases h with
 | num k n=>rw [V.out];intro h;have:=gy n;rw [show cW 110 (bI n) 0 _ _ = bI n from rfl] at h;rw [h] at this;simp at this
 | txt=>rw [V.out];exact fun h=>by cases h
 | flg k x hx=>rw [V.out];rcases hx with rfl | rfl <;> exact fun h=>by cases h
 | lst=>rw [V.out];exact fun h=>by cases h
 | non=>rw [V.out];exact fun h=>by cases h
 | opt=>rw [V.out];exact fun h=>by cases h
 | recd=>rw [V.out];exact fun h=>by cases h
 | enm=>rw [V.out];exact fun h=>by cases h
 | uni=>rw [V.out];exact fun h=>by cases h
theorem ut (hw : SchW ts) : ∀ (n m : Nat) {k : adA} {a b : V},OfK ts k a → OfK ts k b → a.out = bV ts n k → b.out = bV ts m k → a.out = b.out
 | 0,_,_,_,_,ha,_,h,_=>absurd h (ni ha)
 | _ + 1,0,_,_,_,_,hb,_,h=>absurd h (ni hb)
 | n + 1,m + 1,[],a,b,ha,_,h,_=>absurd h (ni ha)
 | n + 1,m + 1,c :: r,a,b,ha,hb,h1,h2=>by
  have hu : ∀ t,a8 ts (c :: r) = some t → t.sort ≠ 82 → t.sort ≠ 69 → a.out = b.out:=fun t hr h82 h69=>by
   rcases bL ha hr with ⟨a1,_⟩ | ⟨a1,_⟩ | ⟨_,_,d,w,rfl,a4,a5⟩
   ·exact absurd a1 h82
   ·exact absurd a1 h69
   ·rcases bL hb hr with ⟨a1,_⟩ | ⟨a1,_⟩ | ⟨_,_,e,x,rfl,b4,b5⟩
    ·exact absurd a1 h82
    ·exact absurd a1 h69
    ·obtain ⟨n1,e1,f1,g1,i1⟩:=nO hw hr h82 h69 a4 h1
     obtain ⟨m1,e2,f2,g2,i2⟩:=nO hw hr h82 h69 b4 h2
     obtain rfl : n = n1:=oM
     obtain rfl : m = m1:=oM
     have hk : eP t = d.kind:=by rw [f1];rfl
     have hk2 : eP t = e.kind:=by rw [f2];rfl
     have ih:=ut hw n m (k:=eP t) (by rw [hk];exact a5) (by rw [hk2];exact b5) g1 g2
     rw [h1,h2,i1,i2,← g1,← g2,ih]
  rw [h1,h2]
  rw [bV,bV]
  by_cases h91 : c.toNat = 91
  ·simp only [if_pos h91]
  by_cases h63 : c.toNat = 63
  ·simp only [if_neg h91,if_pos h63]
  cases hr : a8 ts (c :: r) with
  | none=>simp only [if_neg h91,if_neg h63]
  | some t =>
   by_cases h82 : t.sort = 82
   ·simp only [if_neg h91,if_neg h63,if_pos h82]
   by_cases h69 : t.sort = 69
   ·simp only [if_neg h91,if_neg h63,if_neg h82,if_pos h69]
   have:=hu t hr h82 h69
   rw [h1,h2,bV,bV,hr] at this
   exact this
theorem jv (hw : SchW ts) {k : adA} {v : V} (h : OfK ts k v) (hs : f6 ts k v) (h85 : v.what ≠ 85) : v.kids = []:=by
 rcases hs with hs | ⟨n,hs⟩
 ·exact hs
 cases n with
 | zero=>exact absurd hs (ni h)
 | succ n =>
  cases k with
  | nil=>exact absurd hs (ni h)
  | cons c r =>
   rw [bV] at hs
   cases hr : a8 ts (c :: r) with
   | some t =>
    have hc : c.toNat = 64:=by obtain ⟨r0,e⟩:=dn hr;injection e with e1 e2;rw [e1];rfl
    rcases bL h hr with ⟨a1,fs,rfl,a3,a4,a5,a6⟩ | ⟨a1,d,rfl,_⟩ | ⟨a1,a2,d,w,rfl,a4,a5⟩
    ·rw [if_neg oM,if_neg oM,hr] at hs
     dsimp only at hs
     rw [if_pos a1] at hs
     have:=iN hw h (.recd _ t [] hr a1 (by simp) (by simp) (by simp) (by simp)) (hs.trans (by rw [V.out];rfl))
     rw [this];rfl
    ·rfl
    ·exact absurd rfl h85
   | none =>
    generalize hkk : c :: r = k' at h hr
    cases h with
    | num=>rfl
    | txt=>rfl
    | flg=>rfl
    | lst k ks h1 h2 =>
     injection hkk with e1 e2
     subst e1
     rw [if_pos dC] at hs
     have:=iN hw (OfK.lst k ks h1 h2) (.lst k [] (by simp) (by simp)) (hs.trans (by rw [V.out];rfl))
     rw [this];rfl
    | non=>rfl
    | opt k u h1 =>
     injection hkk with e1 e2
     subst e1
     rw [if_neg dC,if_pos dC] at hs
     have:=iN hw (OfK.opt k u h1) (.non k) (hs.trans (by rw [V.out];rfl))
     cases this
    | recd _ t' fs g1=>rw [hr] at g1;cases g1
    | enm _ t' d g1=>rw [hr] at g1;cases g1
    | uni _ t' d v g1=>rw [hr] at g1;cases g1
theorem sh (hw : SchW ts) {t : Ty} (ht : t ∈ ts) (hs : t.sort ≠ 69) {d : Fld} (hd : d ∈ t.fields) : f6 ts d.kind (dZ ts d):=by
 obtain ⟨h1,_,h3⟩:=fh hw ht hs hd
 unfold bT at h3
 by_cases h0 : d.stand = []
 ·rw [if_pos h0] at h3
  exact Or.inr ⟨_,h3⟩
 ·have h2:=(((hw.ty t ht).fld d hd).stand h0).2
  unfold bZ at h2
  have hp : d.kind = [110] ∨ d.kind = [116] ∨ d.kind = [102]:=by
   split at h2
   ·rename_i h;exact Or.inl h
   ·split at h2
    ·rename_i h;exact Or.inr (Or.inl h)
    ·split at h2
     ·rename_i h;exact Or.inr (Or.inr h)
     ·cases h2
  left
  generalize dZ ts d = v at h1
  rcases hp with e | e | e <;> rw [e] at h1 <;> rcases dg h1 dC with ⟨g1,_,_,_,rfl⟩ | ⟨g1,_,_,rfl⟩ | ⟨g1,_,_,rfl⟩ | ⟨g1,ks,_,_,rfl⟩ | ⟨g1,rfl | ⟨w,_,rfl⟩⟩ <;> first | rfl | exact absurd g1 dC
theorem rj (hw : SchW ts) {k : adA} {a b : V} (ha : OfK ts k a) (hb : OfK ts k b) (hk : aB ts k = true) (hne : a.out ≠ b.out) (hd : cR a b = true) {n : Nat} (h1 : a.deep ≤ n ∨ f6 ts k a) (h2 : b.deep ≤ n ∨ f6 ts k b)
  {i : Int} (hi : i ∈ be a b) {y z : adA × V} (hy : aE ts k a i = some y) (hz : aE ts k b i = some z) : ∃ m,n = m + 1 ∧ (y.2.deep ≤ m ∨ f6 ts y.1 y.2) ∧ (z.2.deep ≤ m ∨ f6 ts z.1 z.2):=by
 obtain ⟨c,r,rfl⟩:=d7 hk
 by_cases hc : c.toNat = 91 ∨ c.toNat = 63
 ·have hs : ∀ v m,aE ts (c :: r) v m = if m < (v.kids.length : Nat) then some (r,ab v.kids m.toNat) else none:=fun v m=>by
   unfold aE
   dsimp only
   rw [if_pos hc]
  have hw2 : ∀ v,OfK ts (c :: r) v → v.what = 91 ∨ v.what = 63:=fun v hv=>by
   rcases dg hv oM with ⟨g1,_⟩ | ⟨g1,_⟩ | ⟨g1,_⟩ | ⟨g1,ks,_,_,rfl⟩ | ⟨g1,rfl | ⟨w,_,rfl⟩⟩
   ·omega
   ·omega
   ·omega
   ·exact Or.inl rfl
   ·exact Or.inr rfl
   ·exact Or.inr rfl
  have wa:=hw2 a ha
  have wb:=hw2 b hb
  have hst:=hi
  unfold be at hst
  rw [if_pos wa] at hst
  obtain ⟨j,hj,rfl⟩:=List.mem_map.1 hst
  have hj:=List.mem_range.1 hj
  unfold cR at hd
  rw [if_neg oM,if_neg oM,if_pos wa] at hd
  have hl:=of_decide_eq_true hd
  have key : ∀ v,OfK ts (c :: r) v → (v.what = 91 ∨ v.what = 63) → (v.deep ≤ n ∨ f6 ts (c :: r) v) → j < v.kids.length → ∃ m,n = m + 1 ∧ (ab v.kids j).deep ≤ m:=fun v hv hwv hfv hjv=>by
   rcases hfv with h | h
   ·obtain ⟨w,x,t,ks⟩:=v
    have hw61 : ¬ w = 61:=by rw [V.what] at hwv;omega
    rw [d8 hw61] at h
    rw [V.kids] at hjv ⊢
    have:=V.deep_mem (bc hjv)
    exact ⟨n - 1,oM,oM⟩
   ·have:=jv hw hv h oM
    rw [this] at hjv
    cases hjv
  rw [hs,if_pos oM] at hy
  rw [hs,if_pos oM] at hz
  cases hy
  cases hz
  obtain ⟨m,e1,e2⟩:=key a ha wa h1 hj
  obtain ⟨m',e3,e4⟩:=key b hb wb h2 oM
  obtain rfl : m = m':=oM
  exact ⟨m,e1,Or.inl (by rw [Int.toNat_natCast];exact e2),Or.inl (by rw [Int.toNat_natCast];exact e4)⟩
 ·cases hr : a8 ts (c :: r) with
  | none =>
   unfold aE at hy
   dsimp only at hy
   rw [if_neg hc,hr] at hy
   cases hy
  | some t =>
   have ht:=br hr
   have htw:=hw.ty t ht
   cases hf : ck t.fields i with
   | none=>rw [gl hc hr hf] at hy;cases hy
   | some f =>
    have hfm:=List.mem_of_find?_eq_some hf
    have hft : f.tag = i:=by have:=List.find?_some hf;simpa using this
    rcases bL ha hr with ⟨a1,fs,rfl,a3,a4,a5,a6⟩ | ⟨a1,d,rfl,_⟩ | ⟨a1,a2,d,w,rfl,a4,a5⟩
    ·rcases bL hb hr with ⟨b1,gs,rfl,b3,b4,b5,b6⟩ | ⟨b1,_⟩ | ⟨b1,_⟩
     ·have hna : ¬ ((V.nd 82 [] 0 (fs.map aw)).what = 91 ∨ (V.nd 82 [] 0 (fs.map aw)).what = 63):=by rw [V.what];omega
      rw [iK hc hr hf a1] at hy hz
      cases hy
      cases hz
      have pos : ∀ hs : List (Fld × V),OfK ts (c :: r) (.nd 82 [] 0 (hs.map aw)) → ((V.nd 82 [] 0 (hs.map aw)).deep ≤ n ∨ f6 ts (c :: r) (.nd 82 [] 0 (hs.map aw))) → hs ≠ [] → 1 ≤ n ∧ V.deeps (hs.map aw) + 1 ≤ n:=fun hs ho hh hne=>by
       rcases hh with h | h
       ·rw [d8 dC] at h
        omega
       ·have:=jv hw ho h (by rw [V.what];decide)
        rw [V.kids] at this
        exact absurd (List.map_eq_nil_iff.1 this) hne
      have hn : 1 ≤ n:=by
       rcases lV hna hi with h | h
       ·obtain ⟨p,hp,_⟩:=kf.1 h
        exact (pos fs ha h1 (by intro e;rw [e] at hp;cases hp)).1
       ·obtain ⟨p,hp,_⟩:=kf.1 h
        exact (pos gs hb h2 (by intro e;rw [e] at hp;cases hp)).1
      have told : ∀ hs : List (Fld × V),OfK ts (c :: r) (.nd 82 [] 0 (hs.map aw)) → ((V.nd 82 [] 0 (hs.map aw)).deep ≤ n ∨ f6 ts (c :: r) (.nd 82 [] 0 (hs.map aw))) → (∀ p ∈ hs,p.1 ∈ t.fields ∧ OfK ts p.1.kind p.2) →
        (dP ts (.nd 82 [] 0 (hs.map aw)) f).deep ≤ n - 1 ∨ f6 ts f.kind (dP ts (.nd 82 [] 0 (hs.map aw)) f):=fun hs ho hh hp=>by
       unfold dP
       rw [V.kids]
       cases e : cq f (hs.map aw) with
       | none=>exact Or.inr (sh hw ht oM hfm)
       | some u =>
        left
        obtain ⟨_,p,hp1,_,hp3⟩:=gU htw hfm hp e
        have h5:=(pos hs ho hh (by intro e;rw [e] at hp1;cases hp1)).2
        have h6:=V.deep_mem (List.mem_map_of_mem (f:=aw) hp1)
        rw [kC,hp3] at h6
        show u.deep ≤ n - 1
        omega
      exact ⟨n - 1,oM,told fs ha h1 fun p hp=>⟨a3 p hp,a4 p hp⟩,told gs hb h2 fun p hp=>⟨b3 p hp,b4 p hp⟩⟩
     ·omega
     ·omega
    ·unfold cR at hd
     rw [V.what,if_neg dC,if_neg dC,if_neg dC] at hd
     cases hd
    ·rcases bL hb hr with ⟨b1,_⟩ | ⟨b1,_⟩ | ⟨b1,b2,e,x,rfl,b4,b5⟩
     ·omega
     ·omega
     ·have hn : ∀ (d : Fld) (w : V),((V.nd 85 [] d.tag [w]).deep ≤ n) → ∃ m,n = m + 1 ∧ w.deep ≤ m:=fun d w h=>by
       rw [d8 dC,V.deeps,V.deeps] at h
       exact ⟨n - 1,oM,oM⟩
      have hst : ∀ (d : Fld) (w : V),d ∈ t.fields → f6 ts (c :: r) (.nd 85 [] d.tag [w]) → f6 ts d.kind w ∧ ∃ j,V.out (.nd 85 [] d.tag [w]) = bV ts j (c :: r):=fun d w hd h=>by
       rcases h with h | ⟨j,h⟩
       ·cases h
       ·obtain ⟨m,_,e2,e3,_⟩:=nO hw hr a1 a2 hd h
        exact ⟨Or.inr ⟨m,by rw [e3,e2];rfl⟩,j,h⟩
      have sel : ∀ (d : Fld) (w : V),d ∈ t.fields → ∀ q,aE ts (c :: r) (.nd 85 [] d.tag [w]) i = some q → q = (d.kind,w):=fun d w hd q hq=>by
       unfold aE at hq
       dsimp only at hq
       rw [if_neg hc,hr] at hq
       dsimp only at hq
       rw [hf] at hq
       dsimp only at hq
       rw [if_neg a2,if_neg a1] at hq
       split at hq
       ·rename_i htg
        obtain rfl:=gh htw hfm hd (by rw [hft];exact htg.symm)
        cases hq
        rfl
       ·cases hq
      cases sel d w a4 y hy
      cases sel e x b4 z hz
      have hfit : ∀ (d : Fld) (w : V) (m : Nat),n = m + 1 → d ∈ t.fields → ((V.nd 85 [] d.tag [w]).deep ≤ n ∨ f6 ts (c :: r) (.nd 85 [] d.tag [w])) → w.deep ≤ m ∨ f6 ts d.kind w:=fun d w m hm hd h=>by
       rcases h with h | h
       ·obtain ⟨m',e1,e2⟩:=hn d w h
        exact Or.inl oM
       ·exact Or.inr (hst d w hd h).1
      have hm : ∃ m,n = m + 1:=by
       rcases h1 with h1 | h1
       ·obtain ⟨m,e1,_⟩:=hn d w h1;exact ⟨m,e1⟩
       ·rcases h2 with h2 | h2
        ·obtain ⟨m,e1,_⟩:=hn e x h2;exact ⟨m,e1⟩
        ·obtain ⟨_,j1,g1⟩:=hst d w a4 h1
         obtain ⟨_,j2,g2⟩:=hst e x b4 h2
         exact absurd (ut hw _ _ ha hb g1 g2) hne
      obtain ⟨m,hm⟩:=hm
      exact ⟨m,hm,hfit d w m hm a4 h1,hfit e x m hm b4 h2⟩
theorem yP (hw : SchW ts) : ∀ (n : Nat) {k : adA} {a b : V},OfK ts k a → OfK ts k b → aB ts k = true → (a.deep ≤ n ∨ f6 ts k a) → (b.deep ≤ n ∨ f6 ts k b) → lz ts (n + 1) k a b:=by
 intro n
 induction n with
 | zero =>
  intro k a b ha hb hk h1 h2
  by_cases hne : a.out = b.out
  ·exact Or.inl hne
  cases hd : cR a b with
  | false=>exact Or.inr (Or.inl hd)
  | true =>
   refine Or.inr (Or.inr fun i hi y z hy hz=>?_)
   obtain ⟨m,e,_⟩:=rj hw ha hb hk hne hd h1 h2 hi hy hz
   cases e
 | succ n ih =>
  intro k a b ha hb hk h1 h2
  by_cases hne : a.out = b.out
  ·exact Or.inl hne
  cases hd : cR a b with
  | false=>exact Or.inr (Or.inl hd)
  | true =>
   refine Or.inr (Or.inr fun i hi y z hy hz=>?_)
   obtain ⟨m,e,f1,f2⟩:=rj hw ha hb hk hne hd h1 h2 hi hy hz
   obtain rfl : n = m:=oM
   have hi0 : 0 ≤ i:=by
    unfold be at hi
    split at hi
    ·obtain ⟨j,_,rfl⟩:=List.mem_map.1 hi;omega
    ·obtain ⟨j,_,rfl⟩:=List.mem_map.1 (List.mem_filter.1 hi).1;omega
   obtain ⟨y1,y2⟩:=cL hw ha hk hi0 (k':=y.1) (v':=y.2) hy
   obtain ⟨z1,z2⟩:=cL hw hb hk hi0 (k':=z.1) (v':=z.2) hz
   obtain ⟨k1,y',z',e1,e2⟩:=(iA hw ha hb hk hd).1 i hi
   rw [e1] at hy
   rw [e2] at hz
   cases hy
   cases hz
   exact ih y1 z1 y2 f1 f2
abbrev Mt:=adA × adA × adA
def mtF (m : Mt) : List Value:=[S m.1,S m.2.1,S m.2.2]
instance : RowF mtF 3:=⟨fun _=>rfl⟩
abbrev Ch:=adA × adA
def dO (c : Ch) : List Value:=[S c.1,S c.2]
instance : RowF dO 2:=⟨fun _=>rfl⟩
abbrev vl (c : Ch) : Prop:=c.1.length ≤ 1048576 ∧ c.2.length ≤ 1048576
open Go.ChangeShapes Go.WideShapes Go.ChangeAt Go.RowKit
theorem qe {s k w : adA} (h : s.length ≤ 1048576 ∧ k.length ≤ 1048576 ∧ w.length ≤ 1048576) : a9 adz 21 [S s,S k,S w] G (· = Bo (kv s k w)):=by
 unfold kv
 cases hg : cB s k w with
 | none =>
  have cx_gi0:=ph (G:=G) h hg
  refine jB (Post:=fun v G' L'=>G' = G ∧ L' = [] ∧ _) [(0,_),(1,_),(2,_)] Tryz.func21 Tryz.ntmps21 fun B hok hB hW=>?_
  repeat' (first | refine jR ?_ | (refine jo ?_;first | refine jL fun _=>?_ | refine jC rfl rfl rfl ?_ | (refine an rfl rfl rfl cx_gi0 rfl ?_;rintro _ G hle ⟨p1,a1,b1,c1,rfl⟩;skip)))
  all_goals refine Nx.base hok hB ?_
  all_goals refine jY (vs:=[_]) ?_
  all_goals rfl
 | some u =>
  obtain ⟨ts,hs,hki,hvo,hto,hwf⟩:=cJ hg
  have cx_gi1:=pe (G:=G) h hs hki hvo
  refine jB (Post:=fun v G' L'=>G' = G ∧ L' = [] ∧ _) [(0,_),(1,_),(2,_)] Tryz.func21 Tryz.ntmps21 fun B hok hB hW=>?_
  repeat' (first | refine jR ?_ | (refine jo ?_;first | refine jL fun _=>?_ | refine jC rfl rfl rfl ?_ | (refine an rfl rfl rfl cx_gi1 rfl ?_;rintro _ G hle ⟨bg,qg,cv,rfl,hTg,hRg,hrv⟩;skip)))
  all_goals refine Nx.base hok hB ?_
  all_goals refine jY (vs:=[_]) ?_
  all_goals rfl
theorem qd {s k w : adA} (h : s.length ≤ 1048576 ∧ k.length ≤ 1048576 ∧ w.length ≤ 1048576) : a9 adz 27 [S s,S k,S w] G (· = Bo (kv s k w)):=by
 unfold kv
 cases hg : cB s k w with
 | none =>
  have cx_l40:=iS (G:=G) h hg
  refine jB (Post:=fun v G' L'=>G' = G ∧ L' = [] ∧ _) [(0,_),(1,_),(2,_)] Tryz.func27 Tryz.ntmps27 fun B hok hB hW=>?_
  repeat' (first | refine jR ?_ | (refine jo ?_;(refine an rfl rfl rfl cx_l40 rfl ?_;rintro _ G hle ⟨uu,q1,rfl⟩;skip)))
  all_goals refine Nx.base hok hB ?_
  all_goals refine jY (vs:=[_]) ?_
  all_goals rfl
 | some u =>
  obtain ⟨ts,hs,hki,hvo,hto,hwf⟩:=cJ hg
  have cx_l4:=aao (G:=G) h hs hki hvo
  refine jB (Post:=fun v G' L'=>G' = G ∧ L' = [] ∧ _) [(0,_),(1,_),(2,_)] Tryz.func27 Tryz.ntmps27 fun B hok hB hW=>?_
  repeat' (first | refine jR ?_ | (refine jo ?_;(refine an rfl rfl rfl cx_l4 rfl ?_;rintro _ G hle ⟨uu,q1,rfl,hyes⟩;skip)))
  all_goals refine Nx.base hok hB ?_
  all_goals refine jY (vs:=[_]) ?_
  all_goals rfl
abbrev yF : TypeId:=3
theorem p7 {s : adA} (h : s.length ≤ 1048576) : bB adz 53 [S s] G (xr s):=by
 by_cases h0 : s = []
 ·subst h0
  refine jB [(0,_)] Tryz.func53 Tryz.ntmps53 fun B hok hB hW=>?_
  repeat' (first | refine jR ?_ | refine ac rfl rfl ?_)
  refine jZ (vs:=[_,_]) rfl ⟨rfl,rfl,trivial⟩ rfl ⟨Gh.le.refl _,rfl,?_⟩
  exact ⟨_,_,_,rfl,fun p hp=>by
   obtain rfl : p = []:=by unfold cG at hp;simpa using hp.symm
   exact ⟨rfl,aU.nil0⟩⟩
 have cx_split : bB adz 89 [S s,S [47]] G (fun v G'=>∃ b o cap,v = .slice (some ⟨b,o,none⟩) (aZ 47 s).length cap ∧ b9 G' b o (ak cn (aZ 47 s))):=by
  refine (vh (c:=47) oM).mono ?_
  rintro v G' L' ⟨h1,h2,h3⟩
  have hp : 0 < (aZ 47 s).length:=en
  exact ⟨h1,h2,h3.expl hp⟩
 have hcl:=ic (k:=47) (s:=s)
 have hbad:=fun {i : Nat}=>pN h0 (i:=i)
 have hpo:=ng h0
 have hxl : ∀ i,i < (aZ 47 s).length → (ab (aZ 47 s) i).length ≤ 100000000:=fun i hi=>by
  have:=df (bc hi)
  omega
 generalize aZ 47 s = xs at *
 refine jB [(0,_)] Tryz.func53 Tryz.ntmps53 fun B hok hB hW=>?_
 repeat' (first | refine jR ?_ | (refine jo ?_;first | refine jV (af rfl) ?_ | (refine an rfl rfl rfl cx_split rfl ?_;rintro _ G hle ⟨b1,o1,cap1,rfl,hseg⟩;skip)) | refine ad rfl (aG ‹_›) ?_)
 refine Nx.addNil yF 1 ?_
 refine aT (ι:=List Int × Option Addr × Nat × Nat) (fun j=>(j.1.length = j.2.2.2 ∧ j.2.2.2 ≤ xs.length ∧ j.2.2.2 ≤ 8) ∧ cI (xs.take j.2.2.2) = some j.1) (fun j=>[(4,.slice j.2.1 j.1.length j.2.2.1),(12,.slice (some ⟨b1,o1,none⟩) xs.length cap1),(13,I xs.length),(14,I j.2.2.2)]) (fun _=>G) (fun j=>[.acc (.slice j.2.1 j.1.length j.2.2.1) yF 1 j.1.length (ak cH j.1)]) (fun j=>xs.length - j.2.2.2) ([],none,0,0) ?_ tU rfl a7 (fun j Hj=>?_)
 ·exact ⟨⟨rfl,Nat.zero_le _,Nat.zero_le _⟩,rfl⟩
 obtain ⟨ps,a,c,i⟩:=j
 dsimp only at Hj ⊢
 obtain ⟨⟨hpl,hi0,hi8⟩,hst⟩:=Hj
 by_cases hi : i < xs.length
 ·have hxl1:=hxl i hi
  cases hn : aK (ab xs i) 999999 with
  | none =>
   have hno:=hbad hi hn
   have hns : (!(aK (ab xs i) 999999).isSome) = true:=by rw [hn];rfl
   repeat' (first | refine jR ?_ | (refine jo ?_;first | refine jV (ag rfl rfl oM) ?_ | (refine jV (eN rfl rfl aS ?_) ?_;focus omega) | refine aM rfl ?_ | (refine eF rfl rfl rfl (eI oM) rfl ?_;rintro _ ⟨n,rfl,hnum⟩)) | refine aF rfl rfl ‹_› ?_ | (refine ac rfl (by first | rfl | (refine decide_eq_true ?_;(omega))) ?_))
   all_goals refine jZ (vs:=[_,_]) rfl ⟨rfl,rfl,trivial⟩ rfl ⟨hle,rfl,?_⟩
   all_goals exact ⟨_,_,_,by rw [hno];rfl,fun p hp=>by rw [hno] at hp;cases hp⟩
  | some m =>
   have hns : (!(aK (ab xs i) 999999).isSome) = false:=by rw [hn];rfl
   by_cases h8 : i = 8
   ·subst h8
    have hno : cG s = none:=by
     rw [hpo]
     cases hso : cI xs with
     | none=>rfl
     | some q =>
      have:=(k7 hso).1
      dsimp only
      rw [if_neg oM]
    have h88 : ((ps.length : Nat) : Int) = 8:=oM
    repeat' (first | refine jR ?_ | (refine jo ?_;first | refine jV (af rfl) ?_ | refine jV (ag rfl rfl oM) ?_ | (refine jV (eN rfl rfl aS ?_) ?_;focus omega) | refine aC rfl ?_ | (refine eF rfl rfl rfl (eI oM) rfl ?_;rintro _ ⟨n,rfl,hnum⟩)) | refine ar rfl rfl ‹_› ?_ | (refine ac rfl (by refine decide_eq_true ?_;first | assumption | omega) ?_))
    all_goals refine jZ (vs:=[_,_]) rfl ⟨rfl,rfl,trivial⟩ rfl ⟨hle,rfl,?_⟩
    all_goals exact ⟨_,_,_,by rw [hno];rfl,fun p hp=>by rw [hno] at hp;cases hp⟩
   ·have h88 : ¬ ((ps.length : Nat) : Int) = 8:=oM
    repeat' (first | refine jM ?_ | (refine jo ?_;first | refine jV (af rfl) ?_ | refine jV (ag rfl rfl oM) ?_ | (refine jV (eN rfl rfl aS ?_) ?_;focus omega) | refine aC rfl ?_ | refine jF fun _=>?_ | refine bD rfl rfl rfl rfl rfl rfl rfl rfl rfl oM fun _ _=>?_ | (refine eF rfl rfl rfl (eI oM) rfl ?_;rintro _ ⟨n,rfl,hnum⟩)) | refine ar rfl rfl ‹_› ?_ | refine ac rfl (ay oM) ?_ | refine ad rfl (aG ‹_›) ?_)
    rename_i y1 yc
    have hmn:=hnum m hn
    subst hmn
    have hst2 : cI (xs.take (i + 1)) = some (ps ++ [n]):=by rw [co hi,kj hst,hn];rfl
    have hl1 : (ps ++ [n]).length = ps.length + 1:=by simp
    rw [show ak cH ps ++ [I n] = ak cH (ps ++ [n]) from (bR cH ps n).symm]
    exact bh (ps ++ [n],some ⟨y1,0,none⟩,yc,i + 1) ⟨⟨by dsimp only;omega,by dsimp only;omega,by dsimp only;omega⟩,hst2⟩ (by dsimp only;omega) (by rw [hl1];repeat (first | exact trivial | refine ⟨rfl,?_⟩)) rfl (by rw [hl1];repeat (first | exact List.nil_sublist _ | apply List.Sublist.cons_cons))
 ·rw [List.take_of_length_le oM] at hst
  rw [hst] at hpo
  dsimp only at hpo
  rw [if_pos oM] at hpo
  repeat' (first | refine jR ?_ | refine ad rfl (aG oM) ?_)
  refine Nx.sealS (v:=.slice a ps.length c) fun G2 hG2 hsl=>?_
  refine jZ (vs:=[_,_]) rfl ⟨rfl,rfl,trivial⟩ rfl ⟨hle.trans hG2,rfl,?_⟩
  refine ⟨_,_,_,by rw [hpo];rfl,fun p hp=>?_⟩
  rw [hpo] at hp
  simp only [Option.some.injEq] at hp;subst hp;exact ⟨rfl,hsl⟩
theorem qu : ∀ k : adA,sg k ++ bN k = k
 | []=>rfl
 | c :: r=>by
  by_cases h : c.toNat = 91 ∨ c.toNat = 63
  ·rw [lr h,bN,if_pos h,List.cons_append,qu r]
  ·rw [lq h,fS h];rfl
theorem wx {k : adA} (h : bU k = true) : (bs k = [64] → sg k ++ [64] ++ nm k ++ [59] = k) ∧ (bs k ≠ [64] → sg k ++ bs k = k):=by
 have hk:=kF (cV h).1
 have hsc:=qu k
 refine ⟨fun h64=>?_,fun hne=>?_⟩
 ·have hr:=(k4 h).1 h64
  cases hc : bN k with
  | nil=>rw [hc] at hk;cases hk
  | cons c r =>
   rw [hc] at hr hk hsc
   have h64' : c.toNat = 64:=by
    by_cases h64' : c.toNat = 64
    ·exact h64'
    ·simp [b7,h64'] at hr
   have hn : nm k = r.take (r.length - 1):=by unfold nm;rw [hc];simp [b7,h64']
   rw [eV,if_neg oM,if_pos h64'] at hk
   simp only [Bool.and_eq_true,decide_eq_true_eq] at hk
   obtain ⟨h59,hnm⟩:=hk
   have hrl : 1 ≤ r.length:=by
    cases r with
    | nil=>simp [cP] at hnm
    | cons=>simp
   obtain ⟨m,hm⟩ : ∃ m,r.length = m + 1:=⟨r.length - 1,oM⟩
   rw [hm,er] at h59
   have e3 : r = r.take m ++ [59]:=by
    have e1 : r.take (m + 1) = r:=List.take_of_length_le oM
    have e2:=co (cs:=r) (i:=m) oM
    rw [e1] at e2
    have e4 : ab r m = 59:=by
     rw [aA oM]
     have : bt r m = (r[m]'oM).toNat:=by simp [bt,List.getD,List.getElem?_eq_getElem (show m < r.length by omega)]
     exact UInt8.toNat_inj.1 (by rw [← this];show bt r m = 59;omega)
    rw [e4] at e2;exact e2
   have hc64 : c = 64:=UInt8.toNat_inj.1 h64'
   have e5 : sg k ++ 64 :: (r.take m ++ [59]) = k:=by rw [← e3,← hc64];exact hsc
   rw [hn,hm,Nat.add_sub_cancel]
   refine Eq.trans ?_ e5
   simp
 ·have hr : b7 (bN k) = none:=by
   cases hr : b7 (bN k) with
   | none=>rfl
   | some x=>exact absurd ((k4 h).2 (by rw [hr];rfl)) hne
  have e : bs k = bN k:=by
   unfold bs
   cases hc : bN k with
   | nil=>rfl
   | cons c r =>
    rw [hc] at hr
    have h64 : ¬ c.toNat = 64:=by intro h64;simp [b7,h64] at hr
    simp [oD,h64]
  rw [e];exact hsc
theorem aac {k : adA} (h : bU k = true) : a9 adz 55 [Ag (c5 k)] G (· = S k):=by
 obtain ⟨h1,h2⟩:=wx h
 have hl:=(cV h).2
 have hsl : (sg k).length ≤ 12:=by
  have:=congrArg List.length (qu k)
  simp only [List.length_append] at this
  omega
 unfold c5
 by_cases h64 : bs k = [64]
 ·have e:=h1 h64
  have hnl:=congrArg List.length e
  simp only [List.length_append,List.length_cons,List.length_nil] at hnl
  rw [h64]
  refine jE [(0,_)] Tryz.func55 Tryz.ntmps55 fun B hB=>?_
  repeat' (first | refine jX ?_ | (refine jo ?_;first | refine jO fun _=>?_ | refine aD rfl ?_) | refine ac rfl rfl ?_)
  all_goals refine jY (vs:=[_]) ?_
  all_goals (rw [aP,e])
 ·have e:=h2 h64
  have hnl:=congrArg List.length e
  simp only [List.length_append] at hnl
  refine jE [(0,_)] Tryz.func55 Tryz.ntmps55 fun B hB=>?_
  repeat' (first | refine jM ?_ | (refine jo ?_;first | refine jO fun _=>?_ | refine aD rfl ?_) | refine ad rfl (aG ‹_›) ?_)
  all_goals refine jY (vs:=[_]) ?_
  all_goals (rw [aP,e])
theorem abO {b : Nat} {qs : List dp} {k s : adA} {u : V} (hS : ScI G b qs) (hw : SchW (aq qs)) (hk : aB (aq qs) k = true) (hvo : ce (aq qs) k s = some u) :
  bB adz 106 [Pt b 0,Ag (c5 k),S s] G (fun r G'=>∃ c,r = Ag (bJ c) ∧ V.rep G' u c):=by
 have hl:=(iI hvo).2
 have cx_ris : bB adz 57 [Pt b 0,Ag [S (sg k),S (bs k),S (nm k)],S s] G (fun v G'=>∃ cv,v = Tu [Ag (bJ cv),Bo true] ∧ V.rep G' u cv):=by
  refine (lF (G:=G) (b:=b) (s:=s) hS hw hk oM).mono ?_
  rintro v G' L' ⟨h1,h2,⟨h4,_⟩ | ⟨u',c,h4,rfl,h5⟩⟩
  ·rw [hvo] at h4;cases h4
  ·rw [hvo] at h4;obtain rfl:=Option.some.inj h4;exact ⟨h1,h2,c,rfl,h5⟩
 unfold c5
 refine jB [(0,_),(1,_),(2,_)] Tryz.func106 Tryz.ntmps106 fun B hok hB hW=>?_
 repeat' (first | refine jR ?_ | (refine jo ?_;first | refine jO fun _=>?_ | refine jL fun _=>?_ | refine bM rfl ?_ | refine jC rfl rfl rfl ?_ | (refine an rfl rfl rfl cx_ris rfl ?_;rintro _ G hle ⟨cv,rfl,hrv⟩;skip)))
 all_goals refine jZ (vs:=[_]) rfl ⟨aJ rfl rfl rfl rfl,trivial⟩ rfl ⟨hle,rfl,?_⟩
 all_goals exact ⟨cv,rfl,hrv⟩
theorem wC {ts : List Ty} {f : Fld} {fs : List (Fld × V)} {j : Nat} (hj : j < fs.length) (hjn : (ab fs j).1.tag = f.tag) (hno : ∀ i,i < j → (ab fs i).1.tag ≠ f.tag) : dP ts (.nd 82 [] 0 (fs.map aw)) f = (ab fs j).2:=by
 unfold dP
 rw [V.kids,oK hj hjn hno];rfl
theorem ug {ts : List Ty} {f : Fld} {fs : List (Fld × V)} (hno : ∀ i,i < fs.length → (ab fs i).1.tag ≠ f.tag) : dP ts (.nd 82 [] 0 (fs.map aw)) f = dZ ts f:=by
 unfold dP
 rw [V.kids,oJ hno];rfl
theorem abU {b bf of j : Nat} {qs : List dp} {t : Ty} {fs : List (Fld × V)} {c : VC} (hS : ScI G b qs) (hw : SchW (aq qs)) (ht : t ∈ aq qs) (hso : t.sort = 82) (hsf : b9 G bf of (ak iF t.fields)) (hj : j < t.fields.length) (hrep : V.rep G (.nd 82 [] 0 (fs.map aw)) c) (h9 : fs.length ≤ 1000000) :
  bB adz 74 [Pt b 0,Ag (bJ c),Pt bf (of + j * 6)] G (fun r G'=>∃ c',r = Ag (bJ c') ∧ V.rep G' (dP (aq qs) (.nd 82 [] 0 (fs.map aw)) (ab t.fields j)) c'):=by
 obtain ⟨a,k,cs,rfl,_,_,_,hcl,hsl,hrs⟩:=eT hrep
 have hml : (fs.map aw).length = fs.length:=by simp
 rw [hml] at hcl hsl
 have hfm : ab t.fields j ∈ t.fields:=bc hj
 have hdk : aB (aq qs) (ab t.fields j).kind = true:=dT hw ht oM hfm
 obtain ⟨g1,g2,g3⟩:=fh hw ht oM hfm
 have cx_of:=vU hS hw hsf hj hdk
 have hnt : ∀ i,i < fs.length → ab (fs.map aw) i = aw (ab fs i):=fun i hi=>by rw [aA (by simpa using hi),aA hi];simp
 have hrn : ∀ i,i < fs.length → V.rep G (aw (ab fs i)) (ab cs i):=fun i hi=>by
  have:=gX hrs i oM
  rwa [hnt i hi] at this
 have e0 : bJ ⟨82,[],0,a,(fs.map aw).length,k⟩ = [U8 (82 : Nat),S [],I 0,.slice a fs.length k]:=by rw [← hml];rfl
 rw [e0]
 refine jB [(0,_),(1,_),(2,_)] Tryz.func74 Tryz.ntmps74 fun B hok hB hW=>?_
 repeat' (first | refine jR ?_ | (refine jo ?_;first | refine jO fun _=>?_ | refine jL fun _=>?_ | refine aD rfl ?_ | refine jV (af rfl) ?_))
 rename_i y4 y6
 refine aT (ι:=Nat) (fun i=>i ≤ fs.length ∧ ∀ l,l < i → (ab fs l).1.tag ≠ (ab t.fields j).tag) (fun i=>[(0,Pt b 0),(2,Pt bf (of + j * 6)),(6,Pt y6 0),(10,.slice a fs.length k),(11,I fs.length),(12,I i)]) (fun _=>G) (fun i=>[.blk y6 (.cells (List.toArray [U8 0,S [],I 0,aQ]) c8 (0,0))]) (fun i=>fs.length - i) 0 ?_ tU rfl sB (fun i Hi=>?_)
 ·exact ⟨Nat.zero_le _,fun l hl=>absurd hl oM⟩
 obtain ⟨hi0,hno⟩:=Hi
 by_cases hi : i < fs.length
 ·obtain ⟨xb,xo,xc,e,hsx⟩:=hsl.expl oM
  simp only [Value.slice.injEq] at e
  obtain ⟨rfl,-,rfl⟩:=e
  obtain ⟨a1,k1,cs1,hci,_,_,_,hcl1,hsl1,hrs1⟩:=eT (hrn i hi)
  rw [V.reps] at hrs1
  obtain ⟨c1,cs2,rfl,hr1,hr2⟩:=hrs1
  rw [V.reps] at hr2
  subst hr2
  have hci : ab cs i = ⟨61,[],(ab fs i).1.tag,a1,1,k1⟩:=hci
  have hsl1 : aU G (.slice a1 1 k1) 4 ([c1] : List VC).length (ak bJ [c1]):=hsl1
  obtain ⟨zb,zo,zc,e,hsz⟩:=hsl1.expl oM
  simp only [Value.slice.injEq] at e
  obtain ⟨rfl,-,rfl⟩:=e
  by_cases ht2 : (ab fs i).1.tag = (ab t.fields j).tag
  ·have hget:=wC (ts:=aq qs) hi ht2 hno
   rw [hget]
   repeat' (first | refine jR ?_ | (refine jo ?_;first | refine jL fun _=>?_ | refine aD rfl ?_ | (refine jV (kA rfl rfl aS ?_ aS) ?_;focus omega) | refine jV (ag rfl rfl oM) ?_ | refine jC rfl rfl rfl ?_) | (refine ac rfl (by refine decide_eq_true ?_;first | assumption | omega) ?_) | (refine am (ao (id:=4) _ (fun _ h=>h) al ?_);refine jT 3 [0,2,3,4] (aa 7 29) ?_;(refine jG (aa 7 31) 1 rfl (aX rfl rfl rfl) ?_);((refine jG (aa 7 63) 5 rfl (bQ rfl rfl aS ?_ rfl rfl) ?_;focus omega));refine jT 0 [6] (aa 7 127) ?_;refine jQ ?_))
   dsimp only [bJ,VC.sl]
   repeat' (first | refine jR ?_ | (refine jo ?_;first | (refine jV (dt rfl rfl aS ?_) ?_;focus omega) | refine jV (aN rfl rfl oM) ?_ | refine jC rfl rfl rfl ?_))
   all_goals refine jZ (vs:=[_]) rfl ⟨aJ rfl rfl rfl rfl,trivial⟩ rfl ⟨Gh.le.refl _,rfl,?_⟩
   all_goals exact ⟨c1,rfl,hr1⟩
  ·repeat' (first | refine jM ?_ | (refine jo ?_;first | refine jL fun _=>?_ | (refine jV (kA rfl rfl aS ?_ aS) ?_;focus omega) | refine jV (ag rfl rfl oM) ?_ | refine jC rfl rfl rfl ?_) | refine ac rfl (ay oM) ?_ | refine ad rfl (aG ‹_›) ?_ | (refine am (ao (id:=4) _ (fun _ h=>h) al ?_);refine jT 3 [0,2,3,4] (aa 7 29) ?_;(refine jG (aa 7 31) 1 rfl (aX rfl rfl rfl) ?_);((refine jG (aa 7 63) 5 rfl (bQ rfl rfl aS ?_ rfl rfl) ?_;focus omega));refine jT 0 [6] (aa 7 127) ?_;refine jQ ?_))
   exact bh (i + 1) ⟨oM,fun l hl=>(by
    rcases Nat.lt_or_ge l i with h | h
    ·exact hno l h
    ·have : l = i:=oM
     subst this;exact ht2)⟩ oM tU rfl sB
 ·have hget:=ug (ts:=aq qs) (f:=ab t.fields j) (fs:=fs) fun l hl=>hno l oM
  rw [hget]
  have cx_mu:=abO hS hw hdk g2
  unfold c5 at cx_mu
  repeat' (first | refine jR ?_ | refine ad rfl (aG oM) ?_ | (refine am (d4 (id:=7) (tt:=6) rfl al ?_);refine jW 4 [0,1,2,3,5,6] (aa 10 111) ?_;((refine jG (aa 10 127) 4 rfl (iv rfl rfl aS ?_ rfl rfl) ?_;focus omega));refine jA 7 rfl ?_;(refine ae rfl rfl rfl cx_of rfl ?_);refine jK (aa 10 255) ?_;refine jA 8 rfl ?_;(refine an rfl rfl rfl cx_mu rfl ?_;rintro _ G hle ⟨cv,rfl,hrv⟩;skip);refine jK (aa 10 511) ?_;refine jA 9 rfl ?_;(refine jC rfl rfl rfl ?_);refine jK (aa 10 1023) ?_;refine jQ ?_))
  all_goals refine jZ (vs:=[_]) rfl ⟨aJ rfl rfl rfl rfl,trivial⟩ rfl ⟨hle,rfl,?_⟩
  all_goals exact ⟨cv,rfl,hrv⟩
def eh (ts : List Ty) (o : Option (adA × V)) (r : Value) (G' : Gh) : Prop:=(o = none ∧ r = Tu [Ag [S [],S [],S []],zP,Bo false]) ∨ ∃ k' v' c',o = some (k',v') ∧ r = Tu [Ag (c5 k'),Ag (bJ c'),Bo true] ∧ V.rep G' v' c'
theorem eh.no {f : FuncId} {args : List Value} {ts : List Ty} {o : Option (adA × V)} (h : bB adz f args G (eh ts o)) (e : o = none) : bB adz f args G (fun r _=>r = Tu [Ag [S [],S [],S []],zP,Bo false]):=by
 refine h.mono ?_
 rintro v G' L' ⟨h1,h2,⟨_,h3⟩ | ⟨k',v',b',h3,_⟩⟩
 ·exact ⟨h1,h2,h3⟩
 ·rw [e] at h3;cases h3
theorem eh.yes {f : FuncId} {args : List Value} {ts : List Ty} {o : Option (adA × V)} {k' : adA} {v' : V} (h : bB adz f args G (eh ts o)) (e : o = some (k',v')) : bB adz f args G (fun r G'=>∃ c',r = Tu [Ag [S (sg k'),S (bs k'),S (nm k')],Ag (bJ c'),Bo true] ∧ V.rep G' v' c'):=by
 refine h.mono ?_
 rintro v G' L' ⟨h1,h2,⟨h3,_⟩ | ⟨k2,v2,b',h3,h4,h5⟩⟩
 ·rw [e] at h3;cases h3
 ·rw [e] at h3
  simp only [Option.some.injEq,Prod.mk.injEq] at h3
  obtain ⟨rfl,rfl⟩:=h3
  exact ⟨h1,h2,b',h4,h5⟩
theorem aaf {b : Nat} {k : adA} {ts : List Ty} {ks : List V} {c : VC} {n : Int} (hr : V.rep G (.nd 91 [] 0 ks) c) (hn : 0 ≤ n ∧ n ≤ 999999) (hkl : ks.length ≤ 1000000) :
  bB adz 91 [Pt b 0,Ag (c5 (91 :: k)),Ag (bJ c),I n] G (eh ts (aE ts (91 :: k) (.nd 91 [] 0 ks) n)):=by
 obtain ⟨e1,e2,e3,_⟩:=ky (c:=91) (k:=k) (.inl rfl)
 have cx_sign:=@j7 G 91 (sg k) (bs k) (nm k)
 have cx_pt:=@p8 G 91 (sg k) (bs k) (nm k)
 obtain ⟨a,kc,cs,rfl,_,_,_,hcl,hsl,hrs⟩:=eT hr
 have hst:=gm (ts:=ts) (c:=91) (r:=k) (v:=.nd 91 [] 0 ks) (n:=n) (.inl rfl)
 rw [V.kids] at hst
 rw [hst]
 unfold c5
 rw [e1,e2,e3]
 have e0 : bJ ⟨91,[],0,a,ks.length,kc⟩ = [U8 (91 : Nat),S [],I 0,.slice a ks.length kc]:=rfl
 rw [e0]
 by_cases hn2 : n < ((ks.length : Nat) : Int)
 ·obtain ⟨i,rfl⟩ : ∃ i : Nat,n = i:=⟨n.toNat,oM⟩
  obtain ⟨xb,xo,xc,e,hsx⟩:=hsl.expl oM
  simp only [Value.slice.injEq] at e
  obtain ⟨rfl,-,rfl⟩:=e
  have hri:=gX hrs i oM
  obtain ⟨d,hxi⟩ : ∃ d,ab cs i = d:=⟨_,rfl⟩
  rw [hxi] at hri
  rw [if_pos hn2]
  refine jB [(0,_),(1,_),(2,_),(3,_)] Tryz.func91 Tryz.ntmps91 fun B hok hB hW=>?_
  repeat' (first | refine jR ?_ | (refine jo ?_;first | refine jO fun _=>?_ | refine jL fun _=>?_ | refine aD rfl ?_ | refine bM rfl ?_ | refine jV (af rfl) ?_ | refine ae rfl rfl rfl cx_sign rfl ?_) | refine ac rfl rfl ?_ | refine ad rfl (aG oM) ?_)
  rename_i y5 y6 y8 y9
  (refine am (ao (id:=5) [.blk y6 (.cells (List.toArray [U8 (91 : Nat),S [],I 0,.slice (some ⟨xb,xo,none⟩) ks.length kc]) c8 (0,0)),.blk y5 (.cells (List.toArray [S (91 :: sg k),S (bs k),S (nm k)]) fD (0,0))] (by intro y hy;simp only [List.mem_cons,List.not_mem_nil,or_false] at hy ⊢;rcases hy with hy | hy <;> simp [hy]) al ?_);refine jW 8 [2,4] (aa 10 20) ?_;(refine jG (aa 10 21) 0 rfl (bP rfl rfl rfl rfl) ?_);(refine jG (aa 10 29) 3 rfl (aX rfl rfl rfl) ?_);((refine jG (aa 10 61) 5 rfl (ag rfl rfl ?_) ?_;focus omega));((refine jG (aa 10 125) 6 rfl (kA rfl rfl aS ?_ aS) ?_;focus omega));refine jA 1 rfl ?_;(refine ae rfl rfl rfl cx_pt rfl ?_);refine jK (aa 10 127) ?_;refine jA 7 rfl ?_;(refine jC rfl rfl rfl ?_);refine jK (aa 10 255) ?_;refine jA 8 rfl ?_;(refine jC rfl rfl rfl ?_);refine jK (aa 10 511) ?_;refine jW 0 [9] (aa 10 1023) ?_;refine jQ ?_)
  all_goals repeat' (refine jR ?_)
  all_goals refine jZ (vs:=[_,_,_]) rfl ⟨aJ rfl rfl rfl rfl,aJ rfl rfl rfl rfl,rfl,trivial⟩ rfl ⟨Gh.le.refl _,rfl,?_⟩
  all_goals exact .inr ⟨k,ab ks i,d,rfl,rfl,hri⟩
 ·rw [if_neg hn2]
  refine jB [(0,_),(1,_),(2,_),(3,_)] Tryz.func91 Tryz.ntmps91 fun B hok hB hW=>?_
  repeat' (first | refine jR ?_ | (refine jo ?_;first | refine jO fun _=>?_ | refine jL fun _=>?_ | refine aD rfl ?_ | refine bM rfl ?_ | refine jV (af rfl) ?_ | refine jV (ax rfl rfl) ?_ | refine jC rfl rfl rfl ?_ | refine ae rfl rfl rfl cx_sign rfl ?_) | (refine ac rfl (by first | rfl | (refine decide_eq_true ?_;(omega))) ?_))
  all_goals refine jZ (vs:=[_,_,_]) rfl ⟨aJ rfl rfl rfl rfl,aJ rfl rfl rfl rfl,rfl,trivial⟩ rfl ⟨Gh.le.refl _,rfl,?_⟩
  all_goals exact .inl ⟨rfl,rfl⟩
theorem uZ {b : Nat} {k : adA} {ts : List Ty} {ks : List V} {c : VC} {n : Int} (hks : ks = [] ∨ ∃ w,ks = [w]) (hr : V.rep G (.nd 63 [] 0 ks) c) (hn : 0 ≤ n ∧ n ≤ 999999) :
  bB adz 91 [Pt b 0,Ag (c5 (63 :: k)),Ag (bJ c),I n] G (eh ts (aE ts (63 :: k) (.nd 63 [] 0 ks) n)):=by
 obtain ⟨e1,e2,e3,_⟩:=ky (c:=63) (k:=k) (.inr rfl)
 have cx_sign:=@j7 G 63 (sg k) (bs k) (nm k)
 have cx_pt:=@p8 G 63 (sg k) (bs k) (nm k)
 obtain ⟨a,kc,cs,rfl,_,_,_,hcl,hsl,hrs⟩:=eT hr
 have hst:=gm (ts:=ts) (c:=63) (r:=k) (v:=.nd 63 [] 0 ks) (n:=n) (.inr rfl)
 rw [V.kids] at hst
 rw [hst]
 unfold c5
 rw [e1,e2,e3]
 have e0 : bJ ⟨63,[],0,a,ks.length,kc⟩ = [U8 (63 : Nat),S [],I 0,.slice a ks.length kc]:=rfl
 rw [e0]
 rcases hks with rfl | ⟨w,rfl⟩
 ·rw [if_neg (by simp;omega)]
  by_cases hn0 : n = 0
  all_goals
   refine jB [(0,_),(1,_),(2,_),(3,_)] Tryz.func91 Tryz.ntmps91 fun B hok hB hW=>?_
   repeat' (first | refine jR ?_ | (refine jo ?_;first | refine jO fun _=>?_ | refine jL fun _=>?_ | refine aD rfl ?_ | refine bM rfl ?_ | refine jV (af rfl) ?_ | refine jV (ax rfl rfl) ?_ | refine jC rfl rfl rfl ?_ | refine aM rfl ?_ | refine aC rfl ?_ | refine ae rfl rfl rfl cx_sign rfl ?_) | refine aF rfl rfl (ay ‹_›) ?_ | refine ar rfl rfl (aG oM) ?_ | refine ac rfl rfl ?_ | refine ad rfl rfl ?_)
   all_goals refine jZ (vs:=[_,_,_]) rfl ⟨aJ rfl rfl rfl rfl,aJ rfl rfl rfl rfl,rfl,trivial⟩ rfl ⟨Gh.le.refl _,rfl,?_⟩
   all_goals exact .inl ⟨rfl,rfl⟩
 ·rw [V.reps] at hrs
  obtain ⟨d,cs2,rfl,hri,hr2⟩:=hrs
  rw [V.reps] at hr2
  subst hr2
  have hsl : aU G (.slice a 1 kc) 4 ([d] : List VC).length (ak bJ [d]):=hsl
  obtain ⟨xb,xo,xc,e,hsx⟩:=hsl.expl (by simp)
  simp only [Value.slice.injEq] at e
  obtain ⟨rfl,-,rfl⟩:=e
  have hxi : ab [d] (Int.toNat 0) = d:=rfl
  show bB _ _ [Pt b 0,Ag [S (63 :: sg k),S (bs k),S (nm k)],Ag [U8 (63 : Nat),S [],I 0,.slice (some ⟨xb,xo,none⟩) 1 kc],I n] G _
  by_cases hn0 : n = 0
  ·subst hn0
   rw [if_pos (by simp)]
   refine jB [(0,_),(1,_),(2,_),(3,_)] Tryz.func91 Tryz.ntmps91 fun B hok hB hW=>?_
   repeat' (first | refine jR ?_ | (refine jo ?_;first | refine jO fun _=>?_ | refine jL fun _=>?_ | refine aD rfl ?_ | refine bM rfl ?_ | refine jV (af rfl) ?_ | refine aC rfl ?_ | refine ae rfl rfl rfl cx_sign rfl ?_) | refine ar rfl rfl rfl ?_ | refine ac rfl rfl ?_ | refine ad rfl rfl ?_)
   rename_i y5 y6 y8 y9
   (refine am (ao (id:=9) [.blk y6 (.cells (List.toArray [U8 (63 : Nat),S [],I 0,.slice (some ⟨xb,xo,none⟩) 1 kc]) c8 (0,0)),.blk y5 (.cells (List.toArray [S (63 :: sg k),S (bs k),S (nm k)]) fD (0,0))] (by intro y hy;simp only [List.mem_cons,List.not_mem_nil,or_false] at hy ⊢;rcases hy with hy | hy <;> simp [hy]) al ?_);refine jW 8 [2] (aa 9 4) ?_;(refine jG (aa 9 5) 0 rfl (bP rfl rfl rfl rfl) ?_);(refine jG (aa 9 13) 3 rfl (aX rfl rfl rfl) ?_);((refine jG (aa 9 29) 4 rfl (aN rfl rfl ?_) ?_;focus omega));((refine jG (aa 9 61) 5 rfl (kA rfl rfl aS ?_ aS) ?_;(focus ((simp only [List.length_append,List.length_cons,List.length_nil,List.length_take];omega);done))));refine jA 1 rfl ?_;(refine ae rfl rfl rfl cx_pt rfl ?_);refine jK (aa 9 63) ?_;refine jA 6 rfl ?_;(refine jC rfl rfl rfl ?_);refine jK (aa 9 127) ?_;refine jA 7 rfl ?_;(refine jC rfl rfl rfl ?_);refine jK (aa 9 255) ?_;refine jW 0 [8] (aa 9 511) ?_;refine jQ ?_)
   all_goals repeat' (refine jR ?_)
   all_goals refine jZ (vs:=[_,_,_]) rfl ⟨aJ rfl rfl rfl rfl,aJ rfl rfl rfl rfl,rfl,trivial⟩ rfl ⟨Gh.le.refl _,rfl,?_⟩
   all_goals exact .inr ⟨k,w,d,rfl,rfl,hri⟩
  ·rw [if_neg (show ¬ n < (([w].length : Nat) : Int) by show ¬ n < ((1 : Nat) : Int);omega)]
   refine jB [(0,_),(1,_),(2,_),(3,_)] Tryz.func91 Tryz.ntmps91 fun B hok hB hW=>?_
   repeat' (first | refine jR ?_ | (refine jo ?_;first | refine jO fun _=>?_ | refine jL fun _=>?_ | refine bM rfl ?_ | refine jV (ax rfl rfl) ?_ | refine jC rfl rfl rfl ?_ | refine aM rfl ?_ | refine ae rfl rfl rfl cx_sign rfl ?_) | refine aF rfl rfl (ay ‹_›) ?_ | refine ac rfl rfl ?_ | refine ad rfl rfl ?_)
   all_goals refine jZ (vs:=[_,_,_]) rfl ⟨aJ rfl rfl rfl rfl,aJ rfl rfl rfl rfl,rfl,trivial⟩ rfl ⟨Gh.le.refl _,rfl,?_⟩
   all_goals exact .inl ⟨rfl,rfl⟩
theorem aae {b : Nat} {x : adA} {ts : List Ty} {v : V} {c : VC} {n : Int} (hx : x = [110] ∨ x = [116] ∨ x = [102]) :
  bB adz 91 [Pt b 0,Ag (c5 x),Ag (bJ c),I n] G (eh ts (aE ts x v n)):=by
 have hno : aE ts x v n = none:=by
  rcases hx with rfl | rfl | rfl
  all_goals exact iX dC dC dC
 rw [hno]
 obtain ⟨w,tx,tg,a,m,kc⟩:=c
 have e0 : bJ ⟨w,tx,tg,a,m,kc⟩ = [U8 (w : Nat),S tx,I tg,.slice a m kc]:=rfl
 rw [e0]
 have e1 : c5 x = [S [],S x,S []]:=by rcases hx with rfl | rfl | rfl <;> rfl
 rw [e1]
 have cx_sign:=@fO G x []
 have hx64 : ¬ x = [64]:=by rcases hx with rfl | rfl | rfl <;> decide
 refine jB [(0,_),(1,_),(2,_),(3,_)] Tryz.func91 Tryz.ntmps91 fun B hok hB hW=>?_
 repeat' (first | refine jR ?_ | (refine jo ?_;first | refine jO fun _=>?_ | refine jL fun _=>?_ | refine aD rfl ?_ | refine bM rfl ?_ | refine jV (ax rfl rfl) ?_ | refine jC rfl rfl rfl ?_ | refine ae rfl rfl rfl cx_sign rfl ?_) | refine ac rfl (ay ‹_›) ?_ | refine ad rfl rfl ?_)
 all_goals refine jZ (vs:=[_,_,_]) rfl ⟨aJ rfl rfl rfl rfl,aJ rfl rfl rfl rfl,rfl,trivial⟩ rfl ⟨Gh.le.refl _,rfl,?_⟩
 all_goals exact .inl ⟨rfl,rfl⟩
theorem sU {qs : List dp} {k : adA} {t : Ty} (hki : aB (aq qs) k = true) (hrf : a8 (aq qs) k = some t) : c5 k = [S [],S [64],S (nm k)] ∧ ∃ p,fq qs (nm k) = some (p,t) ∧ (p,t) ∈ qs:=by
 obtain ⟨r,rfl⟩:=dn hrf
 have h91 : ¬ ((64 : UInt8).toNat = 91 ∨ (64 : UInt8).toNat = 63):=by decide
 have hsg:=lq (r:=r) h91
 have hcs:=fS (r:=r) h91
 have hrn : (b7 (bN (64 :: r))).isSome = true:=by rw [hcs];rfl
 have hbs : bs (64 :: r) = [64]:=(k4 (dh hki)).2 hrn
 have hnm : b7 (64 :: r) = some (nm (64 :: r)):=by unfold nm;rw [hcs];rfl
 have hft : ix (aq qs) (nm (64 :: r)) = some t:=by unfold a8 at hrf;rw [hnm] at hrf;exact hrf
 rw [← iQ] at hft
 rcases hfq : fq qs (nm (64 :: r)) with _ | ⟨p,t'⟩
 ·rw [hfq] at hft;cases hft
 rw [hfq] at hft
 obtain rfl : t' = t:=Option.some.inj hft
 exact ⟨by unfold c5;rw [hsg,hbs],p,rfl,ji hfq⟩
theorem aad {b : Nat} {qs : List dp} {k : adA} {t : Ty} {v : V} {c : VC} {n : Int} (hS : ScI G b qs) (hw : SchW (aq qs)) (hki : aB (aq qs) k = true) (hrf : a8 (aq qs) k = some t) (ho : OfK (aq qs) k v) (hr : V.rep G v c) (hn : 0 ≤ n ∧ n ≤ 999999) (htt : v.tot ≤ 1000000) :
  bB adz 91 [Pt b 0,Ag (c5 k),Ag (bJ c),I n] G (eh (aq qs) (aE (aq qs) k v n)):=by
 obtain ⟨hkd,p,hfq,hqm⟩:=sU hki hrf
 have hst:=hX (v:=v) (n:=n) hrf
 have htm:=br hrf
 have hW:=hw.ty t htm
 obtain ⟨fv,ln,hsg,hfv⟩:=hS.ty _ hqm
 dsimp only at hsg hfv
 have hkv:=gZ qs (nm k)
 rw [hfq] at hkv
 dsimp only [Option.map_some] at hkv
 obtain ⟨u,m,g1,g2,g3⟩:=hS.at'
 have hfl:=hW.len
 have cx_sign:=@fO G [64] (nm k)
 rw [hkd]
 cases hg : ck t.fields n with
 | none =>
  rw [hg] at hst
  dsimp only at hst
  rw [hst]
  have cx_fld:=jj (tag:=n) hsg hfv oM hg
  obtain ⟨w,tx,tg,a,mm,kc⟩:=c
  have e0 : bJ ⟨w,tx,tg,a,mm,kc⟩ = [U8 (w : Nat),S tx,I tg,.slice a mm kc]:=rfl
  rw [e0]
  refine jB [(0,_),(1,_),(2,_),(3,_)] Tryz.func91 Tryz.ntmps91 fun B hok hB hW=>?_
  repeat' (first | refine jR ?_ | (refine jo ?_;first | refine jO fun _=>?_ | refine jL fun _=>?_ | refine aD rfl ?_ | refine bM rfl ?_ | refine ae rfl rfl rfl cx_sign rfl ?_) | refine ad rfl rfl ?_)
  rename_i y5 y6 y8 y9
  (refine am (ao (id:=12) [.blk y9 (.cells (List.toArray [U8 0,S [],I 0,aQ]) c8 (0,0)),.blk y8 (.cells (List.toArray [S [],S [],S []]) fD (0,0)),.blk y6 (.cells (List.toArray [U8 (w : Nat),S tx,I tg,.slice a mm kc]) c8 (0,0)),.blk y5 (.cells (List.toArray [S [],S [64],S (nm k)]) fD (0,0))] (by intro y hy;simp only [List.mem_cons,List.not_mem_nil,or_false] at hy ⊢;rcases hy with hy | hy | hy | hy <;> simp [hy]) al ?_);refine jT 4 [0,1,2,4] (aa 8 23) ?_;(refine jG (aa 8 31) 3 rfl (aj rfl rfl aS rfl rfl) ?_);(refine jG (aa 8 63) 5 rfl (aX rfl rfl rfl) ?_);((refine jG (aa 8 127) 6 rfl (dz rfl rfl (gG aS) aS rfl) ?_));refine jT 0 [7] (aa 8 255) ?_;refine jQ ?_)
  all_goals repeat' (first | refine jR ?_ | (refine jo ?_;first | refine jV (ax rfl rfl) ?_ | refine jC rfl rfl rfl ?_ | refine aM rfl ?_ | refine jV (db rfl rfl) ?_ | refine ae rfl rfl rfl cx_fld rfl ?_) | refine aF rfl rfl rfl ?_ | refine ac rfl rfl ?_)
  all_goals refine jZ (vs:=[_,_,_]) rfl ⟨aJ rfl rfl rfl rfl,aJ rfl rfl rfl rfl,rfl,trivial⟩ rfl ⟨Gh.le.refl _,rfl,?_⟩
  all_goals exact .inl ⟨rfl,rfl⟩
 | some f =>
  rw [hg] at hst
  dsimp only at hst
  obtain ⟨j,hj,hjf,hjn,hjx⟩:=ia hg
  obtain ⟨bf,of,cf,rfl,hsf⟩:=hfv.expl oM
  have cx_fld:=ij hsg hsf oM hj hjf hjn
  subst hjx
  rcases hW.sort with hso | hso | hso
  ·rw [if_neg oM,if_pos hso] at hst
   rw [hst]
   rcases bL ho hrf with ⟨_,fs,rfl,g4,g5,_,_⟩ | ⟨h1,_⟩ | ⟨h1,_⟩
   ·have h9 : fs.length ≤ 1000000:=by
     have h7:=di (fs.map aw)
     rw [bA] at htt
     have e1 : (fs.map aw).length = fs.length:=by simp
     omega
    have cx_ge:=abU hS hw htm hso hsf hj hr h9
    obtain ⟨a,kc,cs,rfl,_,_,_,hcl,hsl,hrs⟩:=eT hr
    have hml : (fs.map aw).length = fs.length:=by simp
    have e0 : bJ ⟨82,[],0,a,(fs.map aw).length,kc⟩ = [U8 (82 : Nat),S [],I 0,.slice a fs.length kc]:=by rw [← hml];rfl
    rw [e0] at cx_ge ⊢
    refine jB [(0,_),(1,_),(2,_),(3,_)] Tryz.func91 Tryz.ntmps91 fun B hok hB hW=>?_
    repeat' (first | refine jR ?_ | (refine jo ?_;first | refine jO fun _=>?_ | refine jL fun _=>?_ | refine aD rfl ?_ | refine bM rfl ?_ | refine ae rfl rfl rfl cx_sign rfl ?_) | refine ad rfl rfl ?_)
    rename_i y5 y6 y8 y9
    (refine am (ao (id:=12) [.blk y9 (.cells (List.toArray [U8 0,S [],I 0,aQ]) c8 (0,0)),.blk y8 (.cells (List.toArray [S [],S [],S []]) fD (0,0)),.blk y6 (.cells (List.toArray [U8 (82 : Nat),S [],I 0,.slice a fs.length kc]) c8 (0,0)),.blk y5 (.cells (List.toArray [S [],S [64],S (nm k)]) fD (0,0))] (by intro y hy;simp only [List.mem_cons,List.not_mem_nil,or_false] at hy ⊢;rcases hy with hy | hy | hy | hy <;> simp [hy]) al ?_);refine jT 4 [0,1,2,4] (aa 8 23) ?_;(refine jG (aa 8 31) 3 rfl (aj rfl rfl aS rfl rfl) ?_);(refine jG (aa 8 63) 5 rfl (aX rfl rfl rfl) ?_);((refine jG (aa 8 127) 6 rfl (dz rfl rfl (gG aS) aS rfl) ?_));refine jT 0 [7] (aa 8 255) ?_;refine jQ ?_)
    all_goals repeat' (first | refine jR ?_ | (refine jo ?_;first | refine jV (aj rfl rfl aS rfl rfl) ?_ | refine aC rfl ?_ | refine jV (db rfl rfl) ?_ | refine ae rfl rfl rfl cx_fld rfl ?_) | (refine ar rfl rfl (by first | rfl | (refine decide_eq_false ?_;(omega))) ?_) | (refine ad rfl (by first | rfl | (refine decide_eq_false ?_;(omega))) ?_))
    all_goals (refine am (ao (id:=18) [.blk y6 (.cells (List.toArray [U8 (82 : Nat),S [],I 0,.slice a fs.length kc]) c8 (0,0)),.blk y5 (.cells (List.toArray [S [],S [64],S (nm k)]) fD (0,0))] (by intro y hy;simp only [List.mem_cons,List.not_mem_nil,or_false] at hy ⊢;rcases hy with hy | hy <;> simp [hy]) al ?_);refine jW 6 [0,1,2,4,6] (aa 11 87) ?_;((refine jG (aa 11 95) 3 rfl (iv rfl rfl aS ?_ rfl rfl) ?_;focus omega));(refine jG (aa 11 127) 5 rfl (bP rfl rfl rfl rfl) ?_);refine jA 7 rfl ?_;(refine an rfl rfl rfl cx_ge rfl ?_;rintro _ G hle ⟨cv,rfl,hrv⟩;skip);refine jK (aa 11 255) ?_;refine jA 8 rfl ?_;(refine jC rfl rfl rfl ?_);refine jK (aa 11 511) ?_;refine jA 9 rfl ?_;(refine jC rfl rfl rfl ?_);refine jK (aa 11 1023) ?_;refine jW 0 [10] (aa 11 2047) ?_;refine jQ ?_)
    all_goals repeat' (refine jR ?_)
    all_goals refine jZ (vs:=[_,_,_]) rfl ⟨aJ rfl rfl rfl rfl,aJ rfl rfl rfl rfl,rfl,trivial⟩ rfl ⟨hle,rfl,?_⟩
    all_goals exact .inr ⟨_,_,cv,rfl,rfl,hrv⟩
   ·omega
   ·omega
  ·rw [if_neg oM,if_neg oM] at hst
   rcases bL ho hrf with ⟨h1,_⟩ | ⟨h1,_⟩ | ⟨_,_,d,w,rfl,g4,g5⟩
   ·omega
   ·omega
   ·obtain ⟨a,kc,cs,rfl,_,_,_,hcl,hsl,hrs⟩:=eT hr
    rw [V.reps] at hrs
    obtain ⟨c1,cs2,rfl,hri,hr2⟩:=hrs
    rw [V.reps] at hr2
    subst hr2
    have hsl : aU G (.slice a 1 kc) 4 ([c1] : List VC).length (ak bJ [c1]):=hsl
    obtain ⟨xb,xo,xc,e,hsx⟩:=hsl.expl (by simp)
    simp only [Value.slice.injEq] at e
    obtain ⟨rfl,-,rfl⟩:=e
    have hxi : ab [c1] (Int.toNat 0) = c1:=rfl
    show bB _ _ [Pt b 0,Ag [S [],S [64],S (nm k)],Ag [U8 (85 : Nat),S [],I d.tag,.slice (some ⟨xb,xo,none⟩) 1 kc],I n] G _
    by_cases hdn : d.tag = n
    ·rw [if_pos (show V.tag (.nd 85 [] d.tag [w]) = n from hdn)] at hst
     rw [hst]
     refine jB [(0,_),(1,_),(2,_),(3,_)] Tryz.func91 Tryz.ntmps91 fun B hok hB hW=>?_
     repeat' (first | refine jR ?_ | (refine jo ?_;first | refine jO fun _=>?_ | refine jL fun _=>?_ | refine aD rfl ?_ | refine bM rfl ?_ | refine ae rfl rfl rfl cx_sign rfl ?_) | refine ad rfl rfl ?_)
     rename_i y5 y6 y8 y9
     (refine am (ao (id:=12) [.blk y9 (.cells (List.toArray [U8 0,S [],I 0,aQ]) c8 (0,0)),.blk y8 (.cells (List.toArray [S [],S [],S []]) fD (0,0)),.blk y6 (.cells (List.toArray [U8 (85 : Nat),S [],I d.tag,.slice (some ⟨xb,xo,none⟩) 1 kc]) c8 (0,0)),.blk y5 (.cells (List.toArray [S [],S [64],S (nm k)]) fD (0,0))] (by intro y hy;simp only [List.mem_cons,List.not_mem_nil,or_false] at hy ⊢;rcases hy with hy | hy | hy | hy <;> simp [hy]) al ?_);refine jT 4 [0,1,2,4] (aa 8 23) ?_;(refine jG (aa 8 31) 3 rfl (aj rfl rfl aS rfl rfl) ?_);(refine jG (aa 8 63) 5 rfl (aX rfl rfl rfl) ?_);((refine jG (aa 8 127) 6 rfl (dz rfl rfl (gG aS) aS rfl) ?_));refine jT 0 [7] (aa 8 255) ?_;refine jQ ?_)
     all_goals repeat' (first | refine jR ?_ | (refine jo ?_;first | refine aD rfl ?_ | refine jV (aj rfl rfl aS rfl rfl) ?_ | refine aM rfl ?_ | refine aC rfl ?_ | refine jV (db rfl rfl) ?_ | refine ae rfl rfl rfl cx_fld rfl ?_) | refine aF rfl rfl (ay oM) ?_ | (refine ar rfl rfl (by first | rfl | (refine decide_eq_false ?_;(omega))) ?_) | refine ac rfl (ay oM) ?_ | refine ad rfl (aG oM) ?_)
     all_goals (refine am (ao (id:=17) [.blk y6 (.cells (List.toArray [U8 (85 : Nat),S [],I d.tag,.slice (some ⟨xb,xo,none⟩) 1 kc]) c8 (0,0)),.blk y5 (.cells (List.toArray [S [],S [64],S (nm k)]) fD (0,0))] (by intro y hy;simp only [List.mem_cons,List.not_mem_nil,or_false] at hy ⊢;rcases hy with hy | hy <;> simp [hy]) al ?_);refine jW 7 [0,1,2,4] (aa 11 23) ?_;((refine jG (aa 11 31) 3 rfl (iv rfl rfl aS ?_ rfl rfl) ?_;focus omega));(refine jG (aa 11 63) 5 rfl (aX rfl rfl rfl) ?_);((refine jG (aa 11 127) 6 rfl (aN rfl rfl ?_) ?_;focus omega));((refine jG (aa 11 255) 7 rfl (kA rfl rfl aS ?_ aS) ?_;(focus ((simp only [List.length_append,List.length_cons,List.length_nil,List.length_take];omega);done))));refine jA 8 rfl ?_;(refine jC rfl rfl rfl ?_);refine jK (aa 11 511) ?_;refine jA 9 rfl ?_;(refine jC rfl rfl rfl ?_);refine jK (aa 11 1023) ?_;refine jW 0 [10] (aa 11 2047) ?_;refine jQ ?_)
     all_goals repeat' (refine jR ?_)
     all_goals refine jZ (vs:=[_,_,_]) rfl ⟨aJ rfl rfl rfl rfl,aJ rfl rfl rfl rfl,rfl,trivial⟩ rfl ⟨Gh.le.refl _,rfl,?_⟩
     all_goals exact .inr ⟨_,w,c1,rfl,rfl,hri⟩
    ·rw [if_neg (show ¬ V.tag (.nd 85 [] d.tag [w]) = n from hdn)] at hst
     rw [hst]
     refine jB [(0,_),(1,_),(2,_),(3,_)] Tryz.func91 Tryz.ntmps91 fun B hok hB hW=>?_
     repeat' (first | refine jR ?_ | (refine jo ?_;first | refine jO fun _=>?_ | refine jL fun _=>?_ | refine aD rfl ?_ | refine bM rfl ?_ | refine ae rfl rfl rfl cx_sign rfl ?_) | refine ad rfl rfl ?_)
     rename_i y5 y6 y8 y9
     (refine am (ao (id:=12) [.blk y9 (.cells (List.toArray [U8 0,S [],I 0,aQ]) c8 (0,0)),.blk y8 (.cells (List.toArray [S [],S [],S []]) fD (0,0)),.blk y6 (.cells (List.toArray [U8 (85 : Nat),S [],I d.tag,.slice (some ⟨xb,xo,none⟩) 1 kc]) c8 (0,0)),.blk y5 (.cells (List.toArray [S [],S [64],S (nm k)]) fD (0,0))] (by intro y hy;simp only [List.mem_cons,List.not_mem_nil,or_false] at hy ⊢;rcases hy with hy | hy | hy | hy <;> simp [hy]) al ?_);refine jT 4 [0,1,2,4] (aa 8 23) ?_;(refine jG (aa 8 31) 3 rfl (aj rfl rfl aS rfl rfl) ?_);(refine jG (aa 8 63) 5 rfl (aX rfl rfl rfl) ?_);((refine jG (aa 8 127) 6 rfl (dz rfl rfl (gG aS) aS rfl) ?_));refine jT 0 [7] (aa 8 255) ?_;refine jQ ?_)
     all_goals repeat' (first | refine jR ?_ | (refine jo ?_;first | refine aD rfl ?_ | refine jV (aj rfl rfl aS rfl rfl) ?_ | refine jV (ax rfl rfl) ?_ | refine jC rfl rfl rfl ?_ | refine aM rfl ?_ | refine aC rfl ?_ | refine jV (db rfl rfl) ?_ | refine ae rfl rfl rfl cx_fld rfl ?_) | refine aF rfl rfl (ay oM) ?_ | (refine ar rfl rfl (by first | rfl | (refine decide_eq_false ?_;(omega))) ?_) | refine ac rfl (ay ‹_›) ?_)
     all_goals refine jZ (vs:=[_,_,_]) rfl ⟨aJ rfl rfl rfl rfl,aJ rfl rfl rfl rfl,rfl,trivial⟩ rfl ⟨Gh.le.refl _,rfl,?_⟩
     all_goals exact .inl ⟨rfl,rfl⟩
  ·rw [if_pos hso] at hst
   rw [hst]
   obtain ⟨w,tx,tg,a,mm,kc⟩:=c
   have e0 : bJ ⟨w,tx,tg,a,mm,kc⟩ = [U8 (w : Nat),S tx,I tg,.slice a mm kc]:=rfl
   rw [e0]
   refine jB [(0,_),(1,_),(2,_),(3,_)] Tryz.func91 Tryz.ntmps91 fun B hok hB hW=>?_
   repeat' (first | refine jR ?_ | (refine jo ?_;first | refine jO fun _=>?_ | refine jL fun _=>?_ | refine aD rfl ?_ | refine bM rfl ?_ | refine ae rfl rfl rfl cx_sign rfl ?_) | refine ad rfl rfl ?_)
   rename_i y5 y6 y8 y9
   (refine am (ao (id:=12) [.blk y9 (.cells (List.toArray [U8 0,S [],I 0,aQ]) c8 (0,0)),.blk y8 (.cells (List.toArray [S [],S [],S []]) fD (0,0)),.blk y6 (.cells (List.toArray [U8 (w : Nat),S tx,I tg,.slice a mm kc]) c8 (0,0)),.blk y5 (.cells (List.toArray [S [],S [64],S (nm k)]) fD (0,0))] (by intro y hy;simp only [List.mem_cons,List.not_mem_nil,or_false] at hy ⊢;rcases hy with hy | hy | hy | hy <;> simp [hy]) al ?_);refine jT 4 [0,1,2,4] (aa 8 23) ?_;(refine jG (aa 8 31) 3 rfl (aj rfl rfl aS rfl rfl) ?_);(refine jG (aa 8 63) 5 rfl (aX rfl rfl rfl) ?_);((refine jG (aa 8 127) 6 rfl (dz rfl rfl (gG aS) aS rfl) ?_));refine jT 0 [7] (aa 8 255) ?_;refine jQ ?_)
   all_goals repeat' (first | refine jR ?_ | (refine jo ?_;first | refine jV (aj rfl rfl aS rfl rfl) ?_ | refine jV (ax rfl rfl) ?_ | refine jC rfl rfl rfl ?_ | refine aM rfl ?_ | refine aC rfl ?_ | refine jV (db rfl rfl) ?_ | refine ae rfl rfl rfl cx_fld rfl ?_) | refine aF rfl rfl (ay oM) ?_ | refine ar rfl rfl rfl ?_ | refine ac rfl rfl ?_)
   all_goals refine jZ (vs:=[_,_,_]) rfl ⟨aJ rfl rfl rfl rfl,aJ rfl rfl rfl rfl,rfl,trivial⟩ rfl ⟨Gh.le.refl _,rfl,?_⟩
   all_goals exact .inl ⟨rfl,rfl⟩
theorem u5 {b : Nat} {qs : List dp} {k : adA} {v : V} {c : VC} {n : Int} (hS : ScI G b qs) (hw : SchW (aq qs)) (hki : aB (aq qs) k = true) (ho : OfK (aq qs) k v) (hr : V.rep G v c) (hn : 0 ≤ n ∧ n ≤ 999999) (htt : v.tot ≤ 1000000) :
  bB adz 91 [Pt b 0,Ag (c5 k),Ag (bJ c),I n] G (eh (aq qs) (aE (aq qs) k v n)):=by
 cases hrf : a8 (aq qs) k with
 | some t=>exact aad hS hw hki hrf ho hr hn htt
 | none =>
  obtain ⟨ch,r,rfl⟩:=d7 hki
  by_cases h91 : ch.toNat = 91 ∨ ch.toNat = 63
  ·rcases dg ho oM with ⟨h1,_⟩ | ⟨h1,_⟩ | ⟨h1,_⟩ | ⟨h1,ks,_,_,rfl⟩ | ⟨h1,h2⟩
   ·omega
   ·omega
   ·omega
   ·obtain rfl:=bX h1 dC
    have:=di ks
    rw [bA] at htt
    exact aaf hr hn oM
   ·obtain rfl:=bX h1 dC
    rcases h2 with rfl | ⟨w,_,rfl⟩
    ·exact uZ (.inl rfl) hr hn
    ·exact uZ (.inr ⟨w,rfl⟩) hr hn
  ·exact aae (dX hki h91 hrf)
theorem k3 {b : Nat} {qs : List dp} (hS : ScI G b qs) (hw : SchW (aq qs)) {p : List Int} {pv : Value} (hp : aU G pv 1 p.length (ak cH p)) (hpn : ∀ n ∈ p,0 ≤ n ∧ n ≤ 999999) (hpl : p.length ≤ 1000) {k : adA} {v : V} {c : VC} (hr : V.rep G v c) (ho : OfK (aq qs) k v) (hki : aB (aq qs) k = true) (htt : v.tot ≤ 1000000) :
  bB adz 54 [Pt b 0,Ag (c5 k),Ag (bJ c),pv] G (eh (aq qs) (bi (aq qs) k v p)):=by
 obtain ⟨pa,pc,rfl⟩:=hp.sl
 unfold c5
 have e0 : bJ c = [U8 (c.what : Nat),S c.text,I c.tag,.slice c.a c.n c.c]:=rfl
 rw [e0]
 refine jB [(0,_),(1,_),(2,_),(3,_)] Tryz.func54 Tryz.ntmps54 fun B hok hB hW=>?_
 repeat' (first | refine jR ?_ | (refine jo ?_;first | refine jO fun _=>?_ | refine jL fun _=>?_ | refine jV (af rfl) ?_))
 rename_i y5 y6 y8 y9
 refine aT (ι:=adA × V × VC × Nat × Gh) (fun j=>((V.rep j.2.2.2.2 j.2.1 j.2.2.1 ∧ OfK (aq qs) j.1 j.2.1) ∧ (aB (aq qs) j.1 = true ∧ j.2.1.tot ≤ 1000000)) ∧ (Gh.le G j.2.2.2.2 ∧ j.2.2.2.1 ≤ p.length) ∧ bi (aq qs) k v p = bi (aq qs) j.1 j.2.1 (p.drop j.2.2.2.1)) (fun j=>[(0,Pt b 0),(5,Pt y5 0),(6,Pt y6 0),(8,Pt y8 0),(9,Pt y9 0),(14,.slice pa p.length pc),(15,I p.length),(16,I j.2.2.2.1)]) (fun j=>j.2.2.2.2) (fun j=>[.blk y9 (.cells (List.toArray [U8 0,S [],I 0,aQ]) c8 (0,0)),.blk y8 (.cells (List.toArray [S [],S [],S []]) fD (0,0)),.blk y6 (.cells (List.toArray [U8 (j.2.2.1.what : Nat),S j.2.2.1.text,I j.2.2.1.tag,.slice j.2.2.1.a j.2.2.1.n j.2.2.1.c]) c8 (0,0)),.blk y5 (.cells (List.toArray [S (sg j.1),S (bs j.1),S (nm j.1)]) fD (0,0))]) (fun j=>p.length - j.2.2.2.1) (k,v,c,0,G) ?_ tU rfl a7 (fun j Hj=>?_)
 ·exact ⟨⟨⟨hr,ho⟩,hki,htt⟩,⟨Gh.le.refl _,Nat.zero_le _⟩,rfl⟩
 obtain ⟨k0,v0,c0,i,Gq⟩:=j
 dsimp only at Hj ⊢
 obtain ⟨⟨⟨hr0,ho0⟩,hk0,ht0⟩,⟨hgq,hi0⟩,he⟩:=Hj
 by_cases hi : i < p.length
 ·obtain ⟨xb,xo,xc,e,hs1⟩:=(hp.mono hgq).expl oM
  simp only [Value.slice.injEq] at e
  obtain ⟨rfl,-,rfl⟩:=e
  have hni:=hpn _ (bc hi)
  have hti : ab p i = ab p i:=rfl
  have hstp:=u5 (hS.mono hgq) hw hk0 ho0 hr0 hni ht0
  unfold c5 at hstp
  rw [show bJ c0 = [U8 (c0.what : Nat),S c0.text,I c0.tag,.slice c0.a c0.n c0.c] from rfl] at hstp
  rw [nv hi] at he
  cases hsv : aE (aq qs) k0 v0 (ab p i) with
  | none =>
   have cx_stn:=eh.no hstp hsv
   rw [hsv] at he
   repeat' (first | refine jR ?_ | (refine jo ?_;first | refine jV (ag rfl rfl oM) ?_ | refine bM rfl ?_ | (refine jV (bW rfl rfl aS ?_ aS rfl) ?_;focus omega) | refine jC rfl rfl rfl ?_ | refine jV (ax rfl rfl) ?_ | (refine an rfl rfl rfl cx_stn rfl ?_;rintro _ G hle rfl;skip)) | (refine ac rfl (by first | rfl | (refine decide_eq_true ?_;(omega))) ?_))
   all_goals refine jZ (vs:=[_,_,_]) rfl ⟨aJ rfl rfl rfl rfl,aJ rfl rfl rfl rfl,rfl,trivial⟩ rfl ⟨hgq.trans hle,rfl,?_⟩
   all_goals exact .inl ⟨he,rfl⟩
  | some y =>
   obtain ⟨k1,v1⟩:=y
   have cx_sty:=eh.yes hstp hsv
   rw [hsv] at he
   obtain ⟨g1,g2⟩:=cL hw ho0 hk0 hni.1 hsv
   have g3:=jf hw ho0 hk0 hni.1 hsv ht0 oM
   repeat' (first | refine jM ?_ | (refine jo ?_;first | refine jV (ag rfl rfl oM) ?_ | refine bM rfl ?_ | (refine jV (bW rfl rfl aS ?_ aS rfl) ?_;focus omega) | refine jC rfl rfl rfl ?_ | (refine an rfl rfl rfl cx_sty rfl ?_;rintro _ G hle ⟨cv,rfl,hrv⟩;skip)) | refine ac rfl (ay oM) ?_ | refine ad rfl rfl ?_)
   exact bh (k1,v1,cv,i + 1,G) ⟨⟨⟨hrv,g1⟩,g2,g3⟩,⟨hgq.trans hle,by dsimp only;omega⟩,he⟩ (by dsimp only;omega) tU rfl a7
 ·have hd : p.drop i = []:=List.drop_eq_nil_of_le oM
  rw [hd] at he
  repeat' (first | refine jR ?_ | refine ad rfl (aG oM) ?_)
  (refine am (ao (id:=9) [.blk y6 (.cells (List.toArray [U8 (c0.what : Nat),S c0.text,I c0.tag,.slice c0.a c0.n c0.c]) c8 (0,0)),.blk y5 (.cells (List.toArray [S (sg k0),S (bs k0),S (nm k0)]) fD (0,0))] (by intro y hy;simp only [List.mem_cons,List.not_mem_nil,or_false] at hy ⊢;rcases hy with hy | hy <;> simp [hy]) al ?_);(refine jG (aa 5 1) 0 rfl (bP rfl rfl rfl rfl) ?_);(refine jG (aa 5 3) 1 rfl (bP rfl rfl rfl rfl) ?_);refine jA 2 rfl ?_;(refine jC rfl rfl rfl ?_);refine jK (aa 5 7) ?_;refine jA 3 rfl ?_;(refine jC rfl rfl rfl ?_);refine jK (aa 5 15) ?_;refine jW 0 [4] (aa 5 31) ?_;refine jQ ?_)
  all_goals repeat' (refine jR ?_)
  all_goals refine jZ (vs:=[_,_,_]) rfl ⟨aJ rfl rfl rfl rfl,aJ rfl rfl rfl rfl,rfl,trivial⟩ rfl ⟨hgq,rfl,?_⟩
  all_goals exact .inr ⟨_,_,c0,he,rfl,hr0⟩
theorem iZ {s : adA} (h : s.length ≤ 1048576) (hp : cG s = none) : ∀ G,bB adz 53 [S s] G (fun v _=>∃ a c n,v = Tu [.slice a n c,Bo false] ∧ True):=fun G=>by
 refine (p7 (G:=G) h).mono ?_
 rintro v G' L' ⟨h1,h2,a,c,n,rfl,_⟩
 exact ⟨h1,h2,a,c,n,by rw [hp];rfl,trivial⟩
theorem ip {s : adA} {p : List Int} (h : s.length ≤ 1048576) (hp : cG s = some p) : ∀ G,bB adz 53 [S s] G (fun v G'=>∃ a c n,v = Tu [.slice a n c,Bo true] ∧ n = p.length ∧ aU G' (.slice a n c) 1 p.length (ak cH p)):=fun G=>by
 refine (p7 (G:=G) h).mono ?_
 rintro v G' L' ⟨h1,h2,a,c,n,rfl,h3⟩
 exact ⟨h1,h2,a,c,n,by rw [hp];rfl,h3 p hp⟩
theorem v6 {s k w p : adA} (h1 : s.length ≤ 1048576 ∧ k.length ≤ 1048576 ∧ w.length ≤ 1048576 ∧ p.length ≤ 1048576) : a9 adz 31 [S s,S k,S w,S p] G (· = yM (cU s k w p)):=by
 unfold cU
 cases hg : cB s k w with
 | none =>
  rw [sI]
  have cx_gi0:=ph (G:=G) (s:=s) (k:=k) (w:=w) oM hg
  cases hpo : cG p with
  | none =>
   have cx_sp:=iZ h1.2.2.2 hpo
   refine jB (Post:=fun v G' L'=>G' = G ∧ L' = [] ∧ _) [(0,_),(1,_),(2,_),(3,_)] Tryz.func31 Tryz.ntmps31 fun B hok hB hW=>?_
   repeat' (first | refine jR ?_ | (refine jo ?_;first | refine jL fun _=>?_ | refine jC rfl rfl rfl ?_ | refine aM rfl ?_ | (refine an rfl rfl rfl cx_gi0 rfl ?_;rintro _ G hle ⟨p1,a1,b1,c1,rfl⟩;skip) | (refine an rfl rfl rfl (cx_sp _) rfl ?_;rintro _ G hle ⟨sa,sc,sn,rfl,hsp⟩;skip)) | refine aF rfl rfl rfl ?_ | refine ac rfl rfl ?_)
   all_goals refine Nx.base hok hB ?_
   all_goals refine jY (vs:=[_,_,_]) ?_
   all_goals rfl
  | some q =>
   have cx_sp:=ip h1.2.2.2 hpo
   refine jB (Post:=fun v G' L'=>G' = G ∧ L' = [] ∧ _) [(0,_),(1,_),(2,_),(3,_)] Tryz.func31 Tryz.ntmps31 fun B hok hB hW=>?_
   repeat' (first | refine jR ?_ | (refine jo ?_;first | refine jL fun _=>?_ | refine jC rfl rfl rfl ?_ | refine aM rfl ?_ | (refine an rfl rfl rfl cx_gi0 rfl ?_;rintro _ G hle ⟨p1,a1,b1,c1,rfl⟩;skip) | (refine an rfl rfl rfl (cx_sp _) rfl ?_;rintro _ G hle ⟨sa,sc,sn,rfl,hsp⟩;skip)) | refine aF rfl rfl rfl ?_ | refine ac rfl rfl ?_)
   all_goals refine Nx.base hok hB ?_
   all_goals refine jY (vs:=[_,_,_]) ?_
   all_goals rfl
 | some u =>
  obtain ⟨ts,hs,hki,hvo,hto,hwf⟩:=cJ hg
  have cx_gi1:=pe (G:=G) (s:=s) (k:=k) (w:=w) oM hs hki hvo
  rw [hs]
  cases hpo : cG p with
  | none =>
   have cx_sp:=iZ h1.2.2.2 hpo
   refine jB (Post:=fun v G' L'=>G' = G ∧ L' = [] ∧ _) [(0,_),(1,_),(2,_),(3,_)] Tryz.func31 Tryz.ntmps31 fun B hok hB hW=>?_
   repeat' (first | refine jR ?_ | (refine jo ?_;first | refine jL fun _=>?_ | refine jC rfl rfl rfl ?_ | refine aC rfl ?_ | (refine an rfl rfl rfl cx_gi1 rfl ?_;rintro _ G hle ⟨bg,qg,cv,rfl,hTg,hRg,hrv⟩;skip) | (refine an rfl rfl rfl (cx_sp _) rfl ?_;rintro _ G hle ⟨sa,sc,sn,rfl,hsp⟩;skip)) | refine ar rfl rfl rfl ?_ | refine ac rfl rfl ?_)
   all_goals refine Nx.base hok hB ?_
   all_goals refine jY (vs:=[_,_,_]) ?_
   all_goals rfl
  | some q =>
   have cx_sp:=ip h1.2.2.2 hpo
   obtain ⟨hq8,hqn⟩:=kN hpo
   have hof:=cQ hvo
   have hw:=cY hs
   dsimp only
   refine jB (Post:=fun v G' L'=>G' = G ∧ L' = [] ∧ _) [(0,_),(1,_),(2,_),(3,_)] Tryz.func31 Tryz.ntmps31 fun B hok hB hW=>?_
   repeat' (first | refine jR ?_ | (refine jo ?_;first | refine jL fun _=>?_ | refine jC rfl rfl rfl ?_ | refine aC rfl ?_ | refine bM rfl ?_ | (refine an rfl rfl rfl cx_gi1 rfl ?_;rintro _ G hle ⟨bg,qg,cv,rfl,hTg,hRg,hrv⟩;(try have hrv:=bE hle hrv);(try have hRg:=ScI.mono hRg hle)) | (refine an rfl rfl rfl (cx_sp _) rfl ?_;rintro _ G hle ⟨sa,sc,sn,rfl,hsp⟩;(try have hrv:=bE hle hrv);(try have hRg:=ScI.mono hRg hle))) | refine ar rfl rfl rfl ?_ | refine ad rfl rfl ?_)
   obtain ⟨rfl,hsp⟩:=hsp
   subst hTg
   have hfl:=k3 hRg hw hsp hqn oM hrv hof hki oM
   unfold c5 at hfl
   rw [show bJ cv = [U8 (cv.what : Nat),S cv.text,I cv.tag,.slice cv.a cv.n cv.c] from rfl] at hfl
   cases hfo : bi (aq qg) k u q with
   | none =>
    have cx_fon:=eh.no hfl hfo
    repeat' (first | refine jR ?_ | (refine jo ?_;first | refine jC rfl rfl rfl ?_ | (refine an rfl rfl rfl cx_fon rfl ?_;rintro _ G hle rfl;skip)) | refine ac rfl rfl ?_)
    all_goals refine Nx.base hok hB ?_
    all_goals refine jY (vs:=[_,_,_]) ?_
    all_goals rfl
   | some y =>
    obtain ⟨k1,v1⟩:=y
    have cx_foy:=eh.yes hfl hfo
    have g3:=lj hw hof hki (fun n hn=>(hqn n hn).1) hfo (N:=1000000) oM oM
    obtain ⟨_,hk1⟩:=gI hw hof hki (fun n hn=>(hqn n hn).1) hfo
    repeat' (first | refine jR ?_ | (refine jo ?_;first | refine jC rfl rfl rfl ?_ | (refine an rfl rfl rfl cx_foy rfl ?_;rintro _ G hle ⟨cv,rfl,hrv⟩;skip)) | refine ad rfl rfl ?_)
    have cx_txt:=aac (G:=G) (dh hk1)
    have cx_pr:=lG (G:=G) (c:=cv) v1.tot (Nat.le_refl _) g3 hrv
    unfold c5 at cx_txt
    rw [show bJ cv = [U8 (cv.what : Nat),S cv.text,I cv.tag,.slice cv.a cv.n cv.c] from rfl] at cx_pr
    rename_i y12 y13 _ _ _ _
    (refine am (ao (id:=8) _ (fun _ h=>h) al ?_);(refine jG (aa 7 1) 0 rfl (bP rfl rfl rfl rfl) ?_);(refine jG (aa 7 5) 2 rfl (bP rfl rfl rfl rfl) ?_);refine jA 1 rfl ?_;(refine ae rfl rfl rfl cx_txt rfl ?_);refine jS (aa 7 7) ?_;refine jA 3 rfl ?_;(refine ae rfl rfl rfl cx_pr rfl ?_);refine jS (aa 7 15) ?_;refine jT 0 [4,5,6] (aa 7 127) ?_;refine jQ ?_)
    all_goals repeat' (refine jR ?_)
    all_goals refine Nx.base hok hB ?_
    all_goals refine jY (vs:=[_,_,_]) ?_
    all_goals rfl
abbrev vu : TypeId:=4
abbrev xy : TypeId:=115
theorem abV {v : V} {c : VC} (h : V.rep G v c) (ht : v.tot ≤ 1000000) : a9 adz 59 [Ag (bJ c)] G (· = Bo (decide (v.out.length ≤ 400 ∧ v.deep ≤ 12))):=by
 have cx_pr:=lG (G:=G) v.tot (Nat.le_refl _) ht h
 have cx_dp:=xg (G:=G) v.tot (Nat.le_refl _) ht h
 have hdl:=o3 v
 obtain ⟨w,tx,tg,a,m,kc⟩:=c
 have e0 : bJ ⟨w,tx,tg,a,m,kc⟩ = [U8 (w : Nat),S tx,I tg,.slice a m kc]:=rfl
 rw [e0] at cx_pr cx_dp ⊢
 by_cases h1 : v.out.length ≤ 400
 ·by_cases h2 : v.deep ≤ 12
  ·rw [decide_eq_true (p:=v.out.length ≤ 400 ∧ v.deep ≤ 12) ⟨h1,h2⟩]
   refine jE [(0,_)] Tryz.func59 Tryz.ntmps59 fun B hB=>?_
   repeat' (first | refine jR ?_ | (refine jo ?_;first | refine jO fun _=>?_ | refine bM rfl ?_ | refine aM rfl ?_ | refine ae rfl rfl rfl cx_pr rfl ?_ | refine ae rfl rfl rfl cx_dp rfl ?_) | refine aF rfl rfl (ay oM) ?_)
   all_goals refine jY (vs:=[_]) ?_
   all_goals (rw [aP,decide_eq_true oM])
  ·rw [decide_eq_false (p:=v.out.length ≤ 400 ∧ v.deep ≤ 12) (fun h=>h2 h.2)]
   refine jE [(0,_)] Tryz.func59 Tryz.ntmps59 fun B hB=>?_
   repeat' (first | refine jR ?_ | (refine jo ?_;first | refine jO fun _=>?_ | refine bM rfl ?_ | refine aM rfl ?_ | refine ae rfl rfl rfl cx_pr rfl ?_ | refine ae rfl rfl rfl cx_dp rfl ?_) | refine aF rfl rfl (ay oM) ?_)
   all_goals refine jY (vs:=[_]) ?_
   all_goals (rw [aP,decide_eq_false oM])
 ·rw [decide_eq_false (p:=v.out.length ≤ 400 ∧ v.deep ≤ 12) (fun h=>h1 h.1)]
  refine jE [(0,_)] Tryz.func59 Tryz.ntmps59 fun B hB=>?_
  repeat' (first | refine jR ?_ | (refine jo ?_;first | refine jO fun _=>?_ | refine bM rfl ?_ | refine aC rfl ?_ | refine ae rfl rfl rfl cx_pr rfl ?_) | refine ar rfl rfl (aG oM) ?_)
  all_goals refine jY (vs:=[_]) ?_
  all_goals rfl
def m9 (bo bd bt bq bx : Nat) (told d : Bool) (pf : Value) (xc : List Value) (a : Option Addr) (k : Nat) (cs : List VC) : List Own :=
 [.acc (.slice a cs.length k) c8 4 cs.length (ak bJ cs),.blk bd (.cells (List.toArray [Bo d]) vu (0,0)),.blk bt (.cells (List.toArray [Bo told]) vu (0,0)),.blk bo (.cells (List.toArray [U8 82,S [],I 0,.slice a cs.length k]) c8 (0,0)),.blk bx (.cells xc.toArray c8 (0,0)),.blk bq (.cells (List.toArray [pf]) xy (0,0))]
theorem zC {a : Own} {l r : List Own} : (a :: (l ++ r)).Perm (l ++ a :: r):=List.perm_middle.symm
theorem t6 {G2 : Gh} {y : Nat} {t : Int} {x : V} {dx : VC} {gs : List V} {cs : List VC} (hG2 : Gh.le G G2) (htg : 0 ≤ t ∧ t ≤ 999999) (hx : V.rep G x dx) (hreps : V.reps G gs cs) (hsg : b9 G2 y 0 [U8 (dx.what : Nat),S dx.text,I dx.tag,.slice dx.a dx.n dx.c]) : V.reps G2 (gs ++ [.nd 61 [] t [x]]) (cs ++ [⟨61,[],t,some ⟨y,0,none⟩,1,1⟩]) :=
 hY (dS dC htg (fun _=>rfl) rfl (cs:=[dx]) ⟨rfl,.inr ⟨y,0,1,rfl,Nat.le_refl _,hsg⟩⟩ (by rw [V.reps];exact ⟨dx,[],rfl,bE hG2 hx,by rw [V.reps]⟩)) (cS hG2 hreps)
theorem zf {bo bd bt bq bx bf of j : Nat} {told d : Bool} {t : Ty} {x : V} {dx : VC} {gs : List V} {cs : List VC} {a : Option Addr} {k : Nat} (hreps : V.reps G gs cs) (hx : V.rep G x dx) (hsf : b9 G bf of (ak iF t.fields)) (hj : j < t.fields.length) (hgl : gs.length ≤ 1000000) (htg : 0 ≤ (ab t.fields j).tag ∧ (ab t.fields j).tag ≤ 999999) :
  Fn adz 131 [Pt bt 0,Pt bd 0,Pt bo 0,Pt bq 0,Pt bx 0] G (m9 bo bd bt bq bx told d (Pt bf (of + j * 6)) [U8 (dx.what : Nat),S dx.text,I dx.tag,.slice dx.a dx.n dx.c] a k cs)
   (fun _ G' L'=>∃ cs2 a2 k2,Gh.le G G' ∧ V.reps G' (gs ++ (if told && !d then [.nd 61 [] (ab t.fields j).tag [x]] else [])) cs2 ∧ L' = m9 bo bd bt bq bx told true (Pt bf (of + j * 6)) [U8 (dx.what : Nat),S dx.text,I dx.tag,.slice dx.a dx.n dx.c] a2 k2 cs2):=by
 have hcl:=gp hreps
 unfold m9
 cases told with
 | false =>
  rw [if_neg (by simp),List.append_nil]
  refine jB [(0,_),(1,_),(2,_),(3,_),(4,_)] Tryz.func131 Tryz.ntmps131 fun B hok hB hW=>?_
  repeat' (first | refine jR ?_ | (refine jo ?_;first | refine aD rfl ?_ | refine aC rfl ?_ | refine jD rfl rfl rfl ?_) | refine ar rfl rfl rfl ?_ | refine ad rfl rfl ?_)
  exact kz (vs:=[]) rfl trivial rfl (List.Sublist.refl _) ⟨cs,a,k,Gh.le.refl _,hreps,rfl⟩
 | true =>
  cases d with
  | true =>
   rw [if_neg (by simp),List.append_nil]
   refine jB [(0,_),(1,_),(2,_),(3,_),(4,_)] Tryz.func131 Tryz.ntmps131 fun B hok hB hW=>?_
   repeat' (first | refine jR ?_ | (refine jo ?_;first | refine aD rfl ?_ | refine aM rfl ?_ | refine jD rfl rfl rfl ?_) | refine aF rfl rfl rfl ?_ | refine ad rfl rfl ?_)
   exact kz (vs:=[]) rfl trivial rfl (List.Sublist.refl _) ⟨cs,a,k,Gh.le.refl _,hreps,rfl⟩
  | false =>
   rw [if_pos (by simp)]
   refine jB [(0,_),(1,_),(2,_),(3,_),(4,_)] Tryz.func131 Tryz.ntmps131 fun B hok hB hW=>?_
   repeat' (first | refine jR ?_ | (refine jo ?_;first | refine aD rfl ?_ | refine aM rfl ?_) | refine aF rfl rfl rfl ?_ | refine ac rfl rfl ?_)
   (refine am (ao (id:=1) [.blk bx (.cells (List.toArray [U8 (dx.what : Nat),S dx.text,I dx.tag,.slice dx.a dx.n dx.c]) c8 (0,0)),.blk bq (.cells (List.toArray [Pt bf (of + j * 6)]) xy (0,0))] (by intro y hy;simp only [List.mem_cons,List.not_mem_nil,or_false] at hy ⊢;rcases hy with hy | hy <;> simp [hy]) al ?_);refine jW 15 [0] (aa 16 1) ?_;(refine jG (aa 16 5) 2 rfl (aX rfl rfl rfl) ?_);refine jW 12 [3,4] (aa 16 29) ?_;((refine jG (aa 16 61) 5 rfl (bQ rfl rfl aS ?_ rfl rfl) ?_;focus omega));(refine jG (aa 16 125) 6 rfl (bP rfl rfl rfl rfl) ?_);refine b8 [1,7,10] kR dC ⟨?_,?_,?_,trivial⟩;(focus (refine aO rfl rfl ?_;(refine aD rfl ?_);refine jK (aa 16 127) ?_;(refine jG (aa 16 639) 9 rfl (af rfl) ?_);refine b8 [7,10] kR dC ⟨?_,?_,trivial⟩;(focus (refine aO rfl rfl ?_;(refine jF fun _=>?_);refine jK (aa 16 767) ?_;(refine jG (aa 16 1023) 8 rfl (ax rfl rfl) ?_);refine jA 10 rfl ?_;(refine jF fun _=>?_);refine jK (aa 16 2047) ?_;refine jA 11 rfl ?_;((refine bD rfl rfl rfl rfl rfl rfl rfl rfl rfl ?_ fun _ _=>?_;focus omega));refine jK (aa 16 4095) ?_;refine jW 3 [14] (aa 16 20479) ?_;((refine jG (aa 16 24575) 12 rfl (ag rfl rfl ?_) ?_;focus omega));refine b8 [13,15] kR dC ⟨?_,?_,trivial⟩;(focus (refine aO rfl rfl ?_;((refine dV rfl rfl rfl rfl rfl rfl rfl rfl inferInstance ?_ ?_;(focus ((rw [cO];omega);done))));refine jK (aa 16 32767) ?_;refine jA 15 rfl ?_;(refine jD rfl rfl rfl ?_);refine jK (aa 16 65535) ?_;refine jQ ?_));rotate_left 1;(focus (refine aO rfl rfl ?_;(refine jD rfl rfl rfl ?_);refine jK (aa 16 57343) ?_;refine jA 13 rfl ?_;((refine dV rfl rfl rfl rfl rfl rfl rfl rfl inferInstance ?_ ?_;(focus ((rw [cO];omega);done))));refine jK (aa 16 65535) ?_;refine jQ ?_));rotate_left 1));rotate_left 2;(focus (refine aO rfl rfl ?_;(refine jF fun _=>?_);refine jK (aa 16 1663) ?_;refine jA 7 rfl ?_;(refine jF fun _=>?_);refine jK (aa 16 1791) ?_;(refine jG (aa 16 2047) 8 rfl (ax rfl rfl) ?_);refine jA 11 rfl ?_;((refine bD rfl rfl rfl rfl rfl rfl rfl rfl rfl ?_ fun _ _=>?_;focus omega));refine jK (aa 16 4095) ?_;refine jW 3 [14] (aa 16 20479) ?_;((refine jG (aa 16 24575) 12 rfl (ag rfl rfl ?_) ?_;focus omega));refine b8 [13,15] kR dC ⟨?_,?_,trivial⟩;(focus (refine aO rfl rfl ?_;((refine dV rfl rfl rfl rfl rfl rfl rfl rfl inferInstance ?_ ?_;(focus ((rw [cO];omega);done))));refine jK (aa 16 32767) ?_;refine jA 15 rfl ?_;(refine jD rfl rfl rfl ?_);refine jK (aa 16 65535) ?_;refine jQ ?_));rotate_left 1;(focus (refine aO rfl rfl ?_;(refine jD rfl rfl rfl ?_);refine jK (aa 16 57343) ?_;refine jA 13 rfl ?_;((refine dV rfl rfl rfl rfl rfl rfl rfl rfl inferInstance ?_ ?_;(focus ((rw [cO];omega);done))));refine jK (aa 16 65535) ?_;refine jQ ?_));rotate_left 1));rotate_left 2));rotate_left 4;(focus (refine aO rfl rfl ?_;(refine jF fun _=>?_);refine jK (aa 16 253) ?_;(refine jG (aa 16 509) 8 rfl (ax rfl rfl) ?_);refine b8 [1,10] kR dC ⟨?_,?_,trivial⟩;(focus (refine aO rfl rfl ?_;(refine aD rfl ?_);refine jK (aa 16 511) ?_;(refine jG (aa 16 1023) 9 rfl (af rfl) ?_);refine jA 10 rfl ?_;(refine jF fun _=>?_);refine jK (aa 16 2047) ?_;refine jA 11 rfl ?_;((refine bD rfl rfl rfl rfl rfl rfl rfl rfl rfl ?_ fun _ _=>?_;focus omega));refine jK (aa 16 4095) ?_;refine jW 3 [14] (aa 16 20479) ?_;((refine jG (aa 16 24575) 12 rfl (ag rfl rfl ?_) ?_;focus omega));refine b8 [13,15] kR dC ⟨?_,?_,trivial⟩;(focus (refine aO rfl rfl ?_;((refine dV rfl rfl rfl rfl rfl rfl rfl rfl inferInstance ?_ ?_;(focus ((rw [cO];omega);done))));refine jK (aa 16 32767) ?_;refine jA 15 rfl ?_;(refine jD rfl rfl rfl ?_);refine jK (aa 16 65535) ?_;refine jQ ?_));rotate_left 1;(focus (refine aO rfl rfl ?_;(refine jD rfl rfl rfl ?_);refine jK (aa 16 57343) ?_;refine jA 13 rfl ?_;((refine dV rfl rfl rfl rfl rfl rfl rfl rfl inferInstance ?_ ?_;(focus ((rw [cO];omega);done))));refine jK (aa 16 65535) ?_;refine jQ ?_));rotate_left 1));rotate_left 2;(focus (refine aO rfl rfl ?_;(refine jF fun _=>?_);refine jK (aa 16 1533) ?_;refine jA 1 rfl ?_;(refine aD rfl ?_);refine jK (aa 16 1535) ?_;(refine jG (aa 16 2047) 9 rfl (af rfl) ?_);refine jA 11 rfl ?_;((refine bD rfl rfl rfl rfl rfl rfl rfl rfl rfl ?_ fun _ _=>?_;focus omega));refine jK (aa 16 4095) ?_;refine jW 3 [14] (aa 16 20479) ?_;((refine jG (aa 16 24575) 12 rfl (ag rfl rfl ?_) ?_;focus omega));refine b8 [13,15] kR dC ⟨?_,?_,trivial⟩;(focus (refine aO rfl rfl ?_;((refine dV rfl rfl rfl rfl rfl rfl rfl rfl inferInstance ?_ ?_;(focus ((rw [cO];omega);done))));refine jK (aa 16 32767) ?_;refine jA 15 rfl ?_;(refine jD rfl rfl rfl ?_);refine jK (aa 16 65535) ?_;refine jQ ?_));rotate_left 1;(focus (refine aO rfl rfl ?_;(refine jD rfl rfl rfl ?_);refine jK (aa 16 57343) ?_;refine jA 13 rfl ?_;((refine dV rfl rfl rfl rfl rfl rfl rfl rfl inferInstance ?_ ?_;(focus ((rw [cO];omega);done))));refine jK (aa 16 65535) ?_;refine jQ ?_));rotate_left 1));rotate_left 2));rotate_left 4;(focus (refine aO rfl rfl ?_;(refine jF fun _=>?_);refine jK (aa 16 1149) ?_;refine b8 [1,7] kR dC ⟨?_,?_,trivial⟩;(focus (refine aO rfl rfl ?_;(refine aD rfl ?_);refine jK (aa 16 1151) ?_;(refine jG (aa 16 1663) 9 rfl (af rfl) ?_);refine jA 7 rfl ?_;(refine jF fun _=>?_);refine jK (aa 16 1791) ?_;(refine jG (aa 16 2047) 8 rfl (ax rfl rfl) ?_);refine jA 11 rfl ?_;((refine bD rfl rfl rfl rfl rfl rfl rfl rfl rfl ?_ fun _ _=>?_;focus omega));refine jK (aa 16 4095) ?_;refine jW 3 [14] (aa 16 20479) ?_;((refine jG (aa 16 24575) 12 rfl (ag rfl rfl ?_) ?_;focus omega));refine b8 [13,15] kR dC ⟨?_,?_,trivial⟩;(focus (refine aO rfl rfl ?_;((refine dV rfl rfl rfl rfl rfl rfl rfl rfl inferInstance ?_ ?_;(focus ((rw [cO];omega);done))));refine jK (aa 16 32767) ?_;refine jA 15 rfl ?_;(refine jD rfl rfl rfl ?_);refine jK (aa 16 65535) ?_;refine jQ ?_));rotate_left 1;(focus (refine aO rfl rfl ?_;(refine jD rfl rfl rfl ?_);refine jK (aa 16 57343) ?_;refine jA 13 rfl ?_;((refine dV rfl rfl rfl rfl rfl rfl rfl rfl inferInstance ?_ ?_;(focus ((rw [cO];omega);done))));refine jK (aa 16 65535) ?_;refine jQ ?_));rotate_left 1));rotate_left 2;(focus (refine aO rfl rfl ?_;(refine jF fun _=>?_);refine jK (aa 16 1277) ?_;(refine jG (aa 16 1533) 8 rfl (ax rfl rfl) ?_);refine jA 1 rfl ?_;(refine aD rfl ?_);refine jK (aa 16 1535) ?_;(refine jG (aa 16 2047) 9 rfl (af rfl) ?_);refine jA 11 rfl ?_;((refine bD rfl rfl rfl rfl rfl rfl rfl rfl rfl ?_ fun _ _=>?_;focus omega));refine jK (aa 16 4095) ?_;refine jW 3 [14] (aa 16 20479) ?_;((refine jG (aa 16 24575) 12 rfl (ag rfl rfl ?_) ?_;focus omega));refine b8 [13,15] kR dC ⟨?_,?_,trivial⟩;(focus (refine aO rfl rfl ?_;((refine dV rfl rfl rfl rfl rfl rfl rfl rfl inferInstance ?_ ?_;(focus ((rw [cO];omega);done))));refine jK (aa 16 32767) ?_;refine jA 15 rfl ?_;(refine jD rfl rfl rfl ?_);refine jK (aa 16 65535) ?_;refine jQ ?_));rotate_left 1;(focus (refine aO rfl rfl ?_;(refine jD rfl rfl rfl ?_);refine jK (aa 16 57343) ?_;refine jA 13 rfl ?_;((refine dV rfl rfl rfl rfl rfl rfl rfl rfl inferInstance ?_ ?_;(focus ((rw [cO];omega);done))));refine jK (aa 16 65535) ?_;refine jQ ?_));rotate_left 1));rotate_left 2));rotate_left 4)
   all_goals repeat' (first | refine jR ?_ | (refine jo ?_;refine jD rfl rfl rfl ?_))
   all_goals
    rename_i x3 x2 x1 k1
    have hlen : ∀ y : Nat,(cs ++ [(⟨61,[],(ab t.fields j).tag,some ⟨y,0,none⟩,1,1⟩ : VC)]).length = cs.length + 1:=fun y=>by simp
    first | (refine Nx.sealC (b:=x3) fun G2 hG2 hsg=>?_;refine kz (vs:=[]) rfl trivial rfl ?_ ⟨_,some ⟨x1,0,none⟩,k1,hG2,t6 (y:=x3) hG2 htg hx hreps hsg,rfl⟩;rw [hlen,← (show ak bJ cs ++ [U8 ((61 : Nat) : Int),S [],I (ab t.fields j).tag,.slice (some ⟨x3,0,none⟩) 1 1] = _ from (bR bJ cs (⟨61,[],(ab t.fields j).tag,some ⟨x3,0,none⟩,1,1⟩ : VC)).symm)];repeat (first | exact List.Sublist.refl _ | apply List.Sublist.cons_cons | apply List.Sublist.cons)) | (refine Nx.sealC (b:=x2) fun G2 hG2 hsg=>?_;refine kz (vs:=[]) rfl trivial rfl ?_ ⟨_,some ⟨x1,0,none⟩,k1,hG2,t6 (y:=x2) hG2 htg hx hreps hsg,rfl⟩;rw [hlen,← (show ak bJ cs ++ [U8 ((61 : Nat) : Int),S [],I (ab t.fields j).tag,.slice (some ⟨x2,0,none⟩) 1 1] = _ from (bR bJ cs (⟨61,[],(ab t.fields j).tag,some ⟨x2,0,none⟩,1,1⟩ : VC)).symm)];repeat (first | exact List.Sublist.refl _ | apply List.Sublist.cons_cons | apply List.Sublist.cons))
theorem zy {α : Type} [Inhabited α] {tg : α → Int} {told : Bool} {node : α} {tag : Int} {l : List α} {i : Nat} (hi : i < l.length) {d : Bool} : iq tg told node tag (l.drop i) d = (if tag ≤ tg (ab l i) ∧ (told && !d) = true then [node] else []) ++ ((if tg (ab l i) = tag then [] else [ab l i]) ++ iq tg told node tag (l.drop (i + 1)) (d || decide (tag ≤ tg (ab l i)))):=by
 rw [List.drop_eq_getElem_cons hi,aA hi,iq]
theorem acD {b bf of j : Nat} {qs : List dp} {t : Ty} {fs : List (Fld × V)} {c dx : VC} {x : V} (hS : ScI G b qs) (hw : SchW (aq qs)) (ht : t ∈ aq qs) (hso : t.sort = 82) (hsf : b9 G bf of (ak iF t.fields)) (hj : j < t.fields.length) (hrep : V.rep G (.nd 82 [] 0 (fs.map aw)) c) (hx : V.rep G x dx) (h9 : fs.length ≤ 90000) (hxt : x.tot ≤ 1000000) (hsr : nL (fs.map aw)) :
  bB adz 94 [Pt b 0,Ag (bJ c),Pt bf (of + j * 6),Ag (bJ dx)] G (fun r G'=>∃ c',r = Ag (bJ c') ∧ V.rep G' (.nd 82 [] 0 (dG (aq qs) (ab t.fields j) x (fs.map aw))) c'):=by
 have hTW:=hw.ty t ht
 have hfm : ab t.fields j ∈ t.fields:=bc hj
 have htg:=(hTW.fld _ hfm).tag
 have hdk : aB (aq qs) (ab t.fields j).kind = true:=dT hw ht oM hfm
 have cx_of:=vU hS hw hsf hj hdk
 have cx_pr:=lG (G:=G) (c:=dx) x.tot (Nat.le_refl _) hxt hx
 obtain ⟨a,k,cs,rfl,_,_,_,hcl,hsl,hrs⟩:=eT hrep
 have e0 : bJ ⟨82,[],0,a,(fs.map aw).length,k⟩ = [U8 (82 : Nat),S [],I 0,.slice a (fs.map aw).length k]:=rfl
 have e1 : bJ dx = [U8 (dx.what : Nat),S dx.text,I dx.tag,.slice dx.a dx.n dx.c]:=rfl
 rw [e0]
 rw [e1] at cx_pr ⊢
 have hml : (fs.map aw).length = fs.length:=by simp
 have hnt : ∀ i,i < fs.length → ab (fs.map aw) i = aw (ab fs i):=fun i hi=>by rw [aA (by simpa using hi),aA hi];simp
 have hrn : ∀ i,i < fs.length → V.rep G (aw (ab fs i)) (ab cs i):=fun i hi=>by
  have:=gX hrs i oM
  rwa [hnt i hi] at this
 obtain ⟨told,htold⟩ : ∃ told,decide (x.out ≠ bT (aq qs) (ab t.fields j)) = told:=⟨_,rfl⟩
 have hput : iq V.tag told (.nd 61 [] (ab t.fields j).tag [x]) (ab t.fields j).tag (fs.map aw) false = dG (aq qs) (ab t.fields j) x (fs.map aw):=by rw [← htold];exact uE hsr
 refine jB [(0,_),(1,_),(2,_),(3,_)] Tryz.func94 Tryz.ntmps94 fun B hok hB hW=>?_
 repeat' (first | refine jR ?_ | (refine jo ?_;first | refine jO fun _=>?_ | refine jL fun _=>?_ | refine jV (ax rfl rfl) ?_ | refine jD rfl rfl rfl ?_ | refine jC rfl rfl rfl ?_ | refine aD rfl ?_ | refine jV (act rfl rfl) ?_ | refine jV (af rfl) ?_) | (refine am (ao (id:=2) _ (fun _ h=>h) al ?_);refine jT 7 [2] (aa 8 4) ?_;(refine jG (aa 8 5) 0 rfl (bP rfl rfl rfl rfl) ?_);(refine jG (aa 8 13) 3 rfl (aX rfl rfl rfl) ?_);refine b8 [1,6] kR dC ⟨?_,?_,trivial⟩;(focus (refine aO rfl rfl ?_;(refine ae rfl rfl rfl cx_pr rfl ?_);refine jK (aa 8 15) ?_;refine b8 [4,6] kR dC ⟨?_,?_,trivial⟩;(focus (refine aO rfl rfl ?_;(refine ae rfl rfl rfl cx_of rfl ?_);refine jK (aa 8 31) ?_;refine jW 2 [5] (aa 8 63) ?_;refine jA 6 rfl ?_;(refine jL fun _=>?_);refine jK (aa 8 127) ?_;refine jA 7 rfl ?_;(refine jD rfl rfl rfl ?_);refine jK (aa 8 255) ?_;refine jQ ?_));rotate_left 1;(focus (refine aO rfl rfl ?_;(refine jL fun _=>?_);refine jK (aa 8 79) ?_;refine jA 4 rfl ?_;(refine ae rfl rfl rfl cx_of rfl ?_);refine jK (aa 8 95) ?_;refine jW 1 [5] (aa 8 127) ?_;refine jA 7 rfl ?_;(refine jD rfl rfl rfl ?_);refine jK (aa 8 255) ?_;refine jQ ?_));rotate_left 1));rotate_left 2;(focus (refine aO rfl rfl ?_;(refine jL fun _=>?_);refine jK (aa 8 77) ?_;refine jA 1 rfl ?_;(refine ae rfl rfl rfl cx_pr rfl ?_);refine jK (aa 8 79) ?_;refine jA 4 rfl ?_;(refine ae rfl rfl rfl cx_of rfl ?_);refine jK (aa 8 95) ?_;refine jW 1 [5] (aa 8 127) ?_;refine jA 7 rfl ?_;(refine jD rfl rfl rfl ?_);refine jK (aa 8 255) ?_;refine jQ ?_));rotate_left 1))
 all_goals
  rw [← hput]
  rename_i y6 y5 y4 y3 y2 y1 y0
  rw [htold]
  refine Nx.addNil c8 4 (Nx.perm (.cons _ (.cons _ (.cons _ (.cons _ ((List.Perm.swap _ _ _).trans (.cons _ (List.Perm.swap _ _ _))))))) ?_)
  refine aT (ι:=List V × List VC × Option Addr × Nat × Bool × Nat × Gh) (fun q=>(V.reps q.2.2.2.2.2.2 q.1 q.2.1 ∧ Gh.le G q.2.2.2.2.2.2) ∧ (q.2.2.2.2.2.1 ≤ fs.length ∧ q.1.length ≤ 2 * q.2.2.2.2.2.1 + 1) ∧ iq V.tag told (.nd 61 [] (ab t.fields j).tag [x]) (ab t.fields j).tag (fs.map aw) false = q.1 ++ iq V.tag told (.nd 61 [] (ab t.fields j).tag [x]) (ab t.fields j).tag ((fs.map aw).drop q.2.2.2.2.2.1) q.2.2.2.2.1) (fun q=>[(9,Pt y2 0),(12,.func (.func 131) #[] #[Pt y1 0,Pt y0 0,Pt y2 0,Pt y5 0,Pt y4 0]),(6,Pt y5 0),(24,.slice a (fs.map aw).length k),(25,I (fs.map aw).length),(26,I q.2.2.2.2.2.1),(8,Pt y3 0)]) (fun q=>q.2.2.2.2.2.2) (fun q=>[.acc (.slice q.2.2.1 q.2.1.length q.2.2.2.1) c8 4 q.2.1.length (ak bJ q.2.1),.blk y0 (.cells (List.toArray [Bo q.2.2.2.2.1]) vu (0,0)),.blk y1 (.cells (List.toArray [Bo told]) vu (0,0)),.blk y2 (.cells (List.toArray [U8 82,S [],I 0,.slice q.2.2.1 q.2.1.length q.2.2.2.1]) c8 (0,0)),.blk y4 (.cells (List.toArray [U8 (dx.what : Nat),S dx.text,I dx.tag,.slice dx.a dx.n dx.c]) c8 (0,0)),.blk y5 (.cells (List.toArray [Pt bf (of + j * 6)]) xy (0,0)),.blk y3 (.cells (List.toArray [U8 0,S [],I 0,aQ]) c8 (0,0))]) (fun q=>fs.length - q.2.2.2.2.2.1) ([],[],none,0,false,0,G) ?_ tU rfl sB (fun q Hq=>?_)
  ·exact ⟨⟨by rw [V.reps],Gh.le.refl _⟩,⟨Nat.zero_le _,Nat.zero_le _⟩,rfl⟩
  obtain ⟨gs,cs1,a1,k1,d,i,Gq⟩:=q
  dsimp only at Hq ⊢
  obtain ⟨⟨hreps,hgq⟩,⟨hi0,hgl⟩,hinv⟩:=Hq
  have hcl1:=gp hreps
  have hsf2:=hsf.mono hgq
  by_cases hi : i < fs.length
  ·have hpa:=zy (tg:=V.tag) (told:=told) (node:=.nd 61 [] (ab t.fields j).tag [x]) (tag:=(ab t.fields j).tag) (l:=fs.map aw) (i:=i) oM (d:=d)
   rw [hnt i hi,show (aw (ab fs i)).tag = (ab fs i).1.tag from rfl] at hpa
   rw [hpa] at hinv
   clear hpa
   obtain ⟨xb,xo,xc,e,hsx⟩:=(hsl.mono hgq).expl oM
   simp only [Value.slice.injEq] at e
   obtain ⟨rfl,-,rfl⟩:=e
   have hri:=bE hgq (hrn i hi)
   obtain ⟨ai,ki,csi,hci,_,_,_,hcli,hsli,hrsi⟩:=eT hri
   have hci : ab cs i = ⟨61,[],(ab fs i).1.tag,ai,1,ki⟩:=hci
   by_cases hge : (ab t.fields j).tag ≤ (ab fs i).1.tag
   ·rw [decide_eq_true hge] at hinv
    simp only [hge,true_and,Bool.or_true] at hinv
    repeat' (first | refine jR ?_ | (refine jo ?_;first | refine jL fun _=>?_ | refine jC rfl rfl rfl ?_ | (refine jV (kA rfl rfl aS ?_ aS) ?_;focus omega) | refine jV (ag rfl rfl oM) ?_) | refine ac rfl (ay oM) ?_)
    dsimp only [VC.sl]
    rename_i yz
    (refine am (ao (id:=8) _ (fun _ h=>h) al ?_);refine jT 6 [0] (aa 7 1) ?_;(refine jG (aa 7 3) 1 rfl (aX rfl rfl rfl) ?_);(refine jG (aa 7 7) 2 rfl (aX rfl rfl rfl) ?_);refine jT 2 [3,4] (aa 7 31) ?_;((refine jG (aa 7 63) 5 rfl (bQ rfl rfl aS ?_ rfl rfl) ?_;focus omega));refine jT 0 [6] (aa 7 127) ?_;refine jQ ?_)
    repeat' (first | refine jR ?_ | refine ac rfl (ay ‹_›) ?_)
    refine jo ?_
    refine jk (vs:=[Pt y1 0,Pt y0 0,Pt y2 0,Pt y5 0,Pt y4 0]) (Lp:=m9 y2 y0 y1 y5 y4 told d (Pt bf (of + j * 6)) [U8 (dx.what : Nat),S dx.text,I dx.tag,.slice dx.a dx.n dx.c] a1 k1 cs1) (R:=[_,_]) rfl rfl rfl (zf hreps (bE hgq hx) hsf2 hj oM ⟨oM,oM⟩) (zC (l:=m9 y2 y0 y1 y5 y4 told d (Pt bf (of + j * 6)) [U8 (dx.what : Nat),S dx.text,I dx.tag,.slice dx.a dx.n dx.c] a1 k1 cs1) (r:=[_])) rfl ?_
    rintro r3 G3 L3 ⟨cs2,a2,k2,hle,hr2,rfl⟩
    simp only [m9,List.cons_append,List.nil_append]
    have hcl2:=gp hr2
    have hl2 : cs2.length ≤ cs1.length + 1:=by rw [hcl2,hcl1,List.length_append];split <;> simp
    have hsf3:=hsf2.mono hle
    by_cases heq : (ab fs i).1.tag = (ab t.fields j).tag
    ·rw [if_pos heq,List.nil_append,← List.append_assoc] at hinv
     repeat' (refine jR ?_)
     (refine am (ao (id:=10) _ (fun _ h=>h) al ?_);refine jT 6 [0] (aa 7 1) ?_;(refine jG (aa 7 3) 1 rfl (aX rfl rfl rfl) ?_);(refine jG (aa 7 7) 2 rfl (aX rfl rfl rfl) ?_);refine jT 2 [3,4] (aa 7 31) ?_;((refine jG (aa 7 63) 5 rfl (bQ rfl rfl aS ?_ rfl rfl) ?_;focus omega));refine jT 0 [6] (aa 7 127) ?_;refine jQ ?_)
     repeat' (first | refine jM ?_ | refine ad rfl (aG oM) ?_)
     exact bh (_,cs2,a2,k2,true,i + 1,G3) ⟨⟨hr2,hgq.trans hle⟩,⟨by dsimp only;omega,by dsimp only;split <;> simp <;> omega⟩,hinv⟩ (by dsimp only;omega) tU rfl sB
    ·rw [if_neg heq,← List.append_assoc,← List.append_assoc] at hinv
     repeat' (refine jR ?_)
     (refine am (ao (id:=10) _ (fun _ h=>h) al ?_);refine jT 6 [0] (aa 7 1) ?_;(refine jG (aa 7 3) 1 rfl (aX rfl rfl rfl) ?_);(refine jG (aa 7 7) 2 rfl (aX rfl rfl rfl) ?_);refine jT 2 [3,4] (aa 7 31) ?_;((refine jG (aa 7 63) 5 rfl (bQ rfl rfl aS ?_ rfl rfl) ?_;focus omega));refine jT 0 [6] (aa 7 127) ?_;refine jQ ?_)
     repeat' (first | refine jR ?_ | refine ac rfl (ay ‹_›) ?_)
     (refine am (ao (id:=11) [.blk yz (.cells (List.toArray [U8 (61 : Nat),S [],I (ab fs i).1.tag,.slice ai 1 ki]) c8 (0,0))] (by intro y hy;simp only [List.mem_cons,List.not_mem_nil,or_false] at hy ⊢;simp [hy]) al ?_);refine jW 9 [0] (aa 10 1) ?_;(refine jG (aa 10 5) 2 rfl (bP rfl rfl rfl rfl) ?_);refine b8 [1,4] kR dC ⟨?_,?_,trivial⟩;(focus (refine aO rfl rfl ?_;(refine aD rfl ?_);refine jK (aa 10 7) ?_;(refine jG (aa 10 15) 3 rfl (af rfl) ?_);refine jA 4 rfl ?_;(refine jF fun _=>?_);refine jK (aa 10 31) ?_;refine jA 5 rfl ?_;((refine bD rfl rfl rfl rfl rfl rfl rfl rfl rfl ?_ fun _ _=>?_;focus omega));refine jK (aa 10 63) ?_;refine jW 3 [8] (aa 10 319) ?_;((refine jG (aa 10 383) 6 rfl (ag rfl rfl ?_) ?_;focus omega));refine b8 [7,9] kR dC ⟨?_,?_,trivial⟩;(focus (refine aO rfl rfl ?_;((refine dV rfl rfl rfl rfl rfl rfl rfl rfl inferInstance ?_ ?_;(focus ((rw [cO];omega);done))));refine jK (aa 10 511) ?_;refine jA 9 rfl ?_;(refine jD rfl rfl rfl ?_);refine jK (aa 10 1023) ?_;refine jQ ?_));rotate_left 1;(focus (refine aO rfl rfl ?_;(refine jD rfl rfl rfl ?_);refine jK (aa 10 895) ?_;refine jA 7 rfl ?_;((refine dV rfl rfl rfl rfl rfl rfl rfl rfl inferInstance ?_ ?_;(focus ((rw [cO];omega);done))));refine jK (aa 10 1023) ?_;refine jQ ?_));rotate_left 1));rotate_left 2;(focus (refine aO rfl rfl ?_;(refine jF fun _=>?_);refine jK (aa 10 21) ?_;refine jA 1 rfl ?_;(refine aD rfl ?_);refine jK (aa 10 23) ?_;(refine jG (aa 10 31) 3 rfl (af rfl) ?_);refine jA 5 rfl ?_;((refine bD rfl rfl rfl rfl rfl rfl rfl rfl rfl ?_ fun _ _=>?_;focus omega));refine jK (aa 10 63) ?_;refine jW 3 [8] (aa 10 319) ?_;((refine jG (aa 10 383) 6 rfl (ag rfl rfl ?_) ?_;focus omega));refine b8 [7,9] kR dC ⟨?_,?_,trivial⟩;(focus (refine aO rfl rfl ?_;((refine dV rfl rfl rfl rfl rfl rfl rfl rfl inferInstance ?_ ?_;(focus ((rw [cO];omega);done))));refine jK (aa 10 511) ?_;refine jA 9 rfl ?_;(refine jD rfl rfl rfl ?_);refine jK (aa 10 1023) ?_;refine jQ ?_));rotate_left 1;(focus (refine aO rfl rfl ?_;(refine jD rfl rfl rfl ?_);refine jK (aa 10 895) ?_;refine jA 7 rfl ?_;((refine dV rfl rfl rfl rfl rfl rfl rfl rfl inferInstance ?_ ?_;(focus ((rw [cO];omega);done))));refine jK (aa 10 1023) ?_;refine jQ ?_));rotate_left 1));rotate_left 2)
     all_goals repeat' (refine jM ?_)
     all_goals
      rename_i _ z1 zc
      rw [show ak bJ cs2 ++ [U8 (61 : Nat),S [],I (ab fs i).1.tag,.slice ai 1 ki] = ak bJ (cs2 ++ [⟨61,[],(ab fs i).1.tag,ai,1,ki⟩]) from (bR bJ cs2 (⟨61,[],(ab fs i).1.tag,ai,1,ki⟩ : VC)).symm,← show (cs2 ++ [(⟨61,[],(ab fs i).1.tag,ai,1,ki⟩ : VC)]).length = cs2.length + 1 by simp]
      exact bh (_,cs2 ++ [⟨61,[],(ab fs i).1.tag,ai,1,ki⟩],some ⟨z1,0,none⟩,zc,true,i + 1,G3) ⟨⟨hY (hci ▸ bE hle hri) hr2,hgq.trans hle⟩,⟨by dsimp only;omega,by dsimp only;simp only [List.length_append,List.length_cons,List.length_nil];split <;> simp <;> omega⟩,hinv⟩ (by dsimp only;omega) tU rfl sB
   ·have heq : ¬ (ab fs i).1.tag = (ab t.fields j).tag:=oM
    rw [decide_eq_false hge,if_neg (fun h=>hge h.1),if_neg heq,Bool.or_false,List.nil_append,← List.append_assoc] at hinv
    repeat' (first | refine jR ?_ | (refine jo ?_;first | refine jL fun _=>?_ | refine jC rfl rfl rfl ?_ | (refine jV (kA rfl rfl aS ?_ aS) ?_;focus omega) | refine jV (ag rfl rfl oM) ?_) | refine ac rfl (ay oM) ?_)
    dsimp only [VC.sl]
    rename_i yz
    (refine am (ao (id:=8) _ (fun _ h=>h) al ?_);refine jT 6 [0] (aa 7 1) ?_;(refine jG (aa 7 3) 1 rfl (aX rfl rfl rfl) ?_);(refine jG (aa 7 7) 2 rfl (aX rfl rfl rfl) ?_);refine jT 2 [3,4] (aa 7 31) ?_;((refine jG (aa 7 63) 5 rfl (bQ rfl rfl aS ?_ rfl rfl) ?_;focus omega));refine jT 0 [6] (aa 7 127) ?_;refine jQ ?_)
    repeat' (first | refine jR ?_ | refine ad rfl (aG ‹_›) ?_)
    (refine am (ao (id:=10) _ (fun _ h=>h) al ?_);refine jT 6 [0] (aa 7 1) ?_;(refine jG (aa 7 3) 1 rfl (aX rfl rfl rfl) ?_);(refine jG (aa 7 7) 2 rfl (aX rfl rfl rfl) ?_);refine jT 2 [3,4] (aa 7 31) ?_;((refine jG (aa 7 63) 5 rfl (bQ rfl rfl aS ?_ rfl rfl) ?_;focus omega));refine jT 0 [6] (aa 7 127) ?_;refine jQ ?_)
    repeat' (first | refine jR ?_ | refine ac rfl (ay ‹_›) ?_)
    (refine am (ao (id:=11) [.blk yz (.cells (List.toArray [U8 (61 : Nat),S [],I (ab fs i).1.tag,.slice ai 1 ki]) c8 (0,0))] (by intro y hy;simp only [List.mem_cons,List.not_mem_nil,or_false] at hy ⊢;simp [hy]) al ?_);refine jW 9 [0] (aa 10 1) ?_;(refine jG (aa 10 5) 2 rfl (bP rfl rfl rfl rfl) ?_);refine b8 [1,4] kR dC ⟨?_,?_,trivial⟩;(focus (refine aO rfl rfl ?_;(refine aD rfl ?_);refine jK (aa 10 7) ?_;(refine jG (aa 10 15) 3 rfl (af rfl) ?_);refine jA 4 rfl ?_;(refine jF fun _=>?_);refine jK (aa 10 31) ?_;refine jA 5 rfl ?_;((refine bD rfl rfl rfl rfl rfl rfl rfl rfl rfl ?_ fun _ _=>?_;focus omega));refine jK (aa 10 63) ?_;refine jW 3 [8] (aa 10 319) ?_;((refine jG (aa 10 383) 6 rfl (ag rfl rfl ?_) ?_;focus omega));refine b8 [7,9] kR dC ⟨?_,?_,trivial⟩;(focus (refine aO rfl rfl ?_;((refine dV rfl rfl rfl rfl rfl rfl rfl rfl inferInstance ?_ ?_;(focus ((rw [cO];omega);done))));refine jK (aa 10 511) ?_;refine jA 9 rfl ?_;(refine jD rfl rfl rfl ?_);refine jK (aa 10 1023) ?_;refine jQ ?_));rotate_left 1;(focus (refine aO rfl rfl ?_;(refine jD rfl rfl rfl ?_);refine jK (aa 10 895) ?_;refine jA 7 rfl ?_;((refine dV rfl rfl rfl rfl rfl rfl rfl rfl inferInstance ?_ ?_;(focus ((rw [cO];omega);done))));refine jK (aa 10 1023) ?_;refine jQ ?_));rotate_left 1));rotate_left 2;(focus (refine aO rfl rfl ?_;(refine jF fun _=>?_);refine jK (aa 10 21) ?_;refine jA 1 rfl ?_;(refine aD rfl ?_);refine jK (aa 10 23) ?_;(refine jG (aa 10 31) 3 rfl (af rfl) ?_);refine jA 5 rfl ?_;((refine bD rfl rfl rfl rfl rfl rfl rfl rfl rfl ?_ fun _ _=>?_;focus omega));refine jK (aa 10 63) ?_;refine jW 3 [8] (aa 10 319) ?_;((refine jG (aa 10 383) 6 rfl (ag rfl rfl ?_) ?_;focus omega));refine b8 [7,9] kR dC ⟨?_,?_,trivial⟩;(focus (refine aO rfl rfl ?_;((refine dV rfl rfl rfl rfl rfl rfl rfl rfl inferInstance ?_ ?_;(focus ((rw [cO];omega);done))));refine jK (aa 10 511) ?_;refine jA 9 rfl ?_;(refine jD rfl rfl rfl ?_);refine jK (aa 10 1023) ?_;refine jQ ?_));rotate_left 1;(focus (refine aO rfl rfl ?_;(refine jD rfl rfl rfl ?_);refine jK (aa 10 895) ?_;refine jA 7 rfl ?_;((refine dV rfl rfl rfl rfl rfl rfl rfl rfl inferInstance ?_ ?_;(focus ((rw [cO];omega);done))));refine jK (aa 10 1023) ?_;refine jQ ?_));rotate_left 1));rotate_left 2)
    all_goals repeat' (refine jM ?_)
    all_goals
     rename_i _ z1 zc
     rw [show ak bJ cs1 ++ [U8 (61 : Nat),S [],I (ab fs i).1.tag,.slice ai 1 ki] = ak bJ (cs1 ++ [⟨61,[],(ab fs i).1.tag,ai,1,ki⟩]) from (bR bJ cs1 (⟨61,[],(ab fs i).1.tag,ai,1,ki⟩ : VC)).symm,← show (cs1 ++ [(⟨61,[],(ab fs i).1.tag,ai,1,ki⟩ : VC)]).length = cs1.length + 1 by simp]
     exact bh (_,cs1 ++ [⟨61,[],(ab fs i).1.tag,ai,1,ki⟩],some ⟨z1,0,none⟩,zc,d,i + 1,Gq) ⟨⟨hY (hci ▸ hri) hreps,hgq⟩,⟨by dsimp only;omega,by dsimp only;simp only [List.length_append,List.length_cons,List.length_nil];omega⟩,hinv⟩ (by dsimp only;omega) tU rfl sB
  ·rw [List.drop_eq_nil_of_le oM,iq] at hinv
   repeat' (first | refine jR ?_ | refine ad rfl (aG oM) ?_)
   refine jo ?_
   refine jk (vs:=[Pt y1 0,Pt y0 0,Pt y2 0,Pt y5 0,Pt y4 0]) (Lp:=m9 y2 y0 y1 y5 y4 told d (Pt bf (of + j * 6)) [U8 (dx.what : Nat),S dx.text,I dx.tag,.slice dx.a dx.n dx.c] a1 k1 cs1) (R:=[_]) rfl rfl rfl (zf hreps (bE hgq hx) hsf2 hj oM ⟨oM,oM⟩) (List.Perm.refl _) rfl ?_
   rintro r3 G3 L3 ⟨cs2,a2,k2,hle,hr2,rfl⟩
   simp only [m9,List.cons_append,List.nil_append]
   have hcl2:=gp hr2
   repeat' (first | refine jR ?_ | (refine jo ?_;first | refine jC rfl rfl rfl ?_ | refine bM rfl ?_))
   refine Nx.sealS (v:=.slice a2 cs2.length k2) fun G5 hG5 hsl5=>?_
   refine jZ (vs:=[_]) rfl ⟨aJ rfl rfl rfl rfl,trivial⟩ rfl ⟨((hgq.trans hle).trans hG5),rfl,?_⟩
   exact ⟨⟨82,[],0,a2,cs2.length,k2⟩,rfl,by rw [hinv];exact dS dC dC (fun h=>absurd h dC) hcl2 hsl5 (cS hG5 hr2)⟩
theorem wR {b o c : Nat} {n : Int} {p : List Int} (h : aU G (.slice (some ⟨b,o,none⟩) (n :: p).length c) 1 (n :: p).length (ak cH (n :: p))) : aU G (.slice (some ⟨b,lm o c (Int.toNat 1) 1,none⟩) ((n :: p).length - Int.toNat 1) (c - Int.toNat 1)) 1 p.length (ak cH p):=by
 have h1:=h.cutAt (m:=Int.toNat 1) (by show 1 ≤ p.length + 1;omega)
 exact h1
section
variable {qs : List dp} {k k1 : adA} {v1 z : V} {n : Int} {p : List Int} {b pb po pc : Nat} {c dy : VC}
theorem aav {fs : List (Fld × V)} {t : Ty} {f : Fld} (hS : ScI G b qs) (hw : SchW (aq qs)) (hki : aB (aq qs) k = true) (hrf : a8 (aq qs) k = some t) (hso : t.sort = 82) (hg : ck t.fields n = some f) (hk1 : k1 = f.kind) (hsr : nL (fs.map aw)) (hfs : fs.length ≤ 90000) (hn : 0 ≤ n ∧ n ≤ 999999) (hp : aU G (.slice (some ⟨pb,po,none⟩) (n :: p).length pc) 1 (n :: p).length (ak cH (n :: p)))
  (hr : V.rep G (.nd 82 [] 0 (fs.map aw)) c) (hpl : p.length ≤ 100) (hzt : z.tot ≤ 1000000)
  (cx_sty : bB adz 91 [Pt b 0,Ag (c5 k),Ag (bJ c),I n] G (fun r G'=>∃ c',r = Tu [Ag [S (sg k1),S (bs k1),S (nm k1)],Ag (bJ c'),Bo true] ∧ V.rep G' v1 c'))
  (ihz : ∀ {G2 : Gh} {c1 : VC},Gh.le G G2 → V.rep G2 v1 c1 → bB adz 58 [Pt b 0,Ag (c5 k1),Ag (bJ c1),.slice (some ⟨pb,lm po pc (Int.toNat 1) 1,none⟩) ((n :: p).length - Int.toNat 1) (pc - Int.toNat 1),Ag (bJ dy)] G2 (fun r G'=>∃ c',r = Ag (bJ c') ∧ V.rep G' z c')) :
  bB adz 58 [Pt b 0,Ag (c5 k),Ag (bJ c),.slice (some ⟨pb,po,none⟩) (n :: p).length pc,Ag (bJ dy)] G (fun r G'=>∃ c',r = Ag (bJ c') ∧ V.rep G' (.nd 82 [] 0 (dG (aq qs) f z (fs.map aw))) c'):=by
 obtain ⟨G0,rfl⟩ : ∃ G0,G0 = G:=⟨G,rfl⟩
 have hg0 : Gh.le G0 G0:=Gh.le.refl _
 obtain ⟨a,kc,cs,rfl,_,_,_,hcl,hsl,hrs⟩:=eT hr
 have e0 : bJ ⟨82,[],0,a,(fs.map aw).length,kc⟩ = [U8 (82 : Nat),S [],I 0,.slice a (fs.map aw).length kc]:=rfl
 have e1 : bJ dy = [U8 (dy.what : Nat),S dy.text,I dy.tag,.slice dy.a dy.n dy.c]:=rfl
 have hpl0 : (n :: p).length = p.length + 1:=rfl
 have hti : ab (n :: p) (Int.toNat 0) = n:=rfl
 have hsx : b9 G0 pb po (ak cH (n :: p)):=by
  obtain ⟨b',o',c',e',hs'⟩:=hp.expl (by simp)
  simp only [Value.slice.injEq,Option.some.injEq,Addr.mk.injEq] at e'
  obtain ⟨⟨rfl,rfl,_⟩,_,rfl⟩:=e'
  exact hs'
 obtain ⟨hkd,p0,hfq,hqm⟩:=sU hki hrf
 have htm:=br hrf
 have hTW:=hw.ty t htm
 have hfl:=hTW.len
 obtain ⟨j,hj,hjf,hjn,hjx⟩:=ia hg
 subst hjx
 rw [hkd,e0] at cx_sty ⊢
 rw [e1]
 refine jB [(0,_),(1,_),(2,_),(3,_),(4,_)] Tryz.func58 Tryz.ntmps58 fun B hok hB hW=>?_
 repeat' (first | refine jR ?_ | (refine jo ?_;first | refine jO fun _=>?_ | refine jL fun _=>?_ | refine jV (af rfl) ?_ | (refine jV (gf rfl rfl aS ?_ aS rfl rfl) ?_;focus omega) | refine bM rfl ?_ | refine jC rfl rfl rfl ?_ | refine jV (aN rfl rfl oM) ?_ | (refine an rfl rfl rfl cx_sty rfl ?_;rintro _ G hle ⟨cv,rfl,hrv⟩;(have hg0:=hg0.trans hle);(have hS:=hS.mono hle);(have hr:=bE hle hr);(try have hrv:=bE hle hrv);(try have hrz:=bE hle hrz))) | refine ad rfl rfl ?_)
 rename_i y6 y7 y9 y10 y12 y13
 dsimp only [VC.sl]
 have cx_ch:=ihz hg0 hrv
 unfold c5 at cx_ch
 rw [show bJ cv = [U8 (cv.what : Nat),S cv.text,I cv.tag,.slice cv.a cv.n cv.c] from rfl,e1] at cx_ch
 (refine am (ao (id:=5) _ (fun _ h=>h) al ?_);refine jT 7 [0,3] (aa 9 9) ?_;(refine jG (aa 9 11) 1 rfl (bP rfl rfl rfl rfl) ?_);(refine jG (aa 9 15) 2 rfl (bP rfl rfl rfl rfl) ?_);(refine jG (aa 9 31) 4 rfl (pV rfl rfl oM) ?_);(refine jG (aa 9 63) 5 rfl (bP rfl rfl rfl rfl) ?_);refine b8 [6,7] kR dC ⟨?_,?_,trivial⟩;(focus (refine aO rfl rfl ?_;(refine an rfl rfl rfl cx_ch rfl ?_;rintro _ G hle ⟨cz,rfl,hrz⟩;(have hg0:=hg0.trans hle);(have hS:=hS.mono hle);(have hr:=bE hle hr);(try have hrv:=bE hle hrv);(try have hrz:=bE hle hrz));refine jK (aa 9 127) ?_;refine jA 7 rfl ?_;(refine jL fun _=>?_);refine jK (aa 9 255) ?_;refine jA 8 rfl ?_;(refine jC rfl rfl rfl ?_);refine jK (aa 9 511) ?_;refine jQ ?_));rotate_left 1;(focus (refine aO rfl rfl ?_;(refine jL fun _=>?_);refine jK (aa 9 191) ?_;refine jA 6 rfl ?_;(refine an rfl rfl rfl cx_ch rfl ?_;rintro _ G hle ⟨cz,rfl,hrz⟩;(have hg0:=hg0.trans hle);(have hS:=hS.mono hle);(have hr:=bE hle hr);(try have hrv:=bE hle hrv);(try have hrz:=bE hle hrz));refine jK (aa 9 255) ?_;refine jA 8 rfl ?_;(refine jC rfl rfl rfl ?_);refine jK (aa 9 511) ?_;refine jQ ?_));rotate_left 1)
 all_goals
  dsimp only [VC.sl]
  obtain ⟨fv,ln,hsg,hfv⟩:=hS.ty _ hqm
  dsimp only at hsg hfv
  have hkv:=gZ qs (nm k)
  rw [hfq] at hkv
  dsimp only [Option.map_some] at hkv
  obtain ⟨u,m,g1,g2,g3⟩:=hS.at'
  obtain ⟨bf,of,cf,rfl,hsf⟩:=hfv.expl oM
  have cx_fld:=ij hsg hsf oM hj hjf hjn
  have cx_put:=acD hS hw htm hso hsf hj hr hrz hfs oM hsr
  rw [e0,show bJ cz = [U8 (cz.what : Nat),S cz.text,I cz.tag,.slice cz.a cz.n cz.c] from rfl] at cx_put
  repeat' (first | refine jR ?_ | (refine jo ?_;refine aD rfl ?_) | refine ac rfl rfl ?_)
  (refine am (d4 (id:=7) (tt:=10) rfl al ?_);refine jW 8 [0,2,3,4,6,9] (aa 14 605) ?_;(refine jG (aa 14 607) 1 rfl (bP rfl rfl rfl rfl) ?_);(refine jG (aa 14 639) 5 rfl (aj rfl rfl aS rfl rfl) ?_);(refine jG (aa 14 767) 7 rfl (aX rfl rfl rfl) ?_);((refine jG (aa 14 1023) 8 rfl (dz rfl rfl (gG aS) aS rfl) ?_));(refine jG (aa 14 3071) 11 rfl (bP rfl rfl rfl rfl) ?_);refine jA 10 rfl ?_;(refine ae rfl rfl rfl cx_fld rfl ?_);refine jK (aa 14 4095) ?_;refine jA 12 rfl ?_;(refine an rfl rfl rfl cx_put rfl ?_;rintro _ G hle ⟨cz,rfl,hrz⟩;(have hg0:=hg0.trans hle);(have hS:=hS.mono hle);(have hr:=bE hle hr);(try have hrv:=bE hle hrv);(try have hrz:=bE hle hrz));refine jK (aa 14 8191) ?_;refine jA 13 rfl ?_;(refine jC rfl rfl rfl ?_);refine jK (aa 14 16383) ?_;refine jQ ?_)
  all_goals repeat' (refine jR ?_)
  all_goals refine jZ (vs:=[_]) rfl ⟨aJ rfl rfl rfl rfl,trivial⟩ rfl ⟨hg0,rfl,?_⟩
  all_goals exact ⟨cz,rfl,hrz⟩
theorem oP {i : Nat} : ∀ {ks : List V} {cs : List VC} {j : Nat},V.reps G ks cs → ∀ {z : V} {cz : VC},V.rep G z cz → V.reps G (ks.set j z) (cs.set j cz)
 | [],cs,j,h,z,cz,hz=>by rw [V.reps] at h;subst h;exact (by rw [List.set_nil,List.set_nil,V.reps])
 | v :: r,cs,0,h,z,cz,hz=>by
  rw [V.reps] at h
  obtain ⟨c,cs',rfl,h1,h2⟩:=h
  rw [List.set_cons_zero,List.set_cons_zero,V.reps]
  exact ⟨cz,cs',rfl,hz,h2⟩
 | v :: r,cs,j + 1,h,z,cz,hz=>by
  rw [V.reps] at h
  obtain ⟨c,cs',rfl,h1,h2⟩:=h
  rw [List.set_cons_succ,List.set_cons_succ,V.reps]
  exact ⟨c,_,rfl,h1,oP (i:=i) h2 hz⟩
theorem t3 : ∀ cs : List VC,eg (ak bJ cs) = true
 | []=>rfl
 | c :: cs=>by rw [kK,oE,t3 cs];rfl
theorem qS {w0 i : Nat} {tg : Int} {ks : List V} (hw0 : (w0 = 91 ∧ i = n.toNat) ∨ ((w0 = 63 ∨ w0 = 85) ∧ i = 0)) (hi : i < ks.length) (hkl : ks.length ≤ 1000000) (hn : 0 ≤ n ∧ n ≤ 999999) (hp : aU G (.slice (some ⟨pb,po,none⟩) (n :: p).length pc) 1 (n :: p).length (ak cH (n :: p)))
  (hr : V.rep G (.nd w0 [] tg ks) c) (hpl : p.length ≤ 100)
  (cx_sty : bB adz 91 [Pt b 0,Ag (c5 k),Ag (bJ c),I n] G (fun r G'=>∃ c',r = Tu [Ag [S (sg k1),S (bs k1),S (nm k1)],Ag (bJ c'),Bo true] ∧ V.rep G' v1 c'))
  (ihz : ∀ {G2 : Gh} {c1 : VC},Gh.le G G2 → V.rep G2 v1 c1 → bB adz 58 [Pt b 0,Ag (c5 k1),Ag (bJ c1),.slice (some ⟨pb,lm po pc (Int.toNat 1) 1,none⟩) ((n :: p).length - Int.toNat 1) (pc - Int.toNat 1),Ag (bJ dy)] G2 (fun r G'=>∃ c',r = Ag (bJ c') ∧ V.rep G' z c')) :
  bB adz 58 [Pt b 0,Ag (c5 k),Ag (bJ c),.slice (some ⟨pb,po,none⟩) (n :: p).length pc,Ag (bJ dy)] G (fun r G'=>∃ c',r = Ag (bJ c') ∧ V.rep G' (.nd w0 [] tg (ks.set i z)) c'):=by
 obtain ⟨G0,rfl⟩ : ∃ G0,G0 = G:=⟨G,rfl⟩
 have hg0 : Gh.le G0 G0:=Gh.le.refl _
 obtain ⟨a,kc,cs,rfl,hw255,htg,h61,hcl,hsl,hrs⟩:=eT hr
 have e0 : bJ ⟨w0,[],tg,a,ks.length,kc⟩ = [U8 (w0 : Nat),S [],I tg,.slice a ks.length kc]:=rfl
 have e1 : bJ dy = [U8 (dy.what : Nat),S dy.text,I dy.tag,.slice dy.a dy.n dy.c]:=rfl
 have hpl0 : (n :: p).length = p.length + 1:=rfl
 have hti : ab (n :: p) (Int.toNat 0) = n:=rfl
 have hsx : b9 G0 pb po (ak cH (n :: p)):=by
  obtain ⟨b',o',c',e',hs'⟩:=hp.expl (by simp)
  simp only [Value.slice.injEq,Option.some.injEq,Addr.mk.injEq] at e'
  obtain ⟨⟨rfl,rfl,_⟩,_,rfl⟩:=e'
  exact hs'
 rw [hcl] at hsl
 have hal:=t3 cs
 have e2 : c5 k = [S (sg k),S (bs k),S (nm k)]:=rfl
 rw [e0,e2] at cx_sty ⊢
 rw [e1]
 rcases hw0 with ⟨rfl,hie⟩ | ⟨rfl | rfl,hie⟩
 all_goals
  refine jB [(0,_),(1,_),(2,_),(3,_),(4,_)] Tryz.func58 Tryz.ntmps58 fun B hok hB hW=>?_
  repeat' (first | refine jR ?_ | (refine jo ?_;first | refine jO fun _=>?_ | refine jL fun _=>?_ | refine jV (af rfl) ?_ | (refine jV (gf rfl rfl aS ?_ aS rfl rfl) ?_;focus omega) | refine bM rfl ?_ | refine jC rfl rfl rfl ?_ | refine jV (aN rfl rfl oM) ?_ | (refine an rfl rfl rfl cx_sty rfl ?_;rintro _ G hle ⟨cv,rfl,hrv⟩;(have hg0:=hg0.trans hle);(have hsl:=hsl.mono hle);(try have hrv:=bE hle hrv);(try have hrz:=bE hle hrz))) | refine ad rfl rfl ?_)
  rename_i y6 y7 y9 y10 y12 y13
  dsimp only [VC.sl]
  have cx_ch:=ihz hg0 hrv
  unfold c5 at cx_ch
  rw [show bJ cv = [U8 (cv.what : Nat),S cv.text,I cv.tag,.slice cv.a cv.n cv.c] from rfl,e1] at cx_ch
  (refine am (ao (id:=5) _ (fun _ h=>h) al ?_);refine jT 7 [0,3] (aa 9 9) ?_;(refine jG (aa 9 11) 1 rfl (bP rfl rfl rfl rfl) ?_);(refine jG (aa 9 15) 2 rfl (bP rfl rfl rfl rfl) ?_);(refine jG (aa 9 31) 4 rfl (pV rfl rfl oM) ?_);(refine jG (aa 9 63) 5 rfl (bP rfl rfl rfl rfl) ?_);refine b8 [6,7] kR dC ⟨?_,?_,trivial⟩;(focus (refine aO rfl rfl ?_;(refine an rfl rfl rfl cx_ch rfl ?_;rintro _ G hle ⟨cz,rfl,hrz⟩;(have hg0:=hg0.trans hle);(have hsl:=hsl.mono hle);(try have hrv:=bE hle hrv);(try have hrz:=bE hle hrz));refine jK (aa 9 127) ?_;refine jA 7 rfl ?_;(refine jL fun _=>?_);refine jK (aa 9 255) ?_;refine jA 8 rfl ?_;(refine jC rfl rfl rfl ?_);refine jK (aa 9 511) ?_;refine jQ ?_));rotate_left 1;(focus (refine aO rfl rfl ?_;(refine jL fun _=>?_);refine jK (aa 9 191) ?_;refine jA 6 rfl ?_;(refine an rfl rfl rfl cx_ch rfl ?_;rintro _ G hle ⟨cz,rfl,hrz⟩;(have hg0:=hg0.trans hle);(have hsl:=hsl.mono hle);(try have hrv:=bE hle hrv);(try have hrz:=bE hle hrz));refine jK (aa 9 255) ?_;refine jA 8 rfl ?_;(refine jC rfl rfl rfl ?_);refine jK (aa 9 511) ?_;refine jQ ?_));rotate_left 1)
  all_goals
   dsimp only [VC.sl]
   repeat' (first | refine jR ?_ | (refine jo ?_;refine aD rfl ?_) | refine ad rfl rfl ?_)
   (refine am (ao (id:=8) _ (fun _ h=>h) al ?_);refine jT 7 [0,2,4] (aa 10 21) ?_;(refine jG (aa 10 23) 1 rfl (aX rfl rfl rfl) ?_);(refine jG (aa 10 31) 3 rfl (aX rfl rfl rfl) ?_);(refine jG (aa 10 63) 5 rfl (aX rfl rfl rfl) ?_);refine b8 [6,8] kR dC ⟨?_,?_,trivial⟩;(focus (refine aO rfl rfl ?_;((refine xk rfl rfl aS rfl aS rfl rfl rfl rfl ?_ ?_ fun _ _=>?_;(focus omega);focus omega));refine jK (aa 10 127) ?_;(refine jG (aa 10 255) 7 rfl (ax rfl rfl) ?_);refine jA 8 rfl ?_;(refine jL fun _=>?_);refine jK (aa 10 511) ?_;refine jA 9 rfl ?_;(refine jC rfl rfl rfl ?_);refine jK (aa 10 1023) ?_;refine jQ ?_));rotate_left 1;(focus (refine aO rfl rfl ?_;(refine jL fun _=>?_);refine jK (aa 10 319) ?_;refine jA 6 rfl ?_;((refine xk rfl rfl aS rfl aS rfl rfl rfl rfl ?_ ?_ fun _ _=>?_;(focus omega);focus omega));refine jK (aa 10 383) ?_;(refine jG (aa 10 511) 7 rfl (ax rfl rfl) ?_);refine jA 9 rfl ?_;(refine jC rfl rfl rfl ?_);refine jK (aa 10 1023) ?_;refine jQ ?_));rotate_left 1)
   all_goals repeat' (first | refine jR ?_ | (refine jo ?_;first | refine aD rfl ?_ | refine bM rfl ?_ | refine jV (aN rfl rfl oM) ?_) | refine ac rfl rfl ?_ | refine ad rfl rfl ?_)
   all_goals refine jo ?_
   all_goals refine nE (f:=bJ) (c:=cz) (cs:=cs) (i:=i) rfl rfl rfl rfl rfl oM oM ?_
   all_goals repeat' (first | refine jR ?_ | (refine jo ?_;first | refine bM rfl ?_ | refine jC rfl rfl rfl ?_))
   all_goals
    rename_i u1 u2 u3 u4
    first | (refine Nx.sealS (v:=.slice (some ⟨u2,0,none⟩) ks.length u3) fun G5 hG5 hsl5=>?_;refine jZ (vs:=[_]) rfl ⟨aJ rfl rfl rfl rfl,trivial⟩ rfl ⟨(hg0.trans hG5),rfl,?_⟩;exact ⟨⟨_,[],tg,some ⟨u2,0,none⟩,ks.length,u3⟩,rfl,dS hw255 htg (fun h=>by rw [List.length_set];exact h61 h) (by rw [List.length_set]) (by rw [List.length_set,hcl];exact hsl5) (cS hG5 (oP (i:=0) (cS hg0 hrs) hrz))⟩) | (refine Nx.sealS (v:=.slice (some ⟨u3,0,none⟩) ks.length u4) fun G5 hG5 hsl5=>?_;refine jZ (vs:=[_]) rfl ⟨aJ rfl rfl rfl rfl,trivial⟩ rfl ⟨(hg0.trans hG5),rfl,?_⟩;exact ⟨⟨_,[],tg,some ⟨u3,0,none⟩,ks.length,u4⟩,rfl,dS hw255 htg (fun h=>by rw [List.length_set];exact h61 h) (by rw [List.length_set]) (by rw [List.length_set,hcl];exact hsl5) (cS hG5 (oP (i:=0) (cS hg0 hrs) hrz))⟩)
theorem rP (hw : SchW (aq qs)) : ∀ (p : List Int) {G : Gh} {pv : Value} {k : adA} {v y : V} {c dy : VC} {k' : adA} {v' : V},ScI G b qs → aU G pv 1 p.length (ak cH p) → (∀ n ∈ p,0 ≤ n ∧ n ≤ 999999) → p.length ≤ 8 → V.rep G v c → OfK (aq qs) k v → aB (aq qs) k = true → v.tot ≤ 400000 → bi (aq qs) k v p = some (k',v') → V.rep G y dy → OfK (aq qs) k' y → y.tot ≤ 40000 →
  bB adz 58 [Pt b 0,Ag (c5 k),Ag (bJ c),pv,Ag (bJ dy)] G (fun r G'=>∃ c',r = Ag (bJ c') ∧ V.rep G' (bH (aq qs) k v p y) c')
 | [],G,pv,k,v,y,c,dy,k',v',hS,hp,hpn,hpl,hr,ho,hki,htt,hf,hy,hoy,hyt=>by
  simp only [bi,Option.some.injEq,Prod.mk.injEq] at hf
  obtain ⟨rfl,rfl⟩:=hf
  obtain ⟨pa,pc,rfl⟩:=hp.sl
  have hl0 : ([] : List Int).length = 0:=rfl
  have e1 : bJ dy = [U8 (dy.what : Nat),S dy.text,I dy.tag,.slice dy.a dy.n dy.c]:=rfl
  have e3 : bJ c = [U8 (c.what : Nat),S c.text,I c.tag,.slice c.a c.n c.c]:=rfl
  have e2 : c5 k = [S (sg k),S (bs k),S (nm k)]:=rfl
  rw [bH,e1,e2,e3]
  refine jB [(0,_),(1,_),(2,_),(3,_),(4,_)] Tryz.func58 Tryz.ntmps58 fun B hok hB hW=>?_
  repeat' (first | refine jR ?_ | (refine jo ?_;first | refine jO fun _=>?_ | refine jL fun _=>?_ | refine jV (af rfl) ?_ | refine bM rfl ?_ | refine jC rfl rfl rfl ?_) | refine ac rfl rfl ?_)
  all_goals refine jZ (vs:=[_]) rfl ⟨aJ rfl rfl rfl rfl,trivial⟩ rfl ⟨Gh.le.refl _,rfl,?_⟩
  all_goals exact ⟨dy,rfl,hy⟩
 | n :: p,G,pv,k,v,y,c,dy,k',v',hS,hp,hpn,hpl,hr,ho,hki,htt,hf,hy,hoy,hyt=>by
  obtain ⟨pb,po,pc,rfl,_⟩:=hp.expl (by simp)
  have hn:=hpn n (by simp)
  have hpn2 : ∀ m ∈ p,0 ≤ m ∧ m ≤ 999999:=fun m hm=>hpn m (by simp [hm])
  have hpl2 : p.length ≤ 8:=by simp at hpl;omega
  unfold bi at hf
  cases hs : aE (aq qs) k v n with
  | none=>rw [hs] at hf;cases hf
  | some x =>
   rw [hs] at hf
   obtain ⟨k1,v1⟩:=x
   dsimp only at hf
   obtain ⟨g1,g2⟩:=cL hw ho hki hn.1 hs
   have g3:=jf hw ho hki hn.1 hs (N:=400000) htt oM
   have g4:=gP hw (y:=y) g1 g2 (fun m hm=>(hpn2 m hm).1) hf
   have cx_sty:=eh.yes (u5 hS hw hki ho hr hn oM) hs
   have hcut:=wR hp
   have ihz : ∀ {G2 : Gh} {c1 : VC},Gh.le G G2 → V.rep G2 v1 c1 → bB adz 58 [Pt b 0,Ag (c5 k1),Ag (bJ c1),.slice (some ⟨pb,lm po pc (Int.toNat 1) 1,none⟩) ((n :: p).length - Int.toNat 1) (pc - Int.toNat 1),Ag (bJ dy)] G2 (fun r G'=>∃ c',r = Ag (bJ c') ∧ V.rep G' (bH (aq qs) k1 v1 p y) c'):=fun hle hr1 =>
    rP hw p (hS.mono hle) (hcut.mono hle) hpn2 hpl2 hr1 g1 g2 g3 hf (bE hle hy) hoy hyt
   rw [dA hs]
   cases hrf : a8 (aq qs) k with
   | none =>
    obtain ⟨ch,kr,rfl⟩:=d7 hki
    by_cases hc : ch.toNat = 91 ∨ ch.toNat = 63
    ·have hst:=gm (ts:=aq qs) (c:=ch) (r:=kr) (v:=v) (n:=n) hc
     rw [hs] at hst
     by_cases hlt : n < ((v.kids.length : Nat) : Int)
     ·have htl:=di v.kids
      rcases dg ho oM with ⟨a1,_⟩ | ⟨a1,_⟩ | ⟨a1,_⟩ | ⟨a1,ks,a2,a3,rfl⟩ | ⟨a1,rfl | ⟨w,a3,rfl⟩⟩
      ·omega
      ·omega
      ·omega
      ·rw [V.kids] at hlt
       have e1 : ∀ z,cN (aq qs) (ch :: kr) (.nd 91 [] 0 ks) n z = .nd 91 [] 0 (ks.set n.toNat z):=fun z=>by
        unfold cN;rw [V.what,if_neg dC,if_pos rfl];rfl
       rw [e1]
       exact qS (.inl ⟨rfl,rfl⟩) oM oM hn hp hr oM cx_sty ihz
      ·simp [V.kids] at hlt;omega
      ·simp [V.kids] at hlt
       obtain rfl : n = 0:=oM
       have e1 : ∀ z,cN (aq qs) (ch :: kr) (.nd 63 [] 0 [w]) 0 z = .nd 63 [] 0 ([w].set 0 z):=fun z=>by
        unfold cN;rw [V.what,if_neg dC,if_neg dC];rfl
       rw [e1]
       exact qS (.inr ⟨.inl rfl,rfl⟩) (by simp) (by simp) hn hp hr oM cx_sty ihz
     ·rw [if_neg hlt] at hst;cases hst
    ·have hno : aE (aq qs) (ch :: kr) v n = none:=by
      rcases dX hki hc hrf with e | e | e
      all_goals (rw [e];exact iX dC dC dC)
     rw [hno] at hs;cases hs
   | some t =>
    have hst:=hX (v:=v) (n:=n) hrf
    rw [hs] at hst
    cases hg : ck t.fields n with
    | none=>rw [hg] at hst;cases hst
    | some f =>
     rw [hg] at hst
     dsimp only at hst
     by_cases h69 : t.sort = 69
     ·rw [if_pos h69] at hst;cases hst
     ·rw [if_neg h69] at hst
      by_cases h82 : t.sort = 82
      ·rw [if_pos h82] at hst
       simp only [Option.some.injEq,Prod.mk.injEq] at hst
       obtain ⟨rfl,rfl⟩:=hst
       rcases bL ho hrf with ⟨_,fs,rfl,a3,a4,a5,a6⟩ | ⟨a1,_⟩ | ⟨a1,_⟩
       ·have hfs9 : fs.length ≤ 90000:=by
         have h7:=di (fs.map aw)
         rw [bA] at htt
         have e1 : (fs.map aw).length = fs.length:=by simp
         omega
        have e1 : ∀ z,cN (aq qs) k (.nd 82 [] 0 (fs.map aw)) n z = .nd 82 [] 0 (dG (aq qs) f z (fs.map aw)):=fun z=>by
         unfold cN;rw [V.what,if_pos rfl,hrf]
         dsimp only
         rw [hg];rfl
        rw [e1]
        exact aav hS hw hki hrf h82 hg rfl (pA a6) hfs9 hn hp hr oM oM cx_sty ihz
       ·omega
       ·omega
      ·rw [if_neg h82] at hst
       by_cases htg : v.tag = n
       ·rw [if_pos htg] at hst
        rcases bL ho hrf with ⟨a1,_⟩ | ⟨a1,_⟩ | ⟨_,_,d,w,rfl,g4,g5⟩
        ·omega
        ·omega
        ·have e1 : ∀ z,cN (aq qs) k (.nd 85 [] d.tag [w]) n z = .nd 85 [] d.tag ([w].set 0 z):=fun z=>by
          unfold cN;rw [V.what,if_neg dC,if_neg dC];rfl
         rw [e1]
         exact qS (.inr ⟨.inr rfl,rfl⟩) (by simp) (by simp) hn hp hr oM cx_sty ihz
       ·rw [if_neg htg] at hst;cases hst
end
theorem sC {ts : List Ty} {f : Fld} {y : V} (h : y.out ≠ bT ts f) : ∀ {vs : List V},.nd 61 [] f.tag [y] ∈ dG ts f y vs
 | []=>by rw [eU];unfold nf;rw [if_neg h];simp
 | v :: vs=>by
  rw [dH]
  split
  ·exact List.mem_cons_of_mem _ (sC h)
  ·unfold nf;rw [if_neg h];simp
theorem xD {ts : List Ty} (hw : SchW ts) {k : adA} {v : V} (h : OfK ts k v) (hk : aB ts k = true) {n : Int} (hn : 0 ≤ n) {k1 : adA} {v1 : V} (e : aE ts k v n = some (k1,v1)) {y : V} (hy : 400 < y.out.length) : 400 < (cN ts k v n y).out.length:=by
 obtain ⟨c,r,rfl⟩:=d7 hk
 unfold aE at e
 dsimp only at e
 split at e
 ·rename_i hc
  split at e
  ·rename_i hlt
   rcases dg h oM with ⟨g1,_⟩ | ⟨g1,_⟩ | ⟨g1,_⟩ | ⟨g1,ks,g2,g3,rfl⟩ | ⟨g1,rfl | ⟨u,g3,rfl⟩⟩
   ·omega
   ·omega
   ·omega
   ·rw [V.kids] at hlt
    unfold cN
    rw [V.what,if_neg dC,if_pos rfl,V.kids]
    show 400 < (V.nd 91 [] 0 (ks.set n.toNat y)).out.length
    rw [rk]
    have hm : y ∈ ks.set n.toNat y:=List.mem_iff_getElem.2 ⟨n.toNat,by rw [List.length_set];omega,by simp⟩
    have:=kS (xs:=(ks.set n.toNat y).map V.out) (List.mem_map_of_mem (f:=V.out) hm)
    simp only [List.length_cons,List.length_append]
    omega
   ·simp [V.kids] at hlt;omega
   ·unfold cN
    rw [V.what,if_neg dC,if_neg dC]
    have e1 : V.out (.nd 63 [] 0 [y]) = 43 :: y.out:=by rw [V.out];simp [V.outs,aL,cW]
    show 400 < (V.nd 63 [] 0 [y]).out.length
    rw [e1,List.length_cons];omega
  ·cases e
 ·split at e
  ·cases e
  ·rename_i t hr
   have ht:=br hr
   split at e
   ·cases e
   ·rename_i f hf
    have hfm:=List.mem_of_find?_eq_some hf
    split at e
    ·cases e
    ·rename_i h69
     split at e
     ·rename_i h82
      rcases bL h hr with ⟨_,fs,rfl,g3,g4,_,_⟩ | ⟨g1,_⟩ | ⟨g1,_⟩
      ·have e1 : cN ts (c :: r) (.nd 82 [] 0 (fs.map aw)) n y = .nd 82 [] 0 (dG ts f y (fs.map aw)):=by
        unfold cN;rw [V.what,if_pos rfl,hr]
        dsimp only
        rw [hf];rfl
       have hst:=(iI (fh hw ht h69 hfm).2.1).2
       have hne : y.out ≠ bT ts f:=fun e=>by rw [e] at hy;omega
       have:=kS (xs:=(dG ts f y (fs.map aw)).map V.out) (List.mem_map_of_mem (f:=V.out) (sC hne))
       rw [gc] at this
       rw [e1,sK]
       simp only [List.length_cons,List.length_append] at this ⊢
       omega
      ·omega
      ·omega
     ·rename_i h82
      split at e
      ·rcases bL h hr with ⟨h1,_⟩ | ⟨h1,_⟩ | ⟨_,_,d,u,rfl,g4,g5⟩
       ·omega
       ·omega
       ·unfold cN
        rw [V.what,if_neg dC,if_neg dC]
        have e1 : V.out (.nd 85 [] d.tag [y]) = 60 :: (bI d.tag ++ 61 :: (y.out ++ [62])):=by rw [V.out];simp [V.outs,aL,cW]
        show 400 < (V.nd 85 [] d.tag [y]).out.length
        rw [e1]
        simp only [List.length_cons,List.length_append]
        omega
      ·cases e
theorem oA {ts : List Ty} (hw : SchW ts) : ∀ {p : List Int} {k : adA} {v y : V} {k' : adA} {v' : V},OfK ts k v → aB ts k = true → (∀ n ∈ p,0 ≤ n) → bi ts k v p = some (k',v') → 400 < y.out.length → 400 < (bH ts k v p y).out.length
 | [],k,v,y,k',v',h,hk,_,e,hy=>by rw [bH];exact hy
 | n :: p,k,v,y,k',v',h,hk,hp,e,hy=>by
  unfold bi at e
  cases hs : aE ts k v n with
  | none=>rw [hs] at e;cases e
  | some x =>
   rw [hs] at e
   obtain ⟨k1,v1⟩:=x
   have hn:=hp n (by simp)
   obtain ⟨h1,h2⟩:=cL hw h hk hn hs
   rw [dA hs]
   exact xD hw h hk hn hs (oA hw h1 h2 (fun m hm=>hp m (by simp [hm])) e hy)
theorem qh {s k w p x : adA} (h1 : s.length ≤ 1048576 ∧ k.length ≤ 1048576 ∧ w.length ≤ 1048576 ∧ p.length ≤ 1048576) (hx : x.length ≤ 1048576) : a9 adz 32 [S s,S k,S w,S p,S x] G (· = na (cF s k w p x)):=by
 unfold cF
 cases hg : cB s k w with
 | none =>
  rw [sG]
  have cx_gi0:=ph (G:=G) (s:=s) (k:=k) (w:=w) oM hg
  cases hpo : cG p with
  | none =>
   have cx_sp:=iZ h1.2.2.2 hpo
   refine jB (Post:=fun v G' L'=>G' = G ∧ L' = [] ∧ _) [(0,_),(1,_),(2,_),(3,_),(4,_)] Tryz.func32 Tryz.ntmps32 fun B hok hB hW=>?_
   repeat' (first | refine jR ?_ | (refine jo ?_;first | refine jL fun _=>?_ | refine jC rfl rfl rfl ?_ | refine aM rfl ?_ | (refine an rfl rfl rfl cx_gi0 rfl ?_;rintro _ G hle ⟨p1,a1,b1,c1,rfl⟩;skip) | (refine an rfl rfl rfl (cx_sp _) rfl ?_;rintro _ G hle ⟨sa,sc,sn,rfl,hsp⟩;skip)) | refine aF rfl rfl rfl ?_ | refine ac rfl rfl ?_)
   all_goals refine Nx.base hok hB ?_
   all_goals refine jY (vs:=[_,_]) ?_
   all_goals rfl
  | some q =>
   have cx_sp:=ip h1.2.2.2 hpo
   refine jB (Post:=fun v G' L'=>G' = G ∧ L' = [] ∧ _) [(0,_),(1,_),(2,_),(3,_),(4,_)] Tryz.func32 Tryz.ntmps32 fun B hok hB hW=>?_
   repeat' (first | refine jR ?_ | (refine jo ?_;first | refine jL fun _=>?_ | refine jC rfl rfl rfl ?_ | refine aM rfl ?_ | (refine an rfl rfl rfl cx_gi0 rfl ?_;rintro _ G hle ⟨p1,a1,b1,c1,rfl⟩;skip) | (refine an rfl rfl rfl (cx_sp _) rfl ?_;rintro _ G hle ⟨sa,sc,sn,rfl,hsp⟩;skip)) | refine aF rfl rfl rfl ?_ | refine ac rfl rfl ?_)
   all_goals refine Nx.base hok hB ?_
   all_goals refine jY (vs:=[_,_]) ?_
   all_goals rfl
 | some u =>
  obtain ⟨ts,hs,hki,hvo,hto,hwf⟩:=cJ hg
  have cx_gi1:=pe (G:=G) (s:=s) (k:=k) (w:=w) oM hs hki hvo
  rw [hs]
  cases hpo : cG p with
  | none =>
   have cx_sp:=iZ h1.2.2.2 hpo
   refine jB (Post:=fun v G' L'=>G' = G ∧ L' = [] ∧ _) [(0,_),(1,_),(2,_),(3,_),(4,_)] Tryz.func32 Tryz.ntmps32 fun B hok hB hW=>?_
   repeat' (first | refine jR ?_ | (refine jo ?_;first | refine jL fun _=>?_ | refine jC rfl rfl rfl ?_ | refine aC rfl ?_ | (refine an rfl rfl rfl cx_gi1 rfl ?_;rintro _ G hle ⟨bg,qg,cv,rfl,hTg,hRg,hrv⟩;skip) | (refine an rfl rfl rfl (cx_sp _) rfl ?_;rintro _ G hle ⟨sa,sc,sn,rfl,hsp⟩;skip)) | refine ar rfl rfl rfl ?_ | refine ac rfl rfl ?_)
   all_goals refine Nx.base hok hB ?_
   all_goals refine jY (vs:=[_,_]) ?_
   all_goals rfl
  | some q =>
   have cx_sp:=ip h1.2.2.2 hpo
   obtain ⟨hq8,hqn⟩:=kN hpo
   have hof:=cQ hvo
   have hw:=cY hs
   have hqn0 : ∀ n ∈ q,0 ≤ n:=fun n hn=>(hqn n hn).1
   dsimp only
   cases hfo : bi ts k u q with
   | none =>
    dsimp only
    refine jB (Post:=fun v G' L'=>G' = G ∧ L' = [] ∧ _) [(0,_),(1,_),(2,_),(3,_),(4,_)] Tryz.func32 Tryz.ntmps32 fun B hok hB hW=>?_
    repeat' (first | refine jR ?_ | (refine jo ?_;first | refine jL fun _=>?_ | refine jC rfl rfl rfl ?_ | refine aC rfl ?_ | refine bM rfl ?_ | (refine an rfl rfl rfl cx_gi1 rfl ?_;rintro _ G hle ⟨bg,qg,cv,rfl,hTg,hRg,hrv⟩;(try have hru:=bE hle hru);(try have hRg:=ScI.mono hRg hle);(try have hsp:=aU.mono hsp hle)) | (refine an rfl rfl rfl (cx_sp _) rfl ?_;rintro _ G hle ⟨sa,sc,sn,rfl,hsp⟩;(try have hru:=bE hle hru);(try have hRg:=ScI.mono hRg hle);(try have hsp:=aU.mono hsp hle))) | refine ar rfl rfl rfl ?_ | refine ad rfl rfl ?_)
    obtain ⟨rfl,hsp⟩:=hsp
    subst hTg
    have hru:=bE hle hrv
    have hfl:=k3 hRg hw hsp hqn oM hru hof hki oM
    unfold c5 at hfl
    rw [show bJ cv = [U8 (cv.what : Nat),S cv.text,I cv.tag,.slice cv.a cv.n cv.c] from rfl] at hfl
    have cx_fon:=eh.no hfl hfo
    repeat' (first | refine jR ?_ | (refine jo ?_;first | refine jL fun _=>?_ | refine jC rfl rfl rfl ?_ | (refine an rfl rfl rfl cx_fon rfl ?_;rintro _ G hle rfl;(try have hru:=bE hle hru);(try have hRg:=ScI.mono hRg hle);(try have hsp:=aU.mono hsp hle))) | refine ac rfl rfl ?_)
    all_goals refine Nx.base hok hB ?_
    all_goals refine jY (vs:=[_,_]) ?_
    all_goals rfl
   | some y =>
    obtain ⟨k1,v1⟩:=y
    obtain ⟨_,hk1⟩:=gI hw hof hki hqn0 hfo
    dsimp only
    cases hvx : ce ts k1 x with
    | none =>
     suffices key : a9 adz 32 [S s,S k,S w,S p,S x] G (· = na none) by
      rcases hrd : rd ts 12 k1 x with _ | ⟨y,_ | _⟩
      ·exact key
      ·have hxl : ¬ x.length ≤ 400:=fun hl=>by
        unfold ce at hvx
        rw [if_pos hl,hrd] at hvx
        cases hvx
       have hyo:=m4 _ _ _ _ hrd
       dsimp only at hyo
       rw [List.append_nil] at hyo
       have:=oA hw (y:=y) hof hki hqn0 hfo (by rw [← hyo];omega)
       dsimp only
       rw [if_neg (fun h=>by omega)]
       exact key
      ·exact key
     refine jB (Post:=fun v G' L'=>G' = G ∧ L' = [] ∧ _) [(0,_),(1,_),(2,_),(3,_),(4,_)] Tryz.func32 Tryz.ntmps32 fun B hok hB hW=>?_
     repeat' (first | refine jR ?_ | (refine jo ?_;first | refine jL fun _=>?_ | refine jC rfl rfl rfl ?_ | refine aC rfl ?_ | refine bM rfl ?_ | (refine an rfl rfl rfl cx_gi1 rfl ?_;rintro _ G hle ⟨bg,qg,cv,rfl,hTg,hRg,hrv⟩;(try have hru:=bE hle hru);(try have hRg:=ScI.mono hRg hle);(try have hsp:=aU.mono hsp hle)) | (refine an rfl rfl rfl (cx_sp _) rfl ?_;rintro _ G hle ⟨sa,sc,sn,rfl,hsp⟩;(try have hru:=bE hle hru);(try have hRg:=ScI.mono hRg hle);(try have hsp:=aU.mono hsp hle))) | refine ar rfl rfl rfl ?_ | refine ad rfl rfl ?_)
     obtain ⟨rfl,hsp⟩:=hsp
     subst hTg
     have hru:=bE hle hrv
     have hfl:=k3 hRg hw hsp hqn oM hru hof hki oM
     unfold c5 at hfl
     rw [show bJ cv = [U8 (cv.what : Nat),S cv.text,I cv.tag,.slice cv.a cv.n cv.c] from rfl] at hfl
     have cx_foy:=eh.yes hfl hfo
     repeat' (first | refine jR ?_ | (refine jo ?_;first | refine jL fun _=>?_ | refine jC rfl rfl rfl ?_ | refine bM rfl ?_ | (refine an rfl rfl rfl cx_foy rfl ?_;rintro _ G hle ⟨cv,rfl,hrv⟩;(try have hru:=bE hle hru);(try have hRg:=ScI.mono hRg hle);(try have hsp:=aU.mono hsp hle))) | refine ad rfl rfl ?_)
     have cx_rin : bB adz 57 [Pt bg 0,Ag [S (sg k1),S (bs k1),S (nm k1)],S x] G (fun v _=>v = Tu [zP,Bo false]):=by
      refine (lF (G:=G) (b:=bg) (s:=x) hRg hw hk1 oM).mono ?_
      rintro v G' L' ⟨a1,a2,⟨_,a3⟩ | ⟨u',c',a4,_⟩⟩
      ·exact ⟨a1,a2,a3⟩
      ·rw [hvx] at a4;cases a4
     repeat' (first | refine jR ?_ | (refine jo ?_;first | refine jL fun _=>?_ | refine jC rfl rfl rfl ?_ | (refine an rfl rfl rfl cx_rin rfl ?_;rintro _ G hle rfl;(try have hru:=bE hle hru);(try have hRg:=ScI.mono hRg hle);(try have hsp:=aU.mono hsp hle))) | refine ac rfl rfl ?_)
     all_goals refine Nx.base hok hB ?_
     all_goals refine jY (vs:=[_,_]) ?_
     all_goals rfl
    | some y =>
     obtain ⟨hrd,hxl⟩:=iI hvx
     rw [hrd]
     dsimp only
     have hoy:=cQ hvx
     have hyt:=gt _ _ _ _ hrd
     dsimp only at hyt
     have hcg:=ew hw hof hki hqn0 hfo hoy
     have hct:=gP hw (y:=y) hof hki hqn0 hfo
     obtain ⟨o,ho⟩ : ∃ o,(if (bH ts k u q y).out.length ≤ 400 ∧ (bH ts k u q y).deep ≤ 12 then some (bH ts k u q y).out else none) = o:=⟨_,rfl⟩
     rw [ho]
     refine jB (Post:=fun v G' L'=>G' = G ∧ L' = [] ∧ _) [(0,_),(1,_),(2,_),(3,_),(4,_)] Tryz.func32 Tryz.ntmps32 fun B hok hB hW=>?_
     repeat' (first | refine jR ?_ | (refine jo ?_;first | refine jL fun _=>?_ | refine jC rfl rfl rfl ?_ | refine aC rfl ?_ | refine bM rfl ?_ | (refine an rfl rfl rfl cx_gi1 rfl ?_;rintro _ G hle ⟨bg,qg,cv,rfl,hTg,hRg,hrv⟩;(try have hru:=bE hle hru);(try have hRg:=ScI.mono hRg hle);(try have hsp:=aU.mono hsp hle)) | (refine an rfl rfl rfl (cx_sp _) rfl ?_;rintro _ G hle ⟨sa,sc,sn,rfl,hsp⟩;(try have hru:=bE hle hru);(try have hRg:=ScI.mono hRg hle);(try have hsp:=aU.mono hsp hle))) | refine ar rfl rfl rfl ?_ | refine ad rfl rfl ?_)
     obtain ⟨rfl,hsp⟩:=hsp
     subst hTg
     have hru:=bE hle hrv
     have hfl:=k3 hRg hw hsp hqn oM hru hof hki oM
     unfold c5 at hfl
     rw [show bJ cv = [U8 (cv.what : Nat),S cv.text,I cv.tag,.slice cv.a cv.n cv.c] from rfl] at hfl
     have cx_foy:=eh.yes hfl hfo
     repeat' (first | refine jR ?_ | (refine jo ?_;first | refine jL fun _=>?_ | refine jC rfl rfl rfl ?_ | refine bM rfl ?_ | (refine an rfl rfl rfl cx_foy rfl ?_;rintro _ G hle ⟨cv,rfl,hrv⟩;(try have hru:=bE hle hru);(try have hRg:=ScI.mono hRg hle);(try have hsp:=aU.mono hsp hle))) | refine ad rfl rfl ?_)
     have cx_ris : bB adz 57 [Pt bg 0,Ag [S (sg k1),S (bs k1),S (nm k1)],S x] G (fun v G'=>∃ cv,v = Tu [Ag (bJ cv),Bo true] ∧ V.rep G' y cv):=by
      refine (lF (G:=G) (b:=bg) (s:=x) hRg hw hk1 oM).mono ?_
      rintro v G' L' ⟨a1,a2,⟨a4,_⟩ | ⟨u',c',a4,rfl,a5⟩⟩
      ·rw [hvx] at a4;cases a4
      ·rw [hvx] at a4;obtain rfl:=Option.some.inj a4;exact ⟨a1,a2,c',rfl,a5⟩
     repeat' (first | refine jR ?_ | (refine jo ?_;first | refine jL fun _=>?_ | refine jC rfl rfl rfl ?_ | refine bM rfl ?_ | (refine an rfl rfl rfl cx_ris rfl ?_;rintro _ G hle ⟨cv,rfl,hrv⟩;(try have hru:=bE hle hru);(try have hRg:=ScI.mono hRg hle);(try have hsp:=aU.mono hsp hle))) | refine ad rfl rfl ?_)
     have cx_ch:=rP hw q hRg hsp hqn hq8 hru hof hki oM hfo hrv hoy oM
     simp only [c5,bJ,VC.sl] at cx_ch
     dsimp only [bJ,VC.sl]
     repeat' (first | refine jR ?_ | (refine jo ?_;first | refine jL fun _=>?_ | refine jC rfl rfl rfl ?_ | refine bM rfl ?_ | (refine an rfl rfl rfl cx_ch rfl ?_;rintro _ G hle ⟨cz,rfl,hrz⟩;(try have hru:=bE hle hru);(try have hRg:=ScI.mono hRg hle);(try have hsp:=aU.mono hsp hle))))
     have cx_fit:=abV hrz oM
     have cx_pr:=lG (G:=G) (c:=cz) _ (Nat.le_refl _) oM hrz
     simp only [bJ,VC.sl] at cx_fit cx_pr
     by_cases hfit : (bH (aq qg) k u q y).out.length ≤ 400 ∧ (bH (aq qg) k u q y).deep ≤ 12
     ·rw [if_pos hfit] at ho
      subst ho
      rw [decide_eq_true hfit] at cx_fit
      repeat' (first | refine jR ?_ | (refine jo ?_;first | refine bM rfl ?_ | refine ae rfl rfl rfl cx_fit rfl ?_ | refine ae rfl rfl rfl cx_pr rfl ?_) | refine ad rfl rfl ?_)
      all_goals refine Nx.base hok hB ?_
      all_goals refine jY (vs:=[_,_]) ?_
      all_goals rfl
     ·rw [if_neg hfit] at ho
      subst ho
      rw [decide_eq_false hfit] at cx_fit
      repeat' (first | refine jR ?_ | (refine jo ?_;refine ae rfl rfl rfl cx_fit rfl ?_) | refine ac rfl rfl ?_)
      all_goals refine Nx.base hok hB ?_
      all_goals refine jY (vs:=[_,_]) ?_
      all_goals rfl
def ee (s k : adA) : adA → List Ch → Option adA
 | w,[]=>some w
 | w,c :: r=>match cF s k w c.1 c.2 with
  | none=>none
  | some t=>ee s k t r
def jt (s k w : adA) (l : List Ch) : Option adA:=if kv s k w = true then ee s k w l else none
theorem nI {s k w : adA} {u : Value} {l : List Ch} (h : s.length ≤ 1048576 ∧ k.length ≤ 1048576 ∧ w.length ≤ 1048576) (hu : aU G u 2 l.length (ak dO l)) (hn : l.length ≤ 1048576) (hl : ∀ x ∈ l,vl x) :
  a9 adz 19 [S s,S k,S w,u] G (· = na (jt s k w l)):=by
 unfold jt
 have cx_o1:=qe (G:=G) h
 cases ho : kv s k w with
 | false =>
  rw [ho] at cx_o1
  rw [if_neg (by simp)]
  refine jE [(0,_),(1,_),(2,_),(3,_)] Tryz.func19 Tryz.ntmps19 fun B hB=>?_
  repeat' (first | refine jR ?_ | (refine jo ?_;refine ae rfl rfl rfl cx_o1 rfl ?_) | refine ac rfl rfl ?_)
  all_goals refine jY (vs:=[_,_]) ?_
  all_goals rfl
 | true =>
  rw [ho] at cx_o1
  rw [if_pos rfl]
  refine jE [(0,_),(1,_),(2,_),(3,_)] Tryz.func19 Tryz.ntmps19 fun B hB=>?_
  repeat' (first | refine jR ?_ | (refine jo ?_;first | refine jV (eM rfl aS) ?_ | refine ae rfl rfl rfl cx_o1 rfl ?_) | refine ad rfl rfl ?_)
  refine aT (ι:=Nat × adA) (fun j=>(j.1 ≤ l.length ∧ ee s k w l = ee s k j.2 (l.drop j.1)) ∧ j.2.length ≤ 1048576) (fun j=>[(0,S s),(1,S k),(2,S j.2),(18,u),(19,I (l.length : Nat)),(20,I (j.1 : Nat))]) (fun _=>G) (fun j=>[]) (fun j=>l.length - j.1) (0,w) ?_ tU rfl a7 (fun j Hj=>?_)
  ·exact ⟨⟨Nat.zero_le _,rfl⟩,h.2.2⟩
  obtain ⟨i,t⟩:=j
  dsimp only at Hj ⊢
  obtain ⟨⟨hj1,hj2⟩,hj3⟩:=Hj
  by_cases hi : i < l.length
  ·obtain ⟨ba,oa,ca,rfl,sa⟩:=hu.expl oM
   have hx:=hl _ (bc hi)
   have cx_ps1:=qh (G:=G) (s:=s) (k:=k) (w:=t) (p:=(ab l i).1) (x:=(ab l i).2) ⟨h.1,h.2.1,hj3,hx.1⟩ hx.2
   rw [fH hi,ee] at hj2
   unfold na at cx_ps1
   cases hp : cF s k t (ab l i).1 (ab l i).2 with
   | none =>
    rw [hp] at cx_ps1 hj2
    dsimp only [Option.getD,Option.isSome] at cx_ps1 hj2
    repeat' (first | refine jR ?_ | (refine jo ?_;first | refine jV (ag rfl rfl oM) ?_ | refine aD rfl ?_ | (refine jV (dt rfl rfl aS ?_) ?_;focus omega) | refine jL fun _=>?_ | refine jC rfl rfl rfl ?_ | refine ae rfl rfl rfl cx_ps1 rfl ?_) | (refine ac rfl (by first | rfl | (refine decide_eq_true ?_;(omega))) ?_))
    all_goals refine jY (vs:=[_,_]) ?_
    all_goals (rw [hj2];all_goals rfl)
   | some z =>
    have hz:=(lu hp).2
    rw [hp] at cx_ps1 hj2
    dsimp only [Option.getD,Option.isSome] at cx_ps1 hj2
    repeat' (first | refine jM ?_ | (refine jo ?_;first | refine jV (ag rfl rfl oM) ?_ | refine aD rfl ?_ | (refine jV (dt rfl rfl aS ?_) ?_;focus omega) | refine jL fun _=>?_ | refine jC rfl rfl rfl ?_ | refine ae rfl rfl rfl cx_ps1 rfl ?_) | refine ac rfl (ay oM) ?_ | refine ad rfl rfl ?_)
    exact bh (i + 1,z) ⟨⟨oM,hj2⟩,by dsimp only;omega⟩ (by dsimp only;omega) tU rfl (by repeat (exact List.nil_sublist _))
  ·have ei : i = l.length:=oM
   subst ei
   rw [List.drop_length,ee] at hj2
   repeat' (first | refine jR ?_ | refine ad rfl (aG oM) ?_)
   all_goals refine jY (vs:=[_,_]) ?_
   all_goals (rw [hj2];all_goals rfl)
theorem tB (s k : adA) : ∀ (a b : List Ch) (w : adA),ee s k w (a ++ b) = (ee s k w a).bind fun t=>ee s k t b
 | [],b,w=>rfl
 | c :: a,b,w=>by
  rw [List.cons_append,ee,ee]
  cases cF s k w c.1 c.2 with
  | none=>rfl
  | some t=>exact tB s k a b t
theorem uX {s k : adA} : ∀ {a : List Ch} {w z : adA},kv s k w = true → ee s k w a = some z → kv s k z = true
 | [],w,z,h,e=>by rw [ee] at e;cases e;exact h
 | c :: a,w,z,h,e=>by
  rw [ee] at e
  cases hp : cF s k w c.1 c.2 with
  | none=>rw [hp] at e;cases e
  | some t=>rw [hp] at e;exact uX (lu hp).1 e
theorem tA {s k : adA} {m : Nat} (hm : 400 ≤ m) : ∀ {a : List Ch} {w z : adA},w.length ≤ m → ee s k w a = some z → z.length ≤ m
 | [],w,z,h,e=>by rw [ee] at e;cases e;exact h
 | c :: a,w,z,h,e=>by
  rw [ee] at e
  cases hp : cF s k w c.1 c.2 with
  | none=>rw [hp] at e;cases e
  | some t=>rw [hp] at e;exact tA hm (Nat.le_trans (lu hp).2 hm) e
def c6 (s k : adA) : adA → List Ch → Option (List Ch)
 | _,[]=>some []
 | w,c :: r=>match cU s k w c.1 with
  | none=>none
  | some g=>match cF s k w c.1 c.2 with
   | none=>none
   | some t=>match c6 s k t r with
    | none=>none
    | some o=>some (o ++ [(c.1,g.2)])
theorem pk {s k : adA} : ∀ {l : List Ch} {w : adA} {o : List Ch},c6 s k w l = some o → ∃ z,ee s k w l = some z ∧ ee s k z o = some w ∧ o.length = l.length
 | [],w,o,h=>by rw [c6] at h;cases h;exact ⟨w,rfl,rfl,rfl⟩
 | c :: r,w,o,h=>by
  rw [c6] at h
  cases hg : cU s k w c.1 with
  | none=>rw [hg] at h;cases h
  | some g =>
   cases hp : cF s k w c.1 c.2 with
   | none=>rw [hg,hp] at h;cases h
   | some t =>
    cases hb : c6 s k t r with
    | none=>rw [hg,hp] at h;dsimp only at h;rw [hb] at h;cases h
    | some o1 =>
     rw [hg,hp] at h
     dsimp only at h
     rw [hb] at h
     cases h
     obtain ⟨z,h1,h2,h3⟩:=pk hb
     obtain ⟨k1,old,g1,g2,g3⟩:=xQ hp
     obtain rfl : g = (k1,old):=Option.some.inj (hg.symm.trans g1)
     refine ⟨z,by rw [ee,hp];exact h1,?_,by rw [List.length_append,h3];rfl⟩
     rw [tB,h2,Option.bind_some,ee]
     dsimp only
     rw [g3]
     rfl
theorem yh {s k w : adA} {l o : List Ch} (ho : kv s k w = true) (h : c6 s k w l = some o) : ∃ z,jt s k w l = some z ∧ jt s k z o = some w ∧ o.length = l.length:=by
 obtain ⟨z,h1,h2,h3⟩:=pk h
 exact ⟨z,by rw [jt,if_pos ho,h1],by rw [jt,if_pos (uX ho h1),h2],h3⟩
variable {ts : List Ty}
def eO (g : Int → Nat) : List Int → Nat
 | []=>0
 | i :: l=>g i + eO g l
theorem oN (g h : Int → Nat) : ∀ l,eO (fun i=>g i + h i) l = eO g l + eO h l
 | []=>rfl
 | i :: l=>by rw [eO,eO,eO,oN g h l];omega
theorem je {g : Int → Nat} : ∀ {l : List Int},(∀ i ∈ l,g i = 0) → eO g l = 0
 | [],_=>rfl
 | i :: l,h=>by rw [eO,h i (by simp),je fun j hj=>h j (by simp [hj])]
theorem lU {t : Int} {w : Nat} : ∀ {l : List Int},l.Pairwise (· < ·) → eO (fun i=>if t = i then w else 0) l ≤ w
 | [],_=>Nat.zero_le _
 | i :: l,h=>by
  replace h:=List.pairwise_cons.1 h
  rw [eO]
  by_cases e : t = i
  ·rw [if_pos e,je fun j hj=>if_neg (by have:=h.1 j hj;omega)]
   omega
  ·rw [if_neg e]
   have:=lU (t:=t) (w:=w) h.2
   omega
theorem sf (g : Int → Nat) : ∀ a b,eO g (a ++ b) = eO g a + eO g b
 | [],b=>by rw [List.nil_append,eO,Nat.zero_add]
 | i :: a,b=>by rw [List.cons_append,eO,eO,sf g a b];omega
theorem uQ {α : Type} {f : Int → List α} {g : Int → Nat} : ∀ {l : List Int},(∀ i ∈ l,(f i).length ≤ g i) → (l.flatMap f).length ≤ eO g l
 | [],_=>Nat.le_refl _
 | i :: l,h=>by
  rw [List.flatMap_cons,List.length_append,eO]
  have:=h i (by simp)
  have:=uQ (l:=l) fun j hj=>h j (List.mem_cons_of_mem _ hj)
  omega
def mJ : List V → Int → Nat
 | [],_=>0
 | v :: r,i=>(if v.tag = i then v.tot else 0) + mJ r i
theorem qn : ∀ (vs : List V) {l : List Int},l.Pairwise (· < ·) → eO (mJ vs) l ≤ V.tots vs
 | [],l,_=>by rw [je (g:=mJ []) fun i _=>rfl];exact Nat.zero_le _
 | v :: r,l,h=>by
  have e : mJ (v :: r) = fun i=>(if v.tag = i then v.tot else 0) + mJ r i:=by funext i;rfl
  rw [e,oN,V.tots]
  have:=lU (t:=v.tag) (w:=v.tot) h
  have:=qn r h
  omega
theorem rZ {f : Fld} : ∀ {vs : List V} {u : V},(∀ v ∈ vs,∃ p : Fld × V,v = aw p) → cq f vs = some u → u.tot ≤ mJ vs f.tag
 | [],_,_,h=>by cases h
 | v :: r,u,hp,h=>by
  rw [cq] at h
  rw [mJ]
  split at h
  ·rename_i e
   rw [if_pos e]
   obtain ⟨p,rfl⟩:=hp v (by simp)
   obtain rfl : p.2 = u:=Option.some.inj h
   rw [bA,V.tots,V.tots]
   omega
  ·have:=rZ (fun v hv=>hp v (by simp [hv])) h
   omega
theorem qo {n : Int} : ∀ {vs : List V},n ∈ vs.map V.tag → 1 ≤ mJ vs n
 | [],h=>by cases h
 | v :: r,h=>by
  rw [mJ]
  rcases List.mem_cons.1 h with h | h
  ·rw [if_pos h.symm];have:=hC v;omega
  ·have:=qo (n:=n) h;omega
theorem mS (ks : List V) : ∀ n,n ≤ ks.length → eO (fun i=>(ab ks i.toNat).tot) ((List.range n).map fun i : Nat=>(i : Int)) = V.tots (ks.take n)
 | 0,_=>rfl
 | n + 1,h=>by
  rw [List.range_succ,List.map_append,sf,mS ks n oM,co oM,dY]
  simp only [List.map_cons,List.map_nil,eO,V.tots,Int.toNat_natCast]
theorem mV {k : adA} {a b : V} (ha : OfK ts k a) {i : Int} (h : i ∈ be a b) : 0 ≤ i ∧ i ≤ 200:=by
 have hk : (a.what = 91 ∨ a.what = 63) → a.kids.length ≤ 20:=fun hwh=>by
  cases ha with
  | num=>rw [V.what] at hwh;omega
  | txt=>rw [V.what] at hwh;omega
  | flg=>rw [V.what] at hwh;omega
  | lst k ks h1 h2=>exact h1
  | non=>exact Nat.zero_le _
  | opt=>exact (by decide : (1 : Nat) ≤ 20)
  | recd=>rw [V.what] at hwh;omega
  | enm=>rw [V.what] at hwh;omega
  | uni=>rw [V.what] at hwh;omega
 unfold be at h
 split at h
 ·rename_i hwh
  obtain ⟨j,hj,rfl⟩:=List.mem_map.1 h
  have:=List.mem_range.1 hj
  have:=hk hwh
  omega
 ·obtain ⟨j,hj,rfl⟩:=List.mem_map.1 (List.mem_filter.1 h).1
  have:=List.mem_range.1 hj
  omega
theorem tr (hw : SchW ts) : ∀ {n : Nat} {k : adA} {a b : V} {q : List Int} {wa wb : Nat},OfK ts k a → OfK ts k b → aB ts k = true → (a.tot ≤ wa ∨ f6 ts k a) → (b.tot ≤ wb ∨ f6 ts k b) → 1 ≤ wa + wb → (cA ts n k a b q).length ≤ wa + wb
 | 0,_,_,_,_,_,_,_,_,_,_,_,_=>Nat.zero_le _
 | n + 1,k,a,b,q,wa,wb,ha,hb,hk,h1,h2,h3=>by
  rw [cA]
  split
  ·exact Nat.zero_le _
  rename_i hne
  split
  case isFalse=>exact h3
  rename_i hd
  obtain ⟨d1,_,_⟩:=iA hw ha hb hk hd
  have go : ∀ (ga gb : Int → Nat),(∀ i ∈ be a b,∀ k1 y z,aE ts k a i = some (k1,y) → aE ts k b i = some (k1,z) → (y.tot ≤ ga i ∨ f6 ts k1 y) ∧ (z.tot ≤ gb i ∨ f6 ts k1 z) ∧ 1 ≤ ga i + gb i) → eO ga (be a b) ≤ wa → eO gb (be a b) ≤ wb →
    ((be a b).flatMap fun i=>match aE ts k a i,aE ts k b i with
     | some y,some z=>cA ts n y.1 y.2 z.2 (q ++ [i])
     | _,_=>[]).length ≤ wa + wb:=fun ga gb hg s1 s2=>by
   have:=uQ (l:=be a b) (g:=fun i=>ga i + gb i) (f:=fun i=>match aE ts k a i,aE ts k b i with
     | some y,some z=>cA ts n y.1 y.2 z.2 (q ++ [i])
     | _,_=>[]) fun i hi=>by
    obtain ⟨k1,y,z,e1,e2⟩:=d1 i hi
    have hi0:=(mV ha hi).1
    obtain ⟨y1,y2⟩:=cL hw ha hk hi0 e1
    obtain ⟨z1,_⟩:=cL hw hb hk hi0 e2
    obtain ⟨g1,g2,g3⟩:=hg i hi k1 y z e1 e2
    rw [e1,e2]
    exact tr hw y1 z1 y2 g1 g2 g3
   rw [oN] at this
   omega
  obtain ⟨c,r,rfl⟩:=d7 hk
  by_cases hc : c.toNat = 91 ∨ c.toNat = 63
  ·have hs : ∀ v m,aE ts (c :: r) v m = if m < (v.kids.length : Nat) then some (r,ab v.kids m.toNat) else none:=fun v m=>by
    unfold aE
    dsimp only
    rw [if_pos hc]
   have hw2 : ∀ v,OfK ts (c :: r) v → v.what = 91 ∨ v.what = 63:=fun v hv=>by
    rcases dg hv oM with ⟨g1,_⟩ | ⟨g1,_⟩ | ⟨g1,_⟩ | ⟨g1,ks,_,_,rfl⟩ | ⟨g1,rfl | ⟨w,_,rfl⟩⟩
    ·omega
    ·omega
    ·omega
    ·exact Or.inl rfl
    ·exact Or.inr rfl
    ·exact Or.inr rfl
   have wa2:=hw2 a ha
   have wb2:=hw2 b hb
   have hd2:=hd
   unfold cR at hd2
   rw [if_neg oM,if_neg oM,if_pos wa2] at hd2
   have hl:=of_decide_eq_true hd2
   have big : ∀ (v : V) (w : Nat),OfK ts (c :: r) v → (v.what = 91 ∨ v.what = 63) → 0 < v.kids.length → (v.tot ≤ w ∨ f6 ts (c :: r) v) → V.tots v.kids ≤ w:=fun v w hv hwv hk hh=>by
    rcases hh with h | h
    ·obtain ⟨w1,x,t,ks⟩:=v
     rw [bA] at h
     rw [V.kids]
     omega
    ·rw [jv hw hv h oM] at hk
     cases hk
   have e : be a b = (List.range a.kids.length).map fun i : Nat=>(i : Int):=by unfold be;rw [if_pos wa2]
   refine go (fun i=>(ab a.kids i.toNat).tot) (fun i=>(ab b.kids i.toNat).tot) (fun i hi k1 y z e1 e2=>?_) ?_ ?_
   ·rw [hs] at e1 e2
    split at e1
    ·split at e2
     ·cases e1
      cases e2
      have:=hC (ab a.kids i.toNat)
      exact ⟨Or.inl (Nat.le_refl _),Or.inl (Nat.le_refl _),oM⟩
     ·cases e2
    ·cases e1
   ·rw [e,mS a.kids _ (Nat.le_refl _),List.take_length]
    exact big a wa ha wa2 hl.2 h1
   ·rw [e,mS b.kids _ oM,hl.1,List.take_length]
    exact big b wb hb wb2 oM h2
  ·cases hr : a8 ts (c :: r) with
   | none =>
    refine go (fun _=>0) (fun _=>0) (fun i hi k1 y z e1 e2=>?_) ?_ ?_
    ·unfold aE at e1
     dsimp only at e1
     rw [if_neg hc,hr] at e1
     cases e1
    ·rw [je fun _ _=>rfl];exact Nat.zero_le _
    ·rw [je fun _ _=>rfl];exact Nat.zero_le _
   | some t =>
    have ht:=br hr
    have htw:=hw.ty t ht
    rcases bL ha hr with ⟨a1,fs,rfl,a3,a4,a5,a6⟩ | ⟨a1,d,rfl,_⟩ | ⟨a1,a2,d,w,rfl,a4,a5⟩
    ·rcases bL hb hr with ⟨b1,gs,rfl,b3,b4,b5,b6⟩ | ⟨b1,_⟩ | ⟨b1,_⟩
     ·have hna : ¬ ((V.nd 82 [] 0 (fs.map aw)).what = 91 ∨ (V.nd 82 [] 0 (fs.map aw)).what = 63):=by rw [V.what];omega
      have big : ∀ (hs : List (Fld × V)) (w : Nat),OfK ts (c :: r) (.nd 82 [] 0 (hs.map aw)) → ((V.nd 82 [] 0 (hs.map aw)).tot ≤ w ∨ f6 ts (c :: r) (.nd 82 [] 0 (hs.map aw))) → V.tots (hs.map aw) ≤ w:=fun hs w ho hh=>by
       rcases hh with h | h
       ·rw [bA] at h;omega
       ·have:=jv hw ho h (by rw [V.what];decide)
        rw [V.kids] at this
        rw [this]
        exact Nat.zero_le _
      have told : ∀ (hs : List (Fld × V)) (f : Fld),f ∈ t.fields → (dP ts (.nd 82 [] 0 (hs.map aw)) f).tot ≤ mJ (hs.map aw) f.tag ∨ f6 ts f.kind (dP ts (.nd 82 [] 0 (hs.map aw)) f):=fun hs f hf=>by
       unfold dP
       rw [V.kids]
       cases e : cq f (hs.map aw) with
       | none=>exact Or.inr (sh hw ht oM hf)
       | some u =>
        exact Or.inl (rZ (fun v hv=>by obtain ⟨p,_,e⟩:=List.mem_map.1 hv;exact ⟨p,e.symm⟩) e)
      refine go (mJ (fs.map aw)) (mJ (gs.map aw)) (fun i hi k1 y z e1 e2=>?_) (Nat.le_trans (qn _ (kh _ _)) (big fs wa ha h1)) (Nat.le_trans (qn _ (kh _ _)) (big gs wb hb h2))
      cases hf : ck t.fields i with
      | none=>rw [gl hc hr hf] at e1;cases e1
      | some f =>
       have hfm:=List.mem_of_find?_eq_some hf
       have hft : f.tag = i:=by have:=List.find?_some hf;simpa using this
       rw [iK hc hr hf a1] at e1 e2
       cases e1
       cases e2
       have t1:=told fs f hfm
       have t2:=told gs f hfm
       rw [hft] at t1 t2
       refine ⟨t1,t2,?_⟩
       rcases lV hna hi with h | h
       ·have h : i ∈ (fs.map aw).map V.tag:=by
         unfold dM at h
         rw [V.what,if_pos rfl,V.kids] at h
         exact h
        have:=qo h
        omega
       ·have h : i ∈ (gs.map aw).map V.tag:=by
         unfold dM at h
         rw [V.what,if_pos rfl,V.kids] at h
         exact h
        have:=qo h
        omega
     ·omega
     ·omega
    ·unfold cR at hd
     rw [V.what,if_neg dC,if_neg dC,if_neg dC] at hd
     cases hd
    ·rcases bL hb hr with ⟨b1,_⟩ | ⟨b1,_⟩ | ⟨b1,b2,e,x,rfl,b4,b5⟩
     ·omega
     ·omega
     ·have hde : d.tag = e.tag:=by
       unfold cR at hd
       rw [V.what,if_neg dC,if_pos rfl] at hd
       exact of_decide_eq_true hd
      have hkid : ∀ (d : Fld) (w : V) (m : Nat),d ∈ t.fields → ((V.nd 85 [] d.tag [w]).tot ≤ m ∨ f6 ts (c :: r) (.nd 85 [] d.tag [w])) → w.tot ≤ m ∨ f6 ts d.kind w:=fun d w m hd h=>by
       rcases h with h | h | ⟨j,h⟩
       ·rw [bA,V.tots,V.tots] at h;exact Or.inl oM
       ·cases h
       ·obtain ⟨m,_,e2,e3,_⟩:=nO hw hr a1 a2 hd h
        exact Or.inr (Or.inr ⟨m,by rw [e3,e2];rfl⟩)
      refine go (fun i=>if d.tag = i then wa else 0) (fun i=>if e.tag = i then wb else 0) (fun i hi k1 y z e1 e2=>?_) (lU (kh _ _)) (lU (kh _ _))
      have sel : ∀ (d : Fld) (w : V),d ∈ t.fields → ∀ q,aE ts (c :: r) (.nd 85 [] d.tag [w]) i = some q → q = (d.kind,w) ∧ d.tag = i:=fun d w hd q hq=>by
       cases hf : ck t.fields i with
       | none=>rw [gl hc hr hf] at hq;cases hq
       | some f =>
        have hfm:=List.mem_of_find?_eq_some hf
        have hft : f.tag = i:=by have:=List.find?_some hf;simpa using this
        unfold aE at hq
        dsimp only at hq
        rw [if_neg hc,hr] at hq
        dsimp only at hq
        rw [hf] at hq
        dsimp only at hq
        rw [if_neg a2,if_neg a1] at hq
        split at hq
        ·rename_i htg
         obtain rfl:=gh htw hfm hd (by rw [hft];exact htg.symm)
         cases hq
         exact ⟨rfl,htg⟩
        ·cases hq
      obtain ⟨q1,q2⟩:=sel d w a4 _ e1
      obtain ⟨q3,q4⟩:=sel e x b4 _ e2
      cases q1
      injection q3 with q3 q5
      subst q5
      rw [if_pos q2,if_pos q4]
      refine ⟨hkid d w wa a4 h1,?_,h3⟩
      rw [q3]
      exact hkid e z wb b4 h2
theorem nV (hw : SchW ts) : ∀ {n : Nat} {k : adA} {a b : V} {q : List Int},OfK ts k a → OfK ts k b → aB ts k = true → (a.deep ≤ 12 ∧ a.out.length ≤ 400) → (b.deep ≤ 12 ∧ b.out.length ≤ 400) → (∀ m ∈ q,0 ≤ m ∧ m ≤ 999999) →
  ∀ c ∈ cA ts n k a b q,(∀ m ∈ c.1,0 ≤ m ∧ m ≤ 999999) ∧ c.1.length ≤ q.length + n ∧ c.2.out.length ≤ 400
 | 0,_,_,_,_,_,_,_,_,_,_,c,h=>by cases h
 | n + 1,k,a,b,q,ha,hb,hk,fa,fb,hq,c,h=>by
  rw [cA] at h
  split at h
  ·cases h
  ·split at h
   ·rename_i hd
    obtain ⟨i,hi,hc⟩:=List.mem_flatMap.1 h
    obtain ⟨k1,y,z,e1,e2⟩:=(iA hw ha hb hk hd).1 i hi
    have hi0:=mV ha hi
    obtain ⟨y1,y2⟩:=cL hw ha hk hi0.1 e1
    obtain ⟨z1,_⟩:=cL hw hb hk hi0.1 e2
    have fy:=io hw ha hk hi0.1 e1 fa.1 fa.2
    have fz:=io hw hb hk hi0.1 e2 fb.1 fb.2
    rw [e1,e2] at hc
    have hm : ∀ m ∈ q ++ [i],0 ≤ m ∧ m ≤ 999999:=fun m hm=>by
     rcases List.mem_append.1 hm with hm | hm
     ·exact hq m hm
     ·rw [List.mem_singleton.1 hm];omega
    obtain ⟨r1,r2,r3⟩:=nV hw y1 z1 y2 fy fz hm c hc
    refine ⟨r1,?_,r3⟩
    rw [List.length_append,List.length_singleton] at r2
    omega
   ·rw [List.mem_singleton.1 h]
    exact ⟨hq,Nat.le_add_right _ _,fb.2⟩
def e7 (c : List Int × V) : Ch:=(aR c.1,c.2.out)
theorem xY (hw : SchW ts) {s k : adA} {v u : V} (h1 : aV s = some ts) (hv : OfK ts k v) (h : cB s k v.out = some u) : u = v:=by
 obtain ⟨ts',g1,g2,g3,g4,g5⟩:=cJ h
 obtain rfl : ts = ts':=Option.some.inj (h1.symm.trans g1)
 exact iN hw (cQ g3) hv (eR g3).1
theorem tz (hw : SchW ts) {s k : adA} (h1 : aV s = some ts) (hk : aB ts k = true) : ∀ {ds : List (List Int × V)} {v : V} {z : adA},OfK ts k v → kw ts k v ds → (∀ d ∈ ds,∀ m ∈ d.1,0 ≤ m ∧ m ≤ 999999) → ee s k v.out (ds.map e7) = some z →
  z = (fu ts k v ds).out ∧ ∀ d ∈ ds,d.1.length ≤ 8
 | [],v,z,_,_,_,e=>by
  rw [List.map_nil,ee] at e
  exact ⟨(Option.some.inj e).symm,fun d hd=>by cases hd⟩
 | d :: r,v,z,hv,hd,hm,e=>by
  rw [List.map_cons,ee] at e
  cases hp : cF s k v.out (e7 d).1 (e7 d).2 with
  | none=>rw [hp] at e;cases e
  | some t =>
   rw [hp] at e
   dsimp only at e
   obtain ⟨ts',u,q,k1,v1,y,g1,g2,g3,g4,g5,g6,rfl⟩:=oR hp
   obtain rfl : ts = ts':=Option.some.inj (h1.symm.trans g1)
   obtain rfl:=xY hw h1 hv g2
   have hpo:=nh (hm d (by simp))
   have g3' : cG (aR d.1) = some q:=g3
   rw [hpo] at g3'
   split at g3'
   ·rename_i h8
    obtain rfl : d.1 = q:=Option.some.inj g3'
    obtain ⟨⟨⟨k',v',f1,f2⟩,f3⟩,f4⟩:=hd
    rw [g4] at f1
    cases f1
    have hy:=nQ _ _ _ _ g5
    have hyx:=m4 _ _ _ _ g5
    dsimp only at hy hyx
    rw [List.append_nil] at hyx
    obtain rfl:=iN hw f2 hy hyx
    have:=tz hw h1 hk (ew hw hv hk f3 g4 f2) f4 (fun x hx=>hm x (by simp [hx])) e
    refine ⟨this.1,fun x hx=>?_⟩
    rcases List.mem_cons.1 hx with rfl | hx
    ·exact h8
    ·exact this.2 x hx
   ·cases g3'
def fL (ts : List Ty) (k : adA) (a b : V) : List Ch:=(cA ts 13 k a b []).map e7
def ep (s k w t : adA) : Option (List Ch):=match aV s,cB s k w,cB s k t with
 | some ts,some a,some b=>if (fL ts k a b).length ≤ 30 ∧ (jt s k w (fL ts k a b)).isSome = true then some (fL ts k a b) else none
 | _,_,_=>none
theorem wU {s k w t : adA} {a b : V} (h1 : aV s = some ts) (ha : cB s k w = some a) (hb : cB s k t = some b) {z : adA} (h : jt s k w (fL ts k a b) = some z) : z = t ∧ ∀ d ∈ cA ts 13 k a b [],d.1.length ≤ 8:=by
 obtain ⟨ts',g1,g2,g3,g4,g5⟩:=cJ ha
 obtain rfl : ts = ts':=Option.some.inj (h1.symm.trans g1)
 obtain ⟨ts',i1,i2,i3,i4,i5⟩:=cJ hb
 obtain rfl : ts = ts':=Option.some.inj (h1.symm.trans i1)
 have hw:=cY h1
 have oa:=cQ g3
 have ob:=cQ i3
 obtain ⟨a1,a2,a3⟩:=eR g3
 obtain ⟨b1,b2,b3⟩:=eR i3
 have hl:=yP hw 12 oa ob g2 (Or.inl a3) (Or.inl b3)
 obtain ⟨e1,e2⟩:=tu hw oa ob g2 hl
 unfold jt at h
 split at h
 ·rw [← a1] at h
  have hin:=nV (n:=13) (q:=[]) hw oa ob g2 ⟨a3,by rw [a1];exact a2⟩ ⟨b3,by rw [b1];exact b2⟩ (fun m hm=>by cases hm)
  have:=tz hw h1 g2 oa e1 (fun d hd=>(hin d hd).1) h
  rw [e2,b1] at this
  exact this
 ·cases h
def gj (q : List Int) (v : V) : List adA:=v.leaves.map fun r=>aR (q ++ r)
def fk (q : List Int) (ks : List V) (w : Nat) (t : Int) : List adA:=(V.leavesS ks w t 0).map fun r=>aR (q ++ r)
theorem np {w : Nat} {t : Int} {v : V} : ∀ {ks : List V} {i : Nat},V.leavesS (ks ++ [v]) w t i = V.leavesS ks w t i ++ v.leaves.map (eJ w t (i + ks.length) v :: ·)
 | [],i=>by rw [List.nil_append,V.leavesS,V.leavesS,V.leavesS];simp
 | u :: ks,i=>by rw [List.cons_append,V.leavesS,V.leavesS,np,List.append_assoc,List.length_cons,show i + 1 + ks.length = i + (ks.length + 1) by omega]
theorem mc {q : List Int} {ks : List V} {v : V} {w : Nat} {t : Int} : fk q (ks ++ [v]) w t = fk q ks w t ++ gj (q ++ [eJ w t ks.length v]) v:=by
 unfold fk gj
 rw [np,List.map_append,List.map_map,Nat.zero_add]
 congr 1
 refine List.map_congr_left fun r _=>?_
 simp
theorem j4 {q : List Int} {w : Nat} {t : Int} : fk q [] w t = []:=by unfold fk;rw [V.leavesS];rfl
theorem oU {q : List Int} {w : Nat} {x : adA} {t : Int} (h : cX w true = true) : gj q (.nd w x t []) = [aR q]:=by
 unfold gj
 rw [V.leaves,if_pos (c:=cX w ([] : List V).isEmpty = true) h]
 simp
theorem pP {q : List Int} {w : Nat} {x : adA} {t : Int} {ks : List V} (h : cX w ks.isEmpty = false) (h61 : w ≠ 61) : gj q (.nd w x t ks) = fk q ks w t:=by
 unfold gj fk
 rw [V.leaves,if_neg (by rw [h];simp),if_neg h61]
theorem zE {q : List Int} {t : Int} {v : V} : gj q (.nd 61 [] t [v]) = gj q v:=by
 unfold gj
 rw [V.leaves,if_neg (by simp [cX]),if_pos rfl,V.leavesF,V.leavesF,List.append_nil]
theorem nU {q : List Int} {ks : List V} {w : Nat} {t : Int} : (fk q ks w t).length = V.sizes ks:=by unfold fk;rw [List.length_map,kl ks w t 0]
theorem uJ {q : List Int} {v : V} : (gj q v).length = v.size:=by unfold gj;rw [List.length_map,iY]
theorem m2 {w : Nat} {x : adA} {t : Int} (h : cX w true = true) : V.size (.nd w x t []) = 1:=by rw [V.size,if_pos (c:=cX w ([] : List V).isEmpty = true) h]
theorem gM (v : V) : ∀ (ks : List V),V.sizes (ks ++ [v]) = V.sizes ks + v.size
 | []=>by simp [V.sizes]
 | u :: r=>by simp only [List.cons_append,V.sizes,gM v r];omega
mutual
theorem mY : ∀ v : V,v.size ≤ v.tot
 | .nd w x t ks=>by
  have:=fj ks
  rw [V.size,V.tot];split <;> omega
theorem fj : ∀ ks : List V,V.sizes ks ≤ V.tots ks
 | []=>by simp [V.sizes]
 | v :: r=>by
  have:=mY v
  have:=fj r
  rw [V.sizes,V.tots];omega
end
theorem sJ {n : Int} : aR [n] = bI n:=rfl
theorem jg {q : List Int} {n : Int} (h : q ≠ []) : aR q ++ [47] ++ bI n = aR (q ++ [n]):=by
 rw [nb h (by simp),sJ];simp
theorem fW {q : List Int} : aR q = [] ↔ q = []:=⟨fun h=>by
 cases q with
 | nil=>rfl
 | cons n q=>exact absurd h (ou (by simp)),fun h=>by rw [h];rfl⟩
theorem dK : ∀ {q : List Int},(∀ n ∈ q,0 ≤ n ∧ n ≤ 999999) → (aR q).length ≤ 7 * q.length
 | [],_=>by simp [aR,aL]
 | [n],h=>by
  have:=gO (h n (by simp)).2
  rw [sJ];simp only [List.length_cons,List.length_nil];omega
 | n :: m :: q,h=>by
  have h1:=gO (h n (by simp)).2
  have h2:=dK (q:=m :: q) fun x hx=>h x (by simp [List.mem_cons] at hx ⊢;exact .inr hx)
  rw [gR (by simp)]
  simp only [List.length_append,List.length_cons] at h2 ⊢
  omega
theorem ll {q : List Int} {s : Int} (hq : ∀ n ∈ q,0 ≤ n ∧ n ≤ 999999) (h : 0 ≤ s ∧ s ≤ 999999) : ∀ n ∈ q ++ [s],0 ≤ n ∧ n ≤ 999999:=fun n hn=>by
 rcases List.mem_append.1 hn with hn | hn
 ·exact hq n hn
 ·simp only [List.mem_singleton] at hn;subst hn;exact h
end Go.E
