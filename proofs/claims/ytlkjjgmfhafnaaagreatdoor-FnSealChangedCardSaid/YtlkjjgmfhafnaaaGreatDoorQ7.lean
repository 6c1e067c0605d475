/- Contracts and plain laws that the statement rests on, part 7. Conditions: as each says. -/
import Derived.Test.YtlkjjgmfhafnaaaGreatDoorQ6
set_option linter.unusedVariables false
set_option linter.unusedSimpArgs false
namespace Go.E
set_option maxRecDepth 20000
set_option maxHeartbeats 2000000
open Go.Proofs
variable {G : Gh}
theorem abx {n r sc : Nat} {qs : List cI} {k s : act} {d : Int} (hd : d = 12 - (n : Int)) (hn : n ≤ 12) (hU : qq n sc qs) (hS : ScI G sc qs) (hk : aJ (ah qs) (63 :: k) = true) (hs : s.length ≤ 1000) :
  dt acs 92 [Pt r 0,Ag (eh (63 :: k))] G [bD r sc s false none 0 0 d] (j9 (rb (ah qs) (n + 1) (63 :: k)) r sc s false d):=by
 have hk2:=dx (.inr rfl) hk
 obtain ⟨e1,e2,e3,_⟩:=ja (c:=63) (k:=k) (.inr rfl)
 have hrd:=uW (ts:=ah qs) (n:=n) (k:=k) (s:=s)
 unfold eh
 rw [e1,e2,e3]
 have cx_sign:=@iW G 63 (sg k) (bs k) (nm k)
 have cx_pt:=@oS G 63 (sg k) (bs k) (nm k)
 cases hf : cq s with
 | none =>
  rw [hf] at hrd
  have cx_fl:=rY (G:=G) (r:=r) (sc:=sc) (n:=0) (c:=0) (s:=s) (b:=false) (a:=none) (d:=d + 1) (.inr hf) oM
  refine cm [(0,_),(1,_)] Tryz.func92 kR Tryz.ntmps92 F F tU fun B hok hB hW=>?_
  repeat' (first | refine jM ?_ | (refine jo ?_;first | refine jO fun _=>?_ | refine jL fun _=>?_ | refine ak F ?_ | refine jD F F F ?_ | refine jV (dg F F) ?_))
  rename_i x2 x3 x4
  refine jo ?_
  refine cn (fi:=[]) (ca:=[Pt x2 0]) (az:=[]) F F ?_
  repeat' (first | refine jR ?_ | (refine jo ?_;first | refine ak F ?_ | refine aV F ?_ | refine jC F F F ?_ | refine jV (am F F) ?_ | refine ab F F F cx_sign F ?_ | (refine ag F F F cx_fl F ?_;rintro _ _ ⟨q1,⟨rfl,hql⟩,rfl⟩;dsimp only [zA,fA])) | refine ac F F ?_ | (refine ad F (by first | rfl | (refine decide_eq_false ?_;(omega))) ?_))
  all_goals
   refine da (.inl F) F (cL (x0:=x2) (r:=r) (sc:=sc) (s:=q1) (b:=true) (a:=none) (n:=0) (c:=0) (d:=d + 1) oM) F ?_
   rintro v G' L' ⟨rfl,rfl⟩
   dsimp only [zA,fA]
   exact ⟨[_],[bD r sc q1 true none 0 0 (d + 1 - 1)],⟨aF F F F F,trivial⟩,sB,Gh.le.refl _,cK (c:=⟨63,[],0,none,0,0⟩) (bo dC dC) oM (fun _=>⟨F,F,F⟩) ⟨hql,fun h=>(by cases h),fun _=>.inr hrd⟩⟩
 | some y =>
  obtain ⟨x,q⟩:=y
  rw [hf] at hrd
  have hin:=eS hf
  have hl : s.length = q.length + 1:=by rw [hin];rfl
  have cx_fl:=rX (G:=G) (r:=r) (sc:=sc) (n:=0) (c:=0) (s:=s) (q:=q) (x:=x) (a:=none) (d:=d + 1) hf oM
  cases x with
  | false =>
   refine cm [(0,_),(1,_)] Tryz.func92 kR Tryz.ntmps92 F F tU fun B hok hB hW=>?_
   repeat' (first | refine jM ?_ | (refine jo ?_;first | refine jO fun _=>?_ | refine jL fun _=>?_ | refine ak F ?_ | refine jD F F F ?_ | refine jV (dg F F) ?_))
   rename_i x2 x3 x4
   refine jo ?_
   refine cn (fi:=[]) (ca:=[Pt x2 0]) (az:=[]) F F ?_
   repeat' (first | refine jR ?_ | (refine jo ?_;first | refine ak F ?_ | refine aV F ?_ | refine jC F F F ?_ | refine jV (am F F) ?_ | refine ab F F F cx_sign F ?_ | (refine ag F F F cx_fl F ?_;rintro _ _ ⟨rfl,rfl⟩;dsimp only [zA,fA])) | refine ac F F ?_ | (refine ad F (by first | rfl | (refine decide_eq_false ?_;(omega))) ?_))
   all_goals
    refine da (.inl F) F (cL (x0:=x2) (r:=r) (sc:=sc) (s:=q) (b:=false) (a:=none) (n:=0) (c:=0) (d:=d + 1) oM) F ?_
    rintro v G' L' ⟨rfl,rfl⟩
    dsimp only [zA,fA]
    exact ⟨[_],[bD r sc q false none 0 0 (d + 1 - 1)],⟨aF F F F F,trivial⟩,sB,Gh.le.refl _,cK (c:=⟨63,[],0,none,0,0⟩) (bo dC dC) oM (fun _=>⟨F,F,F⟩) ⟨oM,fun _=>⟨F,hrd⟩,fun h=>(by cases h)⟩⟩
  | true =>
   dsimp only at hrd
   have cx_vl:=we (r:=r) (d:=d + 1) oM oM (hU G r k q false hS hk2 oM)
   refine cm [(0,_),(1,_)] Tryz.func92 kR Tryz.ntmps92 F F tU fun B hok hB hW=>?_
   repeat' (first | refine jM ?_ | (refine jo ?_;first | refine jO fun _=>?_ | refine jL fun _=>?_ | refine ak F ?_ | refine jD F F F ?_ | refine jV (dg F F) ?_))
   rename_i x2 x3 x4
   refine jo ?_
   refine cn (fi:=[]) (ca:=[Pt x2 0]) (az:=[]) F F ?_
   repeat' (first | refine jR ?_ | (refine jo ?_;first | refine ak F ?_ | refine aV F ?_ | refine ab F F F cx_sign F ?_ | (refine ag F F F cx_fl F ?_;rintro _ _ ⟨rfl,rfl⟩;dsimp only [zA,fA])) | refine ac F F ?_ | (refine ad F (by first | rfl | (refine decide_eq_false ?_;(omega))) ?_))
   (refine aj (an (id:=21) [.blk x3 (.cells (List.toArray [S (63 :: sg k),S (bs k),S (nm k)]) qN (0,0)),.blk x2 (.cells (List.toArray [Pt r 0]) fk (0,0))] (by intro y hy;simp only [List.mem_cons,List.not_mem_nil,or_false] at hy ⊢;rcases hy with hy | hy <;> simp [hy]) ai ?_);(refine jG (aa 7 1) 0 F (aA F F F) ?_);(refine jG (aa 7 3) 1 F (bJ F F F F) ?_);refine jA 2 F ?_;(refine ab F F F cx_pt F ?_);refine jK (aa 7 7) ?_;refine jA 3 F ?_;(refine cU F F F cx_vl F ?_;rintro _ G1 _ hle ⟨u1,c1,t1,b1,rfl,hrep,rfl,hP⟩;dsimp only [zA,fA];skip);refine jK (aa 7 15) ?_;refine jA 4 F ?_;(refine jF fun _=>?_);refine jK (aa 7 31) ?_;(refine jG (aa 7 63) 5 F (am F F) ?_);refine jA 6 F ?_;(refine jC F F F ?_);refine jK (aa 7 127) ?_;refine jQ ?_)
   all_goals repeat' (refine jR ?_)
   rename_i y
   refine Nx.sealC (b:=y) fun G2 hG2 hsy=>?_
   have hsl : a8 G2 (.slice (some ⟨y,0,none⟩) 1 1) 4 ([c1] : List VC).length (aI b7 [c1]):=⟨rfl,.inr ⟨y,0,1,rfl,Nat.le_refl _,hsy⟩⟩
   obtain ⟨hQ1,hQ2,hQ3⟩:=kx hP
   refine da (.inl F) F (cL (x0:=x2) (r:=r) (sc:=sc) (s:=t1) (b:=b1) (a:=none) (n:=0) (c:=0) (d:=d + 1) oM) F ?_
   rintro v G' L' ⟨rfl,rfl⟩
   dsimp only [zA,fA]
   exact ⟨[_],[bD r sc t1 b1 none 0 0 (d + 1 - 1)],⟨aF F F F F,trivial⟩,sB,(hle.trans hG2),cK (c:=⟨63,[],0,some ⟨y,0,none⟩,1,1⟩) (cX (ks:=[u1]) dC dC (fun h=>absurd h dC) F hsl ⟨_,[],F,fY hG2 hrep,F⟩) oM (fun _=>⟨F,F,F⟩) ⟨oM,fun h=>⟨F,by rw [hrd,(hQ2 h).1];rfl⟩,fun h=>.inr (by rw [hrd,hQ3 h];rfl)⟩⟩
theorem abw {n r sc p : Nat} {qs : List cI} {t : Ty} {x s : act} {d : Int} (hd : d = 12 - (n : Int)) (hn : n ≤ 12) (hU : qq n sc qs) (hS : ScI G sc qs) (hW0 : SchW (ah qs)) (hkv : lF (gx qs) x = some (Pt p 0)) (hT : ir G p t) (hw : TyW t) (hkf : ∀ d ∈ t.fields,aJ (ah qs) d.kind = true) (hso : t.sort = 82) (hs : s.length ≤ 1000) :
  dt acs 92 [Pt r 0,Ag [S [],S [64],S x]] G [bD r sc s false none 0 0 d] (j9 (bS (ah qs) (rb (ah qs) n) t) r sc s false d):=by
 obtain ⟨u,m2,g1,g2,g3⟩:=hS.at'
 have hso' : (t.sort : Int) = 82:=oM
 have cx_sign:=@dz G [64] x
 have cx_rcd:=aau (G:=G) (r:=r) (s:=s) (d:=d + 1) oM hn hU hS hW0 hT hw hkf hs
 have hrd : bS (ah qs) (rb (ah qs) n) t = fun s=>(bH (ah qs) (rb (ah qs) n) t (s.length + 1) 0 s []).map fun x=>(.nd 82 [] 0 x.1,x.2):=by
  funext s
  unfold bS;rw [if_pos hso]
 rw [hrd]
 obtain ⟨fv,ln,h1,h2⟩:=hT
 refine cm [(0,_),(1,_)] Tryz.func92 kR Tryz.ntmps92 F F tU fun B hok hB hW=>?_
 repeat' (first | refine jM ?_ | (refine jo ?_;first | refine jO fun _=>?_ | refine jL fun _=>?_ | refine ak F ?_ | refine jD F F F ?_ | refine jV (dg F F) ?_))
 rename_i x2 x3 x4
 refine jo ?_
 refine cn (fi:=[]) (ca:=[Pt x2 0]) (az:=[]) F F ?_
 repeat' (first | refine jR ?_ | (refine jo ?_;first | refine ak F ?_ | refine aV F ?_ | refine ab F F F cx_sign F ?_) | (refine ad F (by first | rfl | (refine decide_eq_false ?_;(omega))) ?_))
 (refine aj (an (id:=34) _ (fun _ h=>h) ai ?_);refine jT 10 [7] (aa 11 128) ?_;(refine jG (aa 11 129) 0 F (aA F F F) ?_);refine jT 7 [1,2] (aa 11 135) ?_;(refine jG (aa 11 143) 3 F (aA F F F) ?_);refine jT 4 [4,5] (aa 11 191) ?_;(refine jG (aa 11 255) 6 F (aG F F aS F F) ?_);(refine jG (aa 11 511) 8 F (aA F F F) ?_);((refine jG (aa 11 1023) 9 F (cJ F F (eE aS) aS F) ?_));refine jT 0 [10] (aa 11 2047) ?_;refine jQ ?_)
 all_goals repeat' (first | refine jR ?_ | (refine jo ?_;first | refine ak F ?_ | refine jV (aG F F aS F F) ?_ | refine jC F F F ?_ | (refine cU F F F cx_rcd F ?_;rintro _ G1 _ hle ⟨u1,c1,t1,b1,a1,n1,k1,rfl,hrep,rfl,hsk,hP⟩;dsimp only [zA,fA];skip)) | refine ad F (ay oM) ?_)
 all_goals
  refine da (.inl F) F (cL (x0:=x2) (r:=r) (sc:=sc) (s:=t1) (b:=b1) (a:=a1) (n:=n1) (c:=k1) (d:=d + 1) oM) F ?_
  rintro v G' L' ⟨rfl,rfl⟩
  dsimp only [zA,fA]
  exact ⟨[_],[bD r sc t1 b1 a1 n1 k1 (d + 1 - 1)],⟨aF F F F F,trivial⟩,sB,hle,cK (c:=c1) hrep oM (fun h=>hsk oM) hP⟩
theorem abC {n r sc : Nat} {qs : List cI} {c : UInt8} {k s : act} {t : Ty} {d : Int} (h91 : ¬ (c.toNat = 91 ∨ c.toNat = 63)) (hd : d = 12 - (n : Int)) (hn : n ≤ 12) (hU : qq n sc qs) (hS : ScI G sc qs) (hw : SchW (ah qs)) (hk : aJ (ah qs) (c :: k) = true) (hrf : aX (ah qs) (c :: k) = some t) (hs : s.length ≤ 1000) :
  dt acs 92 [Pt r 0,Ag (eh (c :: k))] G [bD r sc s false none 0 0 d] (j9 (rb (ah qs) (n + 1) (c :: k)) r sc s false d):=by
 have hko:=c7 hk
 have hsg:=mA (r:=k) h91
 have hcs:=fw (r:=k) h91
 have hrn : (bE (bq (c :: k))).isSome = true:=by
  rw [hcs];unfold aX at hrf
  cases hx : bE (c :: k) with
  | none=>rw [hx] at hrf;cases hrf
  | some x=>rfl
 have hbs : bs (c :: k) = [64]:=(mK hko).2 hrn
 have hnm : bE (c :: k) = some (nm (c :: k)):=by
  unfold nm;rw [hcs] at hrn ⊢
  cases hx : bE (c :: k) with
  | none=>rw [hx] at hrn;cases hrn
  | some x=>rfl
 have hft : gB (ah qs) (nm (c :: k)) = some t:=by unfold aX at hrf;rw [hnm] at hrf;exact hrf
 have hkv:=gR qs (nm (c :: k))
 rw [← gV] at hft
 rcases hfq : eF qs (nm (c :: k)) with _ | ⟨p,t'⟩
 ·rw [hfq] at hft;cases hft
 rw [hfq] at hft hkv
 dsimp only [Option.map_some] at hft hkv
 have htt : t' = t:=Option.some.inj hft
 subst htt
 have hqm:=il hfq
 have htm:=b6 hrf
 have hW:=hw.ty t' htm
 have hT : ir G p t':=hS.ty _ hqm
 have hrd : rb (ah qs) (n + 1) (c :: k) = bS (ah qs) (rb (ah qs) n) t':=by
  funext s
  rw [rb];unfold ff
  dsimp only
  rw [if_neg (fun h=>h91 (.inl h)),if_neg (fun h=>h91 (.inr h)),hrf]
 unfold eh
 rw [hsg,hbs,hrd]
 rcases hW.sort with h | h | h
 ·exact abw hd hn hU hS hw hkv hT hW (fun d hd=>dQ hw htm oM hd) h hs
 ·exact abu hd hn hU hS hkv hT hW (fun d hd=>dQ hw htm oM hd) h hs
 ·exact abB hd hn hS hkv hT hW h hs
theorem o6 {sc : Nat} {qs : List cI} (hw : SchW (ah qs)) : ∀ n,n ≤ 13 → qq n sc qs
 | 0,_=>fun G r k s b _ _ hs=>tp (.inr rfl) hs oM
 | n + 1,hn=>fun G r k s b hS hk hs=>by
  have hU:=o6 (sc:=sc) hw n oM
  have ed : (13 : Int) - ((n + 1 : Nat) : Int) = 12 - (n : Int):=oM
  cases b with
  | true=>exact tp (.inl F) hs hn
  | false =>
   match k,hk with
   | [],hk=>cases hk
   | c :: k,hk =>
    by_cases h1 : c.toNat = 91
    ·obtain rfl:=bn h1 dC
     exact abz ed oM hU hS hk hs
    by_cases h2 : c.toNat = 63
    ·obtain rfl:=bn h2 dC
     exact abx ed oM hU hS hk hs
    have h91 : ¬ (c.toNat = 91 ∨ c.toNat = 63):=fun h=>by rcases h with h | h <;> omega
    cases hr : aX (ah qs) (c :: k) with
    | some t=>exact abC h91 ed oM hU hS hw hk hr hs
    | none =>
     rcases ew hk h91 hr with e | e | e
     ·rw [e] at hr ⊢;exact aby ed oM hr hs
     ·rw [e] at hr ⊢;exact abv ed oM hr hs
     ·rw [e] at hr ⊢;exact abA ed oM hr hs
theorem vT {v : V} {c : VC} (h : V.rep G v c) (ht : v.tot ≤ 1000000) : av acs 93 [Ag (b7 c)] G (· = Bo (decide (v.out.length ≤ 400 ∧ v.deep ≤ 12))):=by
 have cx_pr:=mI (G:=G) v.tot (Nat.le_refl _) ht h
 have cx_dp:=vV (G:=G) v.tot (Nat.le_refl _) ht h
 have hdl:=nC v
 obtain ⟨w,tx,tg,a,m,kc⟩:=c
 have e0 : b7 ⟨w,tx,tg,a,m,kc⟩ = [U8 (w : Nat),S tx,I tg,.slice a m kc]:=rfl
 rw [e0] at cx_pr cx_dp ⊢
 by_cases h1 : v.out.length ≤ 400
 ·by_cases h2 : v.deep ≤ 12
  ·rw [decide_eq_true (p:=v.out.length ≤ 400 ∧ v.deep ≤ 12) ⟨h1,h2⟩]
   refine jE [(0,_)] Tryz.func93 Tryz.ntmps93 fun B hB=>?_
   repeat' (first | refine jR ?_ | (refine jo ?_;first | refine jO fun _=>?_ | refine aV F ?_ | refine aE F ?_ | refine ab F F F cx_pr F ?_ | refine ab F F F cx_dp F ?_) | refine aw F F (ar oM) ?_)
   all_goals refine jY (vs:=[_]) ?_
   all_goals (rw [ax,decide_eq_true oM])
  ·rw [decide_eq_false (p:=v.out.length ≤ 400 ∧ v.deep ≤ 12) (fun h=>h2 h.2)]
   refine jE [(0,_)] Tryz.func93 Tryz.ntmps93 fun B hB=>?_
   repeat' (first | refine jR ?_ | (refine jo ?_;first | refine jO fun _=>?_ | refine aV F ?_ | refine aE F ?_ | refine ab F F F cx_pr F ?_ | refine ab F F F cx_dp F ?_) | refine aw F F (ar oM) ?_)
   all_goals refine jY (vs:=[_]) ?_
   all_goals (rw [ax,decide_eq_false oM])
 ·rw [decide_eq_false (p:=v.out.length ≤ 400 ∧ v.deep ≤ 12) (fun h=>h1 h.1)]
  refine jE [(0,_)] Tryz.func93 Tryz.ntmps93 fun B hB=>?_
  repeat' (first | refine jR ?_ | (refine jo ?_;first | refine jO fun _=>?_ | refine aV F ?_ | refine aq F ?_ | refine ab F F F cx_pr F ?_) | refine al F F (ay oM) ?_)
  all_goals refine jY (vs:=[_]) ?_
  all_goals rfl
theorem wX {sc : Nat} {qs : List cI} {k b : act} (hS : ScI G sc qs) (hw : SchW (ah qs)) (hk : aJ (ah qs) k = true) (hb : b.length ≤ 1048576) (hno : ¬ (b.length ≤ 600 ∧ ∃ v,cP (rb (ah qs) 13) k b = some v ∧ v.out.length ≤ 400 ∧ v.deep ≤ 12)) :
  bx acs 51 [Pt sc 0,Ag [S (sg k),S (bs k),S (nm k)],S b] G (fun v _=>∃ a n c,v = Tu [Ag [U8 (0 : Nat),S [],I 0,aH],.slice a n c,Bo false]):=by
 by_cases hl : b.length ≤ 600
 case neg =>
  refine jB [(0,_),(1,_),(2,_)] Tryz.func51 Tryz.ntmps51 fun B hok hB hW=>?_
  repeat' (first | refine jR ?_ | (refine jo ?_;first | refine jO fun _=>?_ | refine jL fun _=>?_ | refine jV (am F F) ?_ | refine jC F F F ?_) | refine ac F (ar oM) ?_)
  all_goals refine jZ (vs:=[_,_,_]) F ⟨aF F F F F,F,F,trivial⟩ F ⟨Gh.le.refl _,F,?_⟩
  all_goals exact ⟨_,_,_,F⟩
 refine jB [(0,_),(1,_),(2,_)] Tryz.func51 Tryz.ntmps51 fun B hok hB hW=>?_
 repeat' (first | refine jR ?_ | (refine jo ?_;first | refine jO fun _=>?_ | refine jL fun _=>?_ | refine jV (am F F) ?_ | refine aV F ?_) | refine ad F (ay oM) ?_)
 rename_i x4 x6 y
 have hv:=o6 (sc:=sc) hw 13 (Nat.le_refl _) G y k b false hS hk oM
 rw [show (13 : Int) - ((13 : Nat) : Int) = 0 from rfl] at hv
 refine jo ?_
 refine cU F F F hv F ?_
 rintro _ G1 _ hle ⟨u1,c1,t1,b1,a1,n1,k1,rfl,hrep,rfl,hsk,hP⟩
 dsimp only [zA,fA]
 obtain ⟨hQ1,hQ2,hQ3⟩:=kx hP
 clear hv hP
 cases b1 with
 | true =>
  repeat' (first | refine jR ?_ | (refine jo ?_;first | refine jL fun _=>?_ | refine jV (am F F) ?_ | refine jC F F F ?_ | refine ak F ?_ | refine aE F ?_) | refine aw F F F ?_ | refine ac F F ?_)
  all_goals refine jZ (vs:=[_,_,_]) F ⟨aF F F F F,F,F,trivial⟩ F ⟨hle,F,?_⟩
  all_goals exact ⟨_,_,_,F⟩
 | false =>
  obtain ⟨h1,h2,h3⟩:=hQ2 rfl
  cases t1 with
  | cons e t1 =>
   repeat' (first | refine jR ?_ | (refine jo ?_;first | refine jL fun _=>?_ | refine jV (am F F) ?_ | refine jC F F F ?_ | refine ak F ?_ | refine aE F ?_ | refine aq F ?_) | refine aw F F F ?_ | refine al F F F ?_ | refine ac F F ?_)
   all_goals refine jZ (vs:=[_,_,_]) F ⟨aF F F F F,F,F,trivial⟩ F ⟨hle,F,?_⟩
   all_goals exact ⟨_,_,_,F⟩
  | nil =>
   simp only [List.length_nil] at h2
   have hnf : ¬ (u1.out.length ≤ 400 ∧ u1.deep ≤ 12):=fun h=>hno ⟨hl,u1,fZ h1,h⟩
   have cx_fit:=vT hrep oM
   rw [decide_eq_false hnf] at cx_fit
   simp only [b7,VC.sl] at cx_fit
   dsimp only [b7,VC.sl]
   repeat' (first | refine jR ?_ | (refine jo ?_;first | refine jL fun _=>?_ | refine jV (am F F) ?_ | refine jC F F F ?_ | refine ak F ?_ | refine aV F ?_ | refine aq F ?_ | refine ab F F F cx_fit F ?_) | refine al F F F ?_ | refine ac F F ?_)
   all_goals refine jZ (vs:=[_,_,_]) F ⟨aF F F F F,F,F,trivial⟩ F ⟨hle,F,?_⟩
   all_goals exact ⟨_,_,_,F⟩
theorem wW {sc : Nat} {qs : List cI} {k b : act} {v : V} (hS : ScI G sc qs) (hw : SchW (ah qs)) (hk : aJ (ah qs) k = true) (hl : b.length ≤ 600) (hv : cP (rb (ah qs) 13) k b = some v) (ho : v.out.length ≤ 400) (hd : v.deep ≤ 12) :
  bx acs 51 [Pt sc 0,Ag [S (sg k),S (bs k),S (nm k)],S b] G (fun r G'=>∃ c a n k',r = Tu [Ag (b7 c),.slice a n k',Bo true] ∧ V.rep G' v c):=by
 have hin:=cN hv
 refine jB [(0,_),(1,_),(2,_)] Tryz.func51 Tryz.ntmps51 fun B hok hB hW=>?_
 repeat' (first | refine jR ?_ | (refine jo ?_;first | refine jO fun _=>?_ | refine jL fun _=>?_ | refine jV (am F F) ?_ | refine aV F ?_) | refine ad F (ay oM) ?_)
 rename_i x4 x6 y
 have hv2:=o6 (sc:=sc) hw 13 (Nat.le_refl _) G y k b false hS hk oM
 rw [show (13 : Int) - ((13 : Nat) : Int) = 0 from rfl] at hv2
 refine jo ?_
 refine cU F F F hv2 F ?_
 rintro _ G1 _ hle ⟨u1,c1,t1,b1,a1,n1,k1,rfl,hrep,rfl,hsk,hP⟩
 dsimp only [zA,fA]
 obtain ⟨hQ1,hQ2,hQ3⟩:=kx hP
 clear hv2 hP
 cases b1 with
 | true=>have:=hQ3 rfl;rw [hin] at this;cases this
 | false =>
  obtain ⟨h1,h2,h3⟩:=hQ2 rfl
  rw [hin] at h1
  simp only [Option.some.injEq,Prod.mk.injEq] at h1
  obtain ⟨rfl,rfl⟩:=h1
  simp only [List.length_nil] at h2
  have cx_fit:=vT hrep oM
  rw [decide_eq_true ⟨ho,hd⟩] at cx_fit
  simp only [b7,VC.sl] at cx_fit
  dsimp only [b7,VC.sl]
  repeat' (first | refine jR ?_ | (refine jo ?_;first | refine jL fun _=>?_ | refine jC F F F ?_ | refine ak F ?_ | refine aV F ?_ | refine aq F ?_ | refine ab F F F cx_fit F ?_) | refine al F F F ?_ | refine ad F F ?_ | (refine aj (dV (id:=7) (tt:=6) F ai ?_);refine jW 5 [1,2,3] (aa 8 14) ?_;(refine jG (aa 8 15) 0 F (bJ F F F F) ?_);(refine jG (aa 8 31) 4 F (aA F F F) ?_);refine jA 5 F ?_;(refine jC F F F ?_);refine jK (aa 8 63) ?_;refine jW 0 [6,7] (aa 8 255) ?_;refine jQ ?_))
  all_goals refine jZ (vs:=[_,_,_]) F ⟨aF F F F F,F,F,trivial⟩ F ⟨hle,F,?_⟩
  all_goals exact ⟨c1,_,_,_,F,hrep⟩
theorem zJ {s k b : act} (h : cz s k = false) : ix s k b = none:=by
 unfold ix
 unfold cz at h
 cases hs : aT s with
 | none=>rfl
 | some ts=>rw [hs] at h;dsimp only at h ⊢;rw [if_neg (by rw [h];simp)]
theorem m9 {s k b : act} (h : s.length ≤ 1048576 ∧ k.length ≤ 1048576 ∧ b.length ≤ 1048576) : av acs 19 [S s,S k,S b] G (· = iE ((ix s k b).map V.out)):=by
 by_cases hk : cz s k = true
 case neg =>
  have hk2 : cz s k = false:=by simpa using hk
  have cx_bo1 : ∀ G,bx acs 50 [S s,S k] G (fun v _=>∃ p a b c,v = Tu [p,Ag [S a,S b,S c],Bo false]):=fun G=>by
   refine (ml (G:=G) (s:=s) (k:=k) oM oM).mono ?_
   rintro v G' L' ⟨h1,h2,⟨h4,p,a,b,c,rfl⟩ | ⟨b,qs,rfl,h4,h5,h6⟩⟩
   ·exact ⟨h1,h2,p,a,b,c,F⟩
   ·unfold cz at hk;rw [h4] at hk;exact absurd h5 hk
  rw [zJ hk2]
  refine jB (Post:=fun v G' L'=>G' = G ∧ L' = [] ∧ _) [(0,_),(1,_),(2,_)] Tryz.func19 Tryz.ntmps19 fun B hok hB hW=>?_
  repeat' (first | refine jR ?_ | (refine jo ?_;first | refine jL fun _=>?_ | refine jC F F F ?_ | (refine aM F F F (cx_bo1 _) F ?_;rintro _ G hle ⟨p1,a1,b1,c1,rfl⟩;skip)) | refine ac F F ?_)
  all_goals refine Nx.base hok hB ?_
  all_goals refine jY (vs:=[_,_]) ?_
  all_goals rfl
 case pos =>
  obtain ⟨ts,hs,hki⟩ : ∃ ts,aT s = some ts ∧ aJ ts k = true:=by
   unfold cz at hk
   cases hs : aT s with
   | none=>rw [hs] at hk;cases hk
   | some ts=>rw [hs] at hk;exact ⟨ts,F,hk⟩
  have hw:=ci hs
  have cx_boa : ∀ G,bx acs 50 [S s,S k] G (fun v G'=>∃ b qs,v = Tu [Pt b 0,Ag [S (sg k),S (bs k),S (nm k)],Bo true] ∧ ah qs = ts ∧ ScI G' b qs):=fun G=>by
   refine (ml (G:=G) (s:=s) (k:=k) oM oM).mono ?_
   rintro v G' L' ⟨h1,h2,⟨h4,_⟩ | ⟨b,qs,rfl,h4,h5,h6⟩⟩
   ·rw [h4] at hk;cases hk
   ·rw [hs] at h4;exact ⟨h1,h2,b,qs,F,(Option.some.inj h4).symm,h6⟩
  cases hg : ix s k b with
  | none =>
   refine jB (Post:=fun v G' L'=>G' = G ∧ L' = [] ∧ _) [(0,_),(1,_),(2,_)] Tryz.func19 Tryz.ntmps19 fun B hok hB hW=>?_
   repeat' (first | refine jR ?_ | (refine jo ?_;first | refine jL fun _=>?_ | refine jC F F F ?_ | refine aV F ?_ | (refine aM F F F (cx_boa _) F ?_;rintro _ G hle ⟨ba,qa,rfl,hT1,hR1⟩;skip)) | refine ad F F ?_)
   subst hT1
   have cx_fb0:=wX (G:=G) (b:=b) hR1 hw hki oM (fun h=>by
    obtain ⟨a1,v,a2,a3⟩:=h
    unfold ix at hg
    rw [hs] at hg
    dsimp only at hg
    rw [if_pos ⟨hki,a1⟩,a2] at hg
    dsimp only at hg
    rw [if_pos a3] at hg
    cases hg)
   repeat' (first | refine jR ?_ | (refine jo ?_;first | refine jL fun _=>?_ | refine jC F F F ?_ | (refine aM F F F cx_fb0 F ?_;rintro _ G hle ⟨za,zn,zk,rfl⟩;skip)) | refine ac F F ?_)
   all_goals refine Nx.base hok hB ?_
   all_goals refine jY (vs:=[_,_]) ?_
   all_goals rfl
  | some v =>
   obtain ⟨ts',hs',_,hl,hr,ho,hd⟩:=pj hg
   obtain rfl : ts = ts':=by rw [hs] at hs';exact Option.some.inj hs'
   have htot:=i7 _ _ _ _ _ (cN hr)
   simp only [List.length_nil] at htot
   refine jB (Post:=fun v G' L'=>G' = G ∧ L' = [] ∧ _) [(0,_),(1,_),(2,_)] Tryz.func19 Tryz.ntmps19 fun B hok hB hW=>?_
   repeat' (first | refine jR ?_ | (refine jo ?_;first | refine jL fun _=>?_ | refine jC F F F ?_ | refine aV F ?_ | (refine aM F F F (cx_boa _) F ?_;rintro _ G hle ⟨ba,qa,rfl,hT1,hR1⟩;skip)) | refine ad F F ?_)
   subst hT1
   have cx_fb1:=wW (G:=G) (b:=b) hR1 hw hki hl hr ho hd
   clear hr
   unfold iE
   dsimp only [Option.map,Option.getD,Option.isSome]
   repeat' (first | refine jR ?_ | (refine jo ?_;first | refine jL fun _=>?_ | refine jC F F F ?_ | refine aV F ?_ | (refine aM F F F cx_fb1 F ?_;rintro _ G hle ⟨c1,za,zn,zk,rfl,hrep⟩;skip)) | refine ad F F ?_)
   have cx_pr:=mI (G:=G) v.tot (Nat.le_refl _) oM hrep
   simp only [b7,VC.sl] at cx_pr
   generalize v.out = vo at cx_pr ⊢
   repeat' (first | refine jR ?_ | (refine jo ?_;refine ab F F F cx_pr F ?_))
   all_goals refine Nx.base hok hB ?_
   all_goals refine jY (vs:=[_,_]) ?_
   all_goals rfl
theorem qz {s k b : act} (h : s.length ≤ 1048576 ∧ k.length ≤ 1048576 ∧ b.length ≤ 1048576) : av acs 32 [S s,S k,S b] G (· = Bo (cg s k b).isSome):=by
 have cx_bg1:=m9 (G:=G) h
 cases hg : ix s k b with
 | none =>
  rw [hg] at cx_bg1
  unfold iE at cx_bg1
  dsimp only [Option.map,Option.getD,Option.isSome] at cx_bg1
  rw [x9 hg]
  refine jE [(0,_),(1,_),(2,_)] Tryz.func32 Tryz.ntmps32 fun B hB=>?_
  repeat' (first | refine jR ?_ | (refine jo ?_;refine ab F F F cx_bg1 F ?_) | refine ac F F ?_)
  all_goals refine jY (vs:=[_]) ?_
  all_goals rfl
 | some v =>
  obtain ⟨ts,hs,hki,hl,hr,ho,hd⟩:=pj hg
  rw [hg] at cx_bg1
  unfold iE at cx_bg1
  dsimp only [Option.map,Option.getD,Option.isSome] at cx_bg1
  have hpb:=na hs hki (kT _ _ _ _ (cN hr)).1 hd ho
  have cx_bp1:=ku (G:=G) (s:=s) (k:=k) (w:=v.out) oM
  rw [hpb] at cx_bp1
  have hcn:=uf hg
  clear hg hpb hr
  generalize v.out = vo at cx_bg1 cx_bp1
  by_cases h6 : v.bys.length ≤ 600
  ·rw [if_pos h6] at cx_bp1
   dsimp only [Option.getD,Option.isSome] at cx_bp1
   have hres : (cg s k b).isSome = decide (v.bys = b):=by
    rw [hcn]
    by_cases h1 : v.bys = b
    ·rw [if_pos h1,decide_eq_true h1];rfl
    ·rw [if_neg h1,decide_eq_false h1];rfl
   rw [hres]
   clear hres hcn
   generalize v.bys = vb at cx_bp1 ⊢
   refine jE [(0,_),(1,_),(2,_)] Tryz.func32 Tryz.ntmps32 fun B hB=>?_
   repeat' (first | refine jR ?_ | (refine jo ?_;first | refine aE F ?_ | refine ab F F F cx_bg1 F ?_ | refine ab F F F cx_bp1 F ?_) | refine aw F F F ?_ | refine ad F F ?_)
   all_goals refine jY (vs:=[_]) ?_
   all_goals rfl
  ·rw [if_neg h6] at cx_bp1
   dsimp only [Option.getD,Option.isSome] at cx_bp1
   rw [if_neg (fun h1=>by rw [h1] at h6;exact h6 hl)] at hcn
   rw [hcn]
   refine jE [(0,_),(1,_),(2,_)] Tryz.func32 Tryz.ntmps32 fun B hB=>?_
   repeat' (first | refine jR ?_ | (refine jo ?_;first | refine aq F ?_ | refine ab F F F cx_bg1 F ?_ | refine ab F F F cx_bp1 F ?_) | refine al F F F ?_ | refine ad F F ?_)
   all_goals refine jY (vs:=[_]) ?_
   all_goals rfl
def bP (s k body w : act) (n : Nat) : Option V:=if n ≤ body.length ∧ body.drop (body.length - n) = aK (bz (w ++ body.take (body.length - n) ++ w)) then cg s k (body.take (body.length - n)) else none
def cB (s k x w : act) : Option V:=match dR x with
 | some body=>if 1 ≤ w.length ∧ w.length ≤ 20 then (match bP s k body w 1 with
  | some v=>some v
  | none=>bP s k body w 2) else none
 | none=>none
section
variable {s k x body w : act} {n : Nat} {v : V}
theorem xM (h : bj (body.drop (body.length - n)) = none) : bP s k body w n = none:=by
 unfold bP
 rw [if_neg]
 rintro ⟨_,e⟩
 have hr:=ch (w ++ body.take (body.length - n) ++ w)
 have:=fF (n:=bz (w ++ body.take (body.length - n) ++ w)) oM oM []
 rw [List.append_nil,← e,h] at this
 cases this
theorem sQ {m : Int} {r : act} (h : bj (body.drop (body.length - n)) = some (m,r)) (hn : r ≠ [] ∨ bz (w ++ body.take (body.length - n) ++ w) ≠ m) : bP s k body w n = none:=by
 unfold bP
 rw [if_neg]
 rintro ⟨_,e⟩
 have hr:=ch (w ++ body.take (body.length - n) ++ w)
 have:=fF (n:=bz (w ++ body.take (body.length - n) ++ w)) oM oM []
 rw [List.append_nil,← e,h] at this
 simp only [Option.some.injEq,Prod.mk.injEq] at this
 rcases hn with h1 | h1
 ·exact h1 this.2
 ·exact h1 this.1.symm
theorem qQ (h : cg s k (body.take (body.length - n)) = none) : bP s k body w n = none:=by
 unfold bP
 split
 ·exact h
 ·rfl
theorem zp {m : Int} (h : bj (body.drop (body.length - n)) = some (m,[])) (hs : bz (w ++ body.take (body.length - n) ++ w) = m) (hn : n ≤ body.length) (hc : cg s k (body.take (body.length - n)) = some v) : bP s k body w n = some v:=by
 unfold bP
 obtain ⟨_,_,e⟩:=cF h
 rw [if_pos ⟨hn,by rw [hs,e,List.append_nil]⟩,hc]
theorem kM (hj : dR x = some body) (hw : 1 ≤ w.length ∧ w.length ≤ 20) (h1 : 1 ≤ n) (hi : ∀ j,1 ≤ j → j < n → bP s k body w j = none) (h : bP s k body w n = some v) : cB s k x w = some v:=by
 unfold cB
 rw [hj]
 dsimp only
 rw [if_pos hw]
 obtain rfl | rfl | h3 : n = 1 ∨ n = 2 ∨ 3 ≤ n:=oM
 ·rw [h]
 ·rw [hi 1 oM oM];exact h
 ·exfalso
  unfold bP at h
  split at h
  ·rename_i hc
   have hr:=ch (w ++ body.take (body.length - n) ++ w)
   have h4:=zD (n:=bz (w ++ body.take (body.length - n) ++ w)) oM
   have h5:=congrArg List.length hc.2
   rw [List.length_drop] at h5
   omega
  ·cases h
theorem i3 (hj : dR x = some body) (hi : ∀ j,1 ≤ j → j ≤ 2 → bP s k body w j = none) : cB s k x w = none:=by
 unfold cB
 rw [hj]
 dsimp only
 split
 ·rw [hi 1 oM oM];exact hi 2 oM oM
 ·rfl
theorem uT (h : ¬ n ≤ body.length) : bP s k body w n = none:=by unfold bP;rw [if_neg fun h2=>h h2.1]
end
theorem iN {s k x w : act} (h : s.length ≤ 1048576 ∧ k.length ≤ 1048576 ∧ x.length ≤ 1048576 ∧ w.length ≤ 1048576) : av acs 10 [S s,S k,S x,S w] G (· = iE ((cB s k x w).map V.out)):=by
 have cx_jf:=sE (G:=G) (s:=x) oM
 unfold iE at cx_jf ⊢
 cases hj : dR x with
 | none =>
  rw [hj] at cx_jf
  dsimp only [Option.getD,Option.isSome] at cx_jf
  have hno : cB s k x w = none:=by unfold cB;rw [hj]
  rw [hno]
  by_cases hw : 1 ≤ w.length ∧ w.length ≤ 20
  all_goals
   refine jE [(0,_),(1,_),(2,_),(3,_)] Tryz.func10 Tryz.ntmps10 fun B hB=>?_
   repeat' (first | refine jR ?_ | (refine jo ?_;first | refine aE F ?_ | refine ab F F F cx_jf F ?_) | refine aw F F F ?_ | refine ac F F ?_)
  all_goals refine jY (vs:=[_,_]) ?_
  all_goals rfl
 | some body =>
  rw [hj] at cx_jf
  dsimp only [Option.getD,Option.isSome] at cx_jf
  have hbl:=nv hj
  by_cases hw : 1 ≤ w.length ∧ w.length ≤ 20
  case neg =>
   have hno : cB s k x w = none:=by unfold cB;rw [hj];dsimp only;rw [if_neg hw]
   rw [hno]
   refine jE [(0,_),(1,_),(2,_),(3,_)] Tryz.func10 Tryz.ntmps10 fun B hB=>?_
   repeat' (first | refine jR ?_ | (refine jo ?_;first | refine aq F ?_ | refine ab F F F cx_jf F ?_ | refine ab F F F (rW oM) F ?_) | refine al F F F ?_ | refine ac F F ?_)
   all_goals refine jY (vs:=[_,_]) ?_
   all_goals rfl
  refine jE [(0,_),(1,_),(2,_),(3,_)] Tryz.func10 Tryz.ntmps10 fun B hB=>?_
  repeat' (first | refine jR ?_ | (refine jo ?_;first | refine aq F ?_ | refine ab F F F cx_jf F ?_ | refine ab F F F (rV oM) F ?_) | refine al F F F ?_ | refine ad F F ?_)
  refine aR (ι:=Nat) (fun i=>(1 ≤ i ∧ i ≤ 4) ∧ ∀ j,1 ≤ j → j < i → bP s k body w j = none) (fun i=>[(0,S s),(1,S k),(3,S w),(10,S body),(12,I (i : Nat))]) (fun _=>G) (fun i=>[]) (fun i=>4 - i) 1 ?_ tU F aW (fun i Hi=>?_)
  ·exact ⟨oM,fun j h1 h2=>absurd h1 oM⟩
  obtain ⟨⟨hi1,hi4⟩,hI⟩:=Hi
  by_cases hi : i ≤ 3 ∧ i ≤ body.length
  case neg =>
   have hno : cB s k x w = none:=i3 hj fun j h1 h2=>by
    by_cases h3 : j < i
    ·exact hI j h1 h3
    ·exact uT oM
   rw [hno]
   by_cases h3 : i ≤ 3
   ·have h4 : ¬ i ≤ body.length:=fun h=>hi ⟨h3,h⟩
    repeat' (first | refine jR ?_ | (refine jo ?_;refine aE F ?_) | refine aw F F (ar oM) ?_ | refine ad F (ay oM) ?_)
    all_goals refine jY (vs:=[_,_]) ?_
    all_goals rfl
   ·repeat' (first | refine jR ?_ | (refine jo ?_;refine aq F ?_) | refine al F F (ay oM) ?_ | refine ad F F ?_)
    all_goals refine jY (vs:=[_,_]) ?_
    all_goals rfl
  obtain ⟨hi3,hil⟩:=hi
  have hbb : body.take ((body.length : Int) - (i : Int)).toNat = body.take (body.length - i):=by congr 1;omega
  have hb2 : (body.take (body.length - i)).length = body.length - i:=by rw [List.length_take];omega
  have htl : body.drop (body.take (body.length - i)).length = body.drop (body.length - i):=by rw [hb2]
  have hdl : (body.drop (body.length - i)).length = i:=by rw [List.length_drop];omega
  have hnext : bP s k body w i = none → ∀ j,1 ≤ j → j < i + 1 → bP s k body w j = none:=fun h0 j h1 h2=>by
   by_cases h3 : j < i
   ·exact hI j h1 h3
   ·have : j = i:=oM
    subst this;exact h0
  have cx_ng0:=mn (G:=G) (s:=body.drop (body.length - i)) oM
  have cx_bc1:=qz (G:=G) (s:=s) (k:=k) (b:=body.take (body.length - i)) oM
  cases hg : bj (body.drop (body.length - i)) with
  | none =>
   rw [hg] at cx_ng0
   have cx_ngi : av acs 31 [S (body.drop (body.length - i))] G (· = Tu [I 0,S [],Bo false]):=cx_ng0
   have hn:=hnext (xM hg)
   rw [← htl] at cx_ngi
   rw [← hbb] at cx_ngi cx_bc1 hb2
   clear hg cx_ng0 htl
   repeat' (first | refine jM ?_ | (refine jo ?_;first | refine aE F ?_ | refine ab F F F cx_ngi F ?_) | (refine aw F F (by first | rfl | (refine decide_eq_true ?_;(omega))) ?_) | (refine ac F (by first | rfl | (refine decide_eq_true ?_;(omega))) ?_))
   all_goals
    refine Nx.re (d:=12) (v':=I (i + 1 : Nat)) F (congrArg (Value.int .i64) oM) ?_
    exact aY (i + 1) ⟨oM,hn⟩ oM tU F aW
  | some z =>
   obtain ⟨m,r⟩:=z
   obtain ⟨hm0,hm1,_⟩:=cF hg
   rw [hg] at cx_ng0
   have cx_ngi : av acs 31 [S (body.drop (body.length - i))] G (· = Tu [I m,S r,Bo true]):=cx_ng0
   clear cx_ng0
   by_cases hr : r = []
   case neg =>
    have hn:=hnext (sQ hg (.inl hr))
    rw [← htl] at cx_ngi
    rw [← hbb] at cx_ngi cx_bc1 hb2
    clear hg htl
    repeat' (first | refine jM ?_ | (refine jo ?_;first | refine aE F ?_ | refine aq F ?_ | refine ab F F F cx_ngi F ?_) | (refine aw F F (by first | rfl | (refine decide_eq_true ?_;first | assumption | omega)) ?_) | refine al F F F ?_ | (refine ac F (by first | rfl | (refine decide_eq_true ?_;(omega))) ?_))
    all_goals
     refine Nx.re (d:=12) (v':=I (i + 1 : Nat)) F (congrArg (Value.int .i64) oM) ?_
     exact aY (i + 1) ⟨oM,hn⟩ oM tU F aW
   subst hr
   cases hc : cg s k (body.take (body.length - i)) with
   | none =>
    have hn:=hnext (qQ hc)
    rw [hc] at cx_bc1
    dsimp only [Option.isSome] at cx_bc1
    rw [← htl] at cx_ngi
    rw [← hbb] at cx_ngi cx_bc1 hb2
    clear hg htl hc
    repeat' (first | refine jM ?_ | (refine jo ?_;first | refine aE F ?_ | refine aq F ?_ | refine ab F F F cx_ngi F ?_ | refine ab F F F cx_bc1 F ?_) | (refine aw F F (by first | rfl | (refine decide_eq_true ?_;(omega))) ?_) | refine al F F F ?_ | (refine ac F (by first | rfl | (refine decide_eq_true ?_;(omega))) ?_))
    all_goals
     refine Nx.re (d:=12) (v':=I (i + 1 : Nat)) F (congrArg (Value.int .i64) oM) ?_
     exact aY (i + 1) ⟨oM,hn⟩ oM tU F aW
   | some v =>
    rw [hc] at cx_bc1
    dsimp only [Option.isSome] at cx_bc1
    have hwl : (w ++ body.take (body.length - i) ++ w).length ≤ 1000:=by simp only [List.length_append];omega
    by_cases hs : bz (w ++ body.take (body.length - i) ++ w) = m
    case neg =>
     have hn:=hnext (sQ hg (.inr hs))
     rw [← htl] at cx_ngi
     rw [← hbb] at cx_ngi cx_bc1 hb2 hwl hs
     clear hg htl hc
     repeat' (first | refine jX ?_ | (refine jo ?_;first | refine aE F ?_ | refine aq F ?_ | refine ab F F F cx_ngi F ?_ | refine ab F F F cx_bc1 F ?_ | refine ab F F F (qD oM) F ?_) | refine aw F F (ar oM) ?_ | refine al F F F ?_ | (refine ac F (by refine decide_eq_true ?_;first | assumption | omega) ?_))
     all_goals
      refine Nx.re (d:=12) (v':=I (i + 1 : Nat)) F (congrArg (Value.int .i64) oM) ?_
      exact aY (i + 1) ⟨oM,hn⟩ oM tU F aW
    have cx_bg1:=m9 (G:=G) (s:=s) (k:=k) (b:=body.take (body.length - i)) oM
    rw [oO hc] at cx_bg1
    unfold iE at cx_bg1
    dsimp only [Option.map,Option.getD,Option.isSome] at cx_bg1
    rw [kM hj hw hi1 hI (zp hg hs hil hc)]
    dsimp only [Option.map,Option.getD,Option.isSome]
    rw [← htl] at cx_ngi
    rw [← hbb] at cx_ngi cx_bc1 hb2 hwl hs cx_bg1
    clear hg htl hc hI hnext
    generalize v.out = vo at *
    repeat' (first | refine jX ?_ | (refine jo ?_;first | refine aE F ?_ | refine aq F ?_ | refine ab F F F cx_ngi F ?_ | refine ab F F F cx_bc1 F ?_ | refine ab F F F (qD oM) F ?_ | refine ab F F F cx_bg1 F ?_) | refine aw F F (ar oM) ?_ | refine al F F F ?_ | refine ac F (ar oM) ?_ | refine ad F (ay oM) ?_)
    all_goals refine jY (vs:=[_,_]) ?_
    all_goals rfl
theorem uC {s k x w : act} (h : s.length ≤ 1048576 ∧ k.length ≤ 1048576 ∧ x.length ≤ 1048576 ∧ w.length ≤ 1048576) : av acs 11 [S s,S k,S x,S w] G (· = iE ((cB s k x w).map V.out)):=by
 unfold iE
 cases hj : dR x with
 | none =>
  have hFG:=aaP (G:=G) (s:=x) oM hj
  have hno : cB s k x w = none:=by unfold cB;rw [hj]
  rw [hno]
  by_cases hw : 1 ≤ w.length ∧ w.length ≤ 20
  ·refine jE [(0,_),(1,_),(2,_),(3,_)] Tryz.func11 Tryz.ntmps11 fun B hB=>?_
   repeat' (refine jR ?_)
   refine jo ?_
   refine dq F F F hFG F ?_
   rintro _ _ ⟨ub,j1,t1,xs1,ok1,rfl,rfl,hbad⟩
   dsimp only [zA,fA]
   rcases hbad with rfl | h | h | h
   all_goals repeat' (first | refine jR ?_ | (refine jo ?_;first | refine aE F ?_ | refine aq F ?_ | refine jV (uh F) ?_) | (refine aw F F (by first | rfl | (refine decide_eq_true ?_;first | assumption | omega)) ?_) | refine dA F F (fun _=>?_) (fun _=>?_) | refine kq F F (fun _=>?_) (fun _=>?_) | refine ac F F ?_)
   all_goals refine jY (vs:=[_,_]) ?_
   all_goals rfl
  ·refine jE [(0,_),(1,_),(2,_),(3,_)] Tryz.func11 Tryz.ntmps11 fun B hB=>?_
   repeat' (refine jR ?_)
   refine jo ?_
   refine dq F F F hFG F ?_
   rintro _ _ ⟨ub,j1,t1,xs1,ok1,rfl,rfl,hbad⟩
   dsimp only [zA,fA]
   rcases hbad with rfl | h | h | h
   all_goals repeat' (first | refine jR ?_ | (refine jo ?_;first | refine aE F ?_ | refine aq F ?_ | refine jV (uh F) ?_) | (refine aw F F (by first | rfl | (refine decide_eq_true ?_;first | assumption | omega)) ?_) | refine dA F F (fun _=>?_) (fun _=>?_) | refine kq F F (fun _=>?_) (fun _=>?_) | refine ac F F ?_)
   all_goals refine jY (vs:=[_,_]) ?_
   all_goals rfl
 | some body =>
  have cx_FramesGet:=aaR (G:=G) hj
  have hbl:=nv hj
  by_cases hw : 1 ≤ w.length ∧ w.length ≤ 20
  case neg =>
   have hno : cB s k x w = none:=by unfold cB;rw [hj];dsimp only;rw [if_neg hw]
   rw [hno]
   refine jE [(0,_),(1,_),(2,_),(3,_)] Tryz.func11 Tryz.ntmps11 fun B hB=>?_
   repeat' (first | refine jR ?_ | (refine jo ?_;first | refine aq F ?_ | refine jV (ao F) ?_ | (refine dq F F F cx_FramesGet F ?_;rintro _ _ ⟨b,cap,rfl,rfl⟩;dsimp only [zA,fA]) | refine ab F F F (qp oM) F ?_) | refine al F F F ?_ | refine ac F F ?_)
   all_goals refine jY (vs:=[_,_]) ?_
   all_goals rfl
  refine jE [(0,_),(1,_),(2,_),(3,_)] Tryz.func11 Tryz.ntmps11 fun B hB=>?_
  repeat' (first | refine jR ?_ | (refine jo ?_;first | refine aq F ?_ | refine jV (ao F) ?_ | refine jV (aQ F F oM) ?_ | refine jV (hZ F F F) ?_ | (refine dq F F F cx_FramesGet F ?_;rintro _ _ ⟨b,cap,rfl,rfl⟩;dsimp only [zA,fA]) | refine ab F F F (qo oM) F ?_) | refine al F F F ?_ | refine ad F F ?_)
  refine aR (ι:=Nat) (fun i=>(1 ≤ i ∧ i ≤ 3) ∧ ∀ j,1 ≤ j → j < i → bP s k body w j = none) (fun i=>[(0,S s),(1,S k),(3,S w),(14,S body),(15,I (i : Nat))]) (fun _=>G) (fun i=>[]) (fun i=>3 - i) 1 ?_ tU F (by repeat (exact List.nil_sublist _)) (fun i Hi=>?_)
  ·exact ⟨oM,fun j h1 h2=>absurd h1 oM⟩
  obtain ⟨⟨hi1,hi4⟩,hI⟩:=Hi
  by_cases hi : i ≤ 2 ∧ i ≤ body.length
  case neg =>
   have hno : cB s k x w = none:=i3 hj fun j h1 h2=>by
    by_cases h3 : j < i
    ·exact hI j h1 h3
    ·exact uT oM
   rw [hno]
   by_cases h3 : i ≤ 2
   ·have h4 : ¬ i ≤ body.length:=fun h=>hi ⟨h3,h⟩
    repeat' (first | refine jR ?_ | (refine jo ?_;refine aE F ?_) | refine aw F F (ar oM) ?_ | refine ad F (ay oM) ?_)
    all_goals refine jY (vs:=[_,_]) ?_
    all_goals rfl
   ·repeat' (first | refine jR ?_ | (refine jo ?_;refine aq F ?_) | refine al F F (ay oM) ?_ | refine ad F F ?_)
    all_goals refine jY (vs:=[_,_]) ?_
    all_goals rfl
  obtain ⟨hi3,hil⟩:=hi
  have hbb : body.take ((body.length : Int) - (i : Int)).toNat = body.take (body.length - i):=by congr 1;omega
  have hbd : body.drop ((body.length : Int) - (i : Int)).toNat = body.drop (body.length - i):=by congr 1;omega
  have hb2 : (body.take (body.length - i)).length = body.length - i:=by rw [List.length_take];omega
  have hnext : bP s k body w i = none → ∀ j,1 ≤ j → j < i + 1 → bP s k body w j = none:=fun h0 j h1 h2=>by
   by_cases h3 : j < i
   ·exact hI j h1 h3
   ·have : j = i:=oM
    subst this;exact h0
  have cx_bc1:=qy (G:=G) (s:=s) (k:=k) (b:=body.take (body.length - i)) oM
  have hwl : (w ++ body.take (body.length - i) ++ w).length ≤ 1000:=by simp only [List.length_append];omega
  have hsr:=ch (w ++ body.take (body.length - i) ++ w)
  by_cases hd : body.drop (body.length - i) = aK (bz (w ++ body.take (body.length - i) ++ w))
  case neg =>
   have hn:=hnext (by unfold bP;rw [if_neg fun h=>hd h.2])
   rw [← hbb] at hb2 hd hsr hwl cx_bc1
   rw [← hbd] at hd
   repeat' (first | refine jM ?_ | (refine jo ?_;refine aE F ?_) | refine aw F F (ar oM) ?_ | refine ac F (ar oM) ?_ | refine ad F F ?_ | (refine aj (an (id:=9) _ (fun _ h=>h) ai ?_);refine jW 9 [0,1,2,3,4,5,6,7,8,9,10] (aa 20 2047) ?_;refine jA 11 F ?_;(refine ab F F F (fc oM) F ?_);refine jS (aa 20 4095) ?_;refine jA 12 F ?_;(refine ab F F F (dk oM) F ?_);refine jS (aa 20 8191) ?_;refine jT 5 [13,14] (aa 20 32767) ?_;(try (refine Nx.re (d:=77) (v':=Bo false) F (congrArg Value.bool (ay ‹_›)) ?_));refine jT 2 [15,16,17] (aa 20 262143) ?_;(refine jN (aa 20 524287) 18 F ?_);(refine jG (aa 20 1048575) 19 F (be F F F) ?_);refine jQ ?_))
   all_goals
    refine Nx.re (d:=15) (v':=I (i + 1 : Nat)) F (congrArg (Value.int .i64) oM) ?_
    exact aY (i + 1) ⟨oM,hn⟩ oM tU F aW
  cases hc : cg s k (body.take (body.length - i)) with
  | none =>
   have hn:=hnext (qQ hc)
   rw [hc] at cx_bc1
   dsimp only [Option.isSome] at cx_bc1
   clear hc
   rw [← hbb] at hb2 hd hsr hwl cx_bc1
   rw [← hbd] at hd
   repeat' (first | refine jM ?_ | (refine jo ?_;refine aE F ?_) | refine aw F F (ar oM) ?_ | refine ac F (ar oM) ?_ | refine ad F F ?_ | (refine aj (an (id:=9) _ (fun _ h=>h) ai ?_);refine jW 9 [0,1,2,3,4,5,6,7,8,9,10] (aa 20 2047) ?_;refine jA 11 F ?_;(refine ab F F F (fc oM) F ?_);refine jS (aa 20 4095) ?_;refine jA 12 F ?_;(refine ab F F F (dk oM) F ?_);refine jS (aa 20 8191) ?_;refine jT 5 [13,14] (aa 20 32767) ?_;(try (refine Nx.re (d:=77) (v':=Bo true) F (congrArg Value.bool (ar ‹_›)) ?_));refine jT 2 [15,16,17] (aa 20 262143) ?_;(refine jA 18 F ?_;(refine ab F F F cx_bc1 F ?_);refine jS (aa 20 524287) ?_);(refine jG (aa 20 1048575) 19 F (bB F F F) ?_);refine jQ ?_))
   all_goals
    refine Nx.re (d:=15) (v':=I (i + 1 : Nat)) F (congrArg (Value.int .i64) oM) ?_
    exact aY (i + 1) ⟨oM,hn⟩ oM tU F aW
  | some v =>
   rw [hc] at cx_bc1
   dsimp only [Option.isSome] at cx_bc1
   have hyes : bP s k body w i = some v:=by unfold bP;rw [if_pos ⟨hil,hd⟩,hc]
   rw [kM hj hw hi1 hI hyes]
   have cx_bg1:=sL (G:=G) (s:=s) (k:=k) (b:=body.take (body.length - i)) oM
   rw [ux hc] at cx_bg1
   unfold iE at cx_bg1
   dsimp only [Option.map,Option.getD,Option.isSome] at cx_bg1 ⊢
   clear hc hyes hI hnext
   rw [← hbb] at hb2 hd hsr hwl cx_bc1 cx_bg1
   rw [← hbd] at hd
   generalize v.out = vo at *
   repeat' (first | refine jM ?_ | (refine jo ?_;first | refine aE F ?_ | refine ab F F F cx_bg1 F ?_) | refine aw F F (ar oM) ?_ | (refine ac F (by first | rfl | (refine decide_eq_true ?_;(omega))) ?_) | (refine aj (an (id:=9) _ (fun _ h=>h) ai ?_);refine jW 9 [0,1,2,3,4,5,6,7,8,9,10] (aa 20 2047) ?_;refine jA 11 F ?_;(refine ab F F F (fc oM) F ?_);refine jS (aa 20 4095) ?_;refine jA 12 F ?_;(refine ab F F F (dk oM) F ?_);refine jS (aa 20 8191) ?_;refine jT 5 [13,14] (aa 20 32767) ?_;(try (refine Nx.re (d:=77) (v':=Bo true) F (congrArg Value.bool (ar ‹_›)) ?_));refine jT 2 [15,16,17] (aa 20 262143) ?_;(refine jA 18 F ?_;(refine ab F F F cx_bc1 F ?_);refine jS (aa 20 524287) ?_);(refine jG (aa 20 1048575) 19 F (bB F F F) ?_);refine jQ ?_))
   all_goals refine jY (vs:=[_,_]) ?_
   all_goals rfl
variable {s k w x y t u : act}
def ka (s k w x t : act) : Prop:=∃ b,c9 s k w = some b ∧ (1 ≤ x.length ∧ x.length ≤ 20) ∧ (b ++ aK (bz (x ++ b ++ x))).length ≤ 100 ∧ t = frame (b ++ aK (bz (x ++ b ++ x)))
theorem sP {body : act} {n : Nat} {v : V} (h : bP s k body y n = some v) : n ≤ body.length ∧ body.drop (body.length - n) = aK (bz (y ++ body.take (body.length - n) ++ y)) ∧ cg s k (body.take (body.length - n)) = some v:=by
 unfold bP at h
 split at h
 ·rename_i hc
  exact ⟨hc.1,hc.2,h⟩
 ·cases h
theorem uK {b tl : act} {n : Nat} {v v' : V} (hc : cg s k b = some v) (h : bP s k (b ++ tl) y n = some v') : n = tl.length ∧ v' = v ∧ tl = aK (bz (y ++ b ++ y)):=by
 obtain ⟨h1,h2,h3⟩:=sP h
 have hp1 : (b ++ tl).take ((b ++ tl).length - n) <+: b ++ tl:=List.take_prefix _ _
 have hp2 : b <+: b ++ tl:=List.prefix_append _ _
 have he : (b ++ tl).take ((b ++ tl).length - n) = b:=by
  rcases List.prefix_or_prefix_of_prefix hp1 hp2 with ⟨r,hr⟩ | ⟨r,hr⟩
  ·have hc2:=hc
   rw [← hr] at hc2
   rw [qk h3 hc2,List.append_nil] at hr
   exact hr
  ·have h4:=h3
   rw [← hr] at h4
   have:=qk hc h4
   rw [this,List.append_nil] at hr
   exact hr.symm
 have hl:=congrArg List.length he
 rw [List.length_take,List.length_append] at hl
 rw [List.length_append] at h1
 have hn : (b ++ tl).length - n = b.length:=by rw [List.length_append];omega
 rw [hn,List.take_left] at h3
 rw [hn,List.take_left,List.drop_left] at h2
 rw [hc] at h3
 exact ⟨oM,(Option.some.inj h3).symm,h2⟩
theorem zg {b tl : act} {v : V} (hc : cg s k b = some v) (h : tl = aK (bz (y ++ b ++ y))) : bP s k (b ++ tl) y tl.length = some v:=by
 have hn : (b ++ tl).length - tl.length = b.length:=by rw [List.length_append];omega
 unfold bP
 rw [hn,List.take_left,List.drop_left,if_pos ⟨by rw [List.length_append];omega,h⟩,hc]
theorem qu {b tl : act} {v : V} (hj : dR t = some (b ++ tl)) (hc : cg s k b = some v) (hy : 1 ≤ y.length ∧ y.length ≤ 20) (ht : 1 ≤ tl.length) : cB s k t y = if tl = aK (bz (y ++ b ++ y)) then some v else none:=by
 by_cases h : tl = aK (bz (y ++ b ++ y))
 ·rw [if_pos h]
  refine kM hj hy ht (fun j h1 h2=>?_) (zg hc h)
  cases hs : bP s k (b ++ tl) y j with
  | none=>rfl
  | some v'=>have:=(uK hc hs).1;omega
 ·rw [if_neg h]
  refine i3 hj fun j h1 h2=>?_
  cases hs : bP s k (b ++ tl) y j with
  | none=>rfl
  | some v'=>exact absurd (uK hc hs).2.2 h
theorem qS {v : V} (h : cB s k t x = some v) : ka s k v.out x t:=by
 unfold cB at h
 split at h
 ·rename_i body hj
  split at h
  ·rename_i hx
   obtain ⟨n,hn⟩ : ∃ n,bP s k body x n = some v:=by
    split at h
    ·rename_i v1 h1;cases h;exact ⟨1,h1⟩
    ·exact ⟨2,h⟩
   obtain ⟨h1,h2,h3⟩:=sP hn
   have e : body = body.take (body.length - n) ++ aK (bz (x ++ body.take (body.length - n) ++ x)):=by rw [← h2,List.take_append_drop]
   refine ⟨_,vA h3,hx,?_,?_⟩
   ·rw [← e];exact nv hj
   ·rw [← e];exact (gS.1 hj).2
  ·cases h
 ·cases h
theorem qR (h : ka s k w x t) (hy : 1 ≤ y.length ∧ y.length ≤ 20) : ∃ b v,c9 s k w = some b ∧ v.out = w ∧ cB s k t y = if bz (x ++ b ++ x) = bz (y ++ b ++ y) then some v else none:=by
 obtain ⟨b,hb,hx,hl,rfl⟩:=h
 obtain ⟨v,hv,ho⟩:=pO hb
 have hj : dR (frame (b ++ aK (bz (x ++ b ++ x)))) = some (b ++ aK (bz (x ++ b ++ x))):=gS.2 ⟨hl,rfl⟩
 refine ⟨b,v,hb,ho,?_⟩
 rw [qu hj hv hy (eT _)]
 have r1:=ch (x ++ b ++ x)
 have r2:=ch (y ++ b ++ y)
 by_cases e : bz (x ++ b ++ x) = bz (y ++ b ++ y)
 ·rw [if_pos e,if_pos (by rw [e])]
 ·rw [if_neg e,if_neg]
  intro e2
  have:=rf (a:=[]) (b:=[]) r1.1 r2.1 (by rw [e2])
  exact e this.1
theorem wl (h : ka s k w x t) : ∃ v,cB s k t x = some v ∧ v.out = w:=by
 obtain ⟨b,hb,hx,hl,e⟩:=h
 obtain ⟨b',v,h1,h2,h3⟩:=qR (y:=x) ⟨b,hb,hx,hl,e⟩ hx
 rw [if_pos rfl] at h3
 exact ⟨v,h3,h2⟩
theorem qO : ∀ (l : act) {a b : Int},0 ≤ a ∧ a < 9973 → 0 ≤ b ∧ b < 9973 → gM a l = gM b l → a = b
 | [],_,_,_,_,h=>h
 | c :: l,a,b,ha,hb,h=>by
  have:=qO l (a:=(a * 31 + c.toNat) % 9973) (b:=(b * 31 + c.toNat) % 9973) oM oM h
  omega
theorem nj : ∀ (l r : act) {a : Int},gM a (l ++ r) = gM (gM a l) r
 | [],_,_=>rfl
 | c :: l,r,a=>nj l r (a:=(a * 31 + c.toNat) % 9973)
theorem tX {a b : act} {c d : UInt8} (h : bz (a ++ c :: b) = bz (a ++ d :: b)) : c = d:=by
 unfold bz at h
 rw [nj,nj] at h
 have hr:=nW a 1 dC dC
 have hc:=c.toNat_lt
 have hd:=d.toNat_lt
 have:=qO b (a:=(gM 1 a * 31 + c.toNat) % 9973) (b:=(gM 1 a * 31 + d.toNat) % 9973) oM oM h
 exact UInt8.toNat_inj.1 oM
theorem lX {n : Int} (h0 : 0 ≤ n) (h1 : n < 16384) : (∃ c : UInt8,aK n = [c] ∧ c.toNat < 128) ∨ ∃ c d : UInt8,aK n = [c,d] ∧ 128 ≤ c.toNat ∧ d.toNat < 128:=by
 by_cases h : n < 128
 ·have e:=cC (a:=n) oM
  exact .inl ⟨u8 n,ec h h0,oM⟩
 ·have e:=cC (a:=128 + n % 128) oM
  have e2:=cC (a:=n / 128) oM
  exact .inr ⟨u8 (128 + n % 128),u8 (n / 128),by rw [gi h,ec oM oM],oM,oM⟩
theorem tM {a b : act} {c d e : UInt8} (h : a ++ [c,d] = b ++ [e]) : b = a ++ [c]:=by
 have h2 : (a ++ [c]) ++ [d] = b ++ [e]:=by rw [← h];simp
 have:=congrArg List.dropLast h2
 rw [List.dropLast_concat,List.dropLast_concat] at this
 exact this.symm
theorem sZ {p : act} {m : Int} (h0 : 0 ≤ m) (h1 : m < 16384) {a : act} {c : UInt8} (h : p ++ aK m = a ++ [c]) : c.toNat < 128:=by
 rcases lX h0 h1 with ⟨d,e,hd⟩ | ⟨d1,d,e,_,hd⟩
 ·rw [e] at h
  have:=congrArg List.getLast? h
  simp at this
  rw [← this];exact hd
 ·rw [e] at h
  have:=congrArg List.getLast? h
  simp at this
  rw [← this];exact hd
theorem uj {p q : act} {m n : Int} (hm : 0 ≤ m ∧ m < 16384) (hn : 0 ≤ n ∧ n < 16384) (h : (p ++ aK m) ++ aK (bz (p ++ aK m)) = (q ++ aK n) ++ aK (bz (q ++ aK n))) : (p ++ aK m).length = (q ++ aK n).length:=by
 have r1:=ch (p ++ aK m)
 have r2:=ch (q ++ aK n)
 rcases lX r1.1 oM with ⟨c,e1,c1⟩ | ⟨c,d,e1,c1,d1⟩
 all_goals rcases lX r2.1 oM with ⟨c',e2,c2⟩ | ⟨c',d',e2,c2,d2⟩
 ·rw [e1,e2] at h
  have:=congrArg List.length h
  simp only [List.length_append,List.length_cons,List.length_nil] at this ⊢;omega
 ·rw [e1,e2] at h
  have e3:=tM h.symm
  have:=sZ hm.1 hm.2 e3
  omega
 ·rw [e1,e2] at h
  have e3:=tM h
  have:=sZ hn.1 hn.2 e3
  omega
 ·rw [e1,e2] at h
  have:=congrArg List.length h
  simp only [List.length_append,List.length_cons,List.length_nil] at this ⊢;omega
theorem qT {a b : act} {c d : UInt8} (h : ka s k w x (a ++ c :: b)) (hcd : c ≠ d) : cB s k (a ++ d :: b) x = none:=by
 cases hs : cB s k (a ++ d :: b) x with
 | none=>rfl
 | some v =>
  exfalso
  obtain ⟨b1,_,_,hl1,e1⟩:=h
  obtain ⟨b2,_,_,hl2,e2⟩:=qS hs
  have r1:=ch (x ++ b1 ++ x)
  have r2:=ch (x ++ b2 ++ x)
  rw [k8 hl1] at e1
  rw [k8 hl2] at e2
  match a with
  | [] =>
   simp only [List.nil_append,List.cons.injEq] at e1 e2
   exact hcd (e1.1.trans e2.1.symm)
  | [a0] =>
   simp only [List.cons_append,List.nil_append,List.cons.injEq] at e1 e2
   have e3:=uj ⟨r1.1,oM⟩ ⟨r2.1,oM⟩ (e1.2.2.symm.trans e2.2.2)
   rw [e3] at e1
   exact hcd (e1.2.1.trans e2.2.1.symm)
  | a0 :: a1 :: a =>
   simp only [List.cons_append,List.cons.injEq] at e1 e2
   have hlen : (b1 ++ aK (bz (x ++ b1 ++ x))).length = (b2 ++ aK (bz (x ++ b2 ++ x))).length:=by
    have h3:=e1.2.1.symm.trans e2.2.1
    have v1:=cC (a:=(((b1 ++ aK (bz (x ++ b1 ++ x))).length : Nat) : Int)) oM
    have v2:=cC (a:=(((b2 ++ aK (bz (x ++ b2 ++ x))).length : Nat) : Int)) oM
    rw [h3] at v1
    omega
   generalize b1 ++ aK (bz (x ++ b1 ++ x)) = y1 at *
   generalize b2 ++ aK (bz (x ++ b2 ++ x)) = y2 at *
   obtain ⟨_,_,f1⟩:=e1
   obtain ⟨_,_,f2⟩:=e2
   rcases List.append_eq_append_iff.1 f1 with ⟨z,g1,g2⟩ | ⟨z,g1,g2⟩
   · -- the byte lies in the letter,or is the first one behind it
    cases z with
    | nil =>
     rw [List.append_nil] at g1
     subst g1
     obtain ⟨f5,f6⟩:=List.append_inj f2 hlen
     rw [← f5] at f6
     rw [List.nil_append] at g2
     have:=g2.trans f6.symm
     simp only [List.cons.injEq] at this
     exact hcd this.1
    | cons z0 z =>
     simp only [List.cons_append,List.cons.injEq] at g2
     obtain ⟨rfl,g2⟩:=g2
     subst g1
     rw [g2] at f2
     have f3 : (a ++ d :: z) ++ aK (bz (a ++ c :: z)) = y2 ++ aK (bz y2):=by rw [← f2];simp
     have f4:=List.append_inj f3 (by rw [← hlen];simp)
     obtain ⟨rfl,f5⟩:=f4
     have q1:=ch (a ++ c :: z)
     have q2:=ch (a ++ d :: z)
     have:=rf (a:=[]) (b:=[]) q1.1 q2.1 (by rw [f5])
     exact hcd (tX this.1)
   · -- the byte lies in the sum
    subst g1
    have f3 : y1 ++ (z ++ d :: b) = y2 ++ aK (bz y2):=by rw [← f2];simp
    have f4:=List.append_inj f3 hlen
    obtain ⟨rfl,f5⟩:=f4
    have:=g2.symm.trans f5.symm
    have:=List.append_cancel_left this
    simp only [List.cons.injEq] at this
    exact hcd this.1
abbrev c6 : TypeId:=101
theorem rP {v : Value} {l : act} (h : a8 G v 1 l.length (bi l)) : cx acs 26 [v] G [] (fun v L'=>∃ b code l',v = Pt b 0 ∧ L' = [dJ b code 0 c6] ∧ a8 G code 1 l'.length (bi l') ∧ l'.length ≤ 2000):=by
 obtain ⟨h1,⟨rfl,h2⟩ | ⟨c,o,cap,rfl,h2,h3⟩⟩:=id h
 ·refine jH [(0,_)] Tryz.func26 Tryz.ntmps26 fun B hB hW=>?_
  repeat' (first | refine jR ?_ | (refine jo ?_;first | refine jV (ao F) ?_ | refine jV (am F F) ?_ | refine jO fun _=>?_) | refine ad F F ?_)
  refine aO (vs:=[_]) F ⟨F,trivial⟩ F (List.Sublist.refl _) ⟨F,_,_,[],F,F,⟨by simp [bi],.inl ⟨F,F⟩⟩,by simp⟩
 ·refine jH [(0,_)] Tryz.func26 Tryz.ntmps26 fun B hB hW=>?_
  repeat' (first | refine jR ?_ | (refine jo ?_;first | refine jV (ao F) ?_ | refine jV (oD F F oM) ?_ | refine jV (am F F) ?_ | refine jO fun _=>?_) | refine cR F (fun _=>?_) (fun _=>?_))
  ·refine aO (vs:=[_]) F ⟨F,trivial⟩ F (List.Sublist.refl _) ⟨F,_,_,l.take 2000,F,F,?_,by simp;omega⟩
   have e : (l.take 2000).length = 2000:=by simp;omega
   rw [e]
   refine ⟨by simp [bi];omega,.inr ⟨c,o,cap,rfl,oM,?_⟩⟩
   have:=h3.take 2000
   simpa [bi] using this
  ·exact aO (vs:=[_]) F ⟨F,trivial⟩ F (List.Sublist.refl _) ⟨F,_,_,l,F,F,h,oM⟩
theorem cr {b : Nat} {code : Value} {p n : Int} {l : act} (hp : 0 ≤ p ∧ p ≤ 1000000000000 ∧ n ≤ 1000000000000) (hs : a8 G code 1 l.length (bi l)) :
  cx acs 28 [Pt b 0,I n] G [dJ b code p c6] (fun v L'=>∃ k,v = I k ∧ L' = [dJ b code (p + 1) c6] ∧ 0 ≤ k ∧ (k < n ∨ k = 0)):=by
 obtain ⟨h1,⟨rfl,h2⟩ | ⟨c,o,cap,rfl,h2,h3⟩⟩:=id hs
 ·refine jH [(0,_),(1,_)] Tryz.func28 Tryz.ntmps28 fun B hB hW=>?_
  repeat' (first | (refine run (t:=tb) 400 F ?_ ?_;(focus (repeat' (first | exact trivial | apply And.intro | omega)))) | (refine jo ?_;first | refine ak F ?_ | refine jD F F F ?_ | refine jV (ao F) ?_ | refine aE F ?_ | refine aq F ?_) | refine dA F F (fun _=>?_) (fun _=>?_) | refine ac F F ?_)
  all_goals exact aO (vs:=[_]) F ⟨F,trivial⟩ F (List.Sublist.refl _) ⟨F,_,F,F,oM,oM⟩
 ·have b1:=gH l (p + 1 - 1).toNat
  have b2:=gH l ((p + 1 - 1) % (l.length : Int)).toNat
  have b3:=gH l (((p + 1 - 1) * 7 + 3) % (l.length : Int)).toNat
  have e1:=fun h=>Int.emod_nonneg (p + 1 - 1) (b:=(l.length : Int)) h
  have e2:=fun h=>Int.emod_lt_of_pos (p + 1 - 1) (b:=(l.length : Int)) h
  have e3:=fun h=>Int.emod_nonneg ((p + 1 - 1) * 7 + 3) (b:=(l.length : Int)) h
  have e4:=fun h=>Int.emod_lt_of_pos ((p + 1 - 1) * 7 + 3) (b:=(l.length : Int)) h
  have e5:=fun h=>Int.ediv_nonneg (a:=p + 1 - 1) (b:=(l.length : Int)) h oM
  have e6:=fun h=>Int.ediv_le_self (a:=p + 1 - 1) (l.length : Int) h
  refine jH [(0,_),(1,_)] Tryz.func28 Tryz.ntmps28 fun B hB hW=>?_
  repeat' (first | (refine run (t:=tb) 400 F ?_ ?_;(focus (repeat' (first | exact trivial | apply And.intro | omega)))) | (refine jo ?_;first | refine ak F ?_ | (refine jV (ui F aS ?_) ?_;focus omega) | refine jD F F F ?_ | refine jV (ao F) ?_ | refine aE F ?_ | refine aq F ?_ | refine jV (aQ F F oM) ?_ | refine jV (zK F F oM) ?_) | refine dA F F (fun _=>?_) (fun _=>?_) | refine ac F F ?_ | refine cR F (fun _=>?_) (fun _=>?_) | (refine aj (an (id:=7) _ (fun _ h=>h) ai ?_);refine jU 24 [0,1,2,4,5,6,7,15,16,17,19,20,21,22,23,24,33,34,36,37,38,39] (aa 46 1056595214583) ?_ ?_;(focus (repeat' (first | exact trivial | apply And.intro | omega)));(refine jG (aa 46 1056595214591) 3 F (aA F F F) ?_);(refine jG (aa 46 1056595214847) 8 F (aA F F F) ?_);(refine jG (aa 46 1056595215359) 9 F (ao F) ?_);refine jU 20 [10] (aa 46 1056595216383) ?_ ?_;(focus (repeat' (first | exact trivial | apply And.intro | omega)));(refine jG (aa 46 1056595218431) 11 F (aQ F F oM) ?_);((refine jG (aa 46 1056595222527) 12 F (ui F aS ?_) ?_;focus omega));refine jU 16 [13,14] (aa 46 1056595247103) ?_ ?_;(focus (repeat' (first | exact trivial | apply And.intro | omega)));(refine jG (aa 46 1056595509247) 18 F (aA F F F) ?_);(refine jG (aa 46 1056629063679) 25 F (aA F F F) ?_);(refine jG (aa 46 1056696172543) 26 F (ao F) ?_);refine jU 12 [27] (aa 46 1056830390271) ?_ ?_;(focus (repeat' (first | exact trivial | apply And.intro | omega)));(refine jG (aa 46 1057098825727) 28 F (aQ F F oM) ?_);((refine jG (aa 46 1057635696639) 29 F (ui F aS ?_) ?_;focus omega));refine jU 6 [30,31,32,35] (aa 46 1099511627775) ?_ ?_;(focus (repeat' (first | exact trivial | apply And.intro | omega)));(refine jG (aa 46 2199023255551) 40 F (aA F F F) ?_);(refine jG (aa 46 4398046511103) 41 F (ao F) ?_);refine jU 0 [42,43,44,45] (aa 46 70368744177663) ?_ ?_;(focus (repeat' (first | exact trivial | apply And.intro | omega)));refine jQ ?_))
  all_goals (first | exact aO (vs:=[_]) F ⟨F,trivial⟩ F (List.Sublist.refl _) ⟨F,_,F,F,oM,oM⟩ | exact aO (vs:=[_]) F ⟨F,trivial⟩ F (List.Sublist.refl _) ⟨F,_,F,F,Int.emod_nonneg _ oM,.inl (Int.emod_lt_of_pos _ oM)⟩ | exact xG _ _)
theorem qm {r : Nat} {code : Value} {p : Int} {l : act} (hp : 0 ≤ p ∧ p ≤ 900000000000) (hs : a8 G code 1 l.length (bi l)) :
  cx acs 110 [Pt r 0] G [dJ r code p c6] (fun v L'=>∃ x q,v = S x ∧ x.length ≤ 400 ∧ L' = [dJ r code q c6] ∧ p ≤ q ∧ q ≤ p + 10):=by
 refine jH [(0,_)] Tryz.func110 Tryz.ntmps110 fun B hB hW=>?_
 repeat' (first | refine jR ?_ | (refine jo ?_;first | refine jF fun _=>?_ | refine jV (aQ F F oM) ?_ | (refine dM 64 F F F ?_ F (fun xs hxs=>?_);(focus ((simp only [List.length_append,List.length_cons,List.length_nil,List.length_take];omega);done))) | (refine ag F F F (cr ?_ (by (repeat (assumption));done)) rfl ?_;(focus omega);rintro _ _ ⟨k,rfl,rfl,hk0,hk1⟩;dsimp only [zA,fA])))
 refine aR (ι:=act × Int × Int) (fun j=>(0 ≤ j.2.1 ∧ j.2.1 ≤ 3) ∧ ((j.1.length : Nat) : Int) ≤ 64 * (4 - j.2.1) ∧ p ≤ j.2.2 ∧ j.2.2 ≤ p + 5 - j.2.1) (fun j=>[(0,Pt r 0),(3,S j.1),(4,I j.2.1)]) (fun _=>G) (fun j=>[dJ r code j.2.2 c6]) (fun j=>j.2.1.toNat) (xs,k,p + 1 + 1) ?_ tU F sB (fun j Hj=>?_)
 ·dsimp only;omega
 obtain ⟨s,kk,q⟩:=j
 dsimp only at Hj ⊢
 obtain ⟨hk,hsl,hq0,hq1⟩:=Hj
 by_cases h1 : 1 < kk
 ·repeat' (first | refine jM ?_ | (refine jo ?_;first | refine jF fun _=>?_ | refine jV (aQ F F oM) ?_ | (refine dM 64 F F F ?_ F (fun xs hxs=>?_);(focus ((simp only [List.length_append,List.length_cons,List.length_nil,List.length_take];omega);done))) | (refine ag F F F (cr ?_ (by (repeat (assumption));done)) rfl ?_;(focus omega);rintro _ _ ⟨k,rfl,rfl,hk0,hk1⟩;dsimp only [zA,fA])) | refine ac F (ar ‹_›) ?_)
  exact aY (xs ++ s,kk - 1,q + 1) (by dsimp only;rw [List.length_append];omega) (by dsimp only;omega) tU rfl sB
 ·repeat' (first | refine jR ?_ | (refine jo ?_;first | refine jF fun _=>?_ | refine jV (aQ F F oM) ?_ | (refine dM 64 F F F ?_ F (fun xs hxs=>?_);(focus ((simp only [List.length_append,List.length_cons,List.length_nil,List.length_take];omega);done))) | (refine ag F F F (cr ?_ (by (repeat (assumption));done)) rfl ?_;(focus omega);rintro _ _ ⟨k,rfl,rfl,hk0,hk1⟩;dsimp only [zA,fA])) | refine ad F (ay ‹_›) ?_ | refine cR F (fun _=>?_) (fun _=>?_))
  all_goals exact aO (vs:=[_]) F ⟨F,trivial⟩ F sB ⟨F,_,_,F,oM,F,oM,oM⟩
theorem vO {r : Nat} {code : Value} {p : Int} {l : act} (hp : 0 ≤ p ∧ p ≤ 900000000000) (hs : a8 G code 1 l.length (bi l)) :
  cx acs 147 [Pt r 0] G [dJ r code p c6] (fun v L'=>∃ x q,v = S (39 :: (x ++ [39])) ∧ x.length ≤ 64 ∧ L' = [dJ r code q c6] ∧ p ≤ q ∧ q ≤ p + 10):=by
 refine jH [(0,_)] Tryz.func147 Tryz.ntmps147 fun B hB hW=>?_
 repeat' (first | refine jX ?_ | (refine jo ?_;first | refine jF fun _=>?_ | refine jV (aQ F F oM) ?_ | (refine dM 64 F F F ?_ F (fun xs hxs=>?_);(focus ((simp only [List.length_append,List.length_cons,List.length_nil,List.length_take];omega);done))) | (refine ag F F F (cr ?_ (by (repeat (assumption));done)) rfl ?_;(focus omega);rintro _ _ ⟨k,rfl,rfl,hk0,hk1⟩;dsimp only [zA,fA])))
 exact aO (vs:=[_]) F ⟨F,trivial⟩ F sB ⟨F,xs,_,F,oM,F,oM,oM⟩
theorem uy {r : Nat} {code : Value} {p tag : Int} {l so nm : act} (hp : 0 ≤ p ∧ p ≤ 800000000000) (hs : a8 G code 1 l.length (bi l)) (ht : 0 ≤ tag ∧ tag ≤ 1000000) (hnm : nm.length ≤ 100) :
  cx acs 150 [Pt r 0,S so,I tag,S nm] G [dJ r code p c6] (fun v L'=>∃ x q,v = S x ∧ x.length ≤ 1000 ∧ L' = [dJ r code q c6] ∧ p ≤ q ∧ q ≤ p + 20):=by
 have hdl:=f8 (n:=tag) oM
 refine jH [(0,_),(1,_),(2,_),(3,_)] Tryz.func150 Tryz.ntmps150 fun B hB hW=>?_
 repeat' (first | refine jX ?_ | (refine jo ?_;first | refine aE F ?_ | refine aq F ?_ | refine jF fun _=>?_ | refine jV (aQ F F oM) ?_ | (refine dM 64 F F F ?_ F (fun xs hxs=>?_);(focus ((simp only [List.length_append,List.length_cons,List.length_nil,List.length_take];omega);done))) | refine ab F F F (eI oM) F ?_ | (refine ag F F F (qm ?_ (by (repeat (assumption));done)) rfl ?_;(focus omega);rintro _ _ ⟨kd,q1,rfl,hkd,rfl,hq1,hq2⟩;dsimp only [zA,fA]) | (refine ag F F F (cr ?_ (by (repeat (assumption));done)) rfl ?_;(focus omega);rintro _ _ ⟨k,rfl,rfl,hk0,hk1⟩;dsimp only [zA,fA])) | refine dA F F (fun _=>?_) (fun _=>?_) | refine ad F F ?_ | refine cR F (fun _=>?_) (fun _=>?_))
 all_goals exact aO (vs:=[_]) F ⟨F,trivial⟩ F sB ⟨F,_,_,F,by simp only [List.length_append,List.length_cons,List.length_nil];omega,rfl,oM,oM⟩
theorem vN {r : Nat} {code : Value} {p : Int} {l so nm : act} (hp : 0 ≤ p ∧ p ≤ 700000000000) (hs : a8 G code 1 l.length (bi l)) (hso : so.length ≤ 64) (hnm : nm.length ≤ 64) :
  cx acs 109 [Pt r 0,S so,S nm] G [dJ r code p c6] (fun v L'=>∃ x q,v = S x ∧ x.length ≤ 6000 ∧ 1 ≤ x.length ∧ L' = [dJ r code q c6] ∧ p ≤ q ∧ q ≤ p + 200):=by
 refine jH [(0,_),(1,_),(2,_)] Tryz.func109 Tryz.ntmps109 fun B hB hW=>?_
 repeat' (first | refine jX ?_ | (refine jo ?_;first | refine aE F ?_ | refine aq F ?_ | (refine ag F F F (cr ?_ (by (repeat (assumption));done)) rfl ?_;(focus omega);rintro _ _ ⟨k,rfl,rfl,hk0,hk1⟩;dsimp only [zA,fA])) | refine dA F F (fun _=>?_) (fun _=>?_) | refine ad F F ?_ | refine cR F (fun _=>?_) (fun _=>?_))
 all_goals
  have cx_pk2 : ∀ {p : Int},0 ≤ p ∧ p ≤ 1000000000000 → cx acs 28 [Pt r 0,I 2] G [dJ r code p c6] (fun v L'=>L' = [dJ r code (p + 1) c6] ∧ (v = I 0 ∨ v = I 1)):=fun {p} hp=>(cr (b:=r) (p:=p) (n:=2) ⟨hp.1,hp.2,by decide⟩ hs).mono fun v G' L' ⟨h1,k,h2,h3,h4,h5⟩=>⟨h1,h3,by subst h2;rcases (show k = 0 ∨ k = 1 by omega) with rfl | rfl;exact .inl F;exact .inr F⟩
  refine aR (ι:=act × Int × Int × Int × Int) (fun j=>(0 ≤ j.2.2.1 ∧ j.2.2.1 ≤ j.2.2.2.1 ∧ j.2.2.2.1 ≤ 4) ∧ (0 ≤ j.2.1 ∧ j.2.1 ≤ 10 * j.2.2.1) ∧ (1 ≤ j.1.length ∧ ((j.1.length : Nat) : Int) ≤ 200 + 1001 * j.2.2.1) ∧ p ≤ j.2.2.2.2 ∧ j.2.2.2.2 ≤ p + 4 + 30 * j.2.2.1) (fun j=>[(0,Pt r 0),(1,S so),(7,S j.1),(8,I j.2.1),(9,I j.2.2.2.1),(10,I j.2.2.1)]) (fun _=>G) (fun j=>[dJ r code j.2.2.2.2 c6]) (fun j=>(j.2.2.2.1 - j.2.2.1).toNat) (so ++ nm ++ [61],0,0,_,_) ?_ tU F aW (fun j Hj=>?_)
  ·dsimp only;simp only [List.length_append,List.length_cons,List.length_nil];omega
  obtain ⟨s,tag,kk,n,q⟩:=j
  dsimp only at Hj ⊢
  obtain ⟨hk,htg,hsl,hq0,hq1⟩:=Hj
  by_cases h1 : kk < n
  ·repeat' (first | refine jX ?_ | (refine jo ?_;first | refine jF fun _=>?_ | refine jV (dc F F (by (repeat (first | exact BL.nil | apply BL.cons));done)) ?_ | (refine ag F F F (cx_pk2 oM) F ?_;rintro _ _ ⟨rfl,rfl | rfl⟩ <;> dsimp only [zA,fA]) | (refine ag F F F (cr ?_ (by (repeat (assumption));done)) rfl ?_;(focus omega);rintro _ _ ⟨k,rfl,rfl,hk0,hk1⟩;dsimp only [zA,fA]) | (refine ag F F F (uy ?_ (by (repeat (assumption));done) ?_ ?_) rfl ?_;(focus omega);(focus omega);(focus ((simp;done);done));rintro _ _ ⟨fd,q1,rfl,hfd,rfl,hq1,hq2⟩;dsimp only [zA,fA])) | refine ac F (ar ‹_›) ?_ | refine cR F (fun _=>?_) (fun _=>?_))
   all_goals (refine aY (_,_,kk + 1,n,_) ?_ ?_ tU F sB)
   all_goals (first | (dsimp only;simp only [List.length_append,List.length_cons,List.length_nil];omega) | (dsimp only;omega))
  ·repeat' (first | refine jX ?_ | refine ad F (ay ‹_›) ?_)
   exact aO (vs:=[_]) F ⟨F,trivial⟩ F aW ⟨F,_,_,F,by simp only [List.length_append,List.length_cons,List.length_nil];omega,by simp only [List.length_append,List.length_cons,List.length_nil];omega,rfl,oM,oM⟩
def eo (u : Value) (vs : List bL) (k : act) (deep cp : Int) (ct : Nat) : Prop:=∀ (G : Gh) (r : Nat) (code : Value) (p : Int) (l : act),SchR G u vs → a8 G code 1 l.length (bi l) → 0 ≤ p ∧ p + cp ≤ 600000000000 →
 dt acs 103 [Pt r 0,u,S k,I deep] G [dJ r code p c6] (fun v G' L'=>∃ w b q,v = Pt b 0 ∧ RepR G' (af vs) w k b ∧ w.tot ≤ ct ∧ 1 ≤ w.out.length ∧ L' = [dJ r code q c6] ∧ p ≤ q ∧ q ≤ p + cp)
theorem eo.le {u : Value} {vs : List bL} {k : act} {deep cp cp' : Int} {ct ct' : Nat} (h : eo u vs k deep cp ct) (h1 : cp ≤ cp') (h2 : ct ≤ ct') : eo u vs k deep cp' ct':=fun G r code p l h3 h4 h5 =>
 (h G r code p l h3 h4 ⟨h5.1,oM⟩).mono fun _ _ _ ⟨h6,w,b,q,h7,h8,h9,h10,h11,h12,h13⟩=>⟨h6,w,b,q,h7,h8,oM,h10,h11,h12,oM⟩
theorem pr {u : Value} {vs : List bL} {deep : Int} : eo u vs [102] deep 15 200:=by
 intro G r code p l hR hs hp
 have cx_pk2 : ∀ {p : Int},0 ≤ p ∧ p ≤ 1000000000000 → cx acs 28 [Pt r 0,I 2] G [dJ r code p c6] (fun v L'=>L' = [dJ r code (p + 1) c6] ∧ (v = I 0 ∨ v = I 1)):=fun {p} hp=>(cr (b:=r) (p:=p) (n:=2) ⟨hp.1,hp.2,by decide⟩ hs).mono fun v G' L' ⟨h1,k,h2,h3,h4,h5⟩=>⟨h1,h3,by subst h2;rcases (show k = 0 ∨ k = 1 by omega) with rfl | rfl;exact .inl F;exact .inr F⟩
 refine bI [(0,_),(1,_),(2,_),(3,_)] Tryz.func103 kR Tryz.ntmps103 F F tU fun B hB hW=>?_
 repeat' (first | refine jX ?_ | (refine jo ?_;first | refine jV (am F F) ?_ | refine jO fun _=>?_ | refine jF fun _=>?_ | refine jV (aQ F F oM) ?_ | refine ak F ?_ | refine jD F F F ?_ | (refine ag F F F (cx_pk2 oM) F ?_;rintro _ _ ⟨rfl,rfl | rfl⟩ <;> dsimp only [zA,fA])) | refine ac F F ?_ | refine ad F F ?_)
 all_goals rename_i y _
 all_goals refine Nx.sealC (b:=y) fun G2 hG2 hsy=>?_
 ·exact aO (vs:=[_]) F ⟨F,trivial⟩ F sB ⟨hG2,.nd 102 [121,101,115] 0 [],y,_,F,.leaf 102 _ _ _ y hsy (.inr (.inr ⟨F,F,F,.inl F⟩)),by simp [bU,V.tots],by rw [V.out];simp [dl],rfl,oM,oM⟩
 ·exact aO (vs:=[_]) F ⟨F,trivial⟩ F sB ⟨hG2,.nd 102 [110,111] 0 [],y,_,F,.leaf 102 _ _ _ y hsy (.inr (.inr ⟨F,F,F,.inr F⟩)),by simp [bU,V.tots],by rw [V.out];simp [dl],rfl,oM,oM⟩
abbrev tS : TypeId:=60
theorem aal {m : Int} (h : 0 ≤ m) : ∀ c ∈ br m,aZ c = true:=(im m.toNat (Nat.le_refl _) h).2
theorem rz {u : Value} {vs : List bL} {deep : Int} : eo u vs [110] deep 15 200:=by
 intro G r code p l hR hs hp
 refine bI [(0,_),(1,_),(2,_),(3,_)] Tryz.func103 kR Tryz.ntmps103 F F tU fun B hB hW=>?_
 repeat' (first | refine jX ?_ | (refine jo ?_;first | refine jV (am F F) ?_ | refine jO fun _=>?_ | refine jF fun _=>?_ | refine jV (aQ F F oM) ?_ | (refine aaC 999999 F F F ?_ ?_ (fun iz hz0 hz1=>?_);(focus ((simp only [List.length_append,List.length_cons,List.length_nil,List.length_take];omega);done));(focus ((repeat' (first | exact ue | refine sy ⟨oM,oM⟩ ?_));done))) | refine jD F F F ?_ | (refine ag F F F (cr ?_ (by (repeat (assumption));done)) rfl ?_;(focus omega);rintro _ _ ⟨k,rfl,rfl,hk0,hk1⟩;dsimp only [zA,fA]) | refine ab F F F (eI oM) F ?_) | refine ac F F ?_)
 rename_i y _ _ _ _
 have hdl:=f8 (n:=iz) oM
 have hdp:=gX iz
 refine Nx.sealC (b:=y) fun G2 hG2 hsy=>?_
 exact aO (vs:=[_]) F ⟨F,trivial⟩ F sB ⟨hG2,.nd 110 (br iz) 0 [],y,_,F,.leaf 110 _ _ _ y hsy (.inl ⟨F,F,F,aal hz0⟩),by rw [bU,V.tots];omega,by rw [V.out];exact hdp,F,oM,oM⟩
theorem rx {u : Value} {vs : List bL} {deep : Int} : eo u vs [116] deep 15 200:=by
 intro G r code p l hR hs hp
 refine bI [(0,_),(1,_),(2,_),(3,_)] Tryz.func103 kR Tryz.ntmps103 F F tU fun B hB hW=>?_
 repeat' (first | refine jX ?_ | (refine jo ?_;first | refine jV (am F F) ?_ | refine jO fun _=>?_ | refine jD F F F ?_ | (refine ag F F F (vO ?_ (by (repeat (assumption));done)) rfl ?_;(focus omega);rintro _ _ ⟨tx,q1,rfl,htx,rfl,hq1,hq2⟩;dsimp only [zA,fA])) | refine ac F F ?_ | refine ad F F ?_)
 rename_i y
 refine Nx.sealC (b:=y) fun G2 hG2 hsy=>?_
 exact aO (vs:=[_]) F ⟨F,trivial⟩ F aW ⟨hG2,.nd 116 tx 0 [],y,_,F,.leaf 116 _ _ _ y hsy (.inr (.inl ⟨F,F,F⟩)),by rw [bU,V.tots];omega,by rw [V.out];simp [dl],rfl,oM,oM⟩
theorem t4 {ts : List Ty} {k : act} {ks : List V} {bs : List Nat} {w : V} {b : Nat} (hl : bs.length = ks.length) (h : ∀ i,i < ks.length → RepR G ts (ae ks i) k (ae bs i)) (hw : RepR G ts w k b) : ∀ i,i < (ks ++ [w]).length → RepR G ts (ae (ks ++ [w]) i) k (ae (bs ++ [b]) i):=fun i hi=>by
 by_cases h1 : i < ks.length
 ·have e1 : ae (ks ++ [w]) i = ae ks i:=by rw [aU hi,aU h1,List.getElem_append_left h1]
  have e2 : ae (bs ++ [b]) i = ae bs i:=by rw [aU (by simp;omega),aU oM,List.getElem_append_left oM]
  rw [e1,e2];exact h i h1
 ·have h2 : i = ks.length:=by simp at hi;omega
  have e1 : ae (ks ++ [w]) i = w:=by rw [aU hi];simp [h2]
  have e2 : ae (bs ++ [b]) i = b:=by rw [aU (by simp;omega)];simp [h2,hl]
  rw [e1,e2];exact hw
theorem pq {u : Value} {vs : List bL} {kd : act} {deep cp : Int} {ct : Nat} (hcp : 0 ≤ cp ∧ cp ≤ 100000000) (hct : ct ≤ 100000000) (hD : 0 < deep → eo u vs kd (deep - 1) cp ct) (hu : u.oneCell' = true) (hkl : kd.length ≤ 1000) (hd : -1000 ≤ deep ∧ deep ≤ 1000) : eo u vs (91 :: kd) deep (3 * cp + 10) (3 * ct + 200):=by
 intro G r code p l hR hs hp
 have hkd0 : bt (91 :: kd) (Int.toNat 0) = 91:=bh 91 kd
 have hkl2 : (91 :: kd).length = kd.length + 1:=rfl
 refine bI [(0,_),(1,_),(2,_),(3,_)] Tryz.func103 kR Tryz.ntmps103 F F tU fun B hB hW=>?_
 repeat' (first | refine jM ?_ | (refine jo ?_;first | refine jV (am F F) ?_ | refine jO fun _=>?_ | (refine ag F F F (cr ?_ (by (repeat (assumption));done)) rfl ?_;(focus omega);rintro _ _ ⟨k,rfl,rfl,hk0,hk1⟩;dsimp only [zA,fA])) | refine ac F F ?_ | refine ad F F ?_)
 rename_i y
 refine Nx.addNil tS 1 ?_
 refine aR (ι:=List V × List Nat × Option Addr × Nat × Int × Int × Gh) (fun j=>((j.2.1.length = j.1.length ∧ ∀ i,i < j.1.length → RepR j.2.2.2.2.2.2 (af vs) (ae j.1 i) kd (ae j.2.1 i)) ∧ Gh.le G j.2.2.2.2.2.2) ∧ (0 ≤ j.2.2.2.2.1 ∧ ((j.1.length : Nat) : Int) + j.2.2.2.2.1 ≤ 3) ∧ V.tots j.1 ≤ ct * j.1.length ∧ p ≤ j.2.2.2.2.2.1 ∧ j.2.2.2.2.2.1 ≤ p + 1 + cp * ((j.1.length : Nat) : Int)) (fun j=>[(0,Pt r 0),(1,u),(2,S (91 :: kd)),(3,I deep),(9,Pt y 0),(10,I j.2.2.2.2.1)]) (fun j=>j.2.2.2.2.2.2) (fun j=>[.acc (.slice j.2.2.1 j.1.length j.2.2.2.1) tS 1 j.1.length (aI eC j.2.1),dJ r code j.2.2.2.2.2.1 c6,.blk y (.cells (List.toArray [S (91 :: kd),S [],aH,.slice j.2.2.1 j.1.length j.2.2.2.1]) pG (0,0))]) (fun j=>j.2.2.2.2.1.toNat) ([],[],none,0,k,p + 1,G) ?_ tU F aW (fun j Hj=>?_)
 ·refine ⟨⟨⟨F,fun i hi=>absurd hi (by simp)⟩,Gh.le.refl _⟩,?_,?_,?_,?_⟩
  ·dsimp only;simp only [List.length_nil];omega
  ·simp [V.tots]
  ·dsimp only;omega
  ·dsimp only;simp
 obtain ⟨ks,bs,a,c,kk,q,Gq⟩:=j
 dsimp only at Hj ⊢
 obtain ⟨⟨⟨hbl,hreps⟩,hgq⟩,hk,htt,hq0,hq1⟩:=Hj
 have hcl : cp * ((ks.length : Nat) : Int) ≤ cp * 3:=Int.mul_le_mul_of_nonneg_left oM hcp.1
 have hcl0 : 0 ≤ cp * ((ks.length : Nat) : Int):=Int.mul_nonneg hcp.1 oM
 have htl : ct * ks.length ≤ ct * 3:=Nat.mul_le_mul_left _ oM
 by_cases hgo : 0 < kk ∧ 0 < deep
 ·obtain ⟨hk0,hd0⟩:=hgo
  have hcl3 : cp * ((ks.length : Nat) : Int) + cp ≤ cp * 3:=by
   have:=Int.mul_le_mul_of_nonneg_left (show ((ks.length : Nat) : Int) + 1 ≤ 3 by omega) hcp.1
   rwa [Int.mul_add,Int.mul_one] at this
  have cx_dv:=fun {p : Int} (hp : 0 ≤ p ∧ p + cp ≤ 600000000000)=>hD hd0 Gq r code p l (hR.mono hgq) (hs.mono hgq) hp
  repeat' (first | refine jR ?_ | (refine jo ?_;refine aE F ?_) | refine aw F F (ar ‹_›) ?_ | refine ac F (ar ‹_›) ?_)
  (refine aj (an (id:=16) [] (fun _ h=>absurd h (by simp)) ai ?_);refine jW 7 [0,1,2,3,5,6,7,8,9,10] (aa 17 2031) ?_;refine cy [4,11] kR dC ⟨?_,?_,trivial⟩;(focus (refine a9 F F ?_;(refine ak F ?_);refine jK (aa 17 2047) ?_;refine jA 11 F ?_;((refine cU F F F (cx_dv ?_) F ?_;(focus omega);rintro _ G1 _ hle ⟨w1,b1,q1,rfl,hrep,htot,hone,rfl,hq1,hq2⟩;dsimp only [zA,fA];skip));refine jK (aa 17 4095) ?_;refine jA 12 F ?_;(refine jF fun _=>?_);refine jK (aa 17 8191) ?_;refine jA 13 F ?_;((refine cj F F F F F F F F F ?_ fun _ _=>?_;focus omega));refine jK (aa 17 16383) ?_;refine jW 1 [14,15] (aa 17 65535) ?_;refine jA 16 F ?_;(refine jD F F F ?_);refine jK (aa 17 131071) ?_;refine jQ ?_));rotate_left 1;(focus (refine a9 F F ?_;((refine cU F F F (cx_dv ?_) F ?_;(focus omega);rintro _ G1 _ hle ⟨w1,b1,q1,rfl,hrep,htot,hone,rfl,hq1,hq2⟩;dsimp only [zA,fA];skip));refine jK (aa 17 4079) ?_;refine cy [4,12] kR dC ⟨?_,?_,trivial⟩;(focus (refine a9 F F ?_;(refine ak F ?_);refine jK (aa 17 4095) ?_;refine jA 12 F ?_;(refine jF fun _=>?_);refine jK (aa 17 8191) ?_;refine jA 13 F ?_;((refine cj F F F F F F F F F ?_ fun _ _=>?_;focus omega));refine jK (aa 17 16383) ?_;refine jW 1 [14,15] (aa 17 65535) ?_;refine jA 16 F ?_;(refine jD F F F ?_);refine jK (aa 17 131071) ?_;refine jQ ?_));rotate_left 1;(focus (refine a9 F F ?_;(refine jF fun _=>?_);refine jK (aa 17 8175) ?_;refine jA 4 F ?_;(refine ak F ?_);refine jK (aa 17 8191) ?_;refine jA 13 F ?_;((refine cj F F F F F F F F F ?_ fun _ _=>?_;focus omega));refine jK (aa 17 16383) ?_;refine jW 1 [14,15] (aa 17 65535) ?_;refine jA 16 F ?_;(refine jD F F F ?_);refine jK (aa 17 131071) ?_;refine jQ ?_));rotate_left 1));rotate_left 2)
  all_goals repeat' (refine jM ?_)
  all_goals
   rename_i _ y1 yc
   have hl1 : (ks ++ [w1]).length = ks.length + 1:=by simp
   have hms : ct * (ks.length + 1) = ct * ks.length + ct:=Nat.mul_succ _ _
   have hts : V.tots (ks ++ [w1]) = V.tots ks + w1.tot:=by simp [eP,V.tots]
   rw [show aI eC bs ++ [Pt b1 0] = aI eC (bs ++ [b1]) from (cl eC bs b1).symm]
   exact aY (ks ++ [w1],bs ++ [b1],some ⟨y1,0,none⟩,yc,kk - 1,q1,G1) ⟨⟨⟨by simp [hbl],t4 hbl (fun i hi=>(hreps i hi).mono hle) hrep⟩,hgq.trans hle⟩,by dsimp only;rw [hl1];omega,by dsimp only;rw [hl1,hms,hts];omega,by dsimp only;omega,by dsimp only;rw [hl1,Int.natCast_succ,Int.mul_add,Int.mul_one];omega⟩ (by dsimp only;omega) tU rfl (by rw [hl1];repeat (first | exact List.Sublist.refl _ | apply List.Sublist.cons_cons | apply List.Sublist.cons))
 ·have : kk = 0 ∨ deep ≤ 0:=oM
  repeat' (first | refine jR ?_ | (refine jo ?_;first | refine aE F ?_ | refine aq F ?_) | refine dA F F (fun _=>?_) (fun _=>?_) | (refine ad F (by first | rfl | (refine decide_eq_false ?_;(omega))) ?_))
  all_goals
   refine Nx.sealS (v:=.slice a ks.length c) fun G2 hG2 hsl=>?_
   refine Nx.sealC (b:=y) fun G3 hG3 hsg=>?_
   exact aO (vs:=[_]) F ⟨F,trivial⟩ F aW ⟨hgq.trans (hG2.trans hG3),.nd 91 [] 0 ks,y,q,F,.lst kd y ks bs a c hsg (hsl.mono hG3) hbl (fun i hi=>(hreps i hi).mono (hG2.trans hG3)),by rw [bU];simp only [List.length_nil];omega,by rw [V.out];simp [dl],rfl,oM,oM⟩
theorem ry {u : Value} {vs : List bL} {kd : act} {deep cp : Int} {ct : Nat} (hcp : 0 ≤ cp ∧ cp ≤ 100000000) (hct : ct ≤ 100000000) (hD : 0 < deep → eo u vs kd (deep - 1) cp ct) (hu : u.oneCell' = true) (hkl : kd.length ≤ 1000) (hd : -1000 ≤ deep ∧ deep ≤ 1000) : eo u vs (63 :: kd) deep (cp + 10) (ct + 200):=by
 intro G r code p l hR hs hp
 have hkd0 : bt (63 :: kd) (Int.toNat 0) = 63:=bh 63 kd
 have hkl2 : (63 :: kd).length = kd.length + 1:=rfl
 by_cases h0 : 0 < deep
 ·have cx_dv:=fun {p : Int} (hp : 0 ≤ p ∧ p + cp ≤ 600000000000)=>hD h0 G r code p l hR hs hp
  refine bI [(0,_),(1,_),(2,_),(3,_)] Tryz.func103 kR Tryz.ntmps103 F F tU fun B hB hW=>?_
  repeat' (first | refine jM ?_ | (refine jo ?_;first | refine jV (am F F) ?_ | refine jO fun _=>?_ | refine aE F ?_ | (refine ag F F F (cr ?_ (by (repeat (assumption));done)) rfl ?_;(focus omega);rintro _ _ ⟨k,rfl,rfl,hk0,hk1⟩;dsimp only [zA,fA])) | refine aw F F (ar ‹_›) ?_ | refine ac F F ?_ | refine ad F F ?_ | refine cR F (fun _=>?_) (fun _=>?_))
  ·refine Nx.addNil tS 1 ?_
   (refine aj (an (id:=20) [] (fun _ h=>absurd h (by simp)) ai ?_);refine jW 7 [0,1,2,3,5,6,7,8,9,10] (aa 17 2031) ?_;refine cy [4,11] kR dC ⟨?_,?_,trivial⟩;(focus (refine a9 F F ?_;(refine ak F ?_);refine jK (aa 17 2047) ?_;refine jA 11 F ?_;((refine cU F F F (cx_dv ?_) F ?_;(focus omega);rintro _ G1 _ hle ⟨w1,b1,q1,rfl,hrep,htot,hone,rfl,hq1,hq2⟩;dsimp only [zA,fA];skip));refine jK (aa 17 4095) ?_;refine jA 12 F ?_;(refine jF fun _=>?_);refine jK (aa 17 8191) ?_;refine jA 13 F ?_;((refine cj F F F F F F F F F ?_ fun _ _=>?_;focus omega));refine jK (aa 17 16383) ?_;refine jW 1 [14,15] (aa 17 65535) ?_;refine jA 16 F ?_;(refine jD F F F ?_);refine jK (aa 17 131071) ?_;refine jQ ?_));rotate_left 1;(focus (refine a9 F F ?_;((refine cU F F F (cx_dv ?_) F ?_;(focus omega);rintro _ G1 _ hle ⟨w1,b1,q1,rfl,hrep,htot,hone,rfl,hq1,hq2⟩;dsimp only [zA,fA];skip));refine jK (aa 17 4079) ?_;refine cy [4,12] kR dC ⟨?_,?_,trivial⟩;(focus (refine a9 F F ?_;(refine ak F ?_);refine jK (aa 17 4095) ?_;refine jA 12 F ?_;(refine jF fun _=>?_);refine jK (aa 17 8191) ?_;refine jA 13 F ?_;((refine cj F F F F F F F F F ?_ fun _ _=>?_;focus omega));refine jK (aa 17 16383) ?_;refine jW 1 [14,15] (aa 17 65535) ?_;refine jA 16 F ?_;(refine jD F F F ?_);refine jK (aa 17 131071) ?_;refine jQ ?_));rotate_left 1;(focus (refine a9 F F ?_;(refine jF fun _=>?_);refine jK (aa 17 8175) ?_;refine jA 4 F ?_;(refine ak F ?_);refine jK (aa 17 8191) ?_;refine jA 13 F ?_;((refine cj F F F F F F F F F ?_ fun _ _=>?_;focus omega));refine jK (aa 17 16383) ?_;refine jW 1 [14,15] (aa 17 65535) ?_;refine jA 16 F ?_;(refine jD F F F ?_);refine jK (aa 17 131071) ?_;refine jQ ?_));rotate_left 1));rotate_left 2)
   all_goals repeat' (refine jR ?_)
   all_goals
    rename_i y _ _ y1 yc
    refine Nx.sealS (v:=.slice (some ⟨y1,0,none⟩) (0 + 1) yc) fun G2 hG2 hsl=>?_
    refine Nx.sealC (b:=y) fun G3 hG3 hsg=>?_
    obtain ⟨_,⟨h,_⟩ | ⟨b2,o2,c2,e,hc2,hs2⟩⟩:=hsl
    ·cases h
    simp only [Value.slice.injEq,Option.some.injEq,Addr.mk.injEq,and_true] at e
    obtain ⟨⟨rfl,rfl⟩,-,rfl⟩:=e
    exact aO (vs:=[_]) F ⟨F,trivial⟩ F sB ⟨hle.trans (hG2.trans hG3),.nd 63 [] 0 [w1],y,q1,F,.opt kd y y1 b1 yc w1 oM hsg (hs2.mono hG3) (hrep.mono (hG2.trans hG3)),by simp only [bU,V.tots,List.length_nil];omega,by rw [V.out];simp [dl],rfl,oM,oM⟩
  ·rename_i y _
   refine Nx.sealC (b:=y) fun G2 hG2 hsy=>?_
   exact aO (vs:=[_]) F ⟨F,trivial⟩ F aW ⟨hG2,.nd 63 [] 0 [],y,_,F,.non kd y hsy,by simp [bU,V.tots],by rw [V.out];simp [dl],rfl,oM,oM⟩
 ·refine bI [(0,_),(1,_),(2,_),(3,_)] Tryz.func103 kR Tryz.ntmps103 F F tU fun B hB hW=>?_
  repeat' (first | refine jM ?_ | (refine jo ?_;first | refine jV (am F F) ?_ | refine jO fun _=>?_ | refine aq F ?_) | refine al F F (ay ‹_›) ?_ | refine ac F F ?_ | refine ad F F ?_)
  rename_i y
  refine Nx.sealC (b:=y) fun G2 hG2 hsy=>?_
  exact aO (vs:=[_]) F ⟨F,trivial⟩ F aW ⟨hG2,.nd 63 [] 0 [],y,_,F,.non kd y hsy,by simp [bU,V.tots],by rw [V.out];simp [dl],rfl,oM,oM⟩
abbrev ni : TypeId:=146
abbrev w9 : TypeId:=60
abbrev xc : TypeId:=3
def o4 (u : Value) (vs : List bL) (k : act) (deep cp : Int) (ct : Nat) : Prop:=∀ (G : Gh) (r : Nat) (code : Value) (p : Int) (l : act),SchR G u vs → a8 G code 1 l.length (bi l) → 0 ≤ p ∧ p + cp ≤ 600000000000 →
 dt acs 148 [Pt r 0,u,S k,I deep] G [dJ r code p c6] (fun v G' L'=>∃ w b q,v = Pt b 0 ∧ RepR G' (af vs) w k b ∧ w.tot ≤ ct ∧ 1 ≤ w.out.length ∧ L' = [dJ r code q c6] ∧ p ≤ q ∧ q ≤ p + cp)
theorem rv {u : Value} {vs : List bL} {k : act} {deep cp : Int} {ct : Nat} (hD : o4 u vs (64 :: k) deep cp ct) (hkl : k.length ≤ 1000) : eo u vs (64 :: k) deep cp ct:=by
 intro G r code p l hR hs hp
 have hkd0 : bt (64 :: k) (Int.toNat 0) = 64:=bh 64 k
 have hkl2 : (64 :: k).length = k.length + 1:=rfl
 have cx_dt:=fun {p : Int} (hp : 0 ≤ p ∧ p + cp ≤ 600000000000)=>hD G r code p l hR hs hp
 refine bI [(0,_),(1,_),(2,_),(3,_)] Tryz.func103 kR Tryz.ntmps103 F F tU fun B hB hW=>?_
 repeat' (first | refine jM ?_ | (refine jo ?_;first | refine jV (am F F) ?_ | refine jO fun _=>?_ | (refine cU F F F (cx_dt ‹_›) F ?_;rintro _ G1 _ hle ⟨w1,b1,q1,rfl,hrep,htot,hone,rfl,hq1,hq2⟩;dsimp only [zA,fA];skip)) | refine ad F F ?_)
 exact aO (vs:=[_]) F ⟨F,trivial⟩ F sB ⟨hle,w1,b1,q1,F,hrep,htot,hone,F,hq1,hq2⟩
section
variable {u : Value} {vs : List bL} {kd nm : act} {fs : List Fld} {a : Option Addr} {ca : Nat} {deep cp : Int} {ct : Nat}
theorem vv (hr : dU vs kd = some ((a,ca),⟨69,nm,fs⟩)) (hvl : vs.length ≤ 1000000) (hk : dX kd = true) (hkl : kd.length ≤ 1000) (h0 : 0 < fs.length) (h8 : fs.length ≤ 8) (hw : SchW (af vs)) : o4 u vs kd deep 10 300:=by
 intro G r code p l hR hs hp
 have href:=dP vs kd
 rw [hr] at href
 have cx_rf:=gE (G:=G) (k:=kd) hR hvl hk oM
 rw [hr] at cx_rf
 have htm:=b6 href.symm
 obtain ⟨bf,of,cf,ef,hsf⟩:=(hR.fl _ (er hr)).expl h0
 simp only [gf,Value.slice.injEq] at ef
 obtain ⟨rfl,-,rfl⟩:=ef
 dsimp only at hsf
 have cx_rf : av acs 160 [u,S kd] G (· = Tu [Ag [U8 (69 : Nat),S nm,.slice (some ⟨bf,of,none⟩) fs.length ca],Bo true]):=cx_rf
 refine bI [(0,_),(1,_),(2,_),(3,_)] Tryz.func148 kR Tryz.ntmps148 F F tU fun B hB hW=>?_
 repeat' (first | refine jR ?_ | (refine jo ?_;first | refine jL fun _=>?_ | refine jC F F F ?_ | refine ak F ?_ | refine jF fun _=>?_ | refine jV (dc F F (by (repeat (first | exact BL.nil | apply BL.lit rfl));done)) ?_ | refine jV (am F F) ?_ | refine jO fun _=>?_ | refine ab F F F cx_rf F ?_) | refine ac F F ?_)
 rename_i y9 _ y11
 (refine aj (an (id:=5) [.blk y9 (.cells (List.toArray [U8 (69 : Nat),S nm,.slice (some ⟨bf,of,none⟩) fs.length ca]) ni (0,0))] (by intro y hy;simp only [List.mem_cons,List.not_mem_nil,or_false] at hy ⊢;simp [hy]) ai ?_);refine jW 11 [0,1,3,4] (aa 15 27) ?_;(refine jG (aa 15 31) 2 F (aA F F F) ?_);(refine jG (aa 15 63) 5 F (aA F F F) ?_);(refine jG (aa 15 127) 6 F (ao F) ?_);refine jA 7 F ?_;((refine ag F F F (cr ?_ (by (repeat (assumption));done)) rfl ?_;(focus omega);rintro _ _ ⟨k,rfl,rfl,hk0,hk1⟩;dsimp only [zA,fA]));refine jK (aa 15 255) ?_;((refine jG (aa 15 511) 8 F (aQ F F ?_) ?_;focus omega));refine jW 5 [9] (aa 15 1023) ?_;((refine jG (aa 15 2047) 10 F (bY F F aS ?_ F F) ?_;focus omega));refine jA 11 F ?_;(refine jF fun _=>?_);refine jK (aa 15 4095) ?_;refine jW 1 [12,13] (aa 15 16383) ?_;refine jA 14 F ?_;(refine jD F F F ?_);refine jK (aa 15 32767) ?_;refine jQ ?_)
 all_goals repeat' (refine jR ?_)
 all_goals
  rename_i y1
  refine Nx.sealC (b:=y1) fun G2 hG2 hsy=>?_
  refine Nx.sealC (b:=y11) fun G3 hG3 hsg=>?_
  have hdm : ae fs k.toNat ∈ fs:=bR oM
  exact aO (vs:=[_]) F ⟨F,trivial⟩ F sB ⟨hG2.trans hG3,.nd 69 [] (ae fs k.toNat).tag [],y11,_,F,.enm kd y11 y1 ⟨69,nm,fs⟩ (ae fs k.toNat) ⟨href.symm,F⟩ hdm hsg (hsy.mono hG3),by simp [bU,V.tots],by rw [V.out];simp [dl],rfl,oM,oM⟩
theorem vu (hr : dU vs kd = some ((a,ca),⟨85,nm,fs⟩)) (hvl : vs.length ≤ 1000000) (hk : dX kd = true) (hkl : kd.length ≤ 1000) (h0 : 0 < fs.length) (h8 : fs.length ≤ 8) (hw : SchW (af vs)) (hcp : 0 ≤ cp ∧ cp ≤ 100000000) (hct : ct ≤ 100000000)
  (hD : ∀ d ∈ fs,(0 < deep ∨ d = ae fs 0) → eo u vs d.kind (deep - 1) cp ct) (hd : -1000 ≤ deep ∧ deep ≤ 1000) : o4 u vs kd deep (cp + 10) (ct + 20):=by
 intro G r code p l hR hs hp
 have href:=dP vs kd
 rw [hr] at href
 have cx_rf:=gE (G:=G) (k:=kd) hR hvl hk oM
 rw [hr] at cx_rf
 have htm:=b6 href.symm
 obtain ⟨bf,of,cf,ef,hsf⟩:=(hR.fl _ (er hr)).expl h0
 simp only [gf,Value.slice.injEq] at ef
 obtain ⟨rfl,-,rfl⟩:=ef
 dsimp only at hsf
 have cx_rf : av acs 160 [u,S kd] G (· = Tu [Ag [U8 (85 : Nat),S nm,.slice (some ⟨bf,of,none⟩) fs.length ca],Bo true]):=cx_rf
 refine bI [(0,_),(1,_),(2,_),(3,_)] Tryz.func148 kR Tryz.ntmps148 F F tU fun B hB hW=>?_
 repeat' (first | refine jM ?_ | (refine jo ?_;first | refine jL fun _=>?_ | refine jD F F F ?_ | refine jC F F F ?_ | refine ak F ?_ | (refine jV (dD F F aS ?_) ?_;focus omega) | refine jF fun _=>?_ | refine jV (dc F F (by (repeat (first | exact BL.nil | apply BL.lit rfl));done)) ?_ | refine jV (am F F) ?_ | refine jO fun _=>?_ | refine jV (aD F F oM) ?_ | refine ab F F F cx_rf F ?_) | refine ac F F ?_ | refine ad F F ?_ | refine cR F (fun _=>?_) (fun _=>?_))
 ·rename_i y9 _ y11 y12 hd0
  (refine aj (an (id:=10) [.blk y9 (.cells (List.toArray [U8 (85 : Nat),S nm,.slice (some ⟨bf,of,none⟩) fs.length ca]) ni (0,0))] (by intro y hy;simp only [List.mem_cons,List.not_mem_nil,or_false] at hy ⊢;simp [hy]) ai ?_);refine jW 7 [0,2,3] (aa 10 13) ?_;(refine jG (aa 10 15) 1 F (aA F F F) ?_);(refine jG (aa 10 31) 4 F (aA F F F) ?_);(refine jG (aa 10 63) 5 F (ao F) ?_);refine jA 6 F ?_;((refine ag F F F (cr ?_ (by (repeat (assumption));done)) rfl ?_;(focus omega);rintro _ _ ⟨k,rfl,rfl,hk0,hk1⟩;dsimp only [zA,fA]));refine jK (aa 10 127) ?_;((refine jG (aa 10 255) 7 F (aQ F F ?_) ?_;focus omega));((refine jG (aa 10 511) 8 F (dD F F aS ?_) ?_;focus omega));refine jA 9 F ?_;(refine jC F F F ?_);refine jK (aa 10 1023) ?_;refine jQ ?_)
  all_goals have hdm : ae fs k.toNat ∈ fs:=bR oM
  all_goals have cx_dv:=fun {p : Int} (hp : 0 ≤ p ∧ p + cp ≤ 600000000000)=>hD (ae fs k.toNat) hdm (.inl hd0) G r code p l hR hs hp
  all_goals repeat' (first | refine jM ?_ | (refine jo ?_;first | refine jD F F F ?_ | refine ak F ?_ | refine jF fun _=>?_ | (refine cU F F F (cx_dv oM) F ?_;rintro _ G1 _ hle ⟨w1,b1,q1,rfl,hrep,htot,hone,rfl,hq1,hq2⟩;dsimp only [zA,fA];skip)))
  all_goals
   rename_i y1 y2
   refine Nx.sealC (b:=y1) fun G2 hG2 hs1=>?_
   refine Nx.sealC (b:=y2) fun G3 hG3 hs2=>?_
   refine Nx.sealC (b:=y11) fun G4 hG4 hsg=>?_
   exact aO (vs:=[_]) F ⟨F,trivial⟩ F sB ⟨((hle.trans hG2).trans hG3).trans hG4,.nd 85 [] (ae fs k.toNat).tag [w1],y11,_,F,.uni kd y11 y1 y2 b1 1 ⟨85,nm,fs⟩ (ae fs k.toNat) w1 (Nat.le_refl _) ⟨href.symm,F⟩ hdm hsg (hs1.mono (hG3.trans hG4)) (hs2.mono hG4) (hrep.mono ((hG2.trans hG3).trans hG4)),by simp only [bU,V.tots,List.length_nil];omega,by rw [V.out];simp [dl],rfl,oM,oM⟩
 ·have cx_dv:=fun {p : Int} (hp : 0 ≤ p ∧ p + cp ≤ 600000000000)=>hD (ae fs 0) (bR h0) (.inr rfl) G r code p l hR hs hp
  repeat' (first | refine jR ?_ | (refine jo ?_;first | refine jD F F F ?_ | refine jF fun _=>?_ | (refine cU F F F (cx_dv oM) F ?_;rintro _ G1 _ hle ⟨w1,b1,q1,rfl,hrep,htot,hone,rfl,hq1,hq2⟩;dsimp only [zA,fA];skip)))
  all_goals
   rename_i y9 _ y11 y12 _ y1 y2
   refine Nx.sealC (b:=y1) fun G2 hG2 hs1=>?_
   refine Nx.sealC (b:=y2) fun G3 hG3 hs2=>?_
   refine Nx.sealC (b:=y11) fun G4 hG4 hsg=>?_
   exact aO (vs:=[_]) F ⟨F,trivial⟩ F sB ⟨((hle.trans hG2).trans hG3).trans hG4,.nd 85 [] (ae fs 0).tag [w1],y11,_,F,.uni kd y11 y1 y2 b1 1 ⟨85,nm,fs⟩ (ae fs 0) w1 (Nat.le_refl _) ⟨href.symm,F⟩ (bR h0) hsg (hs1.mono (hG3.trans hG4)) (hs2.mono hG4) (hrep.mono ((hG2.trans hG3).trans hG4)),by simp only [bU,V.tots,List.length_nil];omega,by rw [V.out];simp [dl],rfl,oM,oM⟩
theorem yC (hr : dU vs kd = some ((a,ca),⟨82,nm,fs⟩)) (hvl : vs.length ≤ 1000000) (hk : dX kd = true) (hkl : kd.length ≤ 1000) (h8 : fs.length ≤ 8) (hd : -1000 ≤ deep ∧ deep ≤ 0) : o4 u vs kd deep 10 100:=by
 intro G r code p l hR hs hp
 have href:=dP vs kd
 rw [hr] at href
 have cx_rf:=gE (G:=G) (k:=kd) hR hvl hk oM
 rw [hr] at cx_rf
 have cx_rf : av acs 160 [u,S kd] G (· = Tu [Ag [U8 (82 : Nat),S nm,.slice a fs.length ca],Bo true]):=cx_rf
 refine bI [(0,_),(1,_),(2,_),(3,_)] Tryz.func148 kR Tryz.ntmps148 F F tU fun B hB hW=>?_
 repeat' (first | refine jR ?_ | (refine jo ?_;first | refine jL fun _=>?_ | refine jC F F F ?_ | refine ak F ?_ | refine jF fun _=>?_ | refine jV (dc F F (by (repeat (first | exact BL.nil | apply BL.lit rfl));done)) ?_ | refine jV (am F F) ?_ | refine jO fun _=>?_ | refine ab F F F cx_rf F ?_) | refine ad F F ?_)
 rename_i y9 _ y11
 refine aR (ι:=Unit) (fun i=>True) (fun i=>[(0,Pt r 0),(1,u),(2,S kd),(3,I deep),(9,Pt y9 0),(11,Pt y11 0),(13,I 0)]) (fun _=>G) (fun i=>[.blk y11 (.cells (List.toArray [S kd,S [82],aH,aH]) pG (0,0)),.blk y9 (.cells (List.toArray [U8 (82 : Nat),S nm,.slice a fs.length ca]) ni (0,0)),dJ r code p c6]) (fun i=>0) () ?_ tU F sB (fun i Hi=>?_)
 ·trivial
 by_cases h0 : 0 < fs.length
 all_goals repeat' (first | refine jR ?_ | (refine jo ?_;first | refine ak F ?_ | refine jV (ao F) ?_ | refine aE F ?_ | refine aq F ?_) | refine aw F F (ar oM) ?_ | refine al F F (ay oM) ?_ | (refine ad F (by first | rfl | (refine decide_eq_false ?_;(omega))) ?_))
 all_goals
  refine Nx.sealC (b:=y11) fun G2 hG2 hsg=>?_
  exact aO (vs:=[_]) F ⟨F,trivial⟩ F sB ⟨hG2,.nd 82 [] 0 [],y11,p,F,.recd kd y11 ⟨82,nm,fs⟩ [] [] none none 0 0 ⟨href.symm,F⟩ hsg ⟨F,.inl ⟨F,F⟩⟩ ⟨F,.inl ⟨F,F⟩⟩ F (fun i hi=>absurd hi (by simp)) (fun i hi=>absurd hi (by simp)),by simp [bU,V.tots],by rw [V.out];simp [dl],rfl,oM,oM⟩
theorem aaj (hr : dU vs kd = some ((a,ca),⟨82,nm,fs⟩)) (hvl : vs.length ≤ 1000000) (hk : dX kd = true) (hkl : kd.length ≤ 1000) (h8 : fs.length ≤ 8) (hw : SchW (af vs)) (hcp : 0 ≤ cp ∧ cp ≤ 100000000) (hct : ct ≤ 100000000)
  (hD : ∀ d ∈ fs,eo u vs d.kind (deep - 1) cp ct) (hd : 0 < deep ∧ deep ≤ 1000) : o4 u vs kd deep (8 * cp + 20) (8 * ct + 200):=by
 intro G r code p l hR hs hp
 have href:=dP vs kd
 rw [hr] at href
 have cx_rf:=gE (G:=G) (k:=kd) hR hvl hk oM
 rw [hr] at cx_rf
 have htm:=b6 href.symm
 have cx_rf : av acs 160 [u,S kd] G (· = Tu [Ag [U8 (82 : Nat),S nm,.slice a fs.length ca],Bo true]):=cx_rf
 refine bI [(0,_),(1,_),(2,_),(3,_)] Tryz.func148 kR Tryz.ntmps148 F F tU fun B hB hW=>?_
 repeat' (first | refine jR ?_ | (refine jo ?_;first | refine jL fun _=>?_ | refine jC F F F ?_ | refine ak F ?_ | refine jF fun _=>?_ | refine jV (dc F F (by (repeat (first | exact BL.nil | apply BL.lit rfl));done)) ?_ | refine jV (am F F) ?_ | refine jO fun _=>?_ | refine ab F F F cx_rf F ?_) | refine ad F F ?_)
 rename_i y9 _ y11
 refine Nx.addNil xc 1 (Nx.addNil w9 1 ?_)
 refine Nx.perm (((List.perm_append_comm (l₁:=[_,_,_]) (l₂:=[_])).cons _).cons _) ?_
 dsimp only [zA,fA]
 refine aR (ι:=List (Fld × V) × List Nat × Option Addr × Nat × Option Addr × Nat × Nat × Int × Gh) (fun j=>((j.2.1.length = j.1.length ∧ (∀ i,i < j.1.length → (ae j.1 i).1 ∈ fs) ∧ ∀ i,i < j.1.length → RepR j.2.2.2.2.2.2.2.2 (af vs) (ae j.1 i).2 (ae j.1 i).1.kind (ae j.2.1 i)) ∧ Gh.le G j.2.2.2.2.2.2.2.2) ∧ (j.1.length ≤ j.2.2.2.2.2.2.1 ∧ j.2.2.2.2.2.2.1 ≤ fs.length) ∧ V.tots (gw j.1) ≤ (ct + 20) * j.1.length ∧ p ≤ j.2.2.2.2.2.2.2.1 ∧ j.2.2.2.2.2.2.2.1 ≤ p + (cp + 1) * ((j.2.2.2.2.2.2.1 : Nat) : Int)) (fun j=>[(0,Pt r 0),(1,u),(2,S kd),(3,I deep),(9,Pt y9 0),(11,Pt y11 0),(13,I ((j.2.2.2.2.2.2.1 : Nat) : Int))]) (fun j=>j.2.2.2.2.2.2.2.2) (fun j=>[.acc (.slice j.2.2.2.2.1 j.1.length j.2.2.2.2.2.1) w9 1 j.1.length (aI eC j.2.1),.acc (.slice j.2.2.1 j.1.length j.2.2.2.1) xc 1 j.1.length (aI gk (j.1.map fun p=>p.1.tag)),dJ r code j.2.2.2.2.2.2.2.1 c6,.blk y11 (.cells (List.toArray [S kd,S [82],.slice j.2.2.1 j.1.length j.2.2.2.1,.slice j.2.2.2.2.1 j.1.length j.2.2.2.2.2.1]) pG (0,0)),.blk y9 (.cells (List.toArray [U8 (82 : Nat),S nm,.slice a fs.length ca]) ni (0,0))]) (fun j=>fs.length - j.2.2.2.2.2.2.1) ([],[],none,0,none,0,0,p,G) ?_ tU F sB (fun j Hj=>?_)
 ·refine ⟨⟨⟨F,fun i hi=>absurd hi (by simp),fun i hi=>absurd hi (by simp)⟩,Gh.le.refl _⟩,?_,?_,?_,?_⟩
  ·exact ⟨Nat.le_refl _,Nat.zero_le _⟩
  ·simp [gw,V.tots]
  ·dsimp only;omega
  ·dsimp only;simp
 obtain ⟨gs,bs,a1,c1,a2,c2,i,q,Gq⟩:=j
 dsimp only at Hj ⊢
 obtain ⟨⟨⟨hbl,hfm,hreps⟩,hgq⟩,hil,htt,hq0,hq1⟩:=Hj
 have hcl : (cp + 1) * ((i : Nat) : Int) ≤ (cp + 1) * 8:=Int.mul_le_mul_of_nonneg_left oM oM
 have hcl0 : 0 ≤ (cp + 1) * ((i : Nat) : Int):=Int.mul_nonneg oM oM
 have htl : (ct + 20) * gs.length ≤ (ct + 20) * 8:=Nat.mul_le_mul_left _ oM
 by_cases hgo : i < fs.length
 ·have hcl3 : (cp + 1) * ((i : Nat) : Int) + (cp + 1) ≤ (cp + 1) * 8:=by
   have:=Int.mul_le_mul_of_nonneg_left (show ((i : Nat) : Int) + 1 ≤ 8 by omega) (show 0 ≤ cp + 1 by omega)
   rwa [Int.mul_add,Int.mul_one] at this
  obtain ⟨bf,of,cf,ef,hsf⟩:=(hR.fl _ (er hr)).expl (by dsimp only;omega)
  simp only [gf,Value.slice.injEq] at ef
  obtain ⟨rfl,-,rfl⟩:=ef
  dsimp only at hsf
  have hdm : ae fs i ∈ fs:=bR hgo
  have hdk : aJ (af vs) (ae fs i).kind = true:=dQ hw htm (by simp) hdm
  have cx_dv:=fun {p : Int} (hp : 0 ≤ p ∧ p + cp ≤ 600000000000)=>hD (ae fs i) hdm Gq r code p l (hR.mono hgq) (hs.mono hgq) hp
  have hsf:=hsf.mono hgq
  repeat' (first | refine jM ?_ | (refine jo ?_;first | refine ak F ?_ | (refine jV (bY F F aS ?_ F F) ?_;focus omega) | refine jV (ao F) ?_ | refine jV (aD F F oM) ?_ | refine aE F ?_ | (refine cU F F F (cx_dv oM) F ?_;rintro _ G1 _ hle ⟨w1,b1,q1,rfl,hrep,htot,hone,rfl,hq1,hq2⟩;dsimp only [zA,fA];(try have hsf:=hsf.mono hle))) | refine aw F F (ar oM) ?_ | refine ac F (ar oM) ?_)
  have hgl:=hgq.trans hle
  have cx_pk3 : ∀ {p : Int},0 ≤ p ∧ p ≤ 1000000000000 → cx acs 28 [Pt r 0,I 3] G1 [dJ r code p c6] (fun v L'=>L' = [dJ r code (p + 1) c6] ∧ (v = I 0 ∨ ∃ k,v = I k ∧ 0 < k)):=fun {p} hp=>(cr (b:=r) (p:=p) (n:=3) ⟨hp.1,hp.2,by decide⟩ (hs.mono hgl)).mono fun v G' L' ⟨h1,k,h2,h3,h4,h5⟩=>⟨h1,h3,by subst h2;rcases (show k = 0 ∨ 0 < k by omega) with rfl | h;exact .inl F;exact .inr ⟨k,F,h⟩⟩
  have cx_out:=io hw hrep oM
  have cx_sta:=nN (f:=ae fs i) (hR.mono hgl) hw hdk
  have hms : (cp + 1) * ((i + 1 : Nat) : Int) = (cp + 1) * ((i : Nat) : Int) + (cp + 1):=by rw [Int.natCast_succ,Int.mul_add,Int.mul_one]
  by_cases heq : w1.out = cT (af vs) (ae fs i)
  ·(refine aj (an (id:=18) [.blk y9 (.cells (List.toArray [U8 (82 : Nat),S nm,.slice (some ⟨bf,of,none⟩) fs.length ca]) ni (0,0))] (by intro y hy;simp only [List.mem_cons,List.not_mem_nil,or_false] at hy ⊢;simp [hy]) ai ?_);refine jW 14 [0] (aa 15 1) ?_;refine cy [1] kR dC ⟨?_,trivial⟩;(refine a9 F F ?_;(refine ag F F F (cx_pk3 oM) F ?_;rintro _ _ ⟨rfl,rfl | ⟨k,rfl,hk0⟩⟩ <;> dsimp only [zA,fA])) <;> (refine jS (aa 15 3) ?_;refine jT 11 [2,3] (aa 15 15) ?_;(try (first | (refine Nx.re (d:=107) (v':=Bo true) F (congrArg Value.bool (ar ‹_›)) ?_) | refine Nx.re (d:=107) (v':=Bo false) F (congrArg Value.bool F) ?_));refine jT 7 [4,6,7,9] (aa 15 735) ?_;(first | refine jG (aa 15 991) 8 F (aA F F F) ?_ | refine jN (aa 15 991) 8 F ?_);(first | refine jG (aa 15 2015) 10 F (aD F F oM) ?_ | refine jN (aa 15 2015) 10 F ?_);(first | (refine jG (aa 15 4063) 11 F (dD F F aS ?_) ?_;focus omega) | refine jN (aa 15 4063) 11 F ?_);(first | refine jN (aa 15 4095) 5 F ?_ | (refine jA 5 F ?_;(refine ab F F F cx_out F ?_);refine jS (aa 15 4095) ?_));(first | refine jN (aa 15 8191) 12 F ?_ | (refine jA 12 F ?_;(refine ab F F F cx_sta F ?_);refine jS (aa 15 8191) ?_));refine jT 1 [13] (aa 15 16383) ?_;(first | refine jG (aa 15 32767) 14 F (bB F F F) ?_ | refine jG (aa 15 32767) 14 F (be F F F) ?_);refine jQ ?_))
   all_goals repeat' (first | refine jM ?_ | (refine ad F ?_ ?_;(focus ((first | rfl | (simp [*];done));done))))
   all_goals
    refine Nx.perm ((List.Perm.swap _ _ _).trans ((List.Perm.swap _ _ _).cons _)) ?_
    exact aY (gs,bs,a1,c1,a2,c2,i + 1,q1 + 1,G1) ⟨⟨⟨hbl,hfm,fun i hi=>(hreps i hi).mono hle⟩,hgl⟩,⟨by dsimp only;omega,by dsimp only;omega⟩,htt,by dsimp only;omega,by dsimp only;rw [hms];omega⟩ (by dsimp only;omega) tU rfl aW
  ·(refine aj (an (id:=18) [.blk y9 (.cells (List.toArray [U8 (82 : Nat),S nm,.slice (some ⟨bf,of,none⟩) fs.length ca]) ni (0,0))] (by intro y hy;simp only [List.mem_cons,List.not_mem_nil,or_false] at hy ⊢;simp [hy]) ai ?_);refine jW 14 [0] (aa 15 1) ?_;refine cy [1] kR dC ⟨?_,trivial⟩;(refine a9 F F ?_;(refine ag F F F (cx_pk3 oM) F ?_;rintro _ _ ⟨rfl,rfl | ⟨k,rfl,hk0⟩⟩ <;> dsimp only [zA,fA])) <;> (refine jS (aa 15 3) ?_;refine jT 11 [2,3] (aa 15 15) ?_;(try (first | (refine Nx.re (d:=107) (v':=Bo true) F (congrArg Value.bool (ar ‹_›)) ?_) | refine Nx.re (d:=107) (v':=Bo false) F (congrArg Value.bool F) ?_));refine jT 7 [4,6,7,9] (aa 15 735) ?_;(first | refine jG (aa 15 991) 8 F (aA F F F) ?_ | refine jN (aa 15 991) 8 F ?_);(first | refine jG (aa 15 2015) 10 F (aD F F oM) ?_ | refine jN (aa 15 2015) 10 F ?_);(first | (refine jG (aa 15 4063) 11 F (dD F F aS ?_) ?_;focus omega) | refine jN (aa 15 4063) 11 F ?_);(first | refine jN (aa 15 4095) 5 F ?_ | (refine jA 5 F ?_;(refine ab F F F cx_out F ?_);refine jS (aa 15 4095) ?_));(first | refine jN (aa 15 8191) 12 F ?_ | (refine jA 12 F ?_;(refine ab F F F cx_sta F ?_);refine jS (aa 15 8191) ?_));refine jT 1 [13] (aa 15 16383) ?_;(first | refine jG (aa 15 32767) 14 F (bB F F F) ?_ | refine jG (aa 15 32767) 14 F (be F F F) ?_);refine jQ ?_))
   ·repeat' (first | refine jM ?_ | refine ad F F ?_)
    refine Nx.perm ((List.Perm.swap _ _ _).trans ((List.Perm.swap _ _ _).cons _)) ?_
    exact aY (gs,bs,a1,c1,a2,c2,i + 1,q1 + 1,G1) ⟨⟨⟨hbl,hfm,fun i hi=>(hreps i hi).mono hle⟩,hgl⟩,⟨by dsimp only;omega,by dsimp only;omega⟩,htt,by dsimp only;omega,by dsimp only;rw [hms];omega⟩ (by dsimp only;omega) tU rfl aW
   ·repeat' (first | refine jR ?_ | refine ac F (ar ‹_›) ?_)
    have hl' : (gs ++ [(ae fs i,w1)]).length = gs.length + 1:=by simp
    have hbl' : (bs ++ [b1]).length = (gs ++ [(ae fs i,w1)]).length:=by simp [hbl]
    have hnth : ∀ j,j < (gs ++ [(ae fs i,w1)]).length → (j < gs.length ∧ ae (gs ++ [(ae fs i,w1)]) j = ae gs j ∧ ae (bs ++ [b1]) j = ae bs j) ∨ (ae (gs ++ [(ae fs i,w1)]) j = (ae fs i,w1) ∧ ae (bs ++ [b1]) j = b1):=fun j hj=>by
     by_cases h1 : j < gs.length
     ·exact .inl ⟨h1,by rw [aU hj,aU h1,List.getElem_append_left h1],by rw [aU oM,aU oM,List.getElem_append_left oM]⟩
     ·have h2 : j = gs.length:=oM
      exact .inr ⟨by rw [aU hj];simp [h2],by rw [aU oM];simp [h2,hbl]⟩
    have hfm' : ∀ j,j < (gs ++ [(ae fs i,w1)]).length → (ae (gs ++ [(ae fs i,w1)]) j).1 ∈ fs:=fun j hj=>by
     rcases hnth j hj with ⟨h1,h2,_⟩ | ⟨h2,_⟩
     ·rw [h2];exact hfm j h1
     ·rw [h2];exact hdm
    have hreps' : ∀ j,j < (gs ++ [(ae fs i,w1)]).length → RepR G1 (af vs) (ae (gs ++ [(ae fs i,w1)]) j).2 (ae (gs ++ [(ae fs i,w1)]) j).1.kind (ae (bs ++ [b1]) j):=fun j hj=>by
     rcases hnth j hj with ⟨h1,h2,h3⟩ | ⟨h2,h3⟩
     ·rw [h2,h3];exact (hreps j h1).mono hle
     ·rw [h2,h3];exact hrep
    have hrow1 : aI gk (gs.map fun p=>p.1.tag) ++ [I (ae fs i).tag] = aI gk ((gs ++ [(ae fs i,w1)]).map fun p=>p.1.tag):=by rw [List.map_append];exact (cl gk _ (ae fs i).tag).symm
    have hrow2 : aI eC bs ++ [Pt b1 0] = aI eC (bs ++ [b1]):=(cl eC bs b1).symm
    have hnd : V.tots (gw (gs ++ [(ae fs i,w1)])) = V.tots (gw gs) + (20 + w1.tot):=by simp [gw,eP,V.tots,bU]
    have hmt : (ct + 20) * (gs.length + 1) = (ct + 20) * gs.length + (ct + 20):=Nat.mul_succ _ _
    (refine aj (an (id:=19) [.blk y9 (.cells (List.toArray [U8 (82 : Nat),S nm,.slice (some ⟨bf,of,none⟩) fs.length ca]) ni (0,0))] (by intro y hy;simp only [List.mem_cons,List.not_mem_nil,or_false] at hy ⊢;simp [hy]) ai ?_);refine jW 10 [0,1,2,3,5,7] (aa 16 175) ?_;(refine jG (aa 16 239) 6 F (aA F F F) ?_);((refine jG (aa 16 495) 8 F (aD F F ?_) ?_;focus omega));refine jW 7 [9] (aa 16 1007) ?_;((refine jG (aa 16 2031) 10 F (bY F F aS ?_ F F) ?_;focus omega));refine cy [4,11] kR dC ⟨?_,?_,trivial⟩;(focus (refine a9 F F ?_;(refine ak F ?_);refine jK (aa 16 2047) ?_;refine jA 11 F ?_;(refine jF fun _=>?_);refine jK (aa 16 4095) ?_;refine jA 12 F ?_;((refine cj F F F F F F F F F ?_ fun _ _=>?_;focus omega));refine jK (aa 16 8191) ?_;refine jW 1 [13,14] (aa 16 32767) ?_;refine jA 15 F ?_;(refine jD F F F ?_);refine jK (aa 16 65535) ?_;refine jQ ?_));rotate_left 1;(focus (refine a9 F F ?_;(refine jF fun _=>?_);refine jK (aa 16 4079) ?_;refine jA 4 F ?_;(refine ak F ?_);refine jK (aa 16 4095) ?_;refine jA 12 F ?_;((refine cj F F F F F F F F F ?_ fun _ _=>?_;focus omega));refine jK (aa 16 8191) ?_;refine jW 1 [13,14] (aa 16 32767) ?_;refine jA 15 F ?_;(refine jD F F F ?_);refine jK (aa 16 65535) ?_;refine jQ ?_));rotate_left 1)
    all_goals repeat' (first | refine jM ?_ | (refine jo ?_;first | refine jD F F F ?_ | refine ak F ?_ | refine jF fun _=>?_ | refine cj F F F F F F F F F oM fun _ _=>?_))
    all_goals
     rename_i _ y1 yc1 _ y2 yc2
     rw [hrow1,hrow2]
     exact aY (gs ++ [(ae fs i,w1)],bs ++ [b1],some ⟨y1,0,none⟩,yc1,some ⟨y2,0,none⟩,yc2,i + 1,q1 + 1,G1) ⟨⟨⟨hbl',hfm',hreps'⟩,hgl⟩,⟨by dsimp only;rw [hl'];omega,by dsimp only;omega⟩,by dsimp only;rw [hl',hmt,hnd];omega,by dsimp only;omega,by dsimp only;rw [hms];omega⟩ (by dsimp only;omega) tU rfl (by rw [hl'];repeat (first | exact List.Sublist.refl _ | apply List.Sublist.cons_cons | apply List.Sublist.cons))
 ·repeat' (first | refine jR ?_ | (refine jo ?_;first | refine ak F ?_ | refine jV (ao F) ?_ | refine aq F ?_) | refine al F F (ay oM) ?_ | refine ad F F ?_)
  refine Nx.sealS (v:=.slice a2 gs.length c2) fun G2 hG2 hs1=>?_
  refine Nx.sealS (v:=.slice a1 gs.length c1) fun G3 hG3 hs2=>?_
  refine Nx.sealC (b:=y11) fun G4 hG4 hsg=>?_
  exact aO (vs:=[_]) F ⟨F,trivial⟩ F sB ⟨hgq.trans ((hG2.trans hG3).trans hG4),.nd 82 [] 0 (gw gs),y11,q,F,.recd kd y11 ⟨82,nm,fs⟩ gs bs a1 a2 c1 c2 ⟨href.symm,F⟩ hsg (hs2.mono hG4) (hs1.mono (hG3.trans hG4)) hbl hfm (fun i hi=>(hreps i hi).mono ((hG2.trans hG3).trans hG4)),by rw [bU];simp only [List.length_nil];omega,by rw [V.out];simp [dl],rfl,oM,oM⟩
end
theorem ns {ts : List Ty} {k : act} (h : aJ ts k = true) : ∃ c r,k = c :: r:=by
 cases k with
 | nil=>unfold aJ bw dX at h;simp at h
 | cons c r=>exact ⟨c,r,F⟩
def m5 : Nat → Int
 | 0=>105
 | d + 1=>8 * m5 d + 40
def mf : Nat → Nat
 | 0=>480
 | d + 1=>8 * mf d + 400
theorem vy : ∀ d,d ≤ 4 → 0 ≤ m5 d ∧ m5 d ≤ 500000 ∧ mf d ≤ 3000000 ∧ 105 ≤ m5 d ∧ 480 ≤ mf d:=by decide
theorem abs {u : Value} {vs : List bL} (hw : SchW (af vs)) (hu : u.oneCell' = true) : ∀ (n : Nat) {k : act} {deep : Int},n ≤ 9 → deep ≤ 0 → (n : Int) - 900 ≤ deep → aJ (af vs) k = true → (∀ t,aX (af vs) k = some t → bO (af vs) n t = true) → eo u vs k deep (15 + 10 * n) (300 + 20 * n):=by
 have hvl : vs.length ≤ 8:=by have:=hw.len;unfold af at this;simpa using this
 intro n
 induction n with
 | zero =>
  intro k deep _ hd hd2 hk he
  obtain ⟨c,r,rfl⟩:=ns hk
  have hkk:=cQ (c7 hk)
  simp only [List.length_cons] at hkk
  by_cases h1 : c.toNat = 91
  ·obtain rfl:=bn h1 dC
   exact (pq (cp:=0) (ct:=0) oM oM (fun h=>absurd h oM) hu oM oM).le oM oM
  by_cases h2 : c.toNat = 63
  ·obtain rfl:=bn h2 dC
   exact (ry (cp:=0) (ct:=0) oM oM (fun h=>absurd h oM) hu oM oM).le oM oM
  have h91 : ¬ (c.toNat = 91 ∨ c.toNat = 63):=fun h=>by rcases h with h | h <;> omega
  cases hr : aX (af vs) (c :: r) with
  | some t=>have:=he t hr;simp [bO] at this
  | none =>
   rcases ew hk h91 hr with e1 | e1 | e1
   ·rw [e1];exact rz.le oM oM
   ·rw [e1];exact rx.le oM oM
   ·rw [e1];exact pr.le oM oM
 | succ n ih =>
  intro k deep hn hd hd2 hk he
  obtain ⟨c,r,rfl⟩:=ns hk
  have hkk:=cQ (c7 hk)
  have hkk1:=hkk.1
  simp only [List.length_cons] at hkk
  by_cases h1 : c.toNat = 91
  ·obtain rfl:=bn h1 dC
   exact (pq (cp:=0) (ct:=0) oM oM (fun h=>absurd h oM) hu oM oM).le oM oM
  by_cases h2 : c.toNat = 63
  ·obtain rfl:=bn h2 dC
   exact (ry (cp:=0) (ct:=0) oM oM (fun h=>absurd h oM) hu oM oM).le oM oM
  have h91 : ¬ (c.toNat = 91 ∨ c.toNat = 63):=fun h=>by rcases h with h | h <;> omega
  cases hr : aX (af vs) (c :: r) with
  | none =>
   rcases ew hk h91 hr with e1 | e1 | e1
   ·rw [e1];exact rz.le oM oM
   ·rw [e1];exact rx.le oM oM
   ·rw [e1];exact pr.le oM oM
  | some t =>
   obtain ⟨r',e⟩:=fa hr
   simp only [List.cons.injEq] at e
   obtain ⟨rfl,rfl⟩:=e
   have href:=dP vs (64 :: r)
   rw [hr] at href
   rcases hrv : dU vs (64 :: r) with _ | ⟨⟨a,ca⟩,⟨so,nm,fs⟩⟩
   ·rw [hrv] at href;cases href
   rw [hrv] at href
   obtain rfl:=(Option.some.inj href).symm
   dsimp only at hr he
   have hTW:=hw.ty _ (b6 hr)
   have h8 : fs.length ≤ 8:=hTW.len
   refine rv ?_ oM
   rcases hTW.sort with h3 | h3 | h3 <;> dsimp only at h3 <;> subst h3
   ·exact fun G r code p l g1 g2 g3=>((yC hrv oM hkk1 (by simp only [List.length_cons];omega) h8 oM) G r code p l g1 g2 ⟨g3.1,oM⟩).mono fun _ _ _ ⟨h6,w,b,q,h7,h8,h9,h10,h11,h12,h13⟩=>⟨h6,w,b,q,h7,h8,oM,h10,h11,h12,oM⟩
   ·have h0 : 0 < fs.length:=List.length_pos_iff.2 (hTW.ne (by simp))
    refine fun G r code p l g1 g2 g3=>((vu (cp:=15 + 10 * n) (ct:=300 + 20 * n) hrv oM hkk1 (by simp only [List.length_cons];omega) h0 h8 hw oM oM (fun d hdm hc=>?_) oM) G r code p l g1 g2 ⟨g3.1,oM⟩).mono fun _ _ _ ⟨h6,w,b,q,h7,h8,h9,h10,h11,h12,h13⟩=>⟨h6,w,b,q,h7,h8,oM,h10,h11,h12,oM⟩
    rcases hc with hc | rfl
    ·omega
    refine ih oM oM oM (dQ hw (b6 hr) (by simp) hdm) fun t' ht'=>?_
    have:=he _ hr
    rw [bO,if_neg (by simp),ig] at this
    dsimp only at this
    rw [ht'] at this
    exact this
   ·have h0 : 0 < fs.length:=List.length_pos_iff.2 (hTW.ne (by simp))
    exact fun G r code p l g1 g2 g3=>((vv hrv oM hkk1 (by simp only [List.length_cons];omega) h0 h8 hw) G r code p l g1 g2 ⟨g3.1,oM⟩).mono fun _ _ _ ⟨h6,w,b,q,h7,h8,h9,h10,h11,h12,h13⟩=>⟨h6,w,b,q,h7,h8,oM,h10,h11,h12,oM⟩
theorem rB {u : Value} {vs : List bL} (hw : SchW (af vs)) (hu : u.oneCell' = true) : ∀ (m : Nat) {k : act} {deep : Int},m ≤ 4 → deep ≤ m → -800 ≤ deep → aJ (af vs) k = true → eo u vs k deep (m5 m) (mf m):=by
 have hvl : vs.length ≤ 8:=by have:=hw.len;unfold af at this;simpa using this
 have hz : ∀ {k : act} {deep : Int},deep ≤ 0 → -800 ≤ deep → aJ (af vs) k = true → eo u vs k deep 105 480:=fun {k deep} h1 h2 h3=>(abs hw hu ((af vs).length + 1) (by have:=hw.len;omega) h1 (by have:=hw.len;omega) h3 (fun t ht=>pp hw t ht)).le (by have:=hw.len;omega) (by have:=hw.len;omega)
 intro m
 induction m with
 | zero=>intro k deep _ hd hd2 hk;exact hz hd hd2 hk
 | succ m ih =>
  intro k deep hm hd hd2 hk
  have hcm:=vy m oM
  have e1 : m5 (m + 1) = 8 * m5 m + 40:=rfl
  have e2 : mf (m + 1) = 8 * mf m + 400:=rfl
  by_cases hd0 : deep ≤ 0
  ·exact (hz hd0 hd2 hk).le oM oM
  have hD : ∀ {k : act},aJ (af vs) k = true → eo u vs k (deep - 1) (m5 m) (mf m):=fun {k} hk=>ih oM oM oM hk
  obtain ⟨c,r,rfl⟩:=ns hk
  have hkk:=cQ (c7 hk)
  have hkk1:=hkk.1
  simp only [List.length_cons] at hkk
  by_cases h1 : c.toNat = 91
  ·obtain rfl:=bn h1 dC
   exact (pq oM oM (fun _=>hD (dx (.inl F) hk)) hu oM oM).le oM oM
  by_cases h2 : c.toNat = 63
  ·obtain rfl:=bn h2 dC
   exact (ry oM oM (fun _=>hD (dx (.inr F) hk)) hu oM oM).le oM oM
  have h91 : ¬ (c.toNat = 91 ∨ c.toNat = 63):=fun h=>by rcases h with h | h <;> omega
  cases hr : aX (af vs) (c :: r) with
  | none =>
   rcases ew hk h91 hr with e1 | e1 | e1
   ·rw [e1];exact rz.le oM oM
   ·rw [e1];exact rx.le oM oM
   ·rw [e1];exact pr.le oM oM
  | some t =>
   obtain ⟨r',e⟩:=fa hr
   simp only [List.cons.injEq] at e
   obtain ⟨rfl,rfl⟩:=e
   have href:=dP vs (64 :: r)
   rw [hr] at href
   rcases hrv : dU vs (64 :: r) with _ | ⟨⟨a,ca⟩,⟨so,nm,fs⟩⟩
   ·rw [hrv] at href;cases href
   rw [hrv] at href
   obtain rfl:=(Option.some.inj href).symm
   dsimp only at hr
   have hTW:=hw.ty _ (b6 hr)
   have h8 : fs.length ≤ 8:=hTW.len
   refine rv ?_ oM
   rcases hTW.sort with h3 | h3 | h3 <;> dsimp only at h3 <;> subst h3
   ·exact fun G r code p l g1 g2 g3=>((aaj hrv oM hkk1 (by simp only [List.length_cons];omega) h8 hw oM oM (fun d hdm=>hD (dQ hw (b6 hr) (by simp) hdm)) oM) G r code p l g1 g2 ⟨g3.1,oM⟩).mono fun _ _ _ ⟨h6,w,b,q,h7,h8,h9,h10,h11,h12,h13⟩=>⟨h6,w,b,q,h7,h8,oM,h10,h11,h12,oM⟩
   ·have h0 : 0 < fs.length:=List.length_pos_iff.2 (hTW.ne (by simp))
    exact fun G r code p l g1 g2 g3=>((vu hrv oM hkk1 (by simp only [List.length_cons];omega) h0 h8 hw oM oM (fun d hdm _=>hD (dQ hw (b6 hr) (by simp) hdm)) oM) G r code p l g1 g2 ⟨g3.1,oM⟩).mono fun _ _ _ ⟨h6,w,b,q,h7,h8,h9,h10,h11,h12,h13⟩=>⟨h6,w,b,q,h7,h8,oM,h10,h11,h12,oM⟩
   ·have h0 : 0 < fs.length:=List.length_pos_iff.2 (hTW.ne (by simp))
    exact fun G r code p l g1 g2 g3=>((vv hrv oM hkk1 (by simp only [List.length_cons];omega) h0 h8 hw) G r code p l g1 g2 ⟨g3.1,oM⟩).mono fun _ _ _ ⟨h6,w,b,q,h7,h8,h9,h10,h11,h12,h13⟩=>⟨h6,w,b,q,h7,h8,oM,h10,h11,h12,oM⟩
theorem sD {r : Nat} {code : Value} {p : Int} {l : act} (hp : 0 ≤ p ∧ p ≤ 600000000000) (hs : a8 G code 1 l.length (bi l)) :
  cx acs 72 [Pt r 0] G [dJ r code p c6] (fun v L'=>∃ x q,v = S x ∧ x.length ≤ 20000 ∧ L' = [dJ r code q c6] ∧ p ≤ q ∧ q ≤ p + 700):=by
 refine jH [(0,_)] Tryz.func72 Tryz.ntmps72 fun B hB hW=>?_
 repeat' (first | refine jX ?_ | (refine jo ?_;first | refine jF fun _=>?_ | refine jV (aQ F F oM) ?_ | (refine dM 64 F F F ?_ F (fun xs hxs=>?_);(focus ((simp only [List.length_append,List.length_cons,List.length_nil,List.length_take];omega);done))) | refine aE F ?_ | refine aq F ?_ | (refine ag F F F (vN ?_ (by (repeat (assumption));done) ?_ ?_) rfl ?_;(focus omega);(focus ((first | assumption | (simp;done));done));(focus ((simp;done);done));rintro _ _ ⟨ty,q1,rfl,hty,hty1,rfl,hq1,hq2⟩;dsimp only [zA,fA]) | (refine ag F F F (cr ?_ (by (repeat (assumption));done)) rfl ?_;(focus ((first | omega | (simp;omega));done));rintro _ _ ⟨k,rfl,rfl,hk0,hk1⟩;dsimp only [zA,fA]) | (refine ab F F F (sF ?_) F ?_;(focus ((simp;omega);done)))) | refine kq F F (fun _=>?_) (fun _=>?_) | refine ad F F ?_ | refine cR F (fun _=>?_) (fun _=>?_))
 all_goals (first | exact aO (vs:=[_]) F ⟨F,trivial⟩ F sB ⟨F,_,_,F,by (simp only [List.length_append,List.length_cons,List.length_nil,List.length_take,List.length_drop];omega),rfl,oM,oM⟩ | skip)
 all_goals simp only [List.length_append,List.length_cons,List.length_nil] at hk1
 all_goals (refine aj (an (id:=6) [] (fun _ h=>absurd h (by simp)) ai ?_);refine jW 7 [0,1,2,4,9,10,11,12] (aa 15 7703) ?_;refine cy [3,5] kR dC ⟨?_,?_,trivial⟩;(focus (refine a9 F F ?_;(refine jF fun _=>?_);refine jK (aa 15 7711) ?_;refine jA 5 F ?_;((refine ag F F F (cr ?_ (by (repeat (assumption));done)) rfl ?_;(focus omega);rintro _ _ ⟨k,rfl,rfl,hk0,hk1⟩;dsimp only [zA,fA]));refine jK (aa 15 7743) ?_;((refine jG (aa 15 7807) 6 F (aQ F F ?_) ?_;focus omega));refine jA 7 F ?_;((refine dM 64 F F F ?_ F (fun xs hxs=>?_);(focus ((simp only [List.length_append,List.length_cons,List.length_nil,List.length_take];omega);done))));refine jK (aa 15 7935) ?_;refine jW 0 [8,13,14] (aa 15 32767) ?_;refine jQ ?_));rotate_left 1;(focus (refine a9 F F ?_;((refine ag F F F (cr ?_ (by (repeat (assumption));done)) rfl ?_;(focus omega);rintro _ _ ⟨k,rfl,rfl,hk0,hk1⟩;dsimp only [zA,fA]));refine jK (aa 15 7735) ?_;refine jA 3 F ?_;(refine jF fun _=>?_);refine jK (aa 15 7743) ?_;((refine jG (aa 15 7807) 6 F (aQ F F ?_) ?_;focus omega));refine jA 7 F ?_;((refine dM 64 F F F ?_ F (fun xs hxs=>?_);(focus ((simp only [List.length_append,List.length_cons,List.length_nil,List.length_take];omega);done))));refine jK (aa 15 7935) ?_;refine jW 0 [8,13,14] (aa 15 32767) ?_;refine jQ ?_));rotate_left 1)
 all_goals repeat' (refine jR ?_)
 all_goals exact aO (vs:=[_]) F ⟨F,trivial⟩ F sB ⟨F,_,_,F,by (simp only [List.length_append,List.length_cons,List.length_nil,List.length_take,List.length_drop];omega),rfl,oM,oM⟩
theorem vP {r : Nat} {code : Value} {p : Int} {l s : act} (hp : 0 ≤ p ∧ p ≤ 600000000000) (hs : a8 G code 1 l.length (bi l)) (hsl : s.length ≤ 10000000) :
  cx acs 73 [Pt r 0,S s] G [dJ r code p c6] (fun v L'=>∃ x q,v = S x ∧ x.length ≤ 400 ∧ L' = [dJ r code q c6] ∧ p ≤ q ∧ q ≤ p + 20):=by
 have cx_lkg : ∀ {k : act} (G : Gh),k.length ≤ 1000 → bx acs 83 [S s,S k] G (fun v _=>∃ u b,v = Tu [u,Bo b]):=fun {k} G h=>(eW (G:=G) (s:=s) (k:=k) oM oM).mono fun v G' L' ⟨h1,h2,u,vs,h3,_⟩=>⟨h1,h2,u,_,h3⟩
 refine jB (Post:=fun v G' L'=>G' = G ∧ _) [(0,_),(1,_)] Tryz.func73 Tryz.ntmps73 fun B hok hB hW=>?_
 repeat' (first | refine jR ?_ | (refine jo ?_;first | refine jF fun _=>?_ | refine jV (aQ F F oM) ?_ | (refine dM 64 F F F ?_ F (fun xs hxs=>?_);(focus ((simp only [List.length_append,List.length_cons,List.length_nil,List.length_take];omega);done))) | (refine ag F F F (cr ?_ (by (repeat (assumption));done)) rfl ?_;(focus omega);rintro _ _ ⟨k,rfl,rfl,hk0,hk1⟩;dsimp only [zA,fA]) | (refine ag F F F (qm ?_ (by (repeat (assumption));done)) rfl ?_;(focus omega);rintro _ _ ⟨kd,q1,rfl,hkd,rfl,hq1,hq2⟩;dsimp only [zA,fA]) | (refine aM F F F ((cx_lkg _) oM) F ?_;rintro _ G hle ⟨u1,b1,rfl⟩;skip)) | refine cR F (fun _=>?_) (fun _=>?_) | refine l4 F (fun _=>?_) (fun _=>?_))
 all_goals refine Nx.base hok hB ?_
 all_goals exact aO (vs:=[_]) F ⟨F,trivial⟩ F sB ⟨F,_,_,F,by (first | omega | (simp only [List.length_append,List.length_cons,List.length_nil,List.length_take,List.length_drop];omega)),rfl,oM,oM⟩
theorem yO {r : Nat} {code : Value} {p : Int} {l s k : act} (hp : 0 ≤ p ∧ p ≤ 500000000000) (hs : a8 G code 1 l.length (bi l)) (hsl : s.length ≤ 10000000) (hkl : k.length ≤ 1048576) :
  cx acs 61 [Pt r 0,S s,S k] G [dJ r code p c6] (fun v L'=>∃ x q,v = S x ∧ x.length ≤ 20000 ∧ L' = [dJ r code q c6] ∧ p ≤ q ∧ q ≤ p + 3000000):=by
 by_cases hk : cz s k = true
 case neg =>
  have hk2 : cz s k = false:=by simpa using hk
  have cx_lk1 : ∀ G,bx acs 83 [S s,S k] G (fun v _=>∃ u,v = Tu [u,Bo false]):=fun G=>by
   refine (eW (G:=G) (s:=s) (k:=k) oM oM).mono ?_
   rintro v G' L' ⟨h1,h2,u,vs,rfl,_⟩
   exact ⟨h1,h2,u,by rw [hk2]⟩
  refine jB (Post:=fun v G' L'=>G' = G ∧ _) [(0,_),(1,_),(2,_)] Tryz.func61 Tryz.ntmps61 fun B hok hB hW=>?_
  repeat' (first | refine jR ?_ | (refine jo ?_;(refine aM F F F (cx_lk1 _) F ?_;rintro _ G hle ⟨u1,rfl⟩;skip)) | refine ac F F ?_)
  all_goals refine Nx.base hok hB ?_
  all_goals exact aO (vs:=[_]) F ⟨F,trivial⟩ F aW ⟨F,_,_,F,by (simp only [List.length_append,List.length_cons,List.length_nil,List.length_take,List.length_drop];omega),rfl,oM,oM⟩
 obtain ⟨ts,hsc,hki,hw⟩:=hY hk
 have cx_lka : ∀ G,bx acs 83 [S s,S k] G (fun v G'=>∃ a c vs,v = Tu [.slice a vs.length c,Bo true] ∧ SchR G' (.slice a vs.length c) vs ∧ af vs = ts):=fun G=>by
  refine (eW (G:=G) (s:=s) (k:=k) oM oM).mono ?_
  rintro v G' L' ⟨h1,h2,u,vs,rfl,h4,_,h6⟩
  obtain ⟨_,⟨rfl,h0⟩ | ⟨b,o,cap,rfl,_,_⟩⟩:=h4.sl
  ·exact ⟨h1,h2,none,0,vs,by rw [hk,h0],by rw [h0];exact h4,h6 ts hsc hki⟩
  ·exact ⟨h1,h2,_,cap,vs,by rw [hk],h4,h6 ts hsc hki⟩
 refine jB (Post:=fun v G' L'=>G' = G ∧ _) [(0,_),(1,_),(2,_)] Tryz.func61 Tryz.ntmps61 fun B hok hB hW=>?_
 repeat' (first | refine jR ?_ | (refine jo ?_;(refine aM F F F (cx_lka _) F ?_;rintro _ G hle ⟨av1,cv1,vs1,rfl,hR1,hT1⟩;skip)) | refine ad F F ?_)
 subst hT1
 have hg0:=hle
 have hu1:=hR1.sl.one
 have cx_dv:=fun {p : Int} (hp : 0 ≤ p ∧ p + m5 4 ≤ 600000000000)=>rB hw hu1 4 (k:=k) (deep:=4) oM oM oM hki G r code p l hR1 (hs.mono hle) hp
 have hc4 : m5 4 = 453480:=by decide
 have ht4 : mf 4 = 2200080:=by decide
 rw [hc4,ht4] at cx_dv
 repeat' ((refine jo ?_;(refine cU F F F (cx_dv oM) F ?_;rintro _ G1 _ hle ⟨w1,b1,q1,rfl,hrep,htot,hone,rfl,hq1,hq2⟩;dsimp only [zA,fA];skip)))
 have hg1:=hle
 have hob:=kZ hw hrep
 unfold gI at hob
 have cx_out:=io hw hrep oM
 repeat' (first | refine jR ?_ | (refine jo ?_;refine ab F F F cx_out F ?_))
 refine aR (ι:=act × Int × Int × Gh) (fun j=>Gh.le G1 j.2.2.2 ∧ (0 ≤ j.2.1 ∧ j.2.1 ≤ 3) ∧ (1 ≤ j.1.length ∧ j.1.length ≤ 2 * mf (j.2.1.toNat + 1)) ∧ p ≤ j.2.2.1 ∧ j.2.2.1 ≤ p + 500000 * (4 - j.2.1)) (fun j=>[(0,Pt r 0),(2,S k),(7,.slice av1 vs1.length cv1),(9,S j.1),(10,I j.2.1)]) (fun j=>j.2.2.2) (fun j=>[dJ r code j.2.2.1 c6]) (fun j=>j.2.1.toNat) (w1.out,3,q1,G1) ?_ tU F aW (fun j Hj=>?_)
 ·refine ⟨Gh.le.refl _,by dsimp only;omega,⟨hone,?_⟩,by dsimp only;omega,by dsimp only;omega⟩
  show w1.out.length ≤ 2 * mf 4
  omega
 obtain ⟨t,d,q,Gq⟩:=j
 dsimp only at Hj ⊢
 obtain ⟨hgq,hd,⟨ht1,ht2⟩,hq3,hq4⟩:=Hj
 have hs2:=hs.mono ((hg0.trans hg1).trans hgq)
 clear cx_dv cx_out hrep
 by_cases hgo : 150 < t.length ∧ 0 < d
 ·obtain ⟨hgo1,hgo2⟩:=hgo
  have hcm:=vy d.toNat oM
  have cx_dv:=fun {p : Int} (hp : 0 ≤ p ∧ p + 500000 ≤ 600000000000)=>((rB hw hu1 d.toNat (k:=k) (deep:=d) oM oM oM hki).le hcm.2.1 (Nat.le_refl _)) Gq r code p l (hR1.mono (hg1.trans hgq)) hs2 hp
  repeat' (first | refine jR ?_ | (refine jo ?_;first | refine aE F ?_ | (refine cU F F F (cx_dv oM) F ?_;rintro _ G1 _ hle ⟨w1,b1,q1,rfl,hrep,htot,hone,rfl,hq1,hq2⟩;dsimp only [zA,fA];skip)) | refine aw F F (ar oM) ?_ | refine ac F (ar ‹_›) ?_)
  have hob:=kZ hw hrep
  unfold gI at hob
  have cx_out:=io hw hrep oM
  have e : (d - 1).toNat + 1 = d.toNat:=oM
  repeat' (first | refine jM ?_ | (refine jo ?_;refine ab F F F cx_out F ?_))
  exact aY (w1.out,d - 1,q1,G1) ⟨hgq.trans hle,by dsimp only;omega,⟨hone,by dsimp only;rw [e];omega⟩,by dsimp only;omega,by dsimp only;omega⟩ (by dsimp only;omega) tU rfl aW
 ·have hx : t.length ≤ 150 ∨ d ≤ 0:=oM
  have hl : t.length ≤ 8480:=by
   rcases hx with hx | hx
   ·omega
   ·have e : d = 0:=oM
    subst e
    have : mf (Int.toNat 0 + 1) = 4240:=by decide
    omega
  repeat' (first | refine jR ?_ | (refine jo ?_;first | refine aE F ?_ | refine aq F ?_ | (refine ag F F F (cr ?_ (by (repeat (assumption));done)) rfl ?_;(focus omega);rintro _ _ ⟨k,rfl,rfl,hk0,hk1⟩;dsimp only [zA,fA])) | refine dA F F (fun _=>?_) (fun _=>?_) | (refine ad F (by first | rfl | (refine decide_eq_false ?_;(omega))) ?_) | refine cR F (fun _=>?_) (fun _=>?_))
  all_goals refine Nx.base hok hB ?_
  all_goals (first | exact aO (vs:=[_]) F ⟨F,trivial⟩ F aW ⟨F,_,_,F,by (omega),F,oM,oM⟩ | skip)
  all_goals (refine aj (an (id:=11) [] (fun _ h=>absurd h (by simp)) ai ?_);refine jW 7 [0,1,2,4,9,10,11,12] (aa 15 7703) ?_;refine cy [3,5] kR dC ⟨?_,?_,trivial⟩;(focus (refine a9 F F ?_;(refine jF fun _=>?_);refine jK (aa 15 7711) ?_;refine jA 5 F ?_;((refine ag F F F (cr ?_ (by (repeat (assumption));done)) rfl ?_;(focus omega);rintro _ _ ⟨k,rfl,rfl,hk0,hk1⟩;dsimp only [zA,fA]));refine jK (aa 15 7743) ?_;((refine jG (aa 15 7807) 6 F (aQ F F ?_) ?_;focus omega));refine jA 7 F ?_;((refine dM 64 F F F ?_ F (fun xs hxs=>?_);(focus ((simp only [List.length_append,List.length_cons,List.length_nil,List.length_take];omega);done))));refine jK (aa 15 7935) ?_;refine jW 0 [8,13,14] (aa 15 32767) ?_;refine jQ ?_));rotate_left 1;(focus (refine a9 F F ?_;((refine ag F F F (cr ?_ (by (repeat (assumption));done)) rfl ?_;(focus omega);rintro _ _ ⟨k,rfl,rfl,hk0,hk1⟩;dsimp only [zA,fA]));refine jK (aa 15 7735) ?_;refine jA 3 F ?_;(refine jF fun _=>?_);refine jK (aa 15 7743) ?_;((refine jG (aa 15 7807) 6 F (aQ F F ?_) ?_;focus omega));refine jA 7 F ?_;((refine dM 64 F F F ?_ F (fun xs hxs=>?_);(focus ((simp only [List.length_append,List.length_cons,List.length_nil,List.length_take];omega);done))));refine jK (aa 15 7935) ?_;refine jW 0 [8,13,14] (aa 15 32767) ?_;refine jQ ?_));rotate_left 1)
  all_goals repeat' (refine jR ?_)
  all_goals exact aO (vs:=[_]) F ⟨F,trivial⟩ F sB ⟨F,_,_,F,by (simp only [List.length_append,List.length_cons,List.length_nil,List.length_take,List.length_drop];omega),rfl,oM,oM⟩
theorem oT {r : Nat} {code : Value} {p : Int} {l : act} (hp : 0 ≤ p ∧ p ≤ 400000000000) (hs : a8 G code 1 l.length (bi l)) :
  cx acs 27 [Pt r 0] G [dJ r code p c6] (fun v L'=>∃ s k x q,v = Tu [S s,S k,S x] ∧ (s.length ≤ 20000 ∧ k.length ≤ 400 ∧ x.length ≤ 20000) ∧ L' = [dJ r code q c6] ∧ p ≤ q ∧ q ≤ p + 4000000):=by
 refine jH [(0,_)] Tryz.func27 Tryz.ntmps27 fun B hB hW=>?_
 repeat' (first | refine jR ?_ | (refine jo ?_;first | (refine ag F F F (sD ?_ (by (repeat (assumption));done)) rfl ?_;(focus omega);rintro _ _ ⟨sc,q1,rfl,hsc,rfl,hq1,hq2⟩;dsimp only [zA,fA]) | (refine ag F F F (vP ?_ (by (repeat (assumption));done) ?_) rfl ?_;(focus omega);(focus omega);rintro _ _ ⟨kd,q1,rfl,hkd,rfl,hq1,hq2⟩;dsimp only [zA,fA]) | (refine ag F F F (yO ?_ (by (repeat (assumption));done) ?_ ?_) rfl ?_;(focus omega);(focus omega);(focus omega);rintro _ _ ⟨tx,q1,rfl,htx,rfl,hq1,hq2⟩;dsimp only [zA,fA])))
 exact aO (vs:=[_,_,_]) F ⟨F,F,F,trivial⟩ F aW ⟨F,_,_,_,_,F,⟨oM,oM,oM⟩,F,oM,oM⟩
section
variable {s k w x t : act}
theorem lN (h : (cG s k w x).2 = true) : ka s k w x (cG s k w x).1:=by
 unfold cG at h ⊢
 cases hb : c9 s k w with
 | none=>rw [hb] at h;cases h
 | some b =>
  rw [hb] at h
  dsimp only at h ⊢
  by_cases hx : 1 ≤ x.length ∧ x.length ≤ 20
  ·rw [if_pos hx] at h ⊢
   dsimp only at h ⊢
   unfold oG at h
   have hl:=of_decide_eq_true h
   refine ⟨b,hb,hx,hl,?_⟩
   unfold gJ
   rw [if_pos hl]
  ·rw [if_neg hx] at h;cases h
theorem wm (h : ka s k w x t) : cG s k w x = (t,true):=by
 obtain ⟨b,hb,hx,hl,rfl⟩:=h
 unfold cG
 rw [hb]
 dsimp only
 rw [if_pos hx]
 unfold gJ oG
 rw [if_pos hl,decide_eq_true hl]
theorem jq (h : ka s k w x t) : 1 ≤ t.length ∧ t.length ≤ 200 ∧ w.length ≤ 400:=by
 obtain ⟨b,hb,hx,hl,rfl⟩:=h
 obtain ⟨v,hc,ho⟩:=pO hb
 obtain ⟨ts,_,_,_,_,_,h6,_⟩:=gn hc
 have h7:=gl (b ++ aK (bz (x ++ b ++ x))) oM
 have h8:=List.length_pos_iff.2 (ny (b:=b ++ aK (bz (x ++ b ++ x))))
 exact ⟨oM,oM,by rw [← ho];exact h6⟩
theorem su : (cG s k w x).1.length ≤ 200:=by
 unfold cG
 split
 ·split
  ·dsimp only
   unfold gJ
   split
   ·rename_i hl
    have h7:=gl _ (Nat.le_trans hl oM)
    omega
   ·simp
  ·simp
 ·simp
end
variable {G : Gh}
theorem a8.preS {p : Option Addr} {n c sz m : Nat} {xs : List Value} (h : a8 G (.slice p n c) sz n xs) (hm : m ≤ n) : a8 G (.slice p m c) sz m (xs.take (m * sz)):=by
 obtain ⟨h1,⟨h2,h3⟩ | ⟨b',o',cap',e,hc,hs⟩⟩:=h
 ·simp only [Value.slice.injEq] at h2
  obtain ⟨rfl,rfl,rfl⟩:=h2
  obtain rfl : m = 0:=oM
  exact ⟨by simp [h3],.inl ⟨F,by simp [h3]⟩⟩
 ·simp only [Value.slice.injEq] at e
  obtain ⟨rfl,-,rfl⟩:=e
  refine ⟨by rw [List.length_take,h1];exact Nat.min_eq_left (Nat.mul_le_mul_right _ hm),.inr ⟨b',o',c,F,oM,?_⟩⟩
  obtain ⟨cs,h3,h4⟩:=hs
  exact ⟨cs,h3,fun i v hv=>h4 i v (by
   rw [List.getElem?_take] at hv
   split at hv
   ·exact hv
   ·cases hv)⟩
theorem iA {v : Value} {l : act} (hs : a8 G v 1 l.length (bi l)) : av acs 13 [v] G (fun r=>∃ s k x y,r = Tu [S s,S k,S x,S y] ∧ s.length ≤ 1048576 ∧ k.length ≤ 1048576 ∧ x.length ≤ 1048576 ∧ y.length ≤ 1048576):=by
 refine jE [(0,_)] Tryz.func13 Tryz.ntmps13 fun B hB=>?_
 repeat' (first | refine jR ?_ | (refine jo ?_;first | (refine dq F F F (rP (by (repeat (assumption));done)) rfl ?_;rintro _ _ ⟨b,code,l,rfl,rfl,hcd,hcl⟩;dsimp only [zA,fA]) | (refine ag F F F (oT ?_ (by (repeat (assumption));done)) rfl ?_;(focus omega);rintro _ _ ⟨sc,kd,tx,q1,rfl,⟨hsc,hkd,htx⟩,rfl,hq1,hq2⟩;dsimp only [zA,fA])))
 (refine aj (an (id:=3) [] (fun _ h=>absurd h (by simp)) ai ?_);refine jW 9 [0,1,2,4] (aa 13 23) ?_;refine cy [3,5] kR dC ⟨?_,?_,trivial⟩;(focus (refine a9 F F ?_;(refine jF fun _=>?_);refine jK (aa 13 31) ?_;refine jA 5 F ?_;((refine ag F F F (cr ?_ (by (repeat (assumption));done)) rfl ?_;(focus omega);rintro _ _ ⟨k,rfl,rfl,hk0,hk1⟩;dsimp only [zA,fA]));refine jK (aa 13 63) ?_;refine jW 3 [6,9,10,11] (aa 13 3711) ?_;((refine jG (aa 13 3839) 7 F (aQ F F ?_) ?_;focus omega));refine jA 8 F ?_;((refine dM 64 F F F ?_ F (fun xs hxs=>?_);(focus ((simp only [List.length_append,List.length_cons,List.length_nil,List.length_take];omega);done))));refine jK (aa 13 4095) ?_;refine jW 0 [12] (aa 13 8191) ?_;refine jQ ?_));rotate_left 1;(focus (refine a9 F F ?_;((refine ag F F F (cr ?_ (by (repeat (assumption));done)) rfl ?_;(focus omega);rintro _ _ ⟨k,rfl,rfl,hk0,hk1⟩;dsimp only [zA,fA]));refine jK (aa 13 55) ?_;refine jW 4 [6,9,10,11] (aa 13 3703) ?_;refine jA 3 F ?_;(refine jF fun _=>?_);refine jK (aa 13 3711) ?_;((refine jG (aa 13 3839) 7 F (aQ F F ?_) ?_;focus omega));refine jA 8 F ?_;((refine dM 64 F F F ?_ F (fun xs hxs=>?_);(focus ((simp only [List.length_append,List.length_cons,List.length_nil,List.length_take];omega);done))));refine jK (aa 13 4095) ?_;refine jW 0 [12] (aa 13 8191) ?_;refine jQ ?_));rotate_left 1)
 all_goals repeat' (refine jR ?_)
 all_goals exact jZ (vs:=[_,_,_,_]) F ⟨F,F,F,F,trivial⟩ F ⟨F,F,_,_,_,_,F,oM,oM,oM,oM⟩
theorem qx {v : Value} {l : act} (hs : a8 G v 1 l.length (bi l)) : av acs 9 [v] G (fun r=>∃ s k x y,r = Tu [S s,S k,S x,S y] ∧ s.length ≤ 1048576 ∧ k.length ≤ 1048576 ∧ x.length ≤ 1048576 ∧ y.length ≤ 1048576):=by
 refine jE [(0,_)] Tryz.func9 Tryz.ntmps9 fun B hB=>?_
 repeat' (first | refine jR ?_ | (refine jo ?_;first | (refine dq F F F (rP (by (repeat (assumption));done)) rfl ?_;rintro _ _ ⟨b,code,l,rfl,rfl,hcd,hcl⟩;dsimp only [zA,fA]) | (refine ag F F F (oT ?_ (by (repeat (assumption));done)) rfl ?_;(focus omega);rintro _ _ ⟨sc,kd,tx,q1,rfl,⟨hsc,hkd,htx⟩,rfl,hq1,hq2⟩;dsimp only [zA,fA])))
 have cx_ss2:=iL (G:=G) (s:=sc) (k:=kd) (w:=tx) (x:=[107,101,121]) ⟨oM,oM,oM,by decide⟩
 have htl:=su (s:=sc) (k:=kd) (w:=tx) (x:=[107,101,121])
 generalize (cG sc kd tx [107,101,121]).1 = t at *
 generalize (cG sc kd tx [107,101,121]).2 = ok at *
 repeat' (first | refine jR ?_ | (refine jo ?_;first | refine aE F ?_ | refine aq F ?_ | refine ab F F F cx_ss2 F ?_ | (refine ag F F F (cr ?_ (by (repeat (assumption));done)) rfl ?_;(focus omega);rintro _ _ ⟨k,rfl,rfl,hk0,hk1⟩;dsimp only [zA,fA])) | refine dA F F (fun _=>?_) (fun _=>?_) | refine ad F F ?_ | refine cR F (fun _=>?_) (fun _=>?_))
 ·(refine aj (an (id:=6) [] (fun _ h=>absurd h (by simp)) ai ?_);refine jW 7 [0,1,2,3,9,10,11,12] (aa 15 7695) ?_;refine jA 4 F ?_;((refine ag F F F (cr ?_ (by (repeat (assumption));done)) rfl ?_;(focus omega);rintro _ _ ⟨k,rfl,rfl,hk0,hk1⟩;dsimp only [zA,fA]));refine jS (aa 15 7711) ?_;refine jT 5 [5] (aa 15 7743) ?_;refine jA 6 F ?_;(refine jF fun _=>?_);refine jS (aa 15 7807) ?_;((refine jG (aa 15 7935) 7 F (dc F F (by (repeat (first | exact BL.nil | apply BL.cons));done)) ?_));refine jW 0 [8,13,14] (aa 15 32767) ?_;refine jQ ?_)
  all_goals repeat' (refine jR ?_)
  all_goals (refine aj (an (id:=7) [] (fun _ h=>absurd h (by simp)) ai ?_);refine jW 8 [0,1,2,4] (aa 12 23) ?_;refine cy [3,5] kR dC ⟨?_,?_,trivial⟩;(focus (refine a9 F F ?_;(refine jF fun _=>?_);refine jK (aa 12 31) ?_;refine jA 5 F ?_;((refine ag F F F (cr ?_ (by (repeat (assumption));done)) rfl ?_;(focus omega);rintro _ _ ⟨k,rfl,rfl,hk0,hk1⟩;dsimp only [zA,fA]));refine jK (aa 12 63) ?_;refine jW 3 [8,9,10] (aa 12 1855) ?_;((refine jG (aa 12 1919) 6 F (aQ F F ?_) ?_;focus omega));refine jA 7 F ?_;((refine dM 64 F F F ?_ F (fun xs hxs=>?_);(focus ((simp only [List.length_append,List.length_cons,List.length_nil,List.length_take];omega);done))));refine jK (aa 12 2047) ?_;refine jW 0 [11] (aa 12 4095) ?_;refine jQ ?_));rotate_left 1;(focus (refine a9 F F ?_;((refine ag F F F (cr ?_ (by (repeat (assumption));done)) rfl ?_;(focus omega);rintro _ _ ⟨k,rfl,rfl,hk0,hk1⟩;dsimp only [zA,fA]));refine jK (aa 12 55) ?_;refine jW 4 [8,9,10] (aa 12 1847) ?_;refine jA 3 F ?_;(refine jF fun _=>?_);refine jK (aa 12 1855) ?_;((refine jG (aa 12 1919) 6 F (aQ F F ?_) ?_;focus omega));refine jA 7 F ?_;((refine dM 64 F F F ?_ F (fun xs hxs=>?_);(focus ((simp only [List.length_append,List.length_cons,List.length_nil,List.length_take];omega);done))));refine jK (aa 12 2047) ?_;refine jW 0 [11] (aa 12 4095) ?_;refine jQ ?_));rotate_left 1)
  all_goals repeat' (refine jR ?_)
  all_goals exact jZ (vs:=[_,_,_,_]) F ⟨F,F,F,F,trivial⟩ F ⟨F,F,_,_,_,_,F,oM,oM,by (simp only [List.length_append,List.length_cons,List.length_nil,List.length_take,List.length_drop];omega),oM⟩
 all_goals (refine aj (an (id:=7) [] (fun _ h=>absurd h (by simp)) ai ?_);refine jW 8 [0,1,2,4] (aa 12 23) ?_;refine cy [3,5] kR dC ⟨?_,?_,trivial⟩;(focus (refine a9 F F ?_;(refine jF fun _=>?_);refine jK (aa 12 31) ?_;refine jA 5 F ?_;((refine ag F F F (cr ?_ (by (repeat (assumption));done)) rfl ?_;(focus omega);rintro _ _ ⟨k,rfl,rfl,hk0,hk1⟩;dsimp only [zA,fA]));refine jK (aa 12 63) ?_;refine jW 3 [8,9,10] (aa 12 1855) ?_;((refine jG (aa 12 1919) 6 F (aQ F F ?_) ?_;focus omega));refine jA 7 F ?_;((refine dM 64 F F F ?_ F (fun xs hxs=>?_);(focus ((simp only [List.length_append,List.length_cons,List.length_nil,List.length_take];omega);done))));refine jK (aa 12 2047) ?_;refine jW 0 [11] (aa 12 4095) ?_;refine jQ ?_));rotate_left 1;(focus (refine a9 F F ?_;((refine ag F F F (cr ?_ (by (repeat (assumption));done)) rfl ?_;(focus omega);rintro _ _ ⟨k,rfl,rfl,hk0,hk1⟩;dsimp only [zA,fA]));refine jK (aa 12 55) ?_;refine jW 4 [8,9,10] (aa 12 1847) ?_;refine jA 3 F ?_;(refine jF fun _=>?_);refine jK (aa 12 1855) ?_;((refine jG (aa 12 1919) 6 F (aQ F F ?_) ?_;focus omega));refine jA 7 F ?_;((refine dM 64 F F F ?_ F (fun xs hxs=>?_);(focus ((simp only [List.length_append,List.length_cons,List.length_nil,List.length_take];omega);done))));refine jK (aa 12 2047) ?_;refine jW 0 [11] (aa 12 4095) ?_;refine jQ ?_));rotate_left 1)
 all_goals repeat' (refine jR ?_)
 all_goals exact jZ (vs:=[_,_,_,_]) F ⟨F,F,F,F,trivial⟩ F ⟨F,F,_,_,_,_,F,oM,oM,oM,oM⟩
theorem sH {v : Value} {l : act} (hs : a8 G v 1 l.length (bi l)) : av acs 4 [v] G (· = Bo true):=by
 obtain ⟨a,cap,rfl⟩:=hs.sl
 refine jE [(0,_)] Tryz.func4 Tryz.ntmps4 fun B hB=>?_
 repeat' (first | refine jR ?_ | (refine jo ?_;first | refine jV (ao F) ?_ | (refine c8 F F F (iA (by (repeat (assumption));done)) rfl ?_;rintro _ ⟨s1,k1,x1,y1,rfl,hsz⟩)) | refine cR F (fun _=>?_) (fun _=>?_))
 ·refine jY (vs:=[_]) ?_
  rfl
 have cx_ss1:=iM (G:=G) hsz
 have cx_ss2:=iL (G:=G) hsz
 cases hb : (cG s1 k1 x1 y1).2 with
 | false =>
  rw [hb] at cx_ss1 cx_ss2
  generalize (cG s1 k1 x1 y1).1 = t at *
  repeat' (first | refine jR ?_ | (refine jo ?_;first | refine aE F ?_ | refine aq F ?_ | refine ab F F F cx_ss1 F ?_ | refine ab F F F cx_ss2 F ?_) | refine aw F F (ar F) ?_ | refine al F F F ?_ | refine ac F F ?_)
  all_goals refine jY (vs:=[_]) ?_
  all_goals rfl
 | true =>
  have hL:=lN hb
  have hlen:=jq hL
  obtain ⟨u,hg,ho⟩:=wl hL
  rw [hb] at cx_ss1 cx_ss2
  generalize (cG s1 k1 x1 y1).1 = t at *
  have cx_sg1:=iN (G:=G) (s:=s1) (k:=k1) (x:=t) (w:=y1) ⟨hsz.1,hsz.2.1,oM,hsz.2.2.2⟩
  rw [hg] at cx_sg1
  unfold iE at cx_sg1
  simp only [Option.map_some,Option.getD_some,Option.isSome_some] at cx_sg1
  rw [ho] at cx_sg1
  clear hL hg
  repeat' (first | refine jR ?_ | (refine jo ?_;first | refine aE F ?_ | refine aq F ?_ | refine ab F F F cx_ss1 F ?_ | refine ab F F F cx_ss2 F ?_ | refine ab F F F cx_sg1 F ?_) | (refine aw F F (by first | rfl | (refine decide_eq_true ?_;(rfl))) ?_) | refine al F F F ?_ | refine ad F F ?_)
  all_goals refine jY (vs:=[_]) ?_
  all_goals (exact congrArg Value.bool (decide_eq_true F))
theorem sJ {v : Value} {l : act} (hs : a8 G v 1 l.length (bi l)) : av acs 3 [v] G (· = Bo true):=by
 obtain ⟨a,cap,rfl⟩:=hs.sl
 refine jE [(0,_)] Tryz.func3 Tryz.ntmps3 fun B hB=>?_
 repeat' (first | refine jR ?_ | (refine jo ?_;first | refine jV (ao F) ?_ | (refine c8 F F F (qx (by (repeat (assumption));done)) rfl ?_;rintro _ ⟨s1,k1,x1,y1,rfl,hsz⟩)) | refine cR F (fun _=>?_) (fun _=>?_))
 ·refine jY (vs:=[_]) ?_
  rfl
 have cx_sg1:=iN (G:=G) hsz
 have cx_sg2:=uC (G:=G) hsz
 unfold iE at cx_sg1 cx_sg2
 cases h : cB s1 k1 x1 y1 with
 | none =>
  rw [h] at cx_sg1 cx_sg2
  simp only [Option.map_none,Option.getD_none,Option.isSome_none] at cx_sg1 cx_sg2
  repeat' (first | refine jR ?_ | (refine jo ?_;first | refine aE F ?_ | refine aq F ?_ | refine ab F F F cx_sg1 F ?_ | refine ab F F F cx_sg2 F ?_) | refine aw F F F ?_ | refine al F F F ?_ | refine ac F F ?_)
  all_goals refine jY (vs:=[_]) ?_
  all_goals rfl
 | some u =>
  have hL:=qS h
  have hlen:=jq hL
  rw [h] at cx_sg1 cx_sg2
  simp only [Option.map_some,Option.getD_some,Option.isSome_some] at cx_sg1 cx_sg2
  have cx_ss1:=iM (G:=G) (s:=s1) (k:=k1) (w:=u.out) (x:=y1) ⟨hsz.1,hsz.2.1,oM,hsz.2.2.2⟩
  rw [wm hL] at cx_ss1
  dsimp only at cx_ss1
  clear h hL
  generalize u.out = uo at *
  repeat' (first | refine jR ?_ | (refine jo ?_;first | refine aE F ?_ | refine aq F ?_ | refine ab F F F cx_sg1 F ?_ | refine ab F F F cx_sg2 F ?_ | refine ab F F F cx_ss1 F ?_) | (refine aw F F (by first | rfl | (refine decide_eq_true ?_;(rfl))) ?_) | refine al F F F ?_ | refine ad F F ?_)
  all_goals refine jY (vs:=[_]) ?_
  all_goals (exact congrArg Value.bool (decide_eq_true F))
theorem vj {P : Program} {n : Nat} {D : List Deferred} {E : bm} {M : World → Prop} {d : Option Nat} {ty : TypeId} {pos : String} {aft : Array Edge} {gd : Option (Nat × Bool)} {T T' : TypeId} {x y : Operand} {a b : Int} (hx : ev E x = some (U8 a)) (hy : ev E y = some (U8 b)) : Gives P n D E M ⟨d,.binOp .add T x y T',ty,pos,aft,gd⟩ (U8 ((u8 (a + b)).toNat : Nat)):=by
 rw [← o7];exact vk hx hy
theorem a8.capS {p : Option Addr} {n c sz m : Nat} {xs : List Value} (h : a8 G (.slice p n c) sz m xs) : m ≤ c:=by
 obtain ⟨_,⟨h2,h3⟩ | ⟨b',o',cap',e,hc,_⟩⟩:=h
 ·omega
 ·simp only [Value.slice.injEq] at e
  obtain ⟨-,-,rfl⟩:=e
  exact hc
theorem a8.preB {p : Option Addr} {c m : Nat} {l : act} (h : a8 G (.slice p l.length c) 1 l.length (bi l)) (hm : m ≤ l.length) : a8 G (.slice p m c) 1 m (bi (l.take m)):=by
 have h2:=h.preS hm
 have e : (bi l).take (m * 1) = bi (l.take m):=by unfold bi;rw [Nat.mul_one,List.map_take]
 rwa [e] at h2
theorem abp {P : Program} {n : Nat} {D : List Deferred} {E : bm} {M : World → Prop} {d : Option Nat} {ty : TypeId} {pos : String} {aft : Array Edge} {gd : Option (Nat × Bool)} {x : Operand} {T T' el : TypeId} {s1 b1 s2 b2 s3 b3 m : Nat} {z1 z2 z3 v : Value} {l : act} {G0 : Gh} {L0 : List Own} [TI P T (.slice el) s1 b1 z1] [TI P T' .string s2 b2 z2] [TI P el (.int .u8) s3 b3 z3] [Kn M G0 L0]
  (hx : ev E x = some v) (hs : a8 G0 v 1 m (bi l)) : Gives P n D E M ⟨d,.convert T T' x,ty,pos,aft,gd⟩ (S l):=xw hx hs.src
theorem pI {s k w x b : act} (hb : c9 s k w = some b) (hx : 1 ≤ x.length ∧ x.length ≤ 20) : fR s k w x = some (bz (x ++ b ++ x)):=by
 unfold fR
 rw [hb]
 dsimp only
 rw [if_pos hx]
theorem sI {v v2 : Value} {l l2 : act} (hs : a8 G v 1 l.length (bi l)) (hs2 : a8 G v2 1 l2.length (bi l2)) : av acs 6 [v,v2] G (· = Bo true):=by
 obtain ⟨a,cap,rfl⟩:=hs.sl
 obtain ⟨a2,cap2,rfl⟩:=hs2.sl
 have hc2:=hs2.capS
 refine jE [(0,_),(1,_)] Tryz.func6 Tryz.ntmps6 fun B hB=>?_
 repeat' (first | refine jR ?_ | (refine jo ?_;first | refine jV (ao F) ?_ | refine aE F ?_ | refine aq F ?_ | (refine c8 F F F (iA (by (repeat (assumption));done)) rfl ?_;rintro _ ⟨s1,k1,x1,y1,rfl,hsz⟩)) | refine dA F F (fun _=>?_) (fun _=>?_) | refine ac F F ?_ | refine cR F (fun _=>?_) (fun _=>?_))
 ·refine jY (vs:=[_]) ?_
  rfl
 ·refine jY (vs:=[_]) ?_
  rfl
 have cx_ss1:=iM (G:=G) hsz
 have cx_ss2:=iL (G:=G) hsz
 cases hb : (cG s1 k1 x1 y1).2 with
 | false =>
  rw [hb] at cx_ss1 cx_ss2
  generalize (cG s1 k1 x1 y1).1 = t at *
  repeat' (first | refine jR ?_ | (refine jo ?_;first | refine aE F ?_ | refine aq F ?_ | refine ab F F F cx_ss1 F ?_ | refine ab F F F cx_ss2 F ?_) | refine aw F F (ar F) ?_ | (refine al F F ?_ ?_;(focus ((first | rfl | (simp [*];done));done))) | refine ac F F ?_)
  all_goals refine jY (vs:=[_]) ?_
  all_goals rfl
 | true =>
  have hL:=lN hb
  have hlen:=jq hL
  rw [hb] at cx_ss1 cx_ss2
  generalize (cG s1 k1 x1 y1).1 = t at *
  repeat' (first | refine jM ?_ | (refine jo ?_;first | refine jV (ao F) ?_ | refine aq F ?_ | refine jV (oD F F oM) ?_ | refine ab F F F cx_ss1 F ?_ | refine ab F F F cx_ss2 F ?_) | (refine al F F ?_ ?_;(focus ((first | rfl | (simp [*];done));done))) | refine ad F F ?_)
  refine jo ?_
  refine jV (abp F (hs2.preB (m:=((l2.length : Int) % 9).toNat) oM)) ?_
  obtain ⟨y,hy⟩ : ∃ y,y = [122] ++ l2.take ((l2.length : Int) % 9).toNat:=⟨_,rfl⟩
  have hyl : 1 ≤ y.length ∧ y.length ≤ 20:=by
   rw [hy];simp only [List.length_append,List.length_cons,List.length_nil,List.length_take];omega
  obtain ⟨b,v,h1,h2,h3⟩:=qR hL hyl
  have hxl:=hL.choose_spec.2.1
  have cx_sg1:=iN (G:=G) (s:=s1) (k:=k1) (x:=t) (w:=y) ⟨hsz.1,hsz.2.1,oM,oM⟩
  have cx_so:=mm (G:=G) (s:=s1) (k:=k1) (w:=x1) (x:=y1) hsz
  have cx_ss2:=mm (G:=G) (s:=s1) (k:=k1) (w:=x1) (x:=y) ⟨hsz.1,hsz.2.1,hsz.2.2.1,oM⟩
  rw [h3] at cx_sg1
  rw [pI h1 hxl] at cx_so
  rw [pI h1 hyl] at cx_ss2
  unfold iE at cx_sg1
  simp only [Option.getD_some,Option.isSome_some] at cx_so cx_ss2
  clear cx_ss1 hL h3
  rw [hy] at cx_sg1 cx_ss2
  generalize bz (y1 ++ b ++ y1) = n1 at *
  generalize bz ([122] ++ l2.take ((l2.length : Int) % 9).toNat ++ b ++ ([122] ++ l2.take ((l2.length : Int) % 9).toNat)) = n2 at *
  by_cases he : n1 = n2
  ·subst he
   rw [if_pos rfl] at cx_sg1
   simp only [Option.map_some,Option.getD_some,Option.isSome_some] at cx_sg1
   rw [h2] at cx_sg1
   repeat' (first | refine jX ?_ | (refine jo ?_;first | refine aE F ?_ | refine aq F ?_ | refine ab F F F cx_ss2 F ?_ | refine ab F F F cx_sg1 F ?_ | refine ab F F F cx_so F ?_) | (refine aw F F ?_ ?_;(focus ((simp [*];done);done))) | refine al F F F ?_)
   all_goals refine jY (vs:=[_]) ?_
   all_goals (simp)
  ·rw [if_neg he] at cx_sg1
   simp only [Option.map_none,Option.getD_none,Option.isSome_none] at cx_sg1
   repeat' (first | refine jX ?_ | (refine jo ?_;first | refine aE F ?_ | refine ab F F F cx_ss2 F ?_ | refine ab F F F cx_sg1 F ?_ | refine ab F F F cx_so F ?_) | (refine aw F F ?_ ?_;(focus ((first | rfl | (simp [*];done));done))))
   all_goals refine jY (vs:=[_]) ?_
   all_goals (rfl)
theorem qI (a : Int) : ((u8 a).toNat : Int) = a % 256:=by
 unfold u8
 rw [UInt8.toNat_ofNat',Nat.mod_eq_of_lt oM]
 omega
theorem uw {s k w x t : act} {i : Nat} {n : Int} (hL : ka s k w x t) (hi : i < t.length) (h0 : 0 ≤ n ∧ n ≤ 254) : cB s k (t.take i ++ [u8 (((u8 ((bt t i : Nat) + 1)).toNat : Int) + ((u8 n).toNat : Int))] ++ t.drop (i + 1)) x = none:=by
 have e : t = t.take i ++ t[i] :: t.drop (i + 1):=by rw [← List.drop_eq_getElem_cons hi,List.take_append_drop]
 have hb : bt t i = t[i].toNat:=by unfold bt;rw [List.getD_eq_getElem?_getD,List.getElem?_eq_getElem hi];rfl
 have hc:=t[i].toNat_lt
 rw [List.append_assoc,List.singleton_append]
 refine qT (c:=t[i]) (by rw [← e];exact hL) fun h=>?_
 have h2:=congrArg UInt8.toNat h
 have h3:=qI (((u8 ((bt t i : Nat) + 1)).toNat : Int) + ((u8 n).toNat : Int))
 have h4:=qI ((bt t i : Nat) + 1)
 have h5:=qI n
 omega
theorem oW {v v2 : Value} {l l2 : act} (hs : a8 G v 1 l.length (bi l)) (hs2 : a8 G v2 1 l2.length (bi l2)) : av acs 5 [v,v2] G (· = Bo true):=by
 obtain ⟨a,cap,rfl⟩:=hs.sl
 obtain ⟨a2,cap2,rfl⟩:=hs2.sl
 refine jE [(0,_),(1,_)] Tryz.func5 Tryz.ntmps5 fun B hB=>?_
 repeat' (first | refine jR ?_ | (refine jo ?_;first | refine jV (ao F) ?_ | refine aE F ?_ | refine aq F ?_ | (refine c8 F F F (iA (by (repeat (assumption));done)) rfl ?_;rintro _ ⟨s1,k1,x1,y1,rfl,hsz⟩)) | refine dA F F (fun _=>?_) (fun _=>?_) | refine ac F F ?_ | refine cR F (fun _=>?_) (fun _=>?_))
 ·refine jY (vs:=[_]) ?_
  rfl
 ·refine jY (vs:=[_]) ?_
  rfl
 have cx_ss1:=iM (G:=G) hsz
 have cx_ss2:=iL (G:=G) hsz
 cases hb : (cG s1 k1 x1 y1).2 with
 | false =>
  rw [hb] at cx_ss1 cx_ss2
  generalize (cG s1 k1 x1 y1).1 = t at *
  repeat' (first | refine jR ?_ | (refine jo ?_;first | refine aE F ?_ | refine aq F ?_ | refine ab F F F cx_ss1 F ?_ | refine ab F F F cx_ss2 F ?_) | refine aw F F (ar F) ?_ | (refine al F F ?_ ?_;(focus ((first | rfl | (simp [*];done));done))) | refine ac F F ?_)
  all_goals refine jY (vs:=[_]) ?_
  all_goals rfl
 | true =>
  have hL:=lN hb
  have hlen:=jq hL
  rw [hb] at cx_ss1 cx_ss2
  generalize (cG s1 k1 x1 y1).1 = t at *
  repeat' (first | refine jM ?_ | (refine jo ?_;first | refine jV (ao F) ?_ | refine aq F ?_ | refine ab F F F cx_ss1 F ?_ | refine ab F F F cx_ss2 F ?_) | (refine al F F ?_ ?_;(focus ((first | rfl | (simp [*];done));done))) | refine ad F F ?_)
  have hm0:=Int.emod_nonneg (l2.length : Int) (b:=(t.length : Int)) oM
  have hm1:=Int.emod_lt_of_pos (l2.length : Int) (b:=(t.length : Int)) oM
  generalize (l2.length : Int) % (t.length : Int) = m at *
  have hr0 : 0 ≤ (l.length : Int) % 255 ∧ (l.length : Int) % 255 ≤ 254:=oM
  have hch:=uw (i:=m.toNat) hL oM hr0
  have hul : (t.take m.toNat ++ [u8 (((u8 ((bt t m.toNat : Nat) + 1)).toNat : Int) + ((u8 ((l.length : Int) % 255)).toNat : Int))] ++ t.drop (m.toNat + 1)).length ≤ 1048576:=by
   simp only [List.length_append,List.length_cons,List.length_nil,List.length_take,List.length_drop];omega
  have cx_sg1:=iN (G:=G) (s:=s1) (k:=k1) (w:=y1) ⟨hsz.1,hsz.2.1,hul,hsz.2.2.2⟩
  rw [hch] at cx_sg1
  rw [show m.toNat + 1 = (m + 1).toNat by omega] at cx_sg1
  unfold iE at cx_sg1
  simp only [Option.map_none,Option.getD_none,Option.isSome_none] at cx_sg1
  clear hch hul hL
  (refine aj (an (id:=9) [] (fun _ h=>absurd h (by simp)) ai ?_);refine jW 10 [0,1,2,3,4,5,7,15,16,17,18] (aa 21 491711) ?_;(refine jG (aa 21 491775) 6 F (vj F F) ?_);(refine jG (aa 21 492031) 8 F (ao F) ?_);refine jW 6 [9,10] (aa 21 493567) ?_;(refine jG (aa 21 495615) 11 F (vj F F) ?_);refine jA 12 F ?_;(refine jF fun _=>?_);refine jS (aa 21 499711) ?_;((refine jG (aa 21 507903) 13 F (dc F F (by (repeat (first | exact BL.nil | apply BL.cons));done)) ?_));refine jW 0 [14,19,20] (aa 21 2097151) ?_;refine jQ ?_)
  repeat' (first | refine jR ?_ | (refine jo ?_;refine ab F F F cx_sg1 F ?_))
  all_goals refine jY (vs:=[_]) ?_
  all_goals rfl
end Go.E
