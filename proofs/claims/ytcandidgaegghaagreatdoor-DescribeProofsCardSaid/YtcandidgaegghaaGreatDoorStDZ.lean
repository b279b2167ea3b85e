/- The reader once more, with blocks: a term. Printed by gen/genst.py. -/
import Derived.Test.YtcandidgaegghaaGreatDoorCpZ
import Derived.Test.YtcandidgaegghaaGreatDoorStAZ
import Derived.Test.YtcandidgaegghaaGreatDoorRdCZ
import Derived.Test.YtcandidgaegghaaGreatDoorRdEZ
set_option maxRecDepth 10000
set_option linter.unusedSimpArgs false
set_option linter.unusedVariables false
namespace Go.Proofs.YtcandidgaegghaaGreatDoor
open Go Go.RowKit Ly
set_option maxHeartbeats 8000000
def rY (I : RdIx) (ws : List Bs) (n : Nat) : Prop:=∀ (k : Nat) (w : World),Rd w I ws k false → 3 * (ws.length - k) + 1 ≤ n → Calls Tryz.prog 271 #[one I.S] w (Out I ws w (fE n (ws.drop k)) TmB)
def oE (I : RdIx) (ws : List Bs) (n : Nat) : Prop:=∀ (k : Nat) (w : World),Rd w I ws k false → 3 * (ws.length - k) + 1 ≤ n → Calls Tryz.prog 199 #[one I.S] w (Out I ws w (eM n (ws.drop k)) TmsB)
theorem uL {I : RdIx} {ws : List Bs} {w w3 : World} {k0 k : Nat} {f0 f : Bool} {pr : PR Tm} {t : Tm} {a : Option Addr} {n c : Nat} {tmps : Array Value} (H : Rd w I ws k0 f0) (R : Rd w3 I ws k f) (m : aN I w w3) (hg : w3.heap[w.heap.size]? = some (.cells #[.bool false,str [],.slice none 0 0] 95 (0,0)))
  (hv : TmsB (hide (lo (w.alloc (.cells #[.bool false,str [],.slice none 0 0] 95))) w3) t.args (.slice a n c)) (hpr : PrOk pr t f (ws.drop k)) (h2 : tmps.getD 2 undef = one w.heap.size) :
  bodyPost Tryz.prog Tryz.f271 (Out I ws w pr TmB) .ret ⟨tmps,[]⟩ (((w3.setCell ⟨w.heap.size,0,none⟩ (.bool t.v)).setCell ⟨w.heap.size,1,none⟩ (str t.name)).setCell ⟨w.heap.size,2,none⟩ (.slice a n c)):=by
 have g1:=aC (o:=0) (u:=.bool t.v) hg
 have g2:=aC (o:=1) (u:=str t.name) g1
 have g3:=aC (o:=2) (u:=.slice a n c) g2
 have M:=((m.set (o:=0) (Nat.le_refl _) (.bool t.v)).set (o:=1) (Nat.le_refl _) (str t.name)).set (o:=2) (Nat.le_refl _) (.slice a n c)
 have E : ∀ j,j ≠ w.heap.size → (((w3.setCell ⟨w.heap.size,0,none⟩ (.bool t.v)).setCell ⟨w.heap.size,1,none⟩ (str t.name)).setCell ⟨w.heap.size,2,none⟩ (.slice a n c)).heap[j]? = w3.heap[j]?:=fun j hj=>by
  rw [Below.heap_setCell _ _ _ _ hj,Below.heap_setCell _ _ _ _ hj,Below.heap_setCell _ _ _ _ hj]
 refine bodyPost_ret (GC rfl _ _ w.heap.size _ _ _ (0,0) h2 g3) rfl ?_
 refine ⟨t,_,k,f,rfl,⟨a,n,c,rfl, ?_⟩,M,H.back R M fun j hj=>E j (by omega),hpr⟩
 exact hv.keep (mU (by simp) fun k h1 h2=>E k (by simp at h1;omega))
theorem term_ofB (I : RdIx) (ws : List Bs) (hw : ∀ x ∈ ws,x.length ≤ maxLen) (n : Nat) (hS : oE I ws n) : rY I ws (n + 1):=by
 intro k w h hn
 have HS:=Hd hS
 have hB : Below w.heap.size w (w.alloc (.cells #[.bool false,str [],.slice none 0 0] 95)):=bnew
 have r1:=h.below hB
 have M1:=iB I ws k false 306 #[] #[] _ _ r1 hw MS (KJ _)
 have g1:=heap_alloc_new w (.cells #[.bool false,str [],.slice none 0 0] 95)
 have HM:=Hd M1
 have H:=Hd h
 have HB:=Hd hB
 have HG:=Hd g1
 have HN:=Hd hn
 have lt:=h.lt
 have LT:=Hd lt
 clear h hS hB M1 r1 g1 hn lt
 go_enter Tryz.func271,Tryz.ntmps271
 go_wp2_with (go_at_call 196;refine HM.out.mono ?_;rintro e w2 ⟨mv,hor⟩;have MV:=Hd mv;have G2:=Hd ((mv.block w.heap.size (by simp) (by have:=LT.out;omega) (by have:=LT.out;omega)).trans HG.out);clear mv;rcases hor with ⟨x,_,hx,hp,rfl,r2⟩ | ⟨hor,rfl,r2⟩;all_goals (have s2:=qW r2;have R2:=Hd r2;clear r2;obtain ⟨c0,c1,c2,f0,f1,f2⟩:=vQ G2.out))
 ·have hl:=Hd (xM (hw x (List.mem_of_getElem? hx)))
  have HX:=Hd (And.intro hx hp)
  clear hx hp
  clear c0 c1 c2 f0 f1 f2
  cases hv : aZ x
  ·have HV:=Hd hv
   clear hv
   go_wp2_with (first
    | (go_at_call 266;refine (eS x _ hl.out).mono ?_;rintro e w3 ⟨he,hb2⟩;rw [show aZ x = false from HV.out] at he;subst he;have B2:=Hd hb2;clear hb2)
    | (go_at_call 199;refine (HS.out (k + 1) _ (R2.out.below B2.out) (by have:=HN.out;have:=R2.out.at_;omega)).mono ?_;rintro e w4 ⟨tl,v,k',f',rfl,hv4,mv4,r4,hp4⟩;obtain ⟨a4,n4,c4,rfl⟩:=TmsB.slice hv4;have G4:=(mv4.block w.heap.size (by have:=B2.out.size;have:=(Array.getElem?_eq_some_iff.1 G2.out).1;omega) (by have:=LT.out;omega) (by have:=LT.out;omega)).trans ((B2.out.block w.heap.size (Array.getElem?_eq_some_iff.1 G2.out).1).trans G2.out);obtain ⟨c0,c1,c2,f0,f1,f2⟩:=vQ G4;have Q4:=Hd (And.intro hv4 (And.intro mv4 (And.intro r4 (And.intro hp4 G4))));clear hv4 mv4 r4 hp4 G4))
   obtain ⟨hv4,mv4,r4,hp4,G4⟩:=Q4.out
   refine uL (t:=.mk false x tl) H.out r4 ?_ G4 (hv4.keep (mU ?_ fun _ _ _=>rfl)) ?_ rfl
   ·exact (((aN.of_below HB.out).trans MV.out).trans (aN.of_below B2.out)).trans mv4
   ·exact Nat.le_trans MV.out.size B2.out.size
   ·rw [drop_at HX.out.1]
    have hf : dO x = true:=by have:=HX.out.2;rw [HV.out] at this;simpa using this
    simp only [fE,HV.out,hf,Bool.false_eq_true,if_false,if_true]
    revert hp4
    cases eM n (ws.drop (k + 1)) with
    | good y r=>rintro ⟨rfl,h2,h3⟩;exact ⟨rfl,h2,h3⟩
    | bad r=>exact fun h=>h
  ·have HV:=Hd hv
   clear hv
   go_wp2_with (go_at_call 266;refine (eS x _ hl.out).mono ?_;rintro e w3 ⟨he,hb2⟩;rw [show aZ x = true from HV.out] at he;subst he;have B2:=Hd hb2;have G3:=(hb2.block w.heap.size (by have:=G2.out;exact (Array.getElem?_eq_some_iff.1 this).1)).trans G2.out;clear hb2;obtain ⟨c0,c1,c2,f0,f1,f2⟩:=vQ G3;have G3:=Hd G3)
   refine uL (t:=.mk true x []) H.out (R2.out.below B2.out) ?_ G3.out (AtB.nil) ?_ rfl
   ·exact ((aN.of_below HB.out).trans MV.out).trans (aN.of_below B2.out)
   ·rw [drop_at HX.out.1]
    simp only [fE,if_pos HV.out]
    exact ⟨rfl,rfl,rfl⟩
 ·refine uL (t:=.mk true [] []) H.out R2.out ?_ G2.out (AtB.nil) ?_ rfl
  ·exact (aN.of_below HB.out).trans MV.out
  ·rcases hor with h1 | h1 | ⟨x,hx,hp⟩
   ·cases h1
   ·rw [gB h1];exact ⟨rfl,rfl⟩
   ·rw [drop_at hx]
    simp only [Bool.or_eq_false_iff] at hp
    simp only [fE,hp.1,hp.2,Bool.false_eq_true,if_false]
    exact ⟨rfl,rfl⟩
open Go Go.RowKit Ly
set_option maxHeartbeats 8000000
theorem app_lawsB {I : RdIx} {w wr w3 : World} {n : Nat} {ds : List D} {u : Value} {o : Obj} {t : Tm} {ta : Option Addr} {tn tc : Nat} (hO : OwnB (lo w) w.heap.size wr 95 3 n ds u) (hA : I.A < w.heap.size) (hS : I.S < w.heap.size) (hw : w.heap.size ≤ wr.heap.size) (m3 : aN I wr w3) (ht : TmsB (hide (lo wr) w3) t.args (.slice ta tn tc)) :
  ∃ xs,(w3.alloc o).ownsRow w.heap.size 95 3 u n xs ∧ aX (hide (fun k=>lo w k || decide (u.ownBlock = some k)) (w3.alloc o)) ds xs ∧ aX (hide (fun k=>lo w k || decide (u.ownBlock = some k)) (w3.alloc o)) t.ds [.bool t.v,str t.name,.slice ta tn tc]:=by
 have hu : ∀ k,u.ownBlock = some k → k < wr.heap.size:=by
  obtain ⟨xs,ho,_⟩:=hO
  intro k hk
  rcases ho.2 with ⟨rfl,_⟩ | ⟨g,cap,cur,rfl,hb,hg,_⟩
  ·cases hk
  ·cases hk;exact (Array.getElem?_eq_some_iff.1 hg).1
 have h:=hO.moved (w':=w3.alloc o) (fun k hk=>by simp [lo];omega) (fun k h1 h2=>by
  simp only [lo,decide_eq_false_iff_not,Nat.not_lt] at h2
  rw [bnew.block _ (Nat.lt_of_lt_of_le h1 m3.size)]
  exact m3.block k h1 (by omega) (by omega))
 obtain ⟨xs,h1,h2⟩:=h
 refine ⟨xs,h1,h2, ?_⟩
 have e : t.ds = [.val (.bool t.v),.val (str t.name),.sl 3 t.args.length (cC t.args)]:=by cases t;rfl
 rw [e]
 refine aX.cons rfl (aX.cons rfl (aX.cons (AtB.keep (aS fun k h1 h2=>?_) _ _ ht) (aX.nil _)))
 simp only [lo,decide_eq_false_iff_not,Nat.not_lt,Bool.or_eq_false_iff] at h2 ⊢
 exact ⟨⟨by omega,fun e=>by have:=hu k e;omega⟩,bnew.block _ h1⟩
def CO (I : RdIx) (ws : List Bs) (w : World) (n k2 : Nat) (f2 : Bool) (ds : List D) (v : Value) (w5 : World) : Prop:=OwnB (lo w) w.heap.size w5 95 3 n ds v ∧ Rd w5 I ws k2 f2 ∧ aN I w w5
theorem app_afterB {I : RdIx} {ws : List Bs} {w wr w3 w5 : World} {k0 k2 n : Nat} {f0 f2 : Bool} {ds : List D} {u v' : Value} {o : Obj} {t : Tm} {ta : Option Addr} {tn tc : Nat} {xs : List Value} (H : Rd w I ws k0 f0) (mw : aN I w wr) (m3 : aN I wr w3) (r3 : Rd w3 I ws k2 f2)
  (ho : (w3.alloc o).ownsRow w.heap.size 95 3 u n xs) (c1 : aX (hide (fun k=>lo w k || decide (u.ownBlock = some k)) (w3.alloc o)) ds xs) (c2 : aX (hide (fun k=>lo w k || decide (u.ownBlock = some k)) (w3.alloc o)) t.ds [.bool t.v,str t.name,.slice ta tn tc])
  (h5 : w5.ownsRow w.heap.size 95 3 v' (n + 1) (xs ++ [.bool t.v,str t.name,.slice ta tn tc])) (hg : (w3.alloc o).grownBy w5 u.ownBlock) (hat : v'.ownBlock = u.ownBlock ∨ v'.ownBlock = some (w3.alloc o).heap.size) : CO I ws w (n + 1) k2 f2 (ds ++ t.ds) v' w5:=by
 have M5:=((mw.trans m3).alloc o).grown hg (DZ ho)
 refine ⟨OwnB.appended c1 c2 h5 hg hat,H.back r3 M5 fun j hj=>?_,M5⟩
 have hj3 : j < w3.heap.size:=Nat.lt_of_lt_of_le hj (mw.trans m3).size
 rw [hg.block j (by simp;omega) (fun e=>by have:=DZ ho j e.symm;omega),bnew.block _ hj3]
theorem yY {I : RdIx} {ws : List Bs} {w w5 w6 w7 : World} {k2 kk n : Nat} {f2 ff : Bool} {acc : List Tm} {t : Tm} {v5 : Value} {pr : PR (List Tm)} (hn : n = acc.length + 1) (hA : I.A < w.heap.size) (hS : I.S < w.heap.size) (a : CO I ws w n k2 f2 (cC acc ++ t.ds) v5 w5) (b6 : Below w5.heap.size w5 w6) (mv : aN I w6 w7) (r7 : Rd w7 I ws kk ff)
  (hpr : PrOk pr (acc ++ [t]) ff (ws.drop kk)) : Out I ws w pr TmsB (.returned v5) w7:=by
 obtain ⟨o5,_,m5⟩:=a
 have h:=o5.at fun k hk=>by simp [lo];omega
 refine ⟨acc ++ [t],v5,kk,ff,rfl, ?_,(m5.trans (aN.of_below b6)).trans mv,r7,hpr⟩
 unfold TmsB
 rw [kR,show cC [t] = t.ds by simp [cC],List.length_append,List.length_singleton,← hn]
 refine AtB.keep (aS fun k h1 h2=>⟨h2, ?_⟩) _ _ h
 simp only [lo,decide_eq_false_iff_not,Nat.not_lt] at h2
 exact (mv.block k (Nat.lt_of_lt_of_le h1 b6.size) (by omega) (by omega)).trans (b6.block k h1)
def IK (I : RdIx) (ws : List Bs) (w : World) (N k m : Nat) (u : Value) (wr : World) : Prop :=
 ∃ k' acc,OwnB (lo w) w.heap.size wr 95 3 acc.length (cC acc) u ∧ Rd wr I ws k' false ∧ aN I w wr ∧ 3 * (ws.length - k') + 2 ≤ m ∧ m ≤ N ∧ acc.length ≤ k' ∧ eQ N (ws.drop (k + 1)) = glue acc (eQ m (ws.drop k'))
theorem inv_nextB {I : RdIx} {ws : List Bs} {w wr w5 w6 w7 : World} {N k k' k2 M : Nat} {acc : List Tm} {t : Tm} {u5 v5 : Value} (hA : I.A < w.heap.size) (hS : I.S < w.heap.size)
  (Q : OwnB (lo w) w.heap.size wr 95 3 acc.length (cC acc) u5 ∧ Rd wr I ws k' false ∧ aN I w wr ∧ 3 * (ws.length - k') + 2 ≤ M + 1 ∧ M + 1 ≤ N ∧ acc.length ≤ k' ∧ eQ N (ws.drop (k + 1)) = glue acc (eQ (M + 1) (ws.drop k')))
  (p : PrOk (fE M (ws.drop k')) t false (ws.drop k2)) (hx : ws[k2]? = some wAnd) (a : CO I ws w (acc.length + 1) k2 false (cC acc ++ t.ds) v5 w5) (b6 : Below w5.heap.size w5 w6) (mv : aN I w6 w7) (r7 : Rd w7 I ws (k2 + 1) false) : IK I ws w N k M v5 w7:=by
 obtain ⟨_,_,_,q1,q2,q3,q4⟩:=Q
 obtain ⟨o5,_,m5⟩:=a
 have hl:=uE _ _ _ _ (kT p)
 simp only [List.length_drop] at hl
 have hk2:=(List.getElem?_eq_some_iff.1 hx).1
 refine ⟨k2 + 1,acc ++ [t], ?_,r7,(m5.trans (aN.of_below b6)).trans mv,by omega,by omega,by simp;omega, ?_⟩
 ·rw [kR,show cC [t] = t.ds by simp [cC],List.length_append,List.length_singleton]
  refine o5.moved (fun k hk=>by simp [lo];omega) fun k h1 h2=>?_
  simp only [lo,decide_eq_false_iff_not,Nat.not_lt] at h2
  exact (mv.block k (Nat.lt_of_lt_of_le h1 b6.size) (by omega) (by omega)).trans (b6.block k h1)
 ·rw [q4,EJ p hx,AD]
theorem uM (I : RdIx) (ws : List Bs) (hw : ∀ x ∈ ws,x.length ≤ maxLen) (n : Nat) (hT : ∀ m,m < n → rY I ws m) : oE I ws n:=by
 intro k w h hn
 have HT:=Hd hT
 have H:=Hd h
 have HN:=Hd hn
 have HW:=Hd hw
 have s0 : w.cell? ⟨I.S,0,none⟩ = some (.func (.func 190) #[] #[one I.R,one I.A,one I.L]):=(box_cell h.hS 0).trans rfl
 have lt:=h.lt
 have LT:=Hd lt
 have ltS:=lt.2.2.1
 clear h hT hn hw lt
 go_enter Tryz.func199,Tryz.ntmps199
 go_upto_region 1 with fail
 go_cut [3,4] from 6 to 15 (fun u v wx=>∃ s bb,u = str s ∧ v = .bool bb ∧ Hid (∃ w2,Below w.heap.size w w2 ∧ CZ I ws k false (fun s=>decide (s ∈ [wOf])) w2 s bb wx))
 case first =>
  go_region_law (first
   | (go_simp;go_at_call 265;refine (is_c (l:=[wOf]) ((wG w wOf 9).keep (dC _)) (by simp)).mono ?_;rintro e w2 ⟨⟨b,rfl,acc⟩,b2⟩;have AC:=Hd acc;have B2 : Hid (Below w.heap.size w w2):=((bnew.drew).trans (b2.mono (by simp)));have s02:=aA B2.out _ _ s0;clear acc b2;go_simp)
   | (go_simp;go_at_call 190;refine (MA I ws k false 299 #[] _ _ _ (H.out.below B2.out) HW.out uU AC.out).mono ?_;rintro e w3 tk;obtain ⟨s,bb,rfl,tw⟩:=GK tk;have TW:=Hd tw;clear tk tw;go_simp))
  all_goals (go_wp2_with fail;go_meet;exact ⟨s,bb,rfl,rfl,w2,B2.out,TW.out⟩)
 case rest =>
 clear s0 ltS
 obtain ⟨s,bb,rfl,rfl,HC⟩:=hcut
 cases bb with
 | false =>
  go_wp2_with fail
  go_ret
  obtain ⟨w2,b2,mv,⟨h1,_⟩ | ⟨_,h2,r3⟩⟩:=HC.out
  ·cases h1
  refine ⟨[],_,k,false,rfl,AtB.nil,(aN.of_below b2).trans mv,r3, ?_⟩
  have hn:=HN.out
  obtain ⟨N,rfl⟩ : ∃ N,n = N + 1:=⟨n - 1,by omega⟩
  rcases h2 with h1 | h1 | ⟨x,hx,hp⟩
  ·cases h1
  ·rw [gB h1];exact ⟨rfl,rfl,rfl⟩
  ·rw [drop_at hx]
   have : x ≠ wOf:=by simpa using hp
   simp only [eM,if_neg this]
   exact ⟨rfl,rfl,rfl⟩
 | true =>
  obtain ⟨w2,b2,mv,⟨_,_,hx,hp,r3⟩ | ⟨h1,_⟩⟩:=HC.out
  rotate_left
  ·cases h1
  have hn:=HN.out
  obtain ⟨N,rfl⟩ : ∃ N,n = N + 1:=⟨n - 1,by omega⟩
  obtain ⟨i0,hi0,hz0,hs0,hb0⟩:=info_parts GZ
  have R0:=Hd r3
  have hs : s = wOf:=by simpa using hp
  subst hs
  have HX:=Hd hx
  have M0:=Hd ((aN.of_below b2).trans mv)
  have HK:=Hd (show k < ws.length from (List.getElem?_eq_some_iff.1 hx).1)
  clear hn HC b2 mv hx hp r3 w2
  go_wp2_with fail
  go_loopg [5] N (fun m u wr=>Hid (IK I ws w N k m u wr))
  case atStart =>
   refine ⟨k + 1,[],OwnB.nil _ _ _ _ _,R0.out,M0.out,by have:=HN.out;have:=HK.out;omega,Nat.le_refl _,by simp, ?_⟩
   cases eQ N (ws.drop (k + 1)) <;> rfl
  case round =>
   obtain ⟨k',acc,hO,hR,hM,hm,hmN,hacc,heq⟩:=hrel.out
   obtain ⟨M,rfl⟩ : ∃ M,gk = M + 1:=⟨gk - 1,by omega⟩
   have CT:=Hd (HT.out M (by omega) k' wr hR (by omega))
   have Q:=Hd (And.intro hO (And.intro hR (And.intro hM (And.intro hm (And.intro hmN (And.intro hacc heq))))))
   clear hO hR hM hm hmN hacc heq hrel
   have NN : Hid (acc.length + 1 ≤ maxLen ∧ (acc.length + 1) * 48 ≤ 140737488355328):=by
    have h1:=Q.out.2.2.2.2.2.1
    have h2:=Q.out.2.1.at_
    have h3:=Q.out.2.1.short
    refine ⟨?_, ?_⟩
    ·unfold maxLen;omega
    ·omega
   go_wp2_with (first
    | (go_at_call 271;refine CT.out.mono ?_;rintro e w3 ⟨t,v,k2,f2,rfl,⟨ta,tn,tc,rfl,ht⟩,m3,r3,p3⟩;obtain ⟨xs,ow,c1,c2⟩:=app_lawsB (o:=.cells #[.bool t.v,str t.name,.slice ta tn tc] 95) Q.out.1 LT.out.2.1 LT.out.2.2.1 Q.out.2.2.1.size m3 ht;have OW:=Hd ow;have C12:=Hd (And.intro c1 c2);have SZ:=Hd (Nat.le_trans Q.out.2.2.1.size m3.size);have Q3:=Hd (And.intro m3 (And.intro r3 p3));clear ht m3 r3 p3 ow c1 c2)
    | (at_builtin;refine wpList_append_own_at _ rfl _ _ 22 rfl w.heap.size 95 i0 (.agg #[.bool false,.string ⟨#[]⟩,.slice none 0 0]) 3 48 Tryz.underlying22 hi0 hz0 hs0 hb0 rfl (by decide) _ acc.length xs rfl OW.out ⟨w3.heap.size,0,none⟩ 1 1 [.bool t.v,str t.name,.slice ta tn tc] rfl rfl (JP _ _ _ _ _) (by intro u hu;simp at hu;rcases hu with rfl | rfl | rfl <;> rfl) NN.out.1 NN.out.2 (by have:=SZ.out;simp;omega) ?_;intro v5 w5 hown5 hg5 _ hat5;have A5:=Hd (app_afterB H.out Q.out.2.2.1 Q3.out.1 Q3.out.2.1 OW.out C12.out.1 C12.out.2 hown5 hg5 hat5);clear hown5 hg5 hat5)
    | (go_at_call 265;refine (is_c (l:=[wAnd,cB]) (wH w5 wAnd cB 9) (by simp)).mono ?_;rintro e w6 ⟨⟨b,rfl,acc6⟩,b6⟩;have AC:=Hd acc6;have B6 : Hid (Below w5.heap.size w5 w6):=(bnew.trans (b6.mono (by simp)));clear acc6 b6)
    | (go_at_call 196;refine (iB I ws k2 f2 299 #[] _ _ _ (A5.out.2.1.below B6.out) HW.out uU AC.out).mono ?_;rintro e w7 ⟨mv,hor⟩;have MV:=Hd mv;clear mv;rcases hor with ⟨x,hf,hx,hp,rfl,r7⟩ | ⟨hor,rfl,r7⟩))
   ·go_ret
    subst hf
    have hq : x = cB:=by
     have h1 : x = wAnd ∨ x = cB:=by simpa using hp
     rcases h1 with h1 | h1
     ·exfalso;subst h1;simp_all [wAnd]
     ·exact h1
    subst hq
    refine yY rfl LT.out.2.1 LT.out.2.2.1 A5.out B6.out MV.out r7 ?_
    rw [qD HX.out,Q.out.2.2.2.2.2.2,wU Q3.out.2.2 hx]
    exact ⟨rfl,rfl,rfl⟩
   ·subst hf
    have hq : x = wAnd:=by
     have h1 : x = wAnd ∨ x = cB:=by simpa using hp
     rcases h1 with h1 | h1
     ·exact h1
     ·exfalso;subst h1;simp_all [cB]
    subst hq
    go_roundg M
    case measure=>omega
    case rel=>exact inv_nextB LT.out.2.1 LT.out.2.2.1 Q.out Q3.out.2.2 hx A5.out B6.out MV.out r7
   ·go_ret
    refine yY rfl LT.out.2.1 LT.out.2.2.1 A5.out B6.out MV.out r7 ?_
    rw [qD HX.out,Q.out.2.2.2.2.2.2,EK Q3.out.2.2 hor]
    exact ⟨rfl,rfl⟩
theorem terms_allB (I : RdIx) (ws : List Bs) (hw : ∀ x ∈ ws,x.length ≤ maxLen) : ∀ n,rY I ws n ∧ oE I ws n:=by
 have key : ∀ n,(∀ m,m < n → rY I ws m) ∧ oE I ws n:=by
  intro n
  induction n with
  | zero=>exact ⟨fun m hm=>absurd hm (Nat.not_lt_zero m),uM I ws hw 0 fun m hm=>absurd hm (Nat.not_lt_zero m)⟩
  | succ n ih =>
   have h : ∀ m,m < n + 1 → rY I ws m:=by
    intro m hm
    by_cases hlt : m < n
    ·exact ih.1 m hlt
    ·have e : m = n:=by omega
     subst e
     cases m with
     | zero=>intro k w _ hn;omega
     | succ m =>
      exact term_ofB I ws hw m (uM I ws hw m fun j hj=>ih.1 j (by omega))
   exact ⟨h,uM I ws hw (n + 1) h⟩
 exact fun n=>⟨(key (n + 1)).1 n (Nat.lt_succ_self n),(key n).2⟩
theorem terms_cB (I : RdIx) (ws : List Bs) (hw : ∀ x ∈ ws,x.length ≤ maxLen) (n : Nat) : oE I ws n:=(terms_allB I ws hw n).2
open Go Go.RowKit Ly
set_option maxHeartbeats 8000000
theorem jJ {I : RdIx} {ws : List Bs} {w w1 w3 : World} {g k0 k : Nat} {f0 f : Bool} {fm : Fm} {a b : Option Addr} {n c m d : Nat} (H : Rd w I ws k0 f0) (R : Rd w3 I ws k f) (mv : aN I w w3) (hg0 : w.heap.size ≤ g) (hg1 : g < w1.heap.size) (hw1 : w.heap.size ≤ w1.heap.size)
  (hg : w3.heap[g]? = some (.cells #[.int .u8 0,str [],.slice none 0 0,.slice none 0 0] 25 (0,0)))
  (hv : TmsB (hide (lo w1) w3) fm.args (.slice a n c)) (hv2 : FmsB (hide (lo w1) w3) fm.sub (.slice b m d)) :
  ∀ w4,w4 = ((((w3.setCell ⟨g,0,none⟩ (.int .u8 fm.op)).setCell ⟨g,1,none⟩ (str fm.name)).setCell ⟨g,2,none⟩ (.slice a n c)).setCell ⟨g,3,none⟩ (.slice b m d)) →
   w4.heap[g]? = some (.cells #[.int .u8 fm.op,str fm.name,.slice a n c,.slice b m d] 25 (0,0)) ∧ FmB (hide (lo w) w4) fm (.agg #[.int .u8 fm.op,str fm.name,.slice a n c,.slice b m d]) ∧ aN I w w4 ∧ Rd w4 I ws k f:=by
 rintro w4 rfl
 have g1:=aC (o:=0) (u:=.int .u8 fm.op) hg
 have g2:=aC (o:=1) (u:=str fm.name) g1
 have g3:=aC (o:=2) (u:=.slice a n c) g2
 have g4:=aC (o:=3) (u:=.slice b m d) g3
 have M:=(((mv.set (o:=0) hg0 (.int .u8 fm.op)).set (o:=1) hg0 (str fm.name)).set (o:=2) hg0 (.slice a n c)).set (o:=3) hg0 (.slice b m d)
 have E : ∀ j,j ≠ g → ((((w3.setCell ⟨g,0,none⟩ (.int .u8 fm.op)).setCell ⟨g,1,none⟩ (str fm.name)).setCell ⟨g,2,none⟩ (.slice a n c)).setCell ⟨g,3,none⟩ (.slice b m d)).heap[j]? = w3.heap[j]?:=fun j hj=>by
  rw [Below.heap_setCell _ _ _ _ hj,Below.heap_setCell _ _ _ _ hj,Below.heap_setCell _ _ _ _ hj,Below.heap_setCell _ _ _ _ hj]
 have K:=mU (w:=w) (w1:=w1) (w':=w3) hw1 fun k h1 h2=>E k (by omega)
 exact ⟨g4,⟨a,n,c,b,m,d,rfl,hv.keep K,hv2.keep K⟩,M,H.back R M fun j hj=>E j (by omega)⟩
theorem sL (I : RdIx) (ws : List Bs) (hw : ∀ x ∈ ws,x.length ≤ maxLen) (k : Nat) (w : World) (h : Rd w I ws k true) (tb : Tb w I) :
  Calls Tryz.prog 117 #[one I.S] w (Out I ws w (.bad (ws.drop k)) FmB):=by
 have hB : Below w.heap.size w ((w.alloc (.cells #[one I.S] 153)).alloc (.cells #[.int .u8 0,str [],.slice none 0 0,.slice none 0 0] 25)):=bnew.alloc (by simp) _
 have hbx : ((w.alloc (.cells #[one I.S] 153)).alloc (.cells #[.int .u8 0,str [],.slice none 0 0,.slice none 0 0] 25)).heap[w.heap.size]? = some (.cells #[one I.S] 153 (0,0)):=heap_alloc2_old _ _ _
 have hrow : ((w.alloc (.cells #[one I.S] 153)).alloc (.cells #[.int .u8 0,str [],.slice none 0 0,.slice none 0 0] 25)).heap[w.heap.size + 1]? = some (.cells #[.int .u8 0,str [],.slice none 0 0,.slice none 0 0] 25 (0,0)):=heap_alloc2_new _ _ _
 have r1:=h.below hB
 have M1:=iB I ws k true 197 #[] #[one w.heap.size] _ _ r1 hw JF (wD r1 (tb.moved h (aN.of_below hB)) hbx)
 have HM:=Hd M1
 have H:=Hd h
 have HB:=Hd hB
 have HR:=Hd hrow
 have HX:=Hd hbx
 have LT:=Hd h.lt
 clear h tb hB hbx hrow r1 M1
 go_enter Tryz.func117,Tryz.ntmps117
 go_wp2_with (go_at_call 196;refine HM.out.mono ?_;rintro e w2 ⟨mv,hor⟩;have MV:=Hd mv;have G2:=Hd ((mv.block (w.heap.size + 1) (by simp) (by have:=LT.out;omega) (by have:=LT.out;omega)).trans HR.out);have X2:=Go.cell_of_one ((mv.block w.heap.size (by simp;omega) (by have:=LT.out;omega) (by have:=LT.out;omega)).trans HX.out);clear mv;rcases hor with ⟨x,hf,hx,hp,rfl,r2⟩ | ⟨hor,rfl,r2⟩;rotate_left;(have s2:=qW r2;have R2:=Hd r2;clear r2;obtain ⟨c0,c1,c2,c3,f0,f1,f2,f3⟩:=iA G2.out))
 ·obtain ⟨g4,v4,m4,r4⟩:=jJ (fm:=.mk 0 [] [] []) (a:=none) (b:=none) (n:=0) (c:=0) (m:=0) (d:=0) (w1:=(w.alloc (.cells #[one I.S] 153)).alloc (.cells #[.int .u8 0,str [],.slice none 0 0,.slice none 0 0] 25)) H.out R2.out ((aN.of_below HB.out).trans MV.out) (by omega) (by simp) HB.out.size G2.out (AtB.nil) (AtB.nil) _ rfl
  refine bodyPost_ret (jF rfl _ _ (w.heap.size + 1) _ _ _ _ (0,0) rfl g4) rfl ?_
  exact ⟨_,_,k,true,rfl,v4,m4,r4,rfl,rfl⟩
 all_goals cases hf
def nB (I : RdIx) (ws : List Bs) (n : Nat) : Prop:=∀ (k : Nat) (f : Bool) (w : World),Rd w I ws k f → Tb w I → (f = false → 3 * (ws.length - k) + 1 ≤ n) → Calls Tryz.prog 117 #[one I.S] w (Out I ws w (pF f n (ws.drop k)) FmB)
theorem tU {W : World} {x : Fm} {a b : Option Addr} {n c m d : Nat} (ht : TmsB W x.args (.slice a n c)) (hs : FmsB W x.sub (.slice b m d)) : aX W x.ds [.int .u8 x.op,str x.name,.slice a n c,.slice b m d]:=by
 obtain ⟨op,nm,ta,sub⟩:=x
 exact aX.cons rfl (aX.cons rfl (aX.cons ht (aX.cons hs (aX.nil _))))
theorem xF {w1 w2 : World} {x : Fm} {a b : Option Addr} {n c m d : Nat} (hz : w1.heap.size ≤ w2.heap.size) (ht : TmsB (hide (lo w1) w2) x.args (.slice a n c)) (hs : FmsB (hide (lo w1) w2) x.sub (.slice b m d)) :
  FmsB (hide (lo w1) (w2.alloc (.cells #[.int .u8 x.op,str x.name,.slice a n c,.slice b m d] 25))) [x] (.slice (some ⟨w2.heap.size,0,none⟩) 1 1):=by
 refine aX.fresh (ds:=cH [x]) ?_ (by simp [lo];omega) (by simp [cH,Fm.ds_length]) (by simp [maxLen])
 rw [show cH [x] = x.ds by simp [cH]]
 exact tU ht hs
theorem one1_cB (I : RdIx) (ws : List Bs) (n : Nat) (hF : nB I ws n) (op : Int) (b1 b2 k : Nat) (w : World) (h : Rd w I ws k false) (tb : Tb w I) (hn : 3 * (ws.length - k) + 1 ≤ n)
  (h1 : w.heap[b1]? = some (.cells #[.int .u8 op] 5 (0,0))) (h2 : w.heap[b2]? = some (.cells #[one I.S] 153 (0,0))) :
  Calls Tryz.prog 264 #[one b1,one b2] w (Out I ws w (DY op [] (bJ n (ws.drop k))) FmB):=by
 have hB : Below w.heap.size w (w.alloc (.cells #[.int .u8 0,str [],.slice none 0 0,.slice none 0 0] 25)).drew:=bnew.drew
 have hC:=hF k false _ (h.below hB) (tb.moved h (aN.of_below hB)) fun _=>hn
 have hrow : (w.alloc (.cells #[.int .u8 0,str [],.slice none 0 0,.slice none 0 0] 25)).drew.heap[w.heap.size]? = some (.cells #[.int .u8 0,str [],.slice none 0 0,.slice none 0 0] 25 (0,0)):=heap_alloc_new w _
 have c1:=Go.cell_of_one h1
 have c2:=Go.cell_of_one h2
 have e1:=World.new_ne w ⟨b1,0,none⟩ c1
 have e2:=World.new_ne w ⟨b2,0,none⟩ c2
 have HC:=Hd hC
 have H:=Hd h
 have HB:=Hd hB
 have HR:=Hd hrow
 have LT:=Hd h.lt
 have H1:=Hd (dS hB _ _ _ _ h1)
 have H2:=Hd (dS hB _ _ _ _ h2)
 clear h tb hn hB hC hrow h1 h2
 go_enter Tryz.func264,Tryz.ntmps264
 go_wp2_with fail
 go_region_held3 (fun w'=>w'.cell? ⟨b1,0,none⟩ = some (.int .u8 op) ∧ w'.cell? ⟨b2,0,none⟩ = some (one I.S)) (go_keep)
  ((go_at_call 117;refine HC.out.mono ?_;rintro e w2 ⟨x,v,k2,f2,rfl,⟨a,na,ca,b,nb,cb,rfl,ht,hs⟩,mv,r2,hp⟩;have RB:=H.out.below HB.out;have K1:=Go.cell_of_one (mv.keepc RB (by decide) (by decide) H1.out);have K2:=Go.cell_of_one (mv.keepc RB (by decide) (by decide) H2.out);have G2:=mv.keepc RB (by decide) (by decide) HR.out;have z2:=(Array.getElem?_eq_some_iff.1 G2).1;obtain ⟨q0,q1,q2,q3,f0,f1,f2',f3⟩:=iA G2;have QQ:=Hd (And.intro ht (And.intro hs (And.intro mv (And.intro r2 (And.intro hp G2)))));clear ht hs mv r2 hp G2 RB))
 all_goals go_wp2_with fail
 obtain ⟨ht,hs,mv,r2,hp,G2⟩:=QQ.out
 obtain ⟨g4,v4,m4,r4⟩:=jJ (fm:=.mk op [] [] [x]) (w1:=(w.alloc (.cells #[.int .u8 0,str [],.slice none 0 0,.slice none 0 0] 25)).drew) (w3:=w2.alloc (.cells #[.int .u8 x.op,str x.name,.slice a na ca,.slice b nb cb] 25)) H.out (r2.below bnew) (((aN.of_below HB.out).trans mv).alloc _) (Nat.le_refl _) (by simp) HB.out.size ((bnew.block _ z2).trans G2) (AtB.nil) (xF mv.size ht hs) _ rfl
 simp only [kZ z2] at g4 v4 m4 r4
 refine bodyPost_ret (jF rfl _ _ w.heap.size _ _ _ _ (0,0) rfl g4) rfl ?_
 have hp' : PrOk (bJ n (ws.drop k)) x f2 (ws.drop k2):=hp
 exact ⟨_,_,k2,f2,rfl,v4,m4,r4,AY hp'⟩
theorem fresh_twoB {w1 w2 : World} {x y : Fm} {a b a' b' : Option Addr} {n c m d n' c' m' d' : Nat} (hz : w1.heap.size ≤ w2.heap.size) (ht : TmsB (hide (lo w1) w2) x.args (.slice a n c)) (hs : FmsB (hide (lo w1) w2) x.sub (.slice b m d))
  (ht' : TmsB (hide (lo w1) w2) y.args (.slice a' n' c')) (hs' : FmsB (hide (lo w1) w2) y.sub (.slice b' m' d')) :
  FmsB (hide (lo w1) (w2.alloc (.cells #[.int .u8 x.op,str x.name,.slice a n c,.slice b m d,.int .u8 y.op,str y.name,.slice a' n' c',.slice b' m' d'] 25))) [x,y] (.slice (some ⟨w2.heap.size,0,none⟩) 2 2):=by
 refine aX.fresh (ds:=cH [x,y]) ?_ (by simp [lo];omega) (by simp [cH,Fm.ds_length]) (by simp [maxLen])
 rw [show cH [x,y] = x.ds ++ y.ds by simp [cH]]
 exact (tU ht hs).append (tU ht' hs')
structure EI (I : RdIx) (ws : List Bs) (w : World) (b1 b2 b3 : Nat) (x : Bs) (op : Int) (fx : Fm) (h : Nat) (a : Option Addr) (na ca : Nat) (b : Option Addr) (nb cb : Nat) (k2 : Nat) (f2 : Bool) (wx : World) : Prop where
 rd : Rd wx I ws k2 f2
 mv : aN I w wx
 g : wx.heap[w.heap.size]? = some (.cells #[.int .u8 0,str [],.slice none 0 0,.slice none 0 0] 25 (0,0))
 cell : wx.heap[h]? = some (.cells #[.int .u8 fx.op,str fx.name,.slice a na ca,.slice b nb cb] 25 (0,0))
 r1 : wx.heap[b1]? = some (.cells #[one I.S] 153 (0,0))
 r2 : wx.heap[b2]? = some (.cells #[str x] 9 (0,0))
 r3 : wx.heap[b3]? = some (.cells #[.int .u8 op] 5 (0,0))
 old : I.A < w.heap.size ∧ I.S < w.heap.size
 gh : w.heap.size < h
 ht : TmsB (hide (fun k=>decide (k ≤ w.heap.size)) wx) fx.args (.slice a na ca)
 hs : FmsB (hide (fun k=>decide (k ≤ w.heap.size)) wx) fx.sub (.slice b nb cb)
theorem aN.hid2B {I : RdIx} {w w2 w3 : World} (m : aN I w2 w3) (h : I.A < w.heap.size ∧ I.S < w.heap.size) : bY (hide (fun k=>decide (k ≤ w.heap.size)) w2) (hide (fun k=>decide (k ≤ w.heap.size)) w3):=aS fun k h1 h2=>by
 refine ⟨h2, ?_⟩
 simp only [decide_eq_false_iff_not,Nat.not_le] at h2
 exact m.block k h1 (by omega) (by omega)
section
variable {I : RdIx} {ws : List Bs} {w : World} {b1 b2 b3 : Nat} {x : Bs} {op : Int} {fx : Fm} {h : Nat} {a : Option Addr} {na ca : Nat} {b : Option Addr} {nb cb : Nat} {k2 : Nat} {f2 : Bool} {wx : World}
theorem EI.moved (q : EI I ws w b1 b2 b3 x op fx h a na ca b nb cb k2 f2 wx) {wy : World} {k3 : Nat} {f3 : Bool} (m : aN I wx wy) (r : Rd wy I ws k3 f3) : EI I ws w b1 b2 b3 x op fx h a na ca b nb cb k3 f3 wy :=
 ⟨r,q.mv.trans m,m.keepc q.rd (by decide) (by decide) q.g,m.keepc q.rd (by decide) (by decide) q.cell,m.keepc q.rd (by decide) (by decide) q.r1,m.keepc q.rd (by decide) (by decide) q.r2,m.keepc q.rd (by decide) (by decide) q.r3,q.old,q.gh,
  q.ht.keep (m.hid2B q.old),q.hs.keep (m.hid2B q.old)⟩
end
theorem two1_cB (I : RdIx) (ws : List Bs) (hw : ∀ x ∈ ws,x.length ≤ maxLen) (n : Nat) (hF : nB I ws n) (op : Int) (x : Bs) (b1 b2 b3 k : Nat) (w : World) (h : Rd w I ws k false) (tb : Tb w I) (hn : 3 * (ws.length - k) + 1 ≤ n)
  (h1 : w.heap[b1]? = some (.cells #[one I.S] 153 (0,0))) (h2 : w.heap[b2]? = some (.cells #[str x] 9 (0,0))) (h3 : w.heap[b3]? = some (.cells #[.int .u8 op] 5 (0,0))) :
  Calls Tryz.prog 267 #[one b1,one b2,one b3] w (Out I ws w (rS n op x (bJ n (ws.drop k))) FmB):=by
 have hB : Below w.heap.size w (w.alloc (.cells #[.int .u8 0,str [],.slice none 0 0,.slice none 0 0] 25)):=bnew
 have hC:=hF k false _ (h.below hB) (tb.moved h (aN.of_below hB)) fun _=>hn
 have hrow : (w.alloc (.cells #[.int .u8 0,str [],.slice none 0 0,.slice none 0 0] 25)).heap[w.heap.size]? = some (.cells #[.int .u8 0,str [],.slice none 0 0,.slice none 0 0] 25 (0,0)):=heap_alloc_new w _
 have c1:=aA hB _ _ (Go.cell_of_one h1)
 have HC:=Hd hC
 have H:=Hd h
 have HB:=Hd hB
 have HR:=Hd hrow
 have LT:=Hd h.lt
 have H1:=Hd (dS hB _ _ _ _ h1)
 have H2:=Hd (dS hB _ _ _ _ h2)
 have H3:=Hd (dS hB _ _ _ _ h3)
 have HF:=Hd hF
 have HN:=Hd hn
 have HW:=Hd hw
 have TB:=Hd tb
 clear h tb hn hB hC hrow h1 h2 h3 hF hw
 go_enter Tryz.func267,Tryz.ntmps267
 go_upto_region 1 with fail
 go_cut [4] from 5 to 6 (fun u wx=>∃ fx g a na ca b nb cb k2 f2,u = one g ∧ Hid (EI I ws w b1 b2 b3 x op fx g a na ca b nb cb k2 f2 wx ∧ PrOk (bJ n (ws.drop k)) fx f2 (ws.drop k2)))
 case first =>
  go_wp2_with (go_at_call 117;refine HC.out.mono ?_;rintro e w2 ⟨fx,v,k2,f2,rfl,⟨a,na,ca,b,nb,cb,rfl,ht,hs⟩,mv,r2,hp⟩;have QQ:=Hd (And.intro ht (And.intro hs (And.intro mv (And.intro r2 hp))));clear ht hs mv r2 hp)
  go_meet
  obtain ⟨ht,hs,mv,r2,hp⟩:=QQ.out
  have RB:=H.out.below HB.out
  have bw : Below w2.heap.size w2 (w2.alloc (.cells #[.int .u8 fx.op,str fx.name,.slice a na ca,.slice b nb cb] 25)):=bnew
  have m2:=mv.trans (aN.of_below bw)
  refine ⟨fx,w2.heap.size,a,na,ca,b,nb,cb,k2,f2,rfl,⟨r2.below bw,(aN.of_below HB.out).trans m2,m2.keepc RB (by decide) (by decide) HR.out,heap_alloc_new _ _,m2.keepc RB (by decide) (by decide) H1.out,m2.keepc RB (by decide) (by decide) H2.out,m2.keepc RB (by decide) (by decide) H3.out,⟨LT.out.2.1,LT.out.2.2.1⟩,by have:=mv.size;simp at this;omega, ?_, ?_⟩,hp⟩
  ·rw [mT] at ht;exact ht.keep ((aN.of_below bw).hid2B ⟨LT.out.2.1,LT.out.2.2.1⟩)
  ·rw [mT] at hs;exact hs.keep ((aN.of_below bw).hid2B ⟨LT.out.2.1,LT.out.2.2.1⟩)
 case rest =>
 obtain ⟨fx,g,a,na,ca,b,nb,cb,k2,f2,rfl,ST⟩:=hcut
 clear HC HB HR H1 H2 H3 c1
 have c1:=Go.cell_of_one ST.out.1.r1
 have c2:=Go.cell_of_one ST.out.1.r2
 go_upto_region 2 with fail
 go_cut [] from 7 to 11 (fun wy=>∃ k3 f3,Hid (EI I ws w b1 b2 b3 x op fx g a na ca b nb cb k3 f3 wy ∧ ∃ s,lS ws k2 f2 (fun s=>decide (s ∈ [x])) s k3 f3))
 case first =>
  have HA : Hid (∀ w',Below wc.heap.size wc w' → aR wc w'):=fun w' h=>by exact aA h
  go_region_held3 (fun w'=>w'.cell? ⟨b1,0,none⟩ = some (one I.S) ∧ w'.cell? ⟨b2,0,none⟩ = some (str x)) (go_keep)
   (first
    | (go_at_call 265;refine (is_c (l:=[x]) ((wG wc x 9).keep (vC _)) (by simp)).mono ?_;rintro e w3 ⟨⟨bf,rfl,acc⟩,b3'⟩;have AC:=Hd acc;have B3 : Hid (Below wc.heap.size wc w3):=((bnew.drew).trans (b3'.mono (by simp)));have d1:=aA B3.out _ _ c1;have d2:=aA B3.out _ _ c2;clear acc b3')
    | (go_at_call 196;refine (iB I ws k2 f2 299 #[] _ _ _ (ST.out.1.rd.below B3.out) HW.out uU AC.out).mono ?_;rintro e w4 mp;obtain ⟨s,k3,f3,rfl,mv,r4,mw⟩:=iE mp;have S4:=ST.out.1.moved ((aN.of_below B3.out).trans mv) r4;have d1:=Go.cell_of_one S4.r1;have d2:=Go.cell_of_one S4.r2;have Q4:=Hd (And.intro S4 mw);clear S4 mp mv r4 mw))
  all_goals go_wp2_with fail
  all_goals go_meet
  all_goals exact ⟨k3,f3,Q4.out.1,s,Q4.out.2⟩
 case rest =>
 obtain ⟨k3,f3,ST3⟩:=hcut
 have S3:=ST3.out.1
 have c1:=Go.cell_of_one S3.r1
 have c3:=Go.cell_of_one S3.r3
 have d0:=(box_cell S3.cell 0).trans rfl
 have d1:=(box_cell S3.cell 1).trans rfl
 have d2:=(box_cell S3.cell 2).trans rfl
 have d3:=(box_cell S3.cell 3).trans rfl
 have n1 : w.heap.size ≠ b1:=by intro e;have:=S3.g;rw [e,S3.r1] at this;cases this
 have n3 : w.heap.size ≠ b3:=by intro e;have:=S3.g;rw [e,S3.r3] at this;cases this
 have n4 : w.heap.size ≠ g:=Nat.ne_of_lt S3.gh
 have bd : Below wc.heap.size wc wc.drew:=(Below.refl _ _).drew
 have hbd : f3 = false → 3 * (ws.length - k3) + 1 ≤ n:=by
  intro e
  obtain ⟨s,hm⟩:=ST3.out.2
  rcases hm with ⟨e2,hs,_,hk,_⟩ | ⟨_,_,_,e3⟩
  ·subst e2
   have hl:=kY _ _ _ _ (fN ST.out.2)
   simp only [List.length_drop] at hl
   have:=(List.getElem?_eq_some_iff.1 hs).1
   have:=HN.out
   omega
  ·rw [e3] at e;cases e
 have HC:=Hd (HF.out k3 f3 wc.drew (S3.rd.below bd) ((TB.out.moved H.out S3.mv).moved S3.rd (aN.of_below bd)) hbd)
 have BD:=Hd bd
 clear S3 bd hbd
 go_upto_region 3 with fail
 go_region_held3 (fun w'=>w'.cell? ⟨b3,0,none⟩ = some (.int .u8 op) ∧ w'.cell? ⟨b1,0,none⟩ = some (one I.S) ∧ w'.cell? ⟨g,0,none⟩ = some (.int .u8 fx.op) ∧ w'.cell? ⟨g,1,none⟩ = some (str fx.name) ∧ w'.cell? ⟨g,2,none⟩ = some (.slice a na ca) ∧ w'.cell? ⟨g,3,none⟩ = some (.slice b nb cb)) (go_keep)
  ((go_at_call 117;refine HC.out.mono ?_;rintro e w5 ⟨fy,v,k5,f5,rfl,⟨a',na',ca',b',nb',cb',rfl,ht,hs⟩,mv,r5,hp⟩;have S5:=ST3.out.1.moved ((aN.of_below BD.out).trans mv) r5;have x1:=Go.cell_of_one S5.r1;have x3:=Go.cell_of_one S5.r3;have y0:=(box_cell S5.cell 0).trans rfl;have y1:=(box_cell S5.cell 1).trans rfl;have y2:=(box_cell S5.cell 2).trans rfl;have y3:=(box_cell S5.cell 3).trans rfl;have z5:=(Array.getElem?_eq_some_iff.1 S5.g).1;obtain ⟨q0,q1,q2,q3,g0,g1,g2,g3⟩:=iA S5.g;have Q5:=Hd (And.intro S5 (And.intro ht (And.intro hs (And.intro mv hp))));clear S5 ht hs mv r5 hp))
 go_wp2_with fail
 obtain ⟨S5,ht,hs,mv,hp⟩:=Q5.out
 have hz : w.heap.size + 1 ≤ w5.heap.size:=z5
 have m5 : aN I w w5:=S5.mv
 have K : bY (hide (lo wc.drew) w5) (hide (lo (w.alloc (.cells #[.int .u8 0,str [],.slice none 0 0,.slice none 0 0] 25))) w5):=mU (by have:=(Array.getElem?_eq_some_iff.1 ST3.out.1.g).1;simp;omega) fun _ _ _=>rfl
 have hx1:=S5.ht;have hx2:=S5.hs
 rw [← mT w (.cells #[.int .u8 0,str [],.slice none 0 0,.slice none 0 0] 25)] at hx1 hx2
 obtain ⟨g4,v4,m4,r4⟩:=jJ (fm:=.mk op [] [] [fx,fy]) (w1:=w.alloc (.cells #[.int .u8 0,str [],.slice none 0 0,.slice none 0 0] 25)) (w3:=w5.alloc (.cells #[.int .u8 fx.op,str fx.name,.slice a na ca,.slice b nb cb,.int .u8 fy.op,str fy.name,.slice a' na' ca',.slice b' nb' cb'] 25)) H.out (S5.rd.below bnew) (m5.alloc _) (Nat.le_refl _) (by simp) (by simp) ((bnew.block _ z5).trans S5.g) (AtB.nil) (fresh_twoB (by simpa using hz) hx1 hx2 (ht.keep K) (hs.keep K)) _ rfl
 simp only [kZ z5] at g4 v4 m4 r4
 refine bodyPost_ret (jF rfl _ _ w.heap.size _ _ _ _ (0,0) rfl g4) rfl ?_
 obtain ⟨s,hm⟩:=ST3.out.2
 exact ⟨_,_,_,f5,rfl,v4,m4,r4,MF ST.out.2 hm hp⟩
end Go.Proofs.YtcandidgaegghaaGreatDoor
