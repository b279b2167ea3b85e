/- renaming.form at a formula, where a function gets another name. Conditions: those of each statement. -/
import Derived.Test.YtppfalbnhnpbnaaGreatDoorPdCX
import Derived.Test.YtppfalbnhnpbnaaGreatDoorMtAX
set_option linter.unusedSimpArgs false
set_option linter.unusedVariables false
namespace Go.Proofs.YtppfalbnhnpbnaaGreatDoor
open Go Go.RowKit Ly
set_option maxRecDepth 10000
set_option maxHeartbeats 8000000 in
theorem rfA_step (sn tn : Bs) (sa : Nat) (op : Int) (nm : Bs) (ts : List Tm) (fs : List Fm) (ih : ∀ t ∈ fs,RF ⟨97,sn,sa⟩ tn t) : RF ⟨97,sn,sa⟩ tn (.mk op nm ts fs):=by
 intro W x hx0 hn
 obtain ⟨a,N,c,a2,N2,c2,rfl,hx,hy⟩ : ∃ a N c a2 N2 c2,x = .agg #[.int .u8 op,str nm,.slice a N c,.slice a2 N2 c2] ∧ bE W ts (.slice a N c) ∧ aL W fs (.slice a2 N2 c2):=hx0
 have hlen:=hx.len
 have nd : (Fm.mk op nm ts fs).nodes = 1 + aM ts + aG fs:=by simp [Fm.nodes]
 rw [nd] at hn
 have N0 : N ≤ 1000:=by rw [hlen.1];have:=dQ ts;omega
 obtain ⟨LS,hLS⟩ : ∃ LS,cQ ⟨97,sn,sa⟩ tn ts = LS:=⟨_,rfl⟩
 obtain ⟨GS,hGS⟩ : ∃ GS,bN ⟨97,sn,sa⟩ tn fs = GS:=⟨_,rfl⟩
 have EC : Hid (∀ X nm' sl' sm',MidF W #[str [97],str sn,.int .i64 sa,str tn] op nm' sl' sm' X → Calls Tryz.prog 114 #[.slice a N c,.func (.func 115) #[.agg #[str [97],str sn,.int .i64 sa,str tn]] #[]] X fun e w'=>∃ fa fc,e = .returned (.slice fa LS.length fc) ∧ bE (hide (lo X) w') LS (.slice fa LS.length fc) ∧ Below X.heap.size X w'):=fun X nm' sl' sm' hM=>by
  rw [← hLS]
  refine (mK ⟨97,sn,sa⟩ tn ts (fun t _=>vG _ _ t) X a N c (hx.keep (aA hM.bt)) (by omega)).mono ?_
  rintro e w' ⟨v3,rfl,h3,b3⟩
  obtain ⟨fa,fc,rfl,-,-,-,-⟩:=At.sl_inv h3
  exact ⟨fa,fc,rfl,h3,b3⟩
 have FC : Hid (∀ X nm' sl' sm',MidF W #[str [97],str sn,.int .i64 sa,str tn] op nm' sl' sm' X → Calls Tryz.prog 69 #[.slice a2 N2 c2,.func (.func 61) #[.agg #[str [97],str sn,.int .i64 sa,str tn]] #[]] X fun e w'=>∃ fa fc,e = .returned (.slice fa GS.length fc) ∧ aL (hide (lo X) w') GS (.slice fa GS.length fc) ∧ Below X.heap.size X w'):=fun X nm' sl' sm' hM=>by
  rw [← hGS]
  refine (oT ⟨97,sn,sa⟩ tn fs ih X a2 N2 c2 (hy.keep (aA hM.bt)) (by omega)).mono ?_
  rintro e w' ⟨v3,rfl,h3,b3⟩
  obtain ⟨fa,fc,rfl,-,-,-,-⟩:=At.sl_inv h3
  exact ⟨fa,fc,rfl,h3,b3⟩
 have L2:=Lib.hid hlen.1
 have HLS:=Lib.hid hLS
 have HGS:=Lib.hid hGS
 have M0:=Lib.hid (sE W #[str [97],str sn,.int .i64 sa,str tn] op nm (.slice a N c) (.slice a2 N2 c2))
 obtain ⟨W0,hW0⟩ : ∃ W0,(((W.alloc (.cells #[str [97],str sn,.int .i64 sa,str tn] 107)).alloc (.cells #[.int .u8 op,str nm,.slice a N c,.slice a2 N2 c2] 40)).alloc (.cells #[.int .u8 0,str [],.slice none 0 0,.slice none 0 0] 40)) = W0:=⟨_,rfl⟩
 rw [hW0] at M0
 clear ih hx hy hlen hn nd hLS hGS
 unfold renV
 go_enter Tryz.func61,Tryz.ntmps61
 have KEY : Hid (∀ (nw : Bs) (w3 w5 : World) (fa ka : Option Addr) (fc kc : Nat) (X2 X4 : World),(Fm.mk op nm ts fs).ren ⟨97,sn,sa⟩ tn = .mk op nw LS GS → MidF W #[str [97],str sn,.int .i64 sa,str tn] op nw (.slice a N c) (.slice a2 N2 c2) X2 →
   (bE (hide (lo X2) w3) LS (.slice fa LS.length fc) ∧ Below X2.heap.size X2 w3) → X4 = w3.setCell ⟨W.heap.size + 1,2,none⟩ (.slice fa LS.length fc) → (aL (hide (lo X4) w5) GS (.slice ka GS.length kc) ∧ Below X4.heap.size X4 w5) →
   bH (hide (lo W) (((((w5.setCell ⟨W.heap.size + 1,3,none⟩ (.slice ka GS.length kc)).setCell ⟨W.heap.size + 1 + 1,0,none⟩ (.int .u8 op)).setCell ⟨W.heap.size + 1 + 1,1,none⟩ (str nw)).setCell ⟨W.heap.size + 1 + 1,2,none⟩ (.slice fa LS.length fc)).setCell ⟨W.heap.size + 1 + 1,3,none⟩ (.slice ka GS.length kc))) ((Fm.mk op nm ts fs).ren ⟨97,sn,sa⟩ tn) (.agg #[.int .u8 op,str nw,.slice fa LS.length fc,.slice ka GS.length kc])):=by
  rintro nw w3 w5 fa ka fc kc X2 X4 te m2 ⟨h3,b3⟩ e4 ⟨h5,b5⟩
  have m4:=(m2.next b3).set 2 (.slice fa LS.length fc) nw (.slice fa LS.length fc) (.slice a2 N2 c2) rfl
  rw [← e4] at m4
  have lw:=(Array.getElem?_eq_some_iff.1 m2.r2).1
  have lw4:=(Array.getElem?_eq_some_iff.1 m4.r2).1
  have l34 : w3.heap.size = X4.heap.size:=by rw [e4];simp
  have b2:=b3.size
  have key : ∀ k,k ≠ W.heap.size + 1 + 1 → ((((((w5.setCell ⟨W.heap.size + 1,3,none⟩ (.slice ka GS.length kc)).setCell ⟨W.heap.size + 1 + 1,0,none⟩ (.int .u8 op)).setCell ⟨W.heap.size + 1 + 1,1,none⟩ (str nw)).setCell ⟨W.heap.size + 1 + 1,2,none⟩ (.slice fa LS.length fc)).setCell ⟨W.heap.size + 1 + 1,3,none⟩ (.slice ka GS.length kc)).heap[k]?) = (w5.setCell ⟨W.heap.size + 1,3,none⟩ (.slice ka GS.length kc)).heap[k]?:=fun k hk=>by rw [Below.heap_setCell _ _ _ _ hk,Below.heap_setCell _ _ _ _ hk,Below.heap_setCell _ _ _ _ hk,Below.heap_setCell _ _ _ _ hk]
  have key2 : ∀ k,W.heap.size + 1 + 1 < k → (w5.setCell ⟨W.heap.size + 1,3,none⟩ (.slice ka GS.length kc)).heap[k]? = w5.heap[k]?:=fun k hk=>Below.heap_setCell _ _ _ _ (by show k ≠ W.heap.size + 1;omega)
  rw [te]
  refine ⟨_,_,_,_,_,_,rfl, ?_, ?_⟩
  ·refine h3.keep (aF fun k h1 h2=>?_)
   simp only [lo,decide_eq_false_iff_not,Nat.not_lt] at h2 ⊢
   refine ⟨by omega, ?_⟩
   rw [key k (by omega),key2 k (by omega),b5.block k (by omega),e4]
   exact Below.heap_setCell _ _ _ _ (by show k ≠ W.heap.size + 1;omega)
  ·refine h5.keep (aF fun k h1 h2=>?_)
   simp only [lo,decide_eq_false_iff_not,Nat.not_lt] at h2 ⊢
   exact ⟨by omega,by rw [key k (by omega),key2 k (by omega)]⟩
 have M2:=M0
 by_cases hop : op = 1
 ·subst hop
  have TE : Hid ((Fm.mk 1 nm ts fs).ren ⟨97,sn,sa⟩ tn = .mk 1 nm LS GS):=by show _ = _;simp [Fm.ren,HLS.out,HGS.out,bV]
  obtain ⟨⟨y0,y1,y2,y3⟩,z0,z1,z2,z3⟩:=aJ M0.out.r1
  obtain ⟨v0,v1,v2,v3⟩:=dE M0.out.r0
  go_wp2_with (first
   | (
     go_at_call 114
     refine (EC.out _ _ _ _ M2.out).mono ?_
     rintro e w3 ⟨fa,fc,rfl,h3,b3⟩
     have M3:=Lib.hid (M2.out.next b3)
     have H3:=Lib.hid (And.intro h3 b3)
     clear h3 b3 y0 y1 y2 y3 z0 z1 z2 z3 v0 v1 v2 v3 EC
     obtain ⟨⟨y0,y1,y2,y3⟩,z0,z1,z2,z3⟩:=aJ M3.out.r1
     have M4:=Lib.hid (M3.out.set 2 (.slice fa LS.length fc) _ _ _ rfl)
     obtain ⟨⟨q0,q1,q2,q3⟩,-,-,-,-⟩:=aJ M4.out.r1
     obtain ⟨v0,v1,v2,v3⟩:=dE M4.out.r0)
   | (
     go_at_call 69
     refine (FC.out _ _ _ _ M4.out).mono ?_
     rintro e w5 ⟨ka,kc,rfl,h5,b5⟩
     have M5:=Lib.hid (M4.out.next b5)
     have H5:=Lib.hid (And.intro h5 b5)
     clear h5 b5 y0 y1 y2 y3 z0 z1 z2 z3 q0 q1 q2 q3 v0 v1 v2 v3 FC
     obtain ⟨⟨y0,y1,y2,y3⟩,z0,z1,z2,z3⟩:=aJ M5.out.r1
     have M6:=Lib.hid (M5.out.set 3 (.slice ka GS.length kc) _ _ _ rfl)
     obtain ⟨⟨q0,q1,q2,q3⟩,-,-,-,-⟩:=aJ M6.out.r1
     obtain ⟨⟨s0,s1,s2,s3⟩,x0,x1,x2,x3⟩:=aJ M6.out.r2))
  have g:=aC (o:=3) (u:=.slice ka GS.length kc) (aC (o:=2) (u:=.slice fa LS.length fc) (aC (o:=1) (u:=str nm) (aC (o:=0) (u:=.int .u8 1) M6.out.r2)))
  refine bodyPost_ret (fB rfl _ _ (W.heap.size + 1 + 1) _ _ _ _ (0,0) rfl g) rfl ?_
  exact ⟨.agg #[.int .u8 1,str nm,.slice fa LS.length fc,.slice ka GS.length kc],rfl,KEY.out _ _ _ _ _ _ _ _ _ TE.out M2.out H3.out rfl H5.out,(((M6.out.bt.setCell (by simp;omega) _).setCell (by simp;omega) _).setCell (by simp;omega) _).setCell (by simp;omega) _⟩
 ·have TE : Hid ((Fm.mk op nm ts fs).ren ⟨97,sn,sa⟩ tn = .mk op nm LS GS):=by show _ = _;simp [Fm.ren,HLS.out,HGS.out,bV,hop]
  have t1 : (op == 1) = false:=by simpa using hop
  by_cases h8 : op = 8
  ·subst h8
   obtain ⟨⟨y0,y1,y2,y3⟩,z0,z1,z2,z3⟩:=aJ M0.out.r1
   obtain ⟨v0,v1,v2,v3⟩:=dE M0.out.r0
   go_wp2_with (first
    | (
      go_at_call 114
      refine (EC.out _ _ _ _ M2.out).mono ?_
      rintro e w3 ⟨fa,fc,rfl,h3,b3⟩
      have M3:=Lib.hid (M2.out.next b3)
      have H3:=Lib.hid (And.intro h3 b3)
      clear h3 b3 y0 y1 y2 y3 z0 z1 z2 z3 v0 v1 v2 v3 EC
      obtain ⟨⟨y0,y1,y2,y3⟩,z0,z1,z2,z3⟩:=aJ M3.out.r1
      have M4:=Lib.hid (M3.out.set 2 (.slice fa LS.length fc) _ _ _ rfl)
      obtain ⟨⟨q0,q1,q2,q3⟩,-,-,-,-⟩:=aJ M4.out.r1
      obtain ⟨v0,v1,v2,v3⟩:=dE M4.out.r0)
    | (
      go_at_call 69
      refine (FC.out _ _ _ _ M4.out).mono ?_
      rintro e w5 ⟨ka,kc,rfl,h5,b5⟩
      have M5:=Lib.hid (M4.out.next b5)
      have H5:=Lib.hid (And.intro h5 b5)
      clear h5 b5 y0 y1 y2 y3 z0 z1 z2 z3 q0 q1 q2 q3 v0 v1 v2 v3 FC
      obtain ⟨⟨y0,y1,y2,y3⟩,z0,z1,z2,z3⟩:=aJ M5.out.r1
      have M6:=Lib.hid (M5.out.set 3 (.slice ka GS.length kc) _ _ _ rfl)
      obtain ⟨⟨q0,q1,q2,q3⟩,-,-,-,-⟩:=aJ M6.out.r1
      obtain ⟨⟨s0,s1,s2,s3⟩,x0,x1,x2,x3⟩:=aJ M6.out.r2))
   have g:=aC (o:=3) (u:=.slice ka GS.length kc) (aC (o:=2) (u:=.slice fa LS.length fc) (aC (o:=1) (u:=str nm) (aC (o:=0) (u:=.int .u8 8) M6.out.r2)))
   refine bodyPost_ret (fB rfl _ _ (W.heap.size + 1 + 1) _ _ _ _ (0,0) rfl g) rfl ?_
   exact ⟨.agg #[.int .u8 8,str nm,.slice fa LS.length fc,.slice ka GS.length kc],rfl,KEY.out _ _ _ _ _ _ _ _ _ TE.out M2.out H3.out rfl H5.out,(((M6.out.bt.setCell (by simp;omega) _).setCell (by simp;omega) _).setCell (by simp;omega) _).setCell (by simp;omega) _⟩
  ·have t8 : (op == 8) = false:=by simpa using h8
   by_cases h9 : op = 9
   ·subst h9
    obtain ⟨⟨y0,y1,y2,y3⟩,z0,z1,z2,z3⟩:=aJ M0.out.r1
    obtain ⟨v0,v1,v2,v3⟩:=dE M0.out.r0
    go_wp2_with (first
     | (
       go_at_call 114
       refine (EC.out _ _ _ _ M2.out).mono ?_
       rintro e w3 ⟨fa,fc,rfl,h3,b3⟩
       have M3:=Lib.hid (M2.out.next b3)
       have H3:=Lib.hid (And.intro h3 b3)
       clear h3 b3 y0 y1 y2 y3 z0 z1 z2 z3 v0 v1 v2 v3 EC
       obtain ⟨⟨y0,y1,y2,y3⟩,z0,z1,z2,z3⟩:=aJ M3.out.r1
       have M4:=Lib.hid (M3.out.set 2 (.slice fa LS.length fc) _ _ _ rfl)
       obtain ⟨⟨q0,q1,q2,q3⟩,-,-,-,-⟩:=aJ M4.out.r1
       obtain ⟨v0,v1,v2,v3⟩:=dE M4.out.r0)
     | (
       go_at_call 69
       refine (FC.out _ _ _ _ M4.out).mono ?_
       rintro e w5 ⟨ka,kc,rfl,h5,b5⟩
       have M5:=Lib.hid (M4.out.next b5)
       have H5:=Lib.hid (And.intro h5 b5)
       clear h5 b5 y0 y1 y2 y3 z0 z1 z2 z3 q0 q1 q2 q3 v0 v1 v2 v3 FC
       obtain ⟨⟨y0,y1,y2,y3⟩,z0,z1,z2,z3⟩:=aJ M5.out.r1
       have M6:=Lib.hid (M5.out.set 3 (.slice ka GS.length kc) _ _ _ rfl)
       obtain ⟨⟨q0,q1,q2,q3⟩,-,-,-,-⟩:=aJ M6.out.r1
       obtain ⟨⟨s0,s1,s2,s3⟩,x0,x1,x2,x3⟩:=aJ M6.out.r2))
    have g:=aC (o:=3) (u:=.slice ka GS.length kc) (aC (o:=2) (u:=.slice fa LS.length fc) (aC (o:=1) (u:=str nm) (aC (o:=0) (u:=.int .u8 9) M6.out.r2)))
    refine bodyPost_ret (fB rfl _ _ (W.heap.size + 1 + 1) _ _ _ _ (0,0) rfl g) rfl ?_
    exact ⟨.agg #[.int .u8 9,str nm,.slice fa LS.length fc,.slice ka GS.length kc],rfl,KEY.out _ _ _ _ _ _ _ _ _ TE.out M2.out H3.out rfl H5.out,(((M6.out.bt.setCell (by simp;omega) _).setCell (by simp;omega) _).setCell (by simp;omega) _).setCell (by simp;omega) _⟩
   ·have t9 : (op == 9) = false:=by simpa using h9
    obtain ⟨⟨y0,y1,y2,y3⟩,z0,z1,z2,z3⟩:=aJ M0.out.r1
    obtain ⟨v0,v1,v2,v3⟩:=dE M0.out.r0
    go_wp2_with (first
     | (
       go_at_call 114
       refine (EC.out _ _ _ _ M2.out).mono ?_
       rintro e w3 ⟨fa,fc,rfl,h3,b3⟩
       have M3:=Lib.hid (M2.out.next b3)
       have H3:=Lib.hid (And.intro h3 b3)
       clear h3 b3 y0 y1 y2 y3 z0 z1 z2 z3 v0 v1 v2 v3 EC
       obtain ⟨⟨y0,y1,y2,y3⟩,z0,z1,z2,z3⟩:=aJ M3.out.r1
       have M4:=Lib.hid (M3.out.set 2 (.slice fa LS.length fc) _ _ _ rfl)
       obtain ⟨⟨q0,q1,q2,q3⟩,-,-,-,-⟩:=aJ M4.out.r1
       obtain ⟨v0,v1,v2,v3⟩:=dE M4.out.r0)
     | (
       go_at_call 69
       refine (FC.out _ _ _ _ M4.out).mono ?_
       rintro e w5 ⟨ka,kc,rfl,h5,b5⟩
       have M5:=Lib.hid (M4.out.next b5)
       have H5:=Lib.hid (And.intro h5 b5)
       clear h5 b5 y0 y1 y2 y3 z0 z1 z2 z3 q0 q1 q2 q3 v0 v1 v2 v3 FC
       obtain ⟨⟨y0,y1,y2,y3⟩,z0,z1,z2,z3⟩:=aJ M5.out.r1
       have M6:=Lib.hid (M5.out.set 3 (.slice ka GS.length kc) _ _ _ rfl)
       obtain ⟨⟨q0,q1,q2,q3⟩,-,-,-,-⟩:=aJ M6.out.r1
       obtain ⟨⟨s0,s1,s2,s3⟩,x0,x1,x2,x3⟩:=aJ M6.out.r2))
    have g:=aC (o:=3) (u:=.slice ka GS.length kc) (aC (o:=2) (u:=.slice fa LS.length fc) (aC (o:=1) (u:=str nm) (aC (o:=0) (u:=.int .u8 op) M6.out.r2)))
    refine bodyPost_ret (fB rfl _ _ (W.heap.size + 1 + 1) _ _ _ _ (0,0) rfl g) rfl ?_
    exact ⟨.agg #[.int .u8 op,str nm,.slice fa LS.length fc,.slice ka GS.length kc],rfl,KEY.out _ _ _ _ _ _ _ _ _ TE.out M2.out H3.out rfl H5.out,(((M6.out.bt.setCell (by simp;omega) _).setCell (by simp;omega) _).setCell (by simp;omega) _).setCell (by simp;omega) _⟩
mutual
theorem yO (sn tn : Bs) (sa : Nat) : ∀ t : Fm,RF ⟨97,sn,sa⟩ tn t
 | .mk op nm ts fs=>rfA_step sn tn sa op nm ts fs (wN sn tn sa fs)
theorem wN (sn tn : Bs) (sa : Nat) : ∀ ts : List Fm,∀ t ∈ ts,RF ⟨97,sn,sa⟩ tn t
 | [],_,h=>by cases h
 | x :: xs,t,h=>by
  rcases List.mem_cons.1 h with e | e
  ·rw [e];exact yO sn tn sa x
  ·exact wN sn tn sa xs t e
end
end Go.Proofs.YtppfalbnhnpbnaaGreatDoor
namespace Go.Proofs.YtppfalbnhnpbnaaGreatDoor
open Go Go.RowKit Ly
set_option maxRecDepth 10000
structure FunI (m : Nat) (pre : List (Bs × Nat)) (W : World) : Prop where
 set : fC W m pre.length pre
 cell : W.heap[m + 1]? = some (.cells #[.map (some m)] 186 (0,0))
theorem FunI.below {m : Nat} {pre : List (Bs × Nat)} {A X : World} (h : FunI m pre A) (hb : Below A.heap.size A X) : FunI m pre X :=
 ⟨h.set.heap (hb.block _ h.set.lt),(hb.block _ (Array.getElem?_eq_some_iff.1 h.cell).1).trans h.cell⟩
theorem FunI.alloc {m : Nat} {pre : List (Bs × Nat)} {A : World} (h : FunI m pre A) (o : Obj) : FunI m pre (A.alloc o):=h.below ((Below.refl _ _).alloc (Nat.le_refl _) _)
theorem qI (m : Nat) (A : World) (o : Obj) : dA m A (A.alloc o):=dA.of_below ((Below.refl _ _).alloc (Nat.le_refl _) _)
def qA (v : Bool) (nm : Bs) (n : Nat) : List (Bs × Nat):=if v then [] else [(nm,n)]
theorem qM (T : Tm) : T.funs = qA T.v T.name T.args.length ++ bQ T.args:=by cases T;rw [Tm.funs];rfl
set_option maxHeartbeats 2000000 in
theorem fun_in (v : Bool) (nm : Bs) (a : Option Addr) (n c m : Nat) (pre : List (Bs × Nat)) (W : World) (hI : FunI m pre W) (ho : v = false → okX (nm,n)) (hN : n ≤ maxLen) (hp : pre.length < maxLen) :
  Calls Tryz.prog 164 #[.agg #[.bool v,str nm,.slice a n c],one (m + 1)] W fun e w'=>e = .returned (.bool true) ∧ FunI m (pre ++ qA v nm n) w' ∧ dA m W w':=by
 obtain ⟨W1,hW1⟩ : ∃ W1,W.alloc (.cells #[.bool v,str nm,.slice a n c] 38) = W1:=⟨_,rfl⟩
 have i1 : FunI m pre W1:=by rw [← hW1];exact hI.alloc _
 have t1 : dA m W W1:=by rw [← hW1];exact qI m W _
 have r0 : W1.heap[W.heap.size]? = some (.cells #[.bool v,str nm,.slice a n c] 38 (0,0)):=by rw [← hW1];exact heap_alloc_new W _
 have I1:=Lib.hid i1
 have T1:=Lib.hid t1
 have HP:=Lib.hid hp
 have N1 : n ≤ 9223372036854775807:=le63 hN
 obtain ⟨y0,-⟩:=row1 i1.cell
 obtain ⟨z0,z1,z2,-⟩:=row95' r0
 clear i1 t1 r0 hI hp
 cases v
 ·have HO:=Lib.hid (ho rfl)
  clear ho
  go_enter Tryz.func164,Tryz.ntmps164
  go_wp2_with (at_mapUpdate;refine fL rfl _ _ _ 186 rfl 4 keyX xD rfl I1.out.set HP.out (nm,n) HO.out rfl ?_;intro w4 hm4 hg4)
  go_ret
  have ht : dA m W1 w4:=dA.of_grownBy hg4 (MapG.isMap I1.out.set)
  refine ⟨rfl,⟨?_,ht.block _ _ I1.out.cell (.inr rfl)⟩,T1.out.trans ht⟩
  simp only [qA,Bool.false_eq_true,if_false,List.length_append,List.length_cons,List.length_nil]
  exact fC.put hm4
 ·clear ho
  go_enter Tryz.func164,Tryz.ntmps164
  go_wp2
  go_ret
  refine ⟨rfl, ?_,T1.out⟩
  simp only [qA,if_true,List.append_nil]
  exact I1.out
theorem tmsFuns_take (ts : List Tm) {j : Nat} {T : Tm} (h : ts[j]? = some T) : bQ (ts.take (j + 1)) = bQ (ts.take j) ++ T.funs:=by
 have app : ∀ a b : List Tm,bQ (a ++ b) = bQ a ++ bQ b:=fun a b=>by
  induction a with
  | nil=>rfl
  | cons x a ih=>simp [bQ,ih]
 rw [List.take_add_one,h,app]
 simp [bQ]
theorem tmsFuns_pre (ts : List Tm) (j : Nat) : bQ (ts.take j) <+: bQ ts:=by
 induction ts generalizing j with
 | nil=>simp
 | cons x ts ih =>
  cases j with
  | zero=>simp [bQ]
  | succ j=>simp only [List.take_succ_cons,bQ];exact List.prefix_append_right_inj _ |>.2 (ih j)
def FVt (m : Nat) (l : List Tm) : Prop:=∀ (W : World) (pre : List (Bs × Nat)) (x : Value),bE W l x → bX l = true → FunI m pre W → pre.length + (bQ l).length < maxLen →
 Calls Tryz.prog 163 #[x,.func (.func 164) #[] #[one (m + 1)]] W fun e w'=>e = .returned (.bool true) ∧ FunI m (pre ++ bQ l) w' ∧ dA m W w'
theorem tmOk_of {l : List Tm} (h : bX l = true) {T : Tm} (hT : T ∈ l) : T.ok = true:=by
 induction l with
 | nil=>cases hT
 | cons x l ih =>
  rw [bX,Bool.and_eq_true] at h
  rcases List.mem_cons.1 hT with rfl | hT
  ·exact h.1
  ·exact ih h.2 hT
theorem wS {T : Tm} (h : T.ok = true) : (T.v = false → okX (T.name,T.args.length)) ∧ bX T.args = true:=by
 obtain ⟨v,nm,ts⟩:=T
 rw [Tm.ok] at h
 cases v
 ·simp only [Bool.false_eq_true,if_false,Bool.and_eq_true,decide_eq_true_eq] at h
  have h1:=dJ h.1.2
  have h2:=h.1.1
  exact ⟨fun _=>⟨by show nm.length ≤ maxLen;unfold maxLen;omega,by show ts.length ≤ _;omega⟩,h.2⟩
 ·simp only [if_true,Bool.and_eq_true,List.isEmpty_iff] at h
  obtain ⟨rfl,-⟩:=h
  exact ⟨fun h=>(by cases h),rfl⟩
set_option maxHeartbeats 4000000 in
theorem wE (m : Nat) (l : List Tm) (ih : ∀ t ∈ l,FVt m t.args) : FVt m l:=by
 intro W pre x hx0 ho hI hp
 obtain ⟨a,N,c,rfl⟩:=bE.slice hx0
 have hl:=hx0.len
 have N1 : N ≤ 9223372036854775807:=le63 (Nat.le_trans hl.2.1 hl.2.2)
 have L2:=Lib.hid hl.1
 have HX:=Lib.hid hx0
 have HO:=Lib.hid ho
 have IH:=Lib.hid ih
 have HP:=Lib.hid hp
 have I0:=Lib.hid hI
 clear hl hx0 ho ih hp hI
 go_enter Tryz.func163,Tryz.ntmps163
 go_wp2
 go_loopw [9] (fun i wr=>∃ j : Nat,j ≤ N ∧ i = .int .i64 j ∧ Hid (FunI m (pre ++ bQ (l.take j)) wr ∧ dA m W wr)) (fun i _=>N - (intOf i).toNat)
 case atStart=>exact ⟨0,Nat.zero_le _,rfl,by simpa [bQ] using I0.out,dA.refl _ _⟩
 case round =>
  obtain ⟨j,hj,rfl,hs⟩:=hrel
  clear I0
  by_cases hlt : j < N
  ·obtain ⟨T,hT⟩:=aX (l:=l) (j:=j) (by rw [← L2.out];exact hlt)
   obtain ⟨bb,off,rfl,hc⟩:=HX.out.get (aZ hT)
   obtain ⟨x0,x1,x2,hx⟩:=hc j _ hT
   have hK:=bP.cells hs.out.2.rounds
   have c0:=hK _ _ hx.c0;have c1:=hK _ _ hx.c1;have c2:=hK _ _ hx.c2
   have HT:=Lib.hid (List.mem_of_getElem? hT)
   have TE:=Lib.hid (tmsFuns_take l hT)
   obtain ⟨hok1,hok2⟩:=wS (tmOk_of HO.out HT.out)
   have hl2:=hx.at_.len
   have HLE : Hid ((pre ++ bQ (l.take j)).length + T.funs.length ≤ pre.length + (bQ l).length):=by
    have:=(tmsFuns_pre l (j + 1)).length_le
    rw [TE.out,List.length_append] at this
    show _ ≤ _;rw [List.length_append];omega
   obtain ⟨g,hg⟩ : ∃ g,wr.alloc (.cells #[.bool T.v,str T.name,.slice x0 x1 x2] 38) = g:=⟨_,rfl⟩
   have r0 : g.heap[wr.heap.size]? = some (.cells #[.bool T.v,str T.name,.slice x0 x1 x2] 38 (0,0)):=by rw [← hg];exact heap_alloc_new wr _
   have tg : dA m W g:=by rw [← hg];exact hs.out.2.trans (qI m wr _)
   have ig : FunI m (pre ++ bQ (l.take j)) g:=by rw [← hg];exact hs.out.1.alloc _
   have CC : Hid (Calls Tryz.prog 164 #[.agg #[.bool T.v,str T.name,.slice x0 x1 x2],one (m + 1)] g fun e w'=>e = .returned (.bool true) ∧ FunI m (pre ++ bQ (l.take j) ++ qA T.v T.name x1) w' ∧ dA m g w') :=
    fun_in T.v T.name x0 x1 x2 m _ g ig (fun e=>by rw [hl2.1];exact hok1 e) (Nat.le_trans hl2.2.1 hl2.2.2) (by have:=HP.out;have:=HLE.out;rw [qM] at this;simp only [List.length_append] at this ⊢;omega)
   have IC : Hid (∀ w',dA m W w' → FunI m (pre ++ bQ (l.take j) ++ qA T.v T.name x1) w' → Calls Tryz.prog 163 #[.slice x0 x1 x2,.func (.func 164) #[] #[one (m + 1)]] w' fun e w''=>e = .returned (.bool true) ∧ FunI m (pre ++ bQ (l.take (j + 1))) w'' ∧ dA m w' w''):=fun w' h1 h2=>by
    have:=IH.out T HT.out w' _ (.slice x0 x1 x2) (hx.at_.keep (bP.cells h1.rounds)) hok2 h2 (by
     have h3:=HP.out;have h4:=HLE.out;rw [qM,← hl2.1] at h4;simp only [List.length_append] at h4 ⊢;omega)
    rw [List.append_assoc,List.append_assoc,hl2.1,← qM,← TE.out] at this
    rw [hl2.1]
    exact this
   have TG:=Lib.hid tg
   have R0:=Lib.hid r0
   obtain ⟨z0,z1,z2,-⟩:=row95' r0
   clear hc hx hT hK hok1 hok2 hl2 HLE tg ig r0
   go_wp2_with (first
    | (go_at_call 164;refine CC.out.mono ?_;rintro e w3 ⟨rfl,i3,t3⟩;have I3:=Lib.hid i3;have T3:=Lib.hid (TG.out.trans t3);have y2:=(row95' (t3.block _ _ R0.out (.inr rfl))).2.2.1;clear i3 t3 z0 z1 z2)
    | (go_at_call 163;refine (IC.out _ T3.out I3.out).mono ?_;rintro e w4 ⟨rfl,i4,t4⟩;have I4:=Lib.hid i4;have T4:=Lib.hid (T3.out.trans t4);clear i4 t4))
   go_roundw
   case rel=>exact ⟨j + 1,by omega,by go_num,I4.out,T4.out⟩
   case measure=>simp [intOf];omega
  ·have e : l.take j = l:=List.take_of_length_le (by rw [← L2.out];omega)
   go_wp2
   go_ret
   exact ⟨rfl,by have:=hs.out.1;rw [e] at this;exact this,hs.out.2⟩
mutual
theorem fvt_tm (m : Nat) : ∀ t : Tm,FVt m t.args
 | .mk v nm ts=>wE m ts (vB m ts)
theorem vB (m : Nat) : ∀ l : List Tm,∀ t ∈ l,FVt m t.args
 | [],t,h=>by cases h
 | x :: l,t,h=>by
  rcases List.mem_cons.1 h with e | e
  ·rw [e];exact fvt_tm m x
  ·exact vB m l t e
end
theorem fvt_all (m : Nat) (l : List Tm) : FVt m l:=wE m l (vB m l)
end Go.Proofs.YtppfalbnhnpbnaaGreatDoor
namespace Go.Proofs.YtppfalbnhnpbnaaGreatDoor
open Go Go.RowKit Ly
set_option maxRecDepth 10000
attribute [local go_sem] Oper.semAt_some
mutual
def allF : Fm → List Fm
 | .mk op n ts fs=>.mk op n ts fs :: hO fs
def hO : List Fm → List Fm
 | []=>[]
 | f :: fs=>allF f ++ hO fs
end
def Al (w : World) : List Value → List Fm → Prop
 | [],[]=>True
 | x :: xs,g :: gs=>bH w g x ∧ Al w xs gs
 | _,_=>False
theorem Al.append {w : World} : ∀ {xs : List Value} {gs : List Fm} {ys : List Value} {hs : List Fm},Al w xs gs → Al w ys hs → Al w (xs ++ ys) (gs ++ hs)
 | [],[],_,_,_,h=>h
 | x :: xs,g :: gs,_,_,h,k=>⟨h.1,Al.append h.2 k⟩
 | [],_ :: _,_,_,h,_=>by cases h
 | _ :: _,[],_,_,h,_=>by cases h
theorem Al.get {w : World} : ∀ {xs : List Value} {gs : List Fm} {i : Nat} {x : Value},Al w xs gs → xs[i]? = some x → ∃ g,gs[i]? = some g ∧ bH w g x
 | x :: xs,g :: gs,0,y,h,e=>by simp at e;subst e;exact ⟨g,rfl,h.1⟩
 | x :: xs,g :: gs,i + 1,y,h,e=>by simpa using Al.get h.2 (by simpa using e)
 | [],_,_,_,_,e=>by simp at e
 | _ :: _,[],_,_,h,_=>by cases h
theorem Al.len {w : World} : ∀ {xs : List Value} {gs : List Fm},Al w xs gs → xs.length = gs.length
 | [],[],_=>rfl
 | x :: xs,g :: gs,h=>by simp [Al.len h.2]
 | [],_ :: _,h=>by cases h
 | _ :: _,[],h=>by cases h
mutual
theorem uA {w : World} : ∀ (f : Fm) (x : Value),bH w f x → Al w (eY w f x) (allF f)
 | .mk op nm ts fs,x,h=>by
  have h':=h
  obtain ⟨a,n,c,b,m,d,rfl,hx,hy⟩ : ∃ a N c b N2 d,x = .agg #[.int .u8 op,str nm,.slice a N c,.slice b N2 d] ∧ bE w ts (.slice a N c) ∧ aL w fs (.slice b N2 d):=h
  rw [eY,allF]
  refine ⟨h', ?_⟩
  cases fs with
  | nil=>simp [fmsL,hO,Al]
  | cons g gs =>
   obtain ⟨bb,off,rfl,hc⟩:=hy.get (by simp)
   exact xX (g :: gs) bb off hc
theorem xX {w : World} : ∀ (fs : List Fm) (bb off : Nat),(∀ (i : Nat) (f : Fm),fs[i]? = some f → ∃ x k e y m d,nN w bb (off + i * 4) f x k e y m d) → Al w (fmsL w fs bb off) (hO fs)
 | [],_,_,_=>trivial
 | g :: gs,bb,off,h=>by
  obtain ⟨x,k,e,y,m,d,hc⟩:=h 0 g rfl
  rw [fmsL,hO]
  have fv : fmV w bb off = .agg #[.int .u8 g.op,str g.name,.slice x k e,.slice y m d]:=by
   have:=hc.c0;have:=hc.c1;have:=hc.c2;have:=hc.c3
   simp_all [fmV]
  exact (uA g _ (by rw [fv];exact ⟨_,_,_,_,_,_,rfl,hc.at_,hc.at'⟩)).append (xX gs bb (off + 4) (fun i f hf=>by
   have:=h (i + 1) f (by simpa using hf)
   rwa [show off + 4 + i * 4 = off + (i + 1) * 4 by omega]))
end
mutual
theorem lY : ∀ f : Fm,(allF f).flatMap (fun g=>bQ g.args) = f.funs
 | .mk op nm ts fs=>by rw [allF,List.flatMap_cons,Fm.funs,nV fs];rfl
theorem nV : ∀ fs : List Fm,(hO fs).flatMap (fun g=>bQ g.args) = cY fs
 | []=>rfl
 | f :: fs=>by rw [hO,List.flatMap_append,lY f,nV fs,cY]
end
mutual
theorem uR : ∀ f : Fm,f.ok = true → ∀ g ∈ allF f,bX g.args = true
 | .mk op nm ts fs,h,g,hg=>by
  unfold Fm.ok at h
  simp only [Bool.and_eq_true] at h
  rw [allF] at hg
  rcases List.mem_cons.1 hg with rfl | hg
  ·exact h.1.2
  ·exact rI fs h.2 g hg
theorem rI : ∀ fs : List Fm,bU fs = true → ∀ g ∈ hO fs,bX g.args = true
 | [],_,g,hg=>by cases hg
 | f :: fs,h,g,hg=>by
  rw [bU,Bool.and_eq_true] at h
  rw [hO] at hg
  rcases List.mem_append.1 hg with hg | hg
  ·exact uR f h.1 g hg
  ·exact rI fs h.2 g hg
end
mutual
theorem tmFuns_ok : ∀ t : Tm,t.ok = true → ∀ s ∈ t.funs,okX s
 | .mk v nm ts,h,s,hs=>by
  have:=wS h
  rw [qM] at hs
  rcases List.mem_append.1 hs with hs | hs
  ·cases v
   ·simp only [qA,Tm.v,Bool.false_eq_true,if_false,List.mem_singleton] at hs
    subst hs;exact this.1 rfl
   ·simp [qA,Tm.v] at hs
  ·exact nH ts this.2 s hs
theorem nH : ∀ ts : List Tm,bX ts = true → ∀ s ∈ bQ ts,okX s
 | [],_,s,hs=>by cases hs
 | t :: ts,h,s,hs=>by
  rw [bX,Bool.and_eq_true] at h
  rw [bQ] at hs
  rcases List.mem_append.1 hs with hs | hs
  ·exact tmFuns_ok t h.1 s hs
  ·exact nH ts h.2 s hs
end
mutual
theorem tmFuns_len : ∀ t : Tm,t.funs.length ≤ t.nodes
 | .mk v nm ts=>by
  have:=lO ts
  rw [Tm.funs,Tm.nodes,List.length_append]
  split <;> simp <;> omega
theorem lO : ∀ ts : List Tm,(bQ ts).length ≤ aM ts
 | []=>by simp [bQ]
 | t :: ts=>by
  have:=tmFuns_len t
  have:=lO ts
  simp [bQ,aM];omega
end
mutual
theorem wD : ∀ f : Fm,f.funs.length ≤ f.nodes
 | .mk op nm ts fs=>by
  have:=pW fs
  have:=lO ts
  rw [Fm.funs,Fm.nodes,List.length_append]
  omega
theorem pW : ∀ fs : List Fm,(cY fs).length ≤ aG fs
 | []=>by simp [cY]
 | f :: fs=>by
  have:=wD f
  have:=pW fs
  simp [cY,aG];omega
end
theorem funs_ok (f : Fm) (h : f.ok = true) : ∀ s ∈ f.funs,okX s:=by
 intro s hs
 rw [← lY,List.mem_flatMap] at hs
 obtain ⟨g,hg,hs⟩:=hs
 exact nH g.args (uR f h g hg) s hs
def jO (A X : World) : Prop:=∀ (i : Nat) (xs : Array Value) (t : TypeId) (s : Nat × Nat),A.heap[i]? = some (Obj.cells xs t s) → X.heap[i]? = some (Obj.cells xs t s)
theorem jO.cells {A X : World} (k : jO A X) : bR A X:=fun a v h=>by
 unfold World.cell? at h ⊢
 cases ho : A.heap[a.block]? with
 | none=>rw [ho] at h;cases h
 | some o =>
  cases o with
  | cells xs t s=>rw [k _ _ _ _ ho];rw [ho] at h;exact h
  | _=>rw [ho] at h;cases h
theorem jO.turns {m : Nat} {A X Y : World} (h : jO A X) (k : dA m X Y) : jO A Y:=fun i xs t s e=>k.block _ _ (h i xs t s e) (.inr rfl)
theorem jO.below {A X Y : World} (h : jO A X) (k : Below A.heap.size X Y) : jO A Y:=fun i xs t s e=>(k.block _ (Array.getElem?_eq_some_iff.1 e).1).trans (h i xs t s e)
def preF (f : Fm) (k : Nat) : List (Bs × Nat):=((allF f).take k).flatMap (fun g=>bQ g.args)
theorem preF_succ {f g : Fm} {k : Nat} (h : (allF f)[k]? = some g) : preF f (k + 1) = preF f k ++ bQ g.args:=by
 unfold preF
 rw [List.take_add_one,h]
 simp
theorem preF_all {f : Fm} {k : Nat} (h : (allF f).length ≤ k) : preF f k = f.funs:=by rw [← lY,preF,List.take_of_length_le h]
theorem preF_len (f : Fm) (k : Nat) : (preF f k).length ≤ f.funs.length:=by
 have h:=congrArg (fun l : List Fm=>(l.flatMap (fun g=>bQ g.args)).length) (List.take_append_drop k (allF f))
 simp only [List.flatMap_append,List.length_append] at h
 rw [← lY,preF]
 omega
structure FunJ (w W1 : World) (m : Nat) (f : Fm) (pre : List Value) (W : World) : Prop where
 set : FunI m (preF f pre.length) W
 keep : jO W1 W
 below : Below w.heap.size w W
theorem FunI.under {m B : Nat} {pre : List (Bs × Nat)} {A X : World} (h : FunI m pre A) (hm : m + 1 < B) (hb : Below B A X) : FunI m pre X :=
 ⟨h.set.heap (hb.block _ (by omega)),(hb.block _ hm).trans h.cell⟩
set_option maxHeartbeats 4000000 in
theorem Functions_c (hS : iS) (f : Fm) (x : Value) (w : World) (hx0 : bH w f x) (hok : f.ok = true) (hn : f.nodes ≤ 100000) :
  Calls Tryz.prog 109 #[x] w fun e w'=>∃ L v,e = .returned v ∧ (∀ s,s ∈ L ↔ s ∈ f.funs) ∧ eM w' L v ∧ Below w.heap.size w w' ∧ L.length ≤ 100000:=by
 obtain ⟨a,n,c,b,m',d,rfl,hx,hy⟩:=hx0
 obtain ⟨W0,hW0⟩ : ∃ W0,((w.alloc (.cells #[.int .u8 f.op,str f.name,.slice a n c,.slice b m' d] 40)).alloc (.map #[] 0)).alloc (.cells #[.map (some (w.heap.size + 1))] 186) = W0:=⟨_,rfl⟩
 obtain ⟨W1,hW1⟩ : ∃ W1,W0.alloc (.cells #[.int .u8 f.op,str f.name,.slice a n c,.slice b m' d] 40) = W1:=⟨_,rfl⟩
 have b0 : Below w.heap.size w W0:=by rw [← hW0];exact (((Below.refl _ _).alloc (Nat.le_refl _) _).alloc (by simp) _).alloc (by simp;omega) _
 have s0 : W0.heap.size = w.heap.size + 3:=by rw [← hW0];simp
 have b1 : Below w.heap.size w W1:=by rw [← hW1];exact b0.alloc (by omega) _
 have s1 : W1.heap.size = w.heap.size + 4:=by rw [← hW1];simp [s0]
 have r0 : W0.heap[w.heap.size]? = some (.cells #[.int .u8 f.op,str f.name,.slice a n c,.slice b m' d] 40 (0,0)):=by rw [← hW0];exact aI _ (aI _ (heap_alloc_new w _))
 have g1 : W1.heap[W0.heap.size]? = some (.cells #[.int .u8 f.op,str f.name,.slice a n c,.slice b m' d] 40 (0,0)):=by rw [← hW1];exact heap_alloc_new W0 _
 have I0 : FunJ w W1 (w.heap.size + 1) f [] W1:=by
  refine ⟨⟨?_, ?_⟩,fun _ _ _ _ h=>h,b1⟩
  ·have e : W1.heap[w.heap.size + 1]? = ((w.alloc (.cells #[.int .u8 f.op,str f.name,.slice a n c,.slice b m' d] 40)).alloc (.map #[] 0)).heap[w.heap.size + 1]?:=by
    rw [← hW1,Below.heap_alloc _ _ _ (by omega),← hW0,Below.heap_alloc _ _ _ (by simp)]
   have:=fC.made (w.alloc (.cells #[.int .u8 f.op,str f.name,.slice a n c,.slice b m' d] 40))
   rw [World.size_alloc] at this
   have h2:=this.heap e
   simpa [preF] using h2
  ·rw [← hW1]
   refine aI _ ?_
   rw [← hW0]
   have:=heap_alloc_new ((w.alloc (.cells #[.int .u8 f.op,str f.name,.slice a n c,.slice b m' d] 40)).alloc (.map #[] 0)) (.cells #[.map (some (w.heap.size + 1))] 186)
   rw [World.size_alloc,World.size_alloc] at this
   exact this
 have K1:=aA b1
 have fv1 : bH W1 f (.agg #[.int .u8 f.op,str f.name,.slice a n c,.slice b m' d]):=⟨_,_,_,_,_,_,rfl,hx.keep K1,hy.keep K1⟩
 obtain ⟨l,hl⟩ : ∃ l,eY W1 f (.agg #[.int .u8 f.op,str f.name,.slice a n c,.slice b m' d]) = l:=⟨_,rfl⟩
 have FS : ∀ n',oM Fence.wide n' Tryz.prog 202 #[one W0.heap.size] id (w.heap.size + 1) l W1:=fun n'=>by
  rw [← hl];exact wW n' f _ _ _ _ (w.heap.size + 1) W0.heap.size W1 g1 fv1
 have HF : Hid (Al W1 l (allF f)):=by rw [← hl];exact uA f _ fv1
 have HLN : Hid (f.funs.length ≤ 100000):=by have:=wD f;show _ ≤ _;omega
 have HOK : Hid (∀ s ∈ f.funs,okX s):=funs_ok f hok
 have HTO : Hid (∀ g ∈ allF f,bX g.args = true):=uR f hok
 have HS:=Lib.hid hS
 have S1:=Lib.hid s1
 have S0:=Lib.hid s0
 obtain ⟨⟨y0,y1,y2,y3⟩,-⟩:=aJ r0
 clear hx hy hok hn hS K1 fv1 hl b0 b1 r0 g1 s0 s1
 refine (callsIn_wide (n:=6)).1 ?_
 refine callsIn_of_wp_marks Tryz.func109 rfl trivial ?_ rfl
 have hmm:=@run_makeMap Tryz.prog
 simp only [Tryz.ntmps109,List.size_toArray,List.length_cons,List.length_nil,Nat.reduceAdd,Nat.reduceSub,Array.replicate_succ,Array.replicate_zero,List.push_toArray,List.append_toArray,List.nil_append,List.cons_append]
 gi_wp2_with (refine ⟨trivial, ?_⟩;gi_at_call 161;refine callsIn_wide.2 ((zZ _ _ _ _ _).mono ?_);rintro e w2 ⟨rfl,rfl⟩)
 clear hW1 hW0 hmm y0 y1 y2 y3
 refine lX (w0:=W1) (a:=⟨#[.agg #[.int .u8 f.op,str f.name,.slice a n c,.slice b m' d],one w.heap.size,.slice none 0 0,one (w.heap.size + 1 + 1),undef,.map (some (w.heap.size + 1)),.agg #[.int .u8 f.op,str f.name,.slice a n c,.slice b m' d],.func (.func 202) #[] #[one W0.heap.size],undef,undef,undef,undef,undef,undef,undef],[]⟩) rfl (by decide) (gf:=202) (lb:=#[one W0.heap.size]) rfl trivial (enters_of Tryz.func202 (by kernel_rfl) rfl) (by have:=S1.out;omega) (FS 5) (Below.refl _ _) rfl
  (FunJ w W1 (w.heap.size + 1) f) (fun s A X h hA hb=>⟨h.set.under (by have:=S1.out;omega) hb,h.keep.below hb,h.below.trans (hb.mono (by have:=S1.out;omega))⟩) I0
  (fun x ac W=>∃ (op : Int) (nm : Bs) (xa : Option Addr) (xn xc : Nat) (xb : Option Addr) (xm xd g : Nat),x = .agg #[.int .u8 op,str nm,.slice xa xn xc,.slice xb xm xd] ∧ W.heap[g]? = some (.cells #[.int .u8 op,str nm,.slice xa xn xc,.slice xb xm xd] 40 (0,0)) ∧
   ac = ⟨#[.agg #[.int .u8 f.op,str f.name,.slice a n c,.slice b m' d],one w.heap.size,.slice none 0 0,one (w.heap.size + 1 + 1),one g,.map (some (w.heap.size + 1)),.agg #[.int .u8 f.op,str f.name,.slice a n c,.slice b m' d],.func (.func 202) #[] #[one W0.heap.size],.agg #[.int .u8 op,str nm,.slice xa xn xc,.slice xb xm xd],undef,undef,undef,undef,undef,undef],[]⟩)
  (fun x ac A X h hk=>by
   obtain ⟨op,nm,xa,xn,xc,xb,xm,xd,g,h1,h3,h4⟩:=h
   exact ⟨op,nm,xa,xn,xc,xb,xm,xd,g,h1,hk _ _ h3 rfl,h4⟩) ?assign ?body ?done
 case assign =>
  intro r pre x W K hsz hi hp hK
  have hx : l[pre.length]? = some x:=by obtain ⟨t,ht⟩:=hp;rw [← ht];simp
  obtain ⟨g,hg,xa,xn,xc,xb,xm,xd,rfl,-⟩:=HF.out.get hx
  clear hg hx
  gi_wp2
  have bb : Below W.heap.size W (W.alloc (.cells #[.int .u8 g.op,str g.name,.slice xa xn xc,.slice xb xm xd] 40)):=(Below.refl _ _).alloc (Nat.le_refl _) _
  refine hK _ _ (dA.of_below bb) ?_ ⟨g.op,g.name,xa,xn,xc,xb,xm,xd,W.heap.size,rfl,heap_alloc_new W _,rfl⟩
  exact ⟨hi.set.below bb,hi.keep.turns (m:=0) (dA.of_below bb),hi.below.trans (bb.mono hi.below.size)⟩
 case body =>
  rintro r pre x W ac hsz hi ⟨op,nm,xa,xn,xc,xb,xm,xd,g,rfl,hg,rfl⟩ hp
  obtain ⟨⟨z0,z1,z2,z3⟩,-⟩:=aJ hg
  have hx : l[pre.length]? = some (.agg #[.int .u8 op,str nm,.slice xa xn xc,.slice xb xm xd]):=by obtain ⟨t,ht⟩:=hp;rw [← ht];simp
  obtain ⟨G,hG,ya,yn,yc,yb,ym,yd,he,ht,-⟩:=HF.out.get hx
  simp only [Value.agg.injEq,Array.mk.injEq,List.cons.injEq,Value.slice.injEq,and_true] at he
  obtain ⟨-,-,⟨rfl,rfl,rfl⟩,rfl,rfl,rfl⟩:=he
  have PS:=preF_succ hG
  have hle : (preF f pre.length).length + (bQ G.args).length < maxLen:=by
   have h1:=preF_len f (pre.length + 1)
   rw [PS,List.length_append] at h1
   have:=HLN.out
   unfold maxLen;omega
  have CC : Hid (Calls Tryz.prog 163 #[.slice xa xn xc,.func (.func 164) #[] #[one (w.heap.size + 1 + 1)]] W fun e w'=>e = .returned (.bool true) ∧ FunI (w.heap.size + 1) (preF f (pre.length + 1)) w' ∧ dA (w.heap.size + 1) W w'):=by
   rw [PS]
   exact fvt_all (w.heap.size + 1) G.args W _ _ (ht.keep hi.keep.cells) (HTO.out G (List.mem_of_getElem? hG)) hi.set hle
  have HI:=Lib.hid hi
  clear hi hg hp hx hG ht PS hle
  gi_wp2_with (refine ⟨trivial, ?_⟩;gi_at_call 163;refine callsIn_wide.2 (CC.out.mono ?_);rintro e w3 ⟨rfl,i3,t3⟩;have I3:=Lib.hid i3;have T3:=Lib.hid t3;clear i3 t3 CC z0 z1 z2 z3)
  refine ⟨T3.out, ?_,HI.out.keep.turns T3.out,HI.out.below.trans ⟨T3.out.os,T3.out.tape,T3.out.output,T3.out.size,fun i hi=>?_⟩⟩
  ·rw [List.length_append];exact I3.out
  ·have hlt : i < W.heap.size:=by have:=HI.out.below.size;omega
   obtain ⟨o,ho⟩ : ∃ o,W.heap[i]? = some o:=⟨_,Array.getElem?_eq_getElem hlt⟩
   rw [ho];exact T3.out.block i o ho (.inl (by omega))
 case done =>
  intro D W hD hi hK
  obtain ⟨y0,-⟩:=row1 hi.set.cell
  have hi2:=hi.set.set
  have e : preF f l.length = f.funs:=preF_all (by rw [HF.out.len];exact Nat.le_refl _)
  rw [e] at hi2
  have SC : Hid (Calls Tryz.prog 162 #[.map (some (w.heap.size + 1))] W fun e w'=>∃ L v,e = .returned v ∧ (∀ s,s ∈ L ↔ s ∈ f.funs) ∧ eM w' L v ∧ Below W.heap.size W w' ∧ L.length ≤ 100000):=HS.out W _ _ f.funs hi2 HLN.out (HOK.out)
  have HK:=Lib.hid hK
  have HI:=Lib.hid hi.below
  clear hi hi2 hK e
  gi_wp2_with (refine ⟨trivial, ?_⟩;gi_at_call 162;refine callsIn_wide.2 (SC.out.mono ?_);rintro e w5 ⟨L,v,rfl,hL,hv,b5,hll⟩;have H5:=Lib.hid (And.intro hL (And.intro hv b5));have HLL:=Lib.hid hll;clear hL hv b5 hll SC)
  have hK5 : w5.heap[D]? = some (.deferred (some [])):=(H5.out.2.2.block D (Array.getElem?_eq_some_iff.1 HK.out).1).trans HK.out
  refine ⟨by simp,.inl ⟨_,_,rfl,run_takeDeferred hK5, ?_⟩⟩
  refine ⟨_,results_tmp rfl _ _ _,L,v,rfl,H5.out.1,At.keep (bP.cells (m:=0) (bP.put _ hK5 rfl)) _ _ H5.out.2.1, ?_,HLL.out⟩
  exact (HI.out.trans (H5.out.2.2.mono HI.out.size)).trans (gM _ (by have:=S1.out;omega))
end Go.Proofs.YtppfalbnhnpbnaaGreatDoor
