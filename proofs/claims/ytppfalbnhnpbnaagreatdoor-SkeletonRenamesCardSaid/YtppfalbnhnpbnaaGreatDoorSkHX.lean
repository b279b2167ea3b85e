/- renaming.form at a formula, where a variable gets another name. Conditions: those of each statement. -/
import Derived.Test.YtppfalbnhnpbnaaGreatDoorCtBX
import Derived.Test.YtppfalbnhnpbnaaGreatDoorRgAX
import Derived.Test.YtppfalbnhnpbnaaGreatDoorEaEX
set_option linter.unusedSimpArgs false
set_option linter.unusedVariables false
namespace Go.Proofs.YtppfalbnhnpbnaaGreatDoor
open Go Go.RowKit Ly
set_option maxRecDepth 10000
set_option maxHeartbeats 8000000 in
theorem rfU_step (sn tn : Bs) (op : Int) (nm : Bs) (ts : List Tm) (fs : List Fm) (ih : ∀ t ∈ fs,RF ⟨117,sn,0⟩ tn t) : RF ⟨117,sn,0⟩ tn (.mk op nm ts fs):=by
 intro W x hx0 hn
 obtain ⟨a,N,c,a2,N2,c2,rfl,hx,hy⟩ : ∃ a N c a2 N2 c2,x = .agg #[.int .u8 op,str nm,.slice a N c,.slice a2 N2 c2] ∧ bE W ts (.slice a N c) ∧ aL W fs (.slice a2 N2 c2):=hx0
 have hlen:=hx.len
 have nd : (Fm.mk op nm ts fs).nodes = 1 + aM ts + aG fs:=by simp [Fm.nodes]
 rw [nd] at hn
 have N0 : N ≤ 1000:=by rw [hlen.1];have:=dQ ts;omega
 obtain ⟨LS,hLS⟩ : ∃ LS,cQ ⟨117,sn,0⟩ tn ts = LS:=⟨_,rfl⟩
 obtain ⟨GS,hGS⟩ : ∃ GS,bN ⟨117,sn,0⟩ tn fs = GS:=⟨_,rfl⟩
 have EC : Hid (∀ X nm' sl' sm',MidF W #[str [117],str sn,.int .i64 0,str tn] op nm' sl' sm' X → Calls Tryz.prog 114 #[.slice a N c,.func (.func 115) #[.agg #[str [117],str sn,.int .i64 0,str tn]] #[]] X fun e w'=>∃ fa fc,e = .returned (.slice fa LS.length fc) ∧ bE (hide (lo X) w') LS (.slice fa LS.length fc) ∧ Below X.heap.size X w'):=fun X nm' sl' sm' hM=>by
  rw [← hLS]
  refine (mK ⟨117,sn,0⟩ tn ts (fun t _=>vG _ _ t) X a N c (hx.keep (aA hM.bt)) (by omega)).mono ?_
  rintro e w' ⟨v3,rfl,h3,b3⟩
  obtain ⟨fa,fc,rfl,-,-,-,-⟩:=At.sl_inv h3
  exact ⟨fa,fc,rfl,h3,b3⟩
 have FC : Hid (∀ X nm' sl' sm',MidF W #[str [117],str sn,.int .i64 0,str tn] op nm' sl' sm' X → Calls Tryz.prog 69 #[.slice a2 N2 c2,.func (.func 61) #[.agg #[str [117],str sn,.int .i64 0,str tn]] #[]] X fun e w'=>∃ fa fc,e = .returned (.slice fa GS.length fc) ∧ aL (hide (lo X) w') GS (.slice fa GS.length fc) ∧ Below X.heap.size X w'):=fun X nm' sl' sm' hM=>by
  rw [← hGS]
  refine (oT ⟨117,sn,0⟩ tn fs ih X a2 N2 c2 (hy.keep (aA hM.bt)) (by omega)).mono ?_
  rintro e w' ⟨v3,rfl,h3,b3⟩
  obtain ⟨fa,fc,rfl,-,-,-,-⟩:=At.sl_inv h3
  exact ⟨fa,fc,rfl,h3,b3⟩
 have L2:=Lib.hid hlen.1
 have HLS:=Lib.hid hLS
 have HGS:=Lib.hid hGS
 have M0:=Lib.hid (sE W #[str [117],str sn,.int .i64 0,str tn] op nm (.slice a N c) (.slice a2 N2 c2))
 obtain ⟨W0,hW0⟩ : ∃ W0,(((W.alloc (.cells #[str [117],str sn,.int .i64 0,str tn] 107)).alloc (.cells #[.int .u8 op,str nm,.slice a N c,.slice a2 N2 c2] 40)).alloc (.cells #[.int .u8 0,str [],.slice none 0 0,.slice none 0 0] 40)) = W0:=⟨_,rfl⟩
 rw [hW0] at M0
 have FV : Hid (∀ X,Below W.heap.size W X → bH X (Fm.mk op nm ts fs) (.agg #[.int .u8 op,str nm,.slice a N c,.slice a2 N2 c2])):=fun X hb=>⟨_,_,_,_,_,_,rfl,hx.keep (aA hb),hy.keep (aA hb)⟩
 have NN : Hid ((Fm.mk op nm ts fs).nodes ≤ 100000):=by show _ ≤ _;rw [nd];omega
 clear ih hx hy hlen hn nd hLS hGS
 rw [show renV ⟨117,sn,0⟩ tn = .agg #[str [117],str sn,.int .i64 0,str tn] from rfl]
 go_enter Tryz.func61,Tryz.ntmps61
 have KEY : Hid (∀ (nw : Bs) (w3 w5 : World) (fa ka : Option Addr) (fc kc : Nat) (X2 X4 : World),(Fm.mk op nm ts fs).ren ⟨117,sn,0⟩ tn = .mk op nw LS GS → MidF W #[str [117],str sn,.int .i64 0,str tn] op nw (.slice a N c) (.slice a2 N2 c2) X2 →
   (bE (hide (lo X2) w3) LS (.slice fa LS.length fc) ∧ Below X2.heap.size X2 w3) → X4 = w3.setCell ⟨W.heap.size + 1,2,none⟩ (.slice fa LS.length fc) → (aL (hide (lo X4) w5) GS (.slice ka GS.length kc) ∧ Below X4.heap.size X4 w5) →
   bH (hide (lo W) (((((w5.setCell ⟨W.heap.size + 1,3,none⟩ (.slice ka GS.length kc)).setCell ⟨W.heap.size + 1 + 1,0,none⟩ (.int .u8 op)).setCell ⟨W.heap.size + 1 + 1,1,none⟩ (str nw)).setCell ⟨W.heap.size + 1 + 1,2,none⟩ (.slice fa LS.length fc)).setCell ⟨W.heap.size + 1 + 1,3,none⟩ (.slice ka GS.length kc))) ((Fm.mk op nm ts fs).ren ⟨117,sn,0⟩ tn) (.agg #[.int .u8 op,str nw,.slice fa LS.length fc,.slice ka GS.length kc])):=by
  rintro nw w3 w5 fa ka fc kc X2 X4 te m2 ⟨h3,b3⟩ e4 ⟨h5,b5⟩
  have m4:=(m2.next b3).set 2 (.slice fa LS.length fc) nw (.slice fa LS.length fc) (.slice a2 N2 c2) rfl
  rw [← e4] at m4
  have lw:=(Array.getElem?_eq_some_iff.1 m2.r2).1
  have lw4:=(Array.getElem?_eq_some_iff.1 m4.r2).1
  have l34 : w3.heap.size = X4.heap.size:=by rw [e4];simp
  have b2:=b3.size
  have key : ∀ k,k ≠ W.heap.size + 1 + 1 → ((((((w5.setCell ⟨W.heap.size + 1,3,none⟩ (.slice ka GS.length kc)).setCell ⟨W.heap.size + 1 + 1,0,none⟩ (.int .u8 op)).setCell ⟨W.heap.size + 1 + 1,1,none⟩ (str nw)).setCell ⟨W.heap.size + 1 + 1,2,none⟩ (.slice fa LS.length fc)).setCell ⟨W.heap.size + 1 + 1,3,none⟩ (.slice ka GS.length kc)).heap[k]?) = (w5.setCell ⟨W.heap.size + 1,3,none⟩ (.slice ka GS.length kc)).heap[k]?:=fun k hk=>by rw [Below.heap_setCell _ _ _ _ hk,Below.heap_setCell _ _ _ _ hk,Below.heap_setCell _ _ _ _ hk,Below.heap_setCell _ _ _ _ hk]
  have key2 : ∀ k,W.heap.size + 1 + 1 < k → (w5.setCell ⟨W.heap.size + 1,3,none⟩ (.slice ka GS.length kc)).heap[k]? = w5.heap[k]?:=fun k hk=>Below.heap_setCell _ _ _ _ (by show k ≠ W.heap.size + 1;omega)
  rw [te]
  refine ⟨_,_,_,_,_,_,rfl, ?_, ?_⟩
  ·refine h3.keep (aF fun k h1 h2=>?_)
   simp only [lo,decide_eq_false_iff_not,Nat.not_lt] at h2 ⊢
   refine ⟨by omega, ?_⟩
   rw [key k (by omega),key2 k (by omega),b5.block k (by omega),e4]
   exact Below.heap_setCell _ _ _ _ (by show k ≠ W.heap.size + 1;omega)
  ·refine h5.keep (aF fun k h1 h2=>?_)
   simp only [lo,decide_eq_false_iff_not,Nat.not_lt] at h2 ⊢
   exact ⟨by omega,by rw [key k (by omega),key2 k (by omega)]⟩
 have M2:=M0
 by_cases hop : op = 1
 ·subst hop
  have TE : Hid ((Fm.mk 1 nm ts fs).ren ⟨117,sn,0⟩ tn = .mk 1 nm LS GS):=by show _ = _;simp [Fm.ren,HLS.out,HGS.out,bV]
  obtain ⟨⟨y0,y1,y2,y3⟩,z0,z1,z2,z3⟩:=aJ M0.out.r1
  obtain ⟨v0,v1,v2,v3⟩:=dE M0.out.r0
  go_wp2_with (first
   | (
     go_at_call 114
     refine (EC.out _ _ _ _ M2.out).mono ?_
     rintro e w3 ⟨fa,fc,rfl,h3,b3⟩
     have M3:=Lib.hid (M2.out.next b3)
     have H3:=Lib.hid (And.intro h3 b3)
     clear h3 b3 y0 y1 y2 y3 z0 z1 z2 z3 v0 v1 v2 v3 EC
     obtain ⟨⟨y0,y1,y2,y3⟩,z0,z1,z2,z3⟩:=aJ M3.out.r1
     have M4:=Lib.hid (M3.out.set 2 (.slice fa LS.length fc) _ _ _ rfl)
     obtain ⟨⟨q0,q1,q2,q3⟩,-,-,-,-⟩:=aJ M4.out.r1
     obtain ⟨v0,v1,v2,v3⟩:=dE M4.out.r0)
   | (
     go_at_call 69
     refine (FC.out _ _ _ _ M4.out).mono ?_
     rintro e w5 ⟨ka,kc,rfl,h5,b5⟩
     have M5:=Lib.hid (M4.out.next b5)
     have H5:=Lib.hid (And.intro h5 b5)
     clear h5 b5 y0 y1 y2 y3 z0 z1 z2 z3 q0 q1 q2 q3 v0 v1 v2 v3 FC
     obtain ⟨⟨y0,y1,y2,y3⟩,z0,z1,z2,z3⟩:=aJ M5.out.r1
     have M6:=Lib.hid (M5.out.set 3 (.slice ka GS.length kc) _ _ _ rfl)
     obtain ⟨⟨q0,q1,q2,q3⟩,-,-,-,-⟩:=aJ M6.out.r1
     obtain ⟨⟨s0,s1,s2,s3⟩,x0,x1,x2,x3⟩:=aJ M6.out.r2))
  have g:=aC (o:=3) (u:=.slice ka GS.length kc) (aC (o:=2) (u:=.slice fa LS.length fc) (aC (o:=1) (u:=str nm) (aC (o:=0) (u:=.int .u8 1) M6.out.r2)))
  refine bodyPost_ret (fB rfl _ _ (W.heap.size + 1 + 1) _ _ _ _ (0,0) rfl g) rfl ?_
  exact ⟨.agg #[.int .u8 1,str nm,.slice fa LS.length fc,.slice ka GS.length kc],rfl,KEY.out _ _ _ _ _ _ _ _ _ TE.out M2.out H3.out rfl H5.out,(((M6.out.bt.setCell (by simp;omega) _).setCell (by simp;omega) _).setCell (by simp;omega) _).setCell (by simp;omega) _⟩
 have t1 : (op == 1) = false:=by simpa using hop
 by_cases h8 : op = 8
 ·subst h8
  by_cases hsn : sn = nm
  ·skip
   subst hsn
   have CP : Hid (Calls Tryz.prog 113 #[.agg #[.int .u8 8,str sn,.slice a N c,.slice a2 N2 c2]] W0 fun e w'=>∃ fa fn fc ga gn gc,e = .returned (.agg #[.int .u8 8,str sn,.slice fa fn fc,.slice ga gn gc]) ∧ (bE (hide (lo W0) w') ts (.slice fa fn fc) ∧ aL (hide (lo W0) w') fs (.slice ga gn gc)) ∧ Below W0.heap.size W0 w'):=(xB _ W0 _ (FV.out _ M0.out.bt) NN.out).mono fun e w' ⟨v,h1,⟨fa,fn,fc,ga,gn,gc,h2,h3⟩,h4⟩=>⟨fa,fn,fc,ga,gn,gc,by rw [h1,h2];rfl,h3,h4⟩
   obtain ⟨⟨y0,y1,y2,y3⟩,z0,z1,z2,z3⟩:=aJ M0.out.r1
   obtain ⟨v0,v1,v2,v3⟩:=dE M0.out.r0
   go_wp2_with (go_at_call 113;refine CP.out.mono ?_;rintro e w3 ⟨fa,fn,fc,ga,gn,gc,rfl,h3,b3⟩;have M3:=Lib.hid (M0.out.next b3);have H3:=Lib.hid (And.intro h3 b3);clear h3 b3 y0 y1 y2 y3 z0 z1 z2 z3 v0 v1 v2 v3 EC FC CP;obtain ⟨⟨s0,s1,s2,s3⟩,x0,x1,x2,x3⟩:=aJ M3.out.r2)
   obtain ⟨g1,g2,g3⟩:=rG (x':=.int .u8 8) (y':=str sn) (z':=.slice fa fn fc) (t':=.slice ga gn gc) (b:=W.heap.size + 1 + 1) (by omega) M3.out.bt M3.out.r2
   refine bodyPost_ret (fB rfl _ _ (W.heap.size + 1 + 1) _ _ _ _ (0,0) rfl g1) rfl ?_
   refine ⟨_,rfl, ?_,g2⟩
   rw [show (Fm.mk 8 sn ts fs).ren ⟨117,sn,0⟩ tn = Fm.mk 8 sn ts fs by simp [Fm.ren,bV]]
   have hs:=(Array.getElem?_eq_some_iff.1 M0.out.r2).1
   refine ⟨_,_,_,_,_,_,rfl,H3.out.1.1.keep (aF fun k h1 h2=>?_),H3.out.1.2.keep (aF fun k h1 h2=>?_)⟩
   all_goals
    simp only [lo,decide_eq_false_iff_not,Nat.not_lt] at h2 ⊢
    exact ⟨by omega,g3 k (by omega)⟩
  ·have TE : Hid ((Fm.mk 8 nm ts fs).ren ⟨117,sn,0⟩ tn = .mk 8 nm LS GS):=by show _ = _;simp [Fm.ren,HLS.out,HGS.out,bV,hsn]
   obtain ⟨⟨y0,y1,y2,y3⟩,z0,z1,z2,z3⟩:=aJ M0.out.r1
   obtain ⟨v0,v1,v2,v3⟩:=dE M0.out.r0
   go_wp2_with (first
    | (
      go_at_call 114
      refine (EC.out _ _ _ _ M2.out).mono ?_
      rintro e w3 ⟨fa,fc,rfl,h3,b3⟩
      have M3:=Lib.hid (M2.out.next b3)
      have H3:=Lib.hid (And.intro h3 b3)
      clear h3 b3 y0 y1 y2 y3 z0 z1 z2 z3 v0 v1 v2 v3 EC
      obtain ⟨⟨y0,y1,y2,y3⟩,z0,z1,z2,z3⟩:=aJ M3.out.r1
      have M4:=Lib.hid (M3.out.set 2 (.slice fa LS.length fc) _ _ _ rfl)
      obtain ⟨⟨q0,q1,q2,q3⟩,-,-,-,-⟩:=aJ M4.out.r1
      obtain ⟨v0,v1,v2,v3⟩:=dE M4.out.r0)
    | (
      go_at_call 69
      refine (FC.out _ _ _ _ M4.out).mono ?_
      rintro e w5 ⟨ka,kc,rfl,h5,b5⟩
      have M5:=Lib.hid (M4.out.next b5)
      have H5:=Lib.hid (And.intro h5 b5)
      clear h5 b5 y0 y1 y2 y3 z0 z1 z2 z3 q0 q1 q2 q3 v0 v1 v2 v3 FC
      obtain ⟨⟨y0,y1,y2,y3⟩,z0,z1,z2,z3⟩:=aJ M5.out.r1
      have M6:=Lib.hid (M5.out.set 3 (.slice ka GS.length kc) _ _ _ rfl)
      obtain ⟨⟨q0,q1,q2,q3⟩,-,-,-,-⟩:=aJ M6.out.r1
      obtain ⟨⟨s0,s1,s2,s3⟩,x0,x1,x2,x3⟩:=aJ M6.out.r2))
   have g:=aC (o:=3) (u:=.slice ka GS.length kc) (aC (o:=2) (u:=.slice fa LS.length fc) (aC (o:=1) (u:=str nm) (aC (o:=0) (u:=.int .u8 8) M6.out.r2)))
   refine bodyPost_ret (fB rfl _ _ (W.heap.size + 1 + 1) _ _ _ _ (0,0) rfl g) rfl ?_
   exact ⟨.agg #[.int .u8 8,str nm,.slice fa LS.length fc,.slice ka GS.length kc],rfl,KEY.out _ _ _ _ _ _ _ _ _ TE.out M2.out H3.out rfl H5.out,(((M6.out.bt.setCell (by simp;omega) _).setCell (by simp;omega) _).setCell (by simp;omega) _).setCell (by simp;omega) _⟩
 have t8 : (op == 8) = false:=by simpa using h8
 by_cases h9 : op = 9
 ·subst h9
  by_cases hsn : sn = nm
  ·skip
   subst hsn
   have CP : Hid (Calls Tryz.prog 113 #[.agg #[.int .u8 9,str sn,.slice a N c,.slice a2 N2 c2]] W0 fun e w'=>∃ fa fn fc ga gn gc,e = .returned (.agg #[.int .u8 9,str sn,.slice fa fn fc,.slice ga gn gc]) ∧ (bE (hide (lo W0) w') ts (.slice fa fn fc) ∧ aL (hide (lo W0) w') fs (.slice ga gn gc)) ∧ Below W0.heap.size W0 w'):=(xB _ W0 _ (FV.out _ M0.out.bt) NN.out).mono fun e w' ⟨v,h1,⟨fa,fn,fc,ga,gn,gc,h2,h3⟩,h4⟩=>⟨fa,fn,fc,ga,gn,gc,by rw [h1,h2];rfl,h3,h4⟩
   obtain ⟨⟨y0,y1,y2,y3⟩,z0,z1,z2,z3⟩:=aJ M0.out.r1
   obtain ⟨v0,v1,v2,v3⟩:=dE M0.out.r0
   go_wp2_with (go_at_call 113;refine CP.out.mono ?_;rintro e w3 ⟨fa,fn,fc,ga,gn,gc,rfl,h3,b3⟩;have M3:=Lib.hid (M0.out.next b3);have H3:=Lib.hid (And.intro h3 b3);clear h3 b3 y0 y1 y2 y3 z0 z1 z2 z3 v0 v1 v2 v3 EC FC CP;obtain ⟨⟨s0,s1,s2,s3⟩,x0,x1,x2,x3⟩:=aJ M3.out.r2)
   obtain ⟨g1,g2,g3⟩:=rG (x':=.int .u8 9) (y':=str sn) (z':=.slice fa fn fc) (t':=.slice ga gn gc) (b:=W.heap.size + 1 + 1) (by omega) M3.out.bt M3.out.r2
   refine bodyPost_ret (fB rfl _ _ (W.heap.size + 1 + 1) _ _ _ _ (0,0) rfl g1) rfl ?_
   refine ⟨_,rfl, ?_,g2⟩
   rw [show (Fm.mk 9 sn ts fs).ren ⟨117,sn,0⟩ tn = Fm.mk 9 sn ts fs by simp [Fm.ren,bV]]
   have hs:=(Array.getElem?_eq_some_iff.1 M0.out.r2).1
   refine ⟨_,_,_,_,_,_,rfl,H3.out.1.1.keep (aF fun k h1 h2=>?_),H3.out.1.2.keep (aF fun k h1 h2=>?_)⟩
   all_goals
    simp only [lo,decide_eq_false_iff_not,Nat.not_lt] at h2 ⊢
    exact ⟨by omega,g3 k (by omega)⟩
  ·have TE : Hid ((Fm.mk 9 nm ts fs).ren ⟨117,sn,0⟩ tn = .mk 9 nm LS GS):=by show _ = _;simp [Fm.ren,HLS.out,HGS.out,bV,hsn]
   obtain ⟨⟨y0,y1,y2,y3⟩,z0,z1,z2,z3⟩:=aJ M0.out.r1
   obtain ⟨v0,v1,v2,v3⟩:=dE M0.out.r0
   go_wp2_with (first
    | (
      go_at_call 114
      refine (EC.out _ _ _ _ M2.out).mono ?_
      rintro e w3 ⟨fa,fc,rfl,h3,b3⟩
      have M3:=Lib.hid (M2.out.next b3)
      have H3:=Lib.hid (And.intro h3 b3)
      clear h3 b3 y0 y1 y2 y3 z0 z1 z2 z3 v0 v1 v2 v3 EC
      obtain ⟨⟨y0,y1,y2,y3⟩,z0,z1,z2,z3⟩:=aJ M3.out.r1
      have M4:=Lib.hid (M3.out.set 2 (.slice fa LS.length fc) _ _ _ rfl)
      obtain ⟨⟨q0,q1,q2,q3⟩,-,-,-,-⟩:=aJ M4.out.r1
      obtain ⟨v0,v1,v2,v3⟩:=dE M4.out.r0)
    | (
      go_at_call 69
      refine (FC.out _ _ _ _ M4.out).mono ?_
      rintro e w5 ⟨ka,kc,rfl,h5,b5⟩
      have M5:=Lib.hid (M4.out.next b5)
      have H5:=Lib.hid (And.intro h5 b5)
      clear h5 b5 y0 y1 y2 y3 z0 z1 z2 z3 q0 q1 q2 q3 v0 v1 v2 v3 FC
      obtain ⟨⟨y0,y1,y2,y3⟩,z0,z1,z2,z3⟩:=aJ M5.out.r1
      have M6:=Lib.hid (M5.out.set 3 (.slice ka GS.length kc) _ _ _ rfl)
      obtain ⟨⟨q0,q1,q2,q3⟩,-,-,-,-⟩:=aJ M6.out.r1
      obtain ⟨⟨s0,s1,s2,s3⟩,x0,x1,x2,x3⟩:=aJ M6.out.r2))
   have g:=aC (o:=3) (u:=.slice ka GS.length kc) (aC (o:=2) (u:=.slice fa LS.length fc) (aC (o:=1) (u:=str nm) (aC (o:=0) (u:=.int .u8 9) M6.out.r2)))
   refine bodyPost_ret (fB rfl _ _ (W.heap.size + 1 + 1) _ _ _ _ (0,0) rfl g) rfl ?_
   exact ⟨.agg #[.int .u8 9,str nm,.slice fa LS.length fc,.slice ka GS.length kc],rfl,KEY.out _ _ _ _ _ _ _ _ _ TE.out M2.out H3.out rfl H5.out,(((M6.out.bt.setCell (by simp;omega) _).setCell (by simp;omega) _).setCell (by simp;omega) _).setCell (by simp;omega) _⟩
 have t9 : (op == 9) = false:=by simpa using h9
 have TE : Hid ((Fm.mk op nm ts fs).ren ⟨117,sn,0⟩ tn = .mk op nm LS GS):=by show _ = _;simp [Fm.ren,HLS.out,HGS.out,bV,hop,h8,h9]
 obtain ⟨⟨y0,y1,y2,y3⟩,z0,z1,z2,z3⟩:=aJ M0.out.r1
 obtain ⟨v0,v1,v2,v3⟩:=dE M0.out.r0
 go_wp2_with (first
  | (
    go_at_call 114
    refine (EC.out _ _ _ _ M2.out).mono ?_
    rintro e w3 ⟨fa,fc,rfl,h3,b3⟩
    have M3:=Lib.hid (M2.out.next b3)
    have H3:=Lib.hid (And.intro h3 b3)
    clear h3 b3 y0 y1 y2 y3 z0 z1 z2 z3 v0 v1 v2 v3 EC
    obtain ⟨⟨y0,y1,y2,y3⟩,z0,z1,z2,z3⟩:=aJ M3.out.r1
    have M4:=Lib.hid (M3.out.set 2 (.slice fa LS.length fc) _ _ _ rfl)
    obtain ⟨⟨q0,q1,q2,q3⟩,-,-,-,-⟩:=aJ M4.out.r1
    obtain ⟨v0,v1,v2,v3⟩:=dE M4.out.r0)
  | (
    go_at_call 69
    refine (FC.out _ _ _ _ M4.out).mono ?_
    rintro e w5 ⟨ka,kc,rfl,h5,b5⟩
    have M5:=Lib.hid (M4.out.next b5)
    have H5:=Lib.hid (And.intro h5 b5)
    clear h5 b5 y0 y1 y2 y3 z0 z1 z2 z3 q0 q1 q2 q3 v0 v1 v2 v3 FC
    obtain ⟨⟨y0,y1,y2,y3⟩,z0,z1,z2,z3⟩:=aJ M5.out.r1
    have M6:=Lib.hid (M5.out.set 3 (.slice ka GS.length kc) _ _ _ rfl)
    obtain ⟨⟨q0,q1,q2,q3⟩,-,-,-,-⟩:=aJ M6.out.r1
    obtain ⟨⟨s0,s1,s2,s3⟩,x0,x1,x2,x3⟩:=aJ M6.out.r2))
 have g:=aC (o:=3) (u:=.slice ka GS.length kc) (aC (o:=2) (u:=.slice fa LS.length fc) (aC (o:=1) (u:=str nm) (aC (o:=0) (u:=.int .u8 op) M6.out.r2)))
 refine bodyPost_ret (fB rfl _ _ (W.heap.size + 1 + 1) _ _ _ _ (0,0) rfl g) rfl ?_
 exact ⟨.agg #[.int .u8 op,str nm,.slice fa LS.length fc,.slice ka GS.length kc],rfl,KEY.out _ _ _ _ _ _ _ _ _ TE.out M2.out H3.out rfl H5.out,(((M6.out.bt.setCell (by simp;omega) _).setCell (by simp;omega) _).setCell (by simp;omega) _).setCell (by simp;omega) _⟩
mutual
theorem yP (sn tn : Bs) : ∀ t : Fm,RF ⟨117,sn,0⟩ tn t
 | .mk op nm ts fs=>rfU_step sn tn op nm ts fs (wO sn tn fs)
theorem wO (sn tn : Bs) : ∀ ts : List Fm,∀ t ∈ ts,RF ⟨117,sn,0⟩ tn t
 | [],_,h=>by cases h
 | x :: xs,t,h=>by
  rcases List.mem_cons.1 h with e | e
  ·rw [e];exact yP sn tn x
  ·exact wO sn tn xs t e
end
end Go.Proofs.YtppfalbnhnpbnaaGreatDoor
namespace Go.Proofs.YtppfalbnhnpbnaaGreatDoor
open Go Go.RowKit Ly
set_option maxRecDepth 10000
theorem rfU_any (a b : Bs) (k : Nat) (hk : k = 0) (t : Fm) : RF ⟨117,a,k⟩ b t:=by subst hk;exact yP a b t
set_option maxHeartbeats 8000000 in
theorem renamedU_c (L R : List Fm) (x : Value) (W : World) (hr : cZ W) (hx0 : bT W L R x) (h1 : okSq L R) (a b : Bs) (k : Nat) (hk : k = 0) (la : a.length ≤ maxLen) (lb : b.length ≤ maxLen) (ha : kM a = [117]) (hb : kM b = [117]) (hne : b ≠ a) :
  Calls Tryz.prog 29 #[x,.agg #[str a,.int .i64 k],.agg #[str b,.int .i64 k]] W (RetR (renG 117 L R a b k).1 (renG 117 L R a b k).2.1 (renG 117 L R a b k).2.2 W):=by
 obtain ⟨xa,xn,xc,xb,xm,xd,rfl,hx,hy⟩:=hx0
 have KV : ∀ X,Below W.heap.size W X → bT X L R (.agg #[.slice xa xn xc,.slice xb xm xd]):=fun X hX=>⟨_,_,_,_,_,_,rfl,hx.keep (aA hX),hy.keep (aA hX)⟩
 have SA : Hid (∀ X,Calls Tryz.prog 58 #[str a] X fun e w'=>e = .returned (str [117]) ∧ Below X.heap.size X w'):=fun X=>by have:=pG a la X;rwa [ha] at this
 have SB : Hid (∀ X,Calls Tryz.prog 58 #[str b] X fun e w'=>e = .returned (str [117]) ∧ Below X.heap.size X w'):=fun X=>by have:=pG b lb X;rwa [hb] at this
 have RC : Hid (∀ X,Below W.heap.size W X → Calls Tryz.prog 35 #[.agg #[.slice xa xn xc,.slice xb xm xd]] X fun e w'=>e = .returned (.bool true) ∧ Below X.heap.size X w'):=fun X hX=>qP L R _ X (hr.keep (aA hX)) (KV X hX) h1.1 h1.2.1 h1.2.2.1 h1.2.2.2
 have HC : Hid (∀ X n,Below W.heap.size W X → Calls Tryz.prog 59 #[.agg #[.slice xa xn xc,.slice xb xm xd],.agg #[str [117],str n,.int .i64 k]] X fun e w'=>e = .returned (.bool (hasG 117 L R n k)) ∧ Below X.heap.size X w'):=fun X n hX=>AM sN ⟨117,n,k⟩ (.inr (.inr rfl)) L R _ X (KV X hX) h1
 have CC : Hid (∀ X,Below W.heap.size W X → Calls Tryz.prog 36 #[.agg #[.slice xa xn xc,.slice xb xm xd],.func (.func 61) #[.agg #[str [117],str a,.int .i64 k,str b]] #[]] X fun e w'=>∃ v,e = .returned v ∧ bT (hide (lo X) w') (bN ⟨117,a,k⟩ b L) (bN ⟨117,a,k⟩ b R) v ∧ Below X.heap.size X w'):=fun X hX=>by
  have rA : ∀ f ∈ L ++ R,f.right = true:=fun f hf=>by rcases List.mem_append.1 hf with h | h;exact h1.1 f h;exact h1.2.1 f h
  refine (mV (fun _=>False) (renV ⟨117,a,k⟩ b) (fun (_ : Unit) _=>True) (fun _ f=>(Fm.ren ⟨117,a,k⟩ b f,())) X L R () _ (KV X hX) (by have:=h1.2.2.1;omega) (by have:=h1.2.2.2;omega) trivial (fun _ _ _ _ _=>trivial) (fun _ _ _ k hk=>absurd hk (fun e=>e)) (fun k hk=>absurd hk (fun e=>e)) (fun j t ht Y y _ hY hv=>?_)).mono ?_
  ·have fr:=rA t (List.mem_of_getElem? ht)
   simp only [Fm.right,Bool.and_eq_true,decide_eq_true_eq] at fr
   refine (rfU_any a b k hk t Y y hv (by omega)).mono ?_
   rintro e w' ⟨v,rfl,h1,h2⟩
   exact ⟨v,rfl,h1,trivial,.of_below h2⟩
  ·rintro e w' ⟨v,rfl,h1,-,h3⟩
   rw [eP,eP] at h1
   exact ⟨v,rfl,h1,h3.toBelow⟩
 have M0:=Lib.hid (rZ W (.slice xa xn xc) (.slice xb xm xd) a b k)
 obtain ⟨W0,hW0⟩ : ∃ W0,((((W.alloc (.cells #[.slice xa xn xc,.slice xb xm xd] 26)).alloc (.cells #[str a,.int .i64 k] 51)).alloc (.cells #[str b,.int .i64 k] 51)).alloc (.cells #[.slice none 0 0,.slice none 0 0] 26)) = W0:=⟨_,rfl⟩
 rw [hW0] at M0
 obtain ⟨⟨⟨p0,p1⟩,q0,q1⟩,⟨s0,s1⟩,z0,z1,z2,z3⟩:=M0.out.cells
 have BC : Hid (∀ X,Below W.heap.size W X → Calls Tryz.prog 60 #[.agg #[.slice xa xn xc,.slice xb xm xd],str b] X fun e w'=>e = .returned (.bool (bndG 117 L R b)) ∧ Below X.heap.size X w'):=fun X hX=>binds_c L R _ b X (KV X hX) h1
 unfold renG
 generalize hbd : bndG 117 L R b = bd at *
 have HBD:=Lib.hid hbd
 clear hbd
 generalize hp : hasG 117 L R b k = p at *
 generalize hq : hasG 117 L R a k = q at *
 have HP:=Lib.hid hp
 have HQ:=Lib.hid hq
 have hk1 : ((k : Int) == 0) = true:=by subst hk;rfl
 clear hk
 clear hp hq hx hy KV h1 ha hb la lb hr
 go_enter Tryz.func29,Tryz.ntmps29
 cases p
 ·cases bd
  ·cases q
   ·go_wp2_with (first
     | (go_at_call 58;refine (SA.out _).mono ?_;rintro e w1 ⟨rfl,b1⟩;have M1:=Lib.hid (M0.out.next b1);clear b1 SA p0 p1 q0 q1 s0 s1 z0 z1 z2 z3;obtain ⟨⟨⟨p0,p1⟩,q0,q1⟩,⟨s0,s1⟩,z0,z1,z2,z3⟩:=M1.out.cells)
     | (go_at_call 35;refine (RC.out _ M1.out.bt).mono ?_;rintro e w2 ⟨rfl,b1⟩;have M2:=Lib.hid (M1.out.next b1);clear b1 RC p0 p1 q0 q1 s0 s1 z0 z1 z2 z3;obtain ⟨⟨⟨p0,p1⟩,q0,q1⟩,⟨s0,s1⟩,z0,z1,z2,z3⟩:=M2.out.cells)
     | (go_at_call 58;refine (SB.out _).mono ?_;rintro e w3 ⟨rfl,b1⟩;have M3:=Lib.hid (M2.out.next b1);clear b1 SB p0 p1 q0 q1 s0 s1 z0 z1 z2 z3;obtain ⟨⟨⟨p0,p1⟩,q0,q1⟩,⟨s0,s1⟩,z0,z1,z2,z3⟩:=M3.out.cells)
     | (go_at_call 60;refine (BC.out _ M4.out.bt).mono ?_;rintro e w4b ⟨rfl,b1⟩;have M4b:=Lib.hid (M4.out.next b1);clear b1 BC p0 p1 q0 q1 s0 s1 z0 z1 z2 z3;obtain ⟨⟨⟨p0,p1⟩,q0,q1⟩,⟨s0,s1⟩,z0,z1,z2,z3⟩:=M4b.out.cells)
     | (have Z4:=M4b.out;clear Z4;go_at_call 59;refine (HC.out _ a M4b.out.bt).mono ?_;rw [HQ.out];rintro e w5 ⟨rfl,b1⟩;have M5:=Lib.hid (M4b.out.next b1);clear b1 p0 p1 q0 q1 s0 s1 z0 z1 z2 z3;obtain ⟨⟨⟨p0,p1⟩,q0,q1⟩,⟨s0,s1⟩,z0,z1,z2,z3⟩:=M5.out.cells)
     | (go_at_call 59;refine (HC.out _ b M3.out.bt).mono ?_;rw [HP.out];rintro e w4 ⟨rfl,b1⟩;have M4:=Lib.hid (M3.out.next b1);clear b1 p0 p1 q0 q1 s0 s1 z0 z1 z2 z3;obtain ⟨⟨⟨p0,p1⟩,q0,q1⟩,⟨s0,s1⟩,z0,z1,z2,z3⟩:=M4.out.cells))
    refine bodyPost_ret (mP _ _ (W.heap.size + 1 + 1 + 1) (.slice none 0 0) (.slice none 0 0) _ rfl rfl (aC (o:=1) (u:=.slice none 0 0) (aC (o:=0) (u:=.slice none 0 0) M5.out.r3))) rfl ?_
    exact ⟨none,0,0,none,0,0,rfl,At.sl_nil (by unfold maxLen;omega),At.sl_nil (by unfold maxLen;omega),(M5.out.bt.setCell (by simp;omega) _).setCell (by simp;omega) _⟩
   ·go_wp2_with (first
     | (go_at_call 58;refine (SA.out _).mono ?_;rintro e w1 ⟨rfl,b1⟩;have M1:=Lib.hid (M0.out.next b1);clear b1 SA p0 p1 q0 q1 s0 s1 z0 z1 z2 z3;obtain ⟨⟨⟨p0,p1⟩,q0,q1⟩,⟨s0,s1⟩,z0,z1,z2,z3⟩:=M1.out.cells)
     | (go_at_call 35;refine (RC.out _ M1.out.bt).mono ?_;rintro e w2 ⟨rfl,b1⟩;have M2:=Lib.hid (M1.out.next b1);clear b1 RC p0 p1 q0 q1 s0 s1 z0 z1 z2 z3;obtain ⟨⟨⟨p0,p1⟩,q0,q1⟩,⟨s0,s1⟩,z0,z1,z2,z3⟩:=M2.out.cells)
     | (go_at_call 58;refine (SB.out _).mono ?_;rintro e w3 ⟨rfl,b1⟩;have M3:=Lib.hid (M2.out.next b1);clear b1 SB p0 p1 q0 q1 s0 s1 z0 z1 z2 z3;obtain ⟨⟨⟨p0,p1⟩,q0,q1⟩,⟨s0,s1⟩,z0,z1,z2,z3⟩:=M3.out.cells)
     | (
       go_at_call 36
       refine (CC.out _ M5.out.bt).mono ?_
       rintro e w6 ⟨v6,rfl,⟨ga,gn,gc,gb,gm,gd,rfl,h3,h4⟩,b6⟩
       have M6:=Lib.hid (M5.out.next b6)
       have H6:=Lib.hid (And.intro h3 (And.intro h4 b6))
       clear h3 h4 b6 CC p0 p1 q0 q1 s0 s1 z0 z1 z2 z3
       obtain ⟨⟨⟨p0,p1⟩,q0,q1⟩,⟨s0,s1⟩,z0,z1,z2,z3⟩:=M6.out.cells)
     | (go_at_call 60;refine (BC.out _ M4.out.bt).mono ?_;rintro e w4b ⟨rfl,b1⟩;have M4b:=Lib.hid (M4.out.next b1);clear b1 BC p0 p1 q0 q1 s0 s1 z0 z1 z2 z3;obtain ⟨⟨⟨p0,p1⟩,q0,q1⟩,⟨s0,s1⟩,z0,z1,z2,z3⟩:=M4b.out.cells)
     | (have Z4:=M4b.out;clear Z4;go_at_call 59;refine (HC.out _ a M4b.out.bt).mono ?_;rw [HQ.out];rintro e w5 ⟨rfl,b1⟩;have M5:=Lib.hid (M4b.out.next b1);clear b1 p0 p1 q0 q1 s0 s1 z0 z1 z2 z3;obtain ⟨⟨⟨p0,p1⟩,q0,q1⟩,⟨s0,s1⟩,z0,z1,z2,z3⟩:=M5.out.cells)
     | (go_at_call 59;refine (HC.out _ b M3.out.bt).mono ?_;rw [HP.out];rintro e w4 ⟨rfl,b1⟩;have M4:=Lib.hid (M3.out.next b1);clear b1 p0 p1 q0 q1 s0 s1 z0 z1 z2 z3;obtain ⟨⟨⟨p0,p1⟩,q0,q1⟩,⟨s0,s1⟩,z0,z1,z2,z3⟩:=M4.out.cells))
    obtain ⟨h3,h4,b6⟩:=H6.out
    have l5:=(Array.getElem?_eq_some_iff.1 M5.out.r3).1
    have key : ∀ k,k ≠ W.heap.size + 1 + 1 + 1 → ((w6.setCell ⟨W.heap.size + 1 + 1 + 1,0,none⟩ (.slice ga gn gc)).setCell ⟨W.heap.size + 1 + 1 + 1,1,none⟩ (.slice gb gm gd)).heap[k]? = w6.heap[k]?:=fun k hk=>by rw [Below.heap_setCell _ _ _ _ hk,Below.heap_setCell _ _ _ _ hk]
    refine bodyPost_ret (mP _ _ (W.heap.size + 1 + 1 + 1) (.slice ga gn gc) (.slice gb gm gd) _ rfl rfl (aC (o:=1) (u:=.slice gb gm gd) (aC (o:=0) (u:=.slice ga gn gc) M6.out.r3))) rfl ?_
    refine ⟨ga,gn,gc,gb,gm,gd,rfl, ?_, ?_,(M6.out.bt.setCell (by simp;omega) _).setCell (by simp;omega) _⟩
    ·refine h3.keep (aF fun k h1 h2=>?_)
     simp only [lo,decide_eq_false_iff_not,Nat.not_lt] at h2 ⊢
     exact ⟨by omega,key k (by omega)⟩
    ·refine h4.keep (aF fun k h1 h2=>?_)
     simp only [lo,decide_eq_false_iff_not,Nat.not_lt] at h2 ⊢
     exact ⟨by omega,key k (by omega)⟩
  ·have hne2 : ¬ a = b:=fun e=>hne e.symm
   go_wp2_with (first
     | (go_at_call 58;refine (SA.out _).mono ?_;rintro e w1 ⟨rfl,b1⟩;have M1:=Lib.hid (M0.out.next b1);clear b1 SA p0 p1 q0 q1 s0 s1 z0 z1 z2 z3;obtain ⟨⟨⟨p0,p1⟩,q0,q1⟩,⟨s0,s1⟩,z0,z1,z2,z3⟩:=M1.out.cells)
     | (go_at_call 35;refine (RC.out _ M1.out.bt).mono ?_;rintro e w2 ⟨rfl,b1⟩;have M2:=Lib.hid (M1.out.next b1);clear b1 RC p0 p1 q0 q1 s0 s1 z0 z1 z2 z3;obtain ⟨⟨⟨p0,p1⟩,q0,q1⟩,⟨s0,s1⟩,z0,z1,z2,z3⟩:=M2.out.cells)
     | (go_at_call 58;refine (SB.out _).mono ?_;rintro e w3 ⟨rfl,b1⟩;have M3:=Lib.hid (M2.out.next b1);clear b1 SB p0 p1 q0 q1 s0 s1 z0 z1 z2 z3;obtain ⟨⟨⟨p0,p1⟩,q0,q1⟩,⟨s0,s1⟩,z0,z1,z2,z3⟩:=M3.out.cells)
     | (go_at_call 59;refine (HC.out _ b M3.out.bt).mono ?_;rw [HP.out];rintro e w4 ⟨rfl,b1⟩;have M4:=Lib.hid (M3.out.next b1);clear b1 p0 p1 q0 q1 s0 s1 z0 z1 z2 z3;obtain ⟨⟨⟨p0,p1⟩,q0,q1⟩,⟨s0,s1⟩,z0,z1,z2,z3⟩:=M4.out.cells)
     | (go_at_call 60;refine (BC.out _ M4.out.bt).mono ?_;rintro e w4b ⟨rfl,b1⟩;have M4b:=Lib.hid (M4.out.next b1);clear b1 BC p0 p1 q0 q1 s0 s1 z0 z1 z2 z3;obtain ⟨⟨⟨p0,p1⟩,q0,q1⟩,⟨s0,s1⟩,z0,z1,z2,z3⟩:=M4b.out.cells))
   refine bodyPost_ret (mP _ _ (W.heap.size + 1 + 1 + 1) (.slice none 0 0) (.slice none 0 0) _ rfl rfl (aC (o:=1) (u:=.slice none 0 0) (aC (o:=0) (u:=.slice none 0 0) M4b.out.r3))) rfl ?_
   exact ⟨none,0,0,none,0,0,rfl,At.sl_nil (by unfold maxLen;omega),At.sl_nil (by unfold maxLen;omega),(M4b.out.bt.setCell (by simp;omega) _).setCell (by simp;omega) _⟩
 ·have hne2 : ¬ a = b:=fun e=>hne e.symm
  go_wp2_with (first
    | (go_at_call 58;refine (SA.out _).mono ?_;rintro e w1 ⟨rfl,b1⟩;have M1:=Lib.hid (M0.out.next b1);clear b1 SA p0 p1 q0 q1 s0 s1 z0 z1 z2 z3;obtain ⟨⟨⟨p0,p1⟩,q0,q1⟩,⟨s0,s1⟩,z0,z1,z2,z3⟩:=M1.out.cells)
    | (go_at_call 35;refine (RC.out _ M1.out.bt).mono ?_;rintro e w2 ⟨rfl,b1⟩;have M2:=Lib.hid (M1.out.next b1);clear b1 RC p0 p1 q0 q1 s0 s1 z0 z1 z2 z3;obtain ⟨⟨⟨p0,p1⟩,q0,q1⟩,⟨s0,s1⟩,z0,z1,z2,z3⟩:=M2.out.cells)
    | (go_at_call 58;refine (SB.out _).mono ?_;rintro e w3 ⟨rfl,b1⟩;have M3:=Lib.hid (M2.out.next b1);clear b1 SB p0 p1 q0 q1 s0 s1 z0 z1 z2 z3;obtain ⟨⟨⟨p0,p1⟩,q0,q1⟩,⟨s0,s1⟩,z0,z1,z2,z3⟩:=M3.out.cells)
    | (go_at_call 59;refine (HC.out _ b M3.out.bt).mono ?_;rw [HP.out];rintro e w4 ⟨rfl,b1⟩;have M4:=Lib.hid (M3.out.next b1);clear b1 p0 p1 q0 q1 s0 s1 z0 z1 z2 z3;obtain ⟨⟨⟨p0,p1⟩,q0,q1⟩,⟨s0,s1⟩,z0,z1,z2,z3⟩:=M4.out.cells))
  refine bodyPost_ret (mP _ _ (W.heap.size + 1 + 1 + 1) (.slice none 0 0) (.slice none 0 0) _ rfl rfl (aC (o:=1) (u:=.slice none 0 0) (aC (o:=0) (u:=.slice none 0 0) M4.out.r3))) rfl ?_
  exact ⟨none,0,0,none,0,0,rfl,At.sl_nil (by unfold maxLen;omega),At.sl_nil (by unfold maxLen;omega),(M4.out.bt.setCell (by simp;omega) _).setCell (by simp;omega) _⟩
end Go.Proofs.YtppfalbnhnpbnaaGreatDoor
namespace Ly
open Go.Lib (itoa decDigits)
def fS (E : List (Bs × Bs)) (n n' : Bs) : Option (Bs × Bs):=E.find? (fun p=>p.1 == n || p.2 == n')
def varRel (r : Sy → Sy) (E : List (Bs × Bs)) (n n' : Bs) : Prop:=fS E n n' = some (n,n') ∨ (fS E n n' = none ∧ r ⟨117,n,0⟩ = ⟨117,n',0⟩)
mutual
def Tm.rel (r : Sy → Sy) (E : List (Bs × Bs)) : Tm → Tm → Prop
 | .mk v n ts,.mk v' n' ts'=>v = v' ∧ (if v then varRel r E n n' else r ⟨97,n,ts.length⟩ = ⟨97,n',ts'.length⟩) ∧ iO r E ts ts'
def iO (r : Sy → Sy) (E : List (Bs × Bs)) : List Tm → List Tm → Prop
 | [],[]=>True
 | t :: ts,u :: us=>t.rel r E u ∧ iO r E ts us
 | _,_=>False
end
mutual
def Fm.rel (r : Sy → Sy) : List (Bs × Bs) → Fm → Fm → Prop
 | E,.mk op n ts fs,.mk op' n' ts' fs'=>op = op' ∧ (if op = 1 then r ⟨80,n,ts.length⟩ = ⟨80,n',ts'.length⟩ else if bV op then True else n = n') ∧ iO r E ts ts' ∧ gH r (if bV op then (n,n') :: E else E) fs fs'
def gH (r : Sy → Sy) : List (Bs × Bs) → List Fm → List Fm → Prop
 | _,[],[]=>True
 | E,f :: fs,g :: gs=>f.rel r E g ∧ gH r E fs gs
 | _,_,_=>False
end
/- Old and new names of two formulas within quantifiers: old, new of the one; old, new of the other. -/
structure Q4 where
 n : Bs
 m : Bs
 n' : Bs
 m' : Bs
def qE (Q : List Q4) : List (Bs × Bs):=Q.map fun q=>(q.n,q.n')
def qF (Q : List Q4) : List (Bs × Bs):=Q.map fun q=>(q.n,q.m)
def qG (Q : List Q4) : List (Bs × Bs):=Q.map fun q=>(q.n',q.m')
def qN (Q : List Q4) : List (Bs × Bs):=Q.map fun q=>(q.m,q.m')
theorem tZ {E : List (Bs × Bs)} {n n' : Bs} {p : Bs × Bs} (h : fS E n n' = some p) : p ∈ E:=List.mem_of_find?_eq_some h
theorem vF : ∀ (Q : List Q4) (n n' : Bs),fS (qE Q) n n' = some (n,n') → ∃ q ∈ Q,q.n = n ∧ q.n' = n' ∧ arOf (qF Q) n = some q.m ∧ arOf (qG Q) n' = some q.m'
 | [],n,n',h=>by simp [qE,fS] at h
 | q :: Q,n,n',h=>by
  simp only [qE,fS,List.map_cons,List.find?_cons] at h
  by_cases hq : (q.n == n || q.n' == n') = true
  ·rw [hq] at h
   simp only [Option.some.injEq,Prod.mk.injEq] at h
   obtain ⟨rfl,rfl⟩:=h
   exact ⟨q,by simp,rfl,rfl,by simp [arOf,qF],by simp [arOf,qG]⟩
  ·have hq' : (q.n == n || q.n' == n') = false:=by simpa using hq
   rw [hq'] at h
   simp only [Bool.or_eq_false_iff] at hq'
   obtain ⟨q2,h1,h2,h3,h4,h5⟩:=vF Q n n' h
   refine ⟨q2,by simp [h1],h2,h3, ?_, ?_⟩
   ·simpa [arOf,qF,List.find?_cons,hq'.1] using h4
   ·simpa [arOf,qG,List.find?_cons,hq'.2] using h5
theorem mG {E : List (Bs × Bs)} {n n' : Bs} (h : fS E n n' = none) : n ∉ E.map (·.1) ∧ n' ∉ E.map (·.2):=by
 unfold fS at h
 rw [List.find?_eq_none] at h
 refine ⟨fun hm=>?_,fun hm=>?_⟩
 all_goals
  obtain ⟨p,hp,e⟩:=List.mem_map.1 hm
  have:=h p hp
  simp [e] at this
theorem gK {E : List (Bs × Bs)} {n n' : Bs} (h1 : n ∉ E.map (·.1)) (h2 : n' ∉ E.map (·.2)) : fS E n n' = none:=by
 unfold fS
 rw [List.find?_eq_none]
 intro p hp hc
 simp only [Bool.or_eq_true,beq_iff_eq] at hc
 rcases hc with e | e
 ·exact h1 (List.mem_map.2 ⟨p,hp,e⟩)
 ·exact h2 (List.mem_map.2 ⟨p,hp,e⟩)
theorem pB (Q : List Q4) : (qE Q).map (·.1) = (qF Q).map (·.1) ∧ (qE Q).map (·.2) = (qG Q).map (·.1) ∧ (qN Q).map (·.1) = (qF Q).map (·.2) ∧ (qN Q).map (·.2) = (qG Q).map (·.2):=by
 simp [qE,qF,qG,qN,Function.comp_def]
theorem AR : ∀ (Q : List Q4),((qN Q).map (·.1)).Nodup → ((qN Q).map (·.2)).Nodup → ∀ q ∈ Q,fS (qN Q) q.m q.m' = some (q.m,q.m')
 | [],_,_,q,h=>by cases h
 | x :: Q,h1,h2,q,hq=>by
  simp only [qN,List.map_cons,List.nodup_cons] at h1 h2
  rcases List.mem_cons.1 hq with rfl | hq
  ·simp [fS,qN]
  ·have e1 : (x.m == q.m) = false:=by
    rw [beq_eq_false_iff_ne]
    intro e
    exact h1.1 (List.mem_map.2 ⟨(q.m,q.m'),List.mem_map.2 ⟨q,hq,rfl⟩,e.symm⟩)
   have e2 : (x.m' == q.m') = false:=by
    rw [beq_eq_false_iff_ne]
    intro e
    exact h2.1 (List.mem_map.2 ⟨(q.m,q.m'),List.mem_map.2 ⟨q,hq,rfl⟩,e.symm⟩)
   have ih:=AR Q h1.2 h2.2 q hq
   simp only [fS,qN,List.map_cons,List.find?_cons,e1,e2,Bool.or_self] at ih ⊢
   exact ih
mutual
theorem Tm.rel_swap {r : Sy → Sy} {Q : List Q4} {fr fr' : List Bs} (h1 : ((qN Q).map (·.1)).Nodup) (h2 : ((qN Q).map (·.2)).Nodup) (k1 : ∀ q ∈ Q,q.m ∉ fr) (k2 : ∀ q ∈ Q,q.m' ∉ fr') : ∀ t u : Tm,t.ok = true → u.ok = true → t.rel r (qE Q) u → (∀ x ∈ t.vars,x ∉ (qF Q).map (·.1) → x ∈ fr) → (∀ x ∈ u.vars,x ∉ (qG Q).map (·.1) → x ∈ fr') → (t.swap (arOf (qF Q))).rel r (qN Q) (u.swap (arOf (qG Q)))
 | .mk v n ts,.mk v' n' ts',ht,hu,h,x1,x2=>by
  obtain ⟨rfl,h,hs⟩:=h
  rw [Tm.ok] at ht hu
  cases v with
  | true =>
   simp only [if_true,Bool.and_eq_true,List.isEmpty_iff] at h ht hu
   obtain ⟨rfl,-⟩:=ht
   obtain ⟨rfl,-⟩:=hu
   rcases h with h | ⟨h,hr⟩
   ·obtain ⟨q,hq,rfl,rfl,e1,e2⟩:=vF Q n n' h
    simp only [Tm.swap,if_true,e1,e2]
    exact ⟨rfl,.inl (AR Q h1 h2 q hq),trivial⟩
   ·obtain ⟨p1,p2⟩:=mG h
    rw [(pB Q).1] at p1
    rw [(pB Q).2.1] at p2
    simp only [Tm.swap,if_true,fM.2 p1,fM.2 p2,aU]
    have f1:=x1 n (by simp [Tm.vars]) p1
    have f2:=x2 n' (by simp [Tm.vars]) p2
    refine ⟨rfl,.inr ⟨gK (fun hm=>?_) (fun hm=>?_),hr⟩,trivial⟩
    ·obtain ⟨p,hp,e⟩:=List.mem_map.1 hm
     obtain ⟨q,hq,rfl⟩:=List.mem_map.1 hp
     have e' : q.m = n:=e;exact k1 q hq (by rw [e'];exact f1)
    ·obtain ⟨p,hp,e⟩:=List.mem_map.1 hm
     obtain ⟨q,hq,rfl⟩:=List.mem_map.1 hp
     have e' : q.m' = n':=e;exact k2 q hq (by rw [e'];exact f2)
  | false =>
   simp only [Bool.false_eq_true,if_false,Bool.and_eq_true] at h ht hu
   have ih:=lQ (r:=r) h1 h2 k1 k2 ts ts' ht.2 hu.2 hs (fun x hx'=>x1 x (by simp [Tm.vars,hx'])) (fun x hx'=>x2 x (by simp [Tm.vars,hx']))
   simp only [Tm.swap,Bool.false_eq_true,if_false]
   refine ⟨rfl, ?_,ih⟩
   simp only [Bool.false_eq_true,if_false,cT]
   exact h
theorem lQ {r : Sy → Sy} {Q : List Q4} {fr fr' : List Bs} (h1 : ((qN Q).map (·.1)).Nodup) (h2 : ((qN Q).map (·.2)).Nodup) (k1 : ∀ q ∈ Q,q.m ∉ fr) (k2 : ∀ q ∈ Q,q.m' ∉ fr') : ∀ l k : List Tm,bX l = true → bX k = true → iO r (qE Q) l k → (∀ x ∈ aO l,x ∉ (qF Q).map (·.1) → x ∈ fr) → (∀ x ∈ aO k,x ∉ (qG Q).map (·.1) → x ∈ fr') → iO r (qN Q) (aU (arOf (qF Q)) l) (aU (arOf (qG Q)) k)
 | [],[],_,_,_,_,_=>trivial
 | t :: ts,u :: us,ht,hu,h,x1,x2=>by
  simp only [bX,Bool.and_eq_true] at ht hu
  exact ⟨Tm.rel_swap h1 h2 k1 k2 t u ht.1 hu.1 h.1 (fun x hx'=>x1 x (by simp [aO,hx'])) (fun x hx'=>x2 x (by simp [aO,hx'])),lQ h1 h2 k1 k2 ts us ht.2 hu.2 h.2 (fun x hx'=>x1 x (by simp [aO,hx'])) (fun x hx'=>x2 x (by simp [aO,hx']))⟩
 | [],_ :: _,_,_,h,_,_=>by cases h
 | _ :: _,[],_,_,h,_,_=>by cases h
end
mutual
theorem Fm.rel_norm {r : Sy → Sy} {fr fr' : List Bs} : ∀ (f g : Fm) (Q : List Q4),f.ok = true → g.ok = true → f.rel r (qE Q) g → ((qN Q).map (·.1)).Nodup → ((qN Q).map (·.2)).Nodup → (∀ q ∈ Q,q.m ∉ fr) → (∀ q ∈ Q,q.m' ∉ fr') → (∀ x ∈ f.free ((qF Q).map (·.1)),x ∈ fr) → (∀ x ∈ g.free ((qG Q).map (·.1)),x ∈ fr') → (f.norm fr (qF Q)).rel r (qN Q) (g.norm fr' (qG Q))
 | .mk op n ts fs,.mk op' n' ts' fs',Q,hf,hg,h,h1,h2,k1,k2,x1,x2=>by
  obtain ⟨rfl,hn,ht,hs⟩:=h
  simp only [Fm.ok,Bool.and_eq_true,decide_eq_true_eq] at hf hg
  simp only [Fm.free,List.mem_append,List.mem_filter,decide_eq_true_eq] at x1 x2
  have a:=lQ (r:=r) h1 h2 k1 k2 ts ts' hf.1.2 hg.1.2 ht (fun x hx' hn=>x1 x (.inl ⟨hx',hn⟩)) (fun x hx' hn=>x2 x (.inl ⟨hx',hn⟩))
  by_cases hq : bV op = true
  ·have ho : ¬ op = 1:=by rintro rfl;simp [bV] at hq
   rw [if_pos hq] at hs x1 x2
   rw [Fm.norm,if_pos hq,Fm.norm,if_pos hq]
   have u1:=gR (fr ++ (qF Q).map (·.2))
   have u2:=gR (fr' ++ (qG Q).map (·.2))
   simp only [List.mem_append,not_or] at u1 u2
   have b:=kX (r:=r) (fr:=fr) (fr':=fr') fs fs' (⟨n,least (fr ++ (qF Q).map (·.2)),n',least (fr' ++ (qG Q).map (·.2))⟩ :: Q) hf.2 hg.2 hs
    (by simp only [qN,List.map_cons,List.nodup_cons];refine ⟨?_,h1⟩;rw [show (Q.map fun q=>(q.m,q.m')).map (·.1) = (qF Q).map (·.2) from (pB Q).2.2.1];exact u1.2)
    (by simp only [qN,List.map_cons,List.nodup_cons];refine ⟨?_,h2⟩;rw [show (Q.map fun q=>(q.m,q.m')).map (·.2) = (qG Q).map (·.2) from (pB Q).2.2.2];exact u2.2)
    (fun q hq'=>by
     rcases List.mem_cons.1 hq' with rfl | hq'
     ·exact u1.1
     ·exact k1 q hq') (fun q hq'=>by
     rcases List.mem_cons.1 hq' with rfl | hq'
     ·exact u2.1
     ·exact k2 q hq') (fun x hx'=>x1 x (.inr hx')) (fun x hx'=>x2 x (.inr hx'))
   refine ⟨rfl, ?_,a, ?_⟩
   ·rw [if_neg ho,if_pos hq];trivial
   ·rw [if_pos hq];exact b
  ·rw [if_neg hq] at hs x1 x2
   rw [Fm.norm,if_neg hq,Fm.norm,if_neg hq]
   have b:=kX (r:=r) (fr:=fr) (fr':=fr') fs fs' Q hf.2 hg.2 hs h1 h2 k1 k2 (fun x hx'=>x1 x (.inr hx')) (fun x hx'=>x2 x (.inr hx'))
   refine ⟨rfl, ?_,a, ?_⟩
   ·simp only [cT];exact hn
   ·rw [if_neg hq];exact b
theorem kX {r : Sy → Sy} {fr fr' : List Bs} : ∀ (l k : List Fm) (Q : List Q4),bU l = true → bU k = true → gH r (qE Q) l k → ((qN Q).map (·.1)).Nodup → ((qN Q).map (·.2)).Nodup → (∀ q ∈ Q,q.m ∉ fr) → (∀ q ∈ Q,q.m' ∉ fr') → (∀ x ∈ aV ((qF Q).map (·.1)) l,x ∈ fr) → (∀ x ∈ aV ((qG Q).map (·.1)) k,x ∈ fr') → gH r (qN Q) (bG fr (qF Q) l) (bG fr' (qG Q) k)
 | [],[],Q,_,_,_,_,_,_,_,_,_=>trivial
 | f :: fs,g :: gs,Q,hf,hg,h,h1,h2,k1,k2,x1,x2=>by
  simp only [bU,Bool.and_eq_true] at hf hg
  simp only [aV,List.mem_append] at x1 x2
  exact ⟨Fm.rel_norm f g Q hf.1 hg.1 h.1 h1 h2 k1 k2 (fun x hx'=>x1 x (.inl hx')) (fun x hx'=>x2 x (.inl hx')),kX fs gs Q hf.2 hg.2 h.2 h1 h2 k1 k2 (fun x hx'=>x1 x (.inr hx')) (fun x hx'=>x2 x (.inr hx'))⟩
 | [],_ :: _,_,_,_,h,_,_,_,_,_,_=>by cases h
 | _ :: _,[],_,_,_,h,_,_,_,_,_,_=>by cases h
end
end Ly
