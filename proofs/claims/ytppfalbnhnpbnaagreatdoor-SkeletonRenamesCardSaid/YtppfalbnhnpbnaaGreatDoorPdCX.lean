/- renaming.form at a formula, where a predicate gets another name. Conditions: those of each statement. -/
import Derived.Test.YtppfalbnhnpbnaaGreatDoorEaEX
import Derived.Test.YtppfalbnhnpbnaaGreatDoorNtCX
import Derived.Test.YtppfalbnhnpbnaaGreatDoorKyAX
import Derived.Test.YtppfalbnhnpbnaaGreatDoorNtBX
set_option linter.unusedSimpArgs false
set_option linter.unusedVariables false
namespace Go.Proofs.YtppfalbnhnpbnaaGreatDoor
open Go Go.RowKit Ly
set_option maxRecDepth 10000
structure MidF (W : World) (rv : Array Value) (op : Int) (nm : Bs) (sl sm : Value) (X : World) : Prop where
 bt : Below W.heap.size W X
 r0 : X.heap[W.heap.size]? = some (.cells rv 107 (0,0))
 r1 : X.heap[W.heap.size + 1]? = some (.cells #[.int .u8 op,str nm,sl,sm] 40 (0,0))
 r2 : X.heap[W.heap.size + 1 + 1]? = some (.cells #[.int .u8 0,str [],.slice none 0 0,.slice none 0 0] 40 (0,0))
section
variable {W : World} {rv : Array Value} {op : Int} {nm : Bs} {sl sm : Value} {X Y : World}
theorem MidF.next (h : MidF W rv op nm sl sm X) (b : Below X.heap.size X Y) : MidF W rv op nm sl sm Y :=
 ⟨h.bt.trans (b.mono h.bt.size),(b.block _ (Array.getElem?_eq_some_iff.1 h.r0).1).trans h.r0,(b.block _ (Array.getElem?_eq_some_iff.1 h.r1).1).trans h.r1,(b.block _ (Array.getElem?_eq_some_iff.1 h.r2).1).trans h.r2⟩
theorem MidF.set (h : MidF W rv op nm sl sm X) (o : Nat) (u : Value) (nm' : Bs) (sl' sm' : Value) (e : (#[.int .u8 op,str nm,sl,sm] : Array Value).setIfInBounds o u = #[.int .u8 op,str nm',sl',sm']) : MidF W rv op nm' sl' sm' (X.setCell ⟨W.heap.size + 1,o,none⟩ u) :=
 ⟨h.bt.setCell (by simp) _,(Below.heap_setCell _ _ _ _ (by show W.heap.size ≠ W.heap.size + 1;omega)).trans h.r0,by rw [aC h.r1,e],(Below.heap_setCell _ _ _ _ (by show W.heap.size + 1 + 1 ≠ W.heap.size + 1;omega)).trans h.r2⟩
end
theorem sE (W : World) (rv : Array Value) (op : Int) (nm : Bs) (sl sm : Value) : MidF W rv op nm sl sm (((W.alloc (.cells rv 107)).alloc (.cells #[.int .u8 op,str nm,sl,sm] 40)).alloc (.cells #[.int .u8 0,str [],.slice none 0 0,.slice none 0 0] 40)):=by
 refine ⟨(((Below.refl _ _).alloc (Nat.le_refl _) _).alloc (by simp) _).alloc (by simp;omega) _, ?_, ?_, ?_⟩
 ·exact aI _ (aI _ (heap_alloc_new W _))
 ·have:=heap_alloc_new (W.alloc (.cells rv 107)) (.cells #[.int .u8 op,str nm,sl,sm] 40)
  rw [World.size_alloc] at this
  exact aI _ this
 ·have:=heap_alloc_new ((W.alloc (.cells rv 107)).alloc (.cells #[.int .u8 op,str nm,sl,sm] 40)) (.cells #[.int .u8 0,str [],.slice none 0 0,.slice none 0 0] 40)
  rw [World.size_alloc,World.size_alloc] at this
  exact this
theorem dE {w : World} {b : Nat} {x y z t : Value} (h : w.heap[b]? = some (.cells #[x,y,z,t] 107 (0,0))) : w.cell? ⟨b,0,none⟩ = some x ∧ w.cell? ⟨b,1,none⟩ = some y ∧ w.cell? ⟨b,2,none⟩ = some z ∧ w.cell? ⟨b,3,none⟩ = some t :=
 ⟨(bL h 0).trans rfl,(bL h 1).trans rfl,(bL h 2).trans rfl,(bL h 3).trans rfl⟩
def wZ (f : Fm) (W : World) (e : Ending) (w' : World) : Prop:=∃ v,e = .returned v ∧ bH (hide (lo W) w') f v ∧ Below W.heap.size W w'
def RF (s : Sy) (tn : Bs) (f : Fm) : Prop:=∀ (W : World) (x : Value),bH W f x → f.nodes ≤ 1000 → Calls Tryz.prog 61 #[renV s tn,x] W (wZ (f.ren s tn) W)
theorem oT (s : Sy) (tn : Bs) (fs : List Fm) (ih : ∀ t ∈ fs,RF s tn t) (W : World) (a : Option Addr) (n c : Nat) (hx : aL W fs (.slice a n c)) (hn : aG fs ≤ 1000) :
  Calls Tryz.prog 69 #[.slice a n c,.func (.func 61) #[renV s tn] #[]] W fun e w'=>∃ v,e = .returned v ∧ aL (hide (lo W) w') (bN s tn fs) v ∧ Below W.heap.size W w':=by
 refine (rE (fun _=>False) (renV s tn) (fun (_ : Unit) _=>True) (fun _ t=>(Fm.ren s tn t,())) W fs () a n c hx (by have:=fmsLen_le' fs;omega) trivial (fun _ _ _ _ _=>trivial) (fun _ _ _ k hk=>absurd hk (fun e=>e)) (fun k hk=>absurd hk (fun e=>e)) (fun j t ht X x hI hX hv=>?_)).mono ?_
 ·have hm:=List.mem_of_getElem? ht
  refine (ih t hm X x hv (by have:=jJ fs j ht;omega)).mono ?_
  rintro e w' ⟨v,rfl,h1,h2⟩
  exact ⟨v,rfl,h1,trivial,.of_below h2⟩
 ·rintro e w' ⟨v,rfl,h1,-,h3⟩
  rw [eP] at h1
  exact ⟨v,rfl,h1,h3.toBelow⟩
set_option maxHeartbeats 8000000 in
theorem rf_step (sn tn : Bs) (sa : Nat) (op : Int) (nm : Bs) (ts : List Tm) (fs : List Fm) (ih : ∀ t ∈ fs,RF ⟨80,sn,sa⟩ tn t) : RF ⟨80,sn,sa⟩ tn (.mk op nm ts fs):=by
 intro W x hx0 hn
 obtain ⟨a,N,c,a2,N2,c2,rfl,hx,hy⟩ : ∃ a N c a2 N2 c2,x = .agg #[.int .u8 op,str nm,.slice a N c,.slice a2 N2 c2] ∧ bE W ts (.slice a N c) ∧ aL W fs (.slice a2 N2 c2):=hx0
 have hlen:=hx.len
 have nd : (Fm.mk op nm ts fs).nodes = 1 + aM ts + aG fs:=by simp [Fm.nodes]
 rw [nd] at hn
 have N0 : N ≤ 1000:=by rw [hlen.1];have:=dQ ts;omega
 obtain ⟨LS,hLS⟩ : ∃ LS,cQ ⟨80,sn,sa⟩ tn ts = LS:=⟨_,rfl⟩
 obtain ⟨GS,hGS⟩ : ∃ GS,bN ⟨80,sn,sa⟩ tn fs = GS:=⟨_,rfl⟩
 have EC : Hid (∀ X nm' sl' sm',MidF W #[str [80],str sn,.int .i64 sa,str tn] op nm' sl' sm' X → Calls Tryz.prog 114 #[.slice a N c,.func (.func 115) #[.agg #[str [80],str sn,.int .i64 sa,str tn]] #[]] X fun e w'=>∃ fa fc,e = .returned (.slice fa LS.length fc) ∧ bE (hide (lo X) w') LS (.slice fa LS.length fc) ∧ Below X.heap.size X w'):=fun X nm' sl' sm' hM=>by
  rw [← hLS]
  refine (mK ⟨80,sn,sa⟩ tn ts (fun t _=>vG _ _ t) X a N c (hx.keep (aA hM.bt)) (by omega)).mono ?_
  rintro e w' ⟨v3,rfl,h3,b3⟩
  obtain ⟨fa,fc,rfl,-,-,-,-⟩:=At.sl_inv h3
  exact ⟨fa,fc,rfl,h3,b3⟩
 have FC : Hid (∀ X nm' sl' sm',MidF W #[str [80],str sn,.int .i64 sa,str tn] op nm' sl' sm' X → Calls Tryz.prog 69 #[.slice a2 N2 c2,.func (.func 61) #[.agg #[str [80],str sn,.int .i64 sa,str tn]] #[]] X fun e w'=>∃ fa fc,e = .returned (.slice fa GS.length fc) ∧ aL (hide (lo X) w') GS (.slice fa GS.length fc) ∧ Below X.heap.size X w'):=fun X nm' sl' sm' hM=>by
  rw [← hGS]
  refine (oT ⟨80,sn,sa⟩ tn fs ih X a2 N2 c2 (hy.keep (aA hM.bt)) (by omega)).mono ?_
  rintro e w' ⟨v3,rfl,h3,b3⟩
  obtain ⟨fa,fc,rfl,-,-,-,-⟩:=At.sl_inv h3
  exact ⟨fa,fc,rfl,h3,b3⟩
 have L2:=Lib.hid hlen.1
 have HLS:=Lib.hid hLS
 have HGS:=Lib.hid hGS
 have M0:=Lib.hid (sE W #[str [80],str sn,.int .i64 sa,str tn] op nm (.slice a N c) (.slice a2 N2 c2))
 obtain ⟨W0,hW0⟩ : ∃ W0,(((W.alloc (.cells #[str [80],str sn,.int .i64 sa,str tn] 107)).alloc (.cells #[.int .u8 op,str nm,.slice a N c,.slice a2 N2 c2] 40)).alloc (.cells #[.int .u8 0,str [],.slice none 0 0,.slice none 0 0] 40)) = W0:=⟨_,rfl⟩
 rw [hW0] at M0
 clear ih hx hy hlen hn nd hLS hGS
 unfold renV
 go_enter Tryz.func61,Tryz.ntmps61
 have KEY : Hid (∀ (nw : Bs) (w3 w5 : World) (fa ka : Option Addr) (fc kc : Nat) (X2 X4 : World),(Fm.mk op nm ts fs).ren ⟨80,sn,sa⟩ tn = .mk op nw LS GS → MidF W #[str [80],str sn,.int .i64 sa,str tn] op nw (.slice a N c) (.slice a2 N2 c2) X2 →
   (bE (hide (lo X2) w3) LS (.slice fa LS.length fc) ∧ Below X2.heap.size X2 w3) → X4 = w3.setCell ⟨W.heap.size + 1,2,none⟩ (.slice fa LS.length fc) → (aL (hide (lo X4) w5) GS (.slice ka GS.length kc) ∧ Below X4.heap.size X4 w5) →
   bH (hide (lo W) (((((w5.setCell ⟨W.heap.size + 1,3,none⟩ (.slice ka GS.length kc)).setCell ⟨W.heap.size + 1 + 1,0,none⟩ (.int .u8 op)).setCell ⟨W.heap.size + 1 + 1,1,none⟩ (str nw)).setCell ⟨W.heap.size + 1 + 1,2,none⟩ (.slice fa LS.length fc)).setCell ⟨W.heap.size + 1 + 1,3,none⟩ (.slice ka GS.length kc))) ((Fm.mk op nm ts fs).ren ⟨80,sn,sa⟩ tn) (.agg #[.int .u8 op,str nw,.slice fa LS.length fc,.slice ka GS.length kc])):=by
  rintro nw w3 w5 fa ka fc kc X2 X4 te m2 ⟨h3,b3⟩ e4 ⟨h5,b5⟩
  have m4:=(m2.next b3).set 2 (.slice fa LS.length fc) nw (.slice fa LS.length fc) (.slice a2 N2 c2) rfl
  rw [← e4] at m4
  have lw:=(Array.getElem?_eq_some_iff.1 m2.r2).1
  have lw4:=(Array.getElem?_eq_some_iff.1 m4.r2).1
  have l34 : w3.heap.size = X4.heap.size:=by rw [e4];simp
  have b2:=b3.size
  have key : ∀ k,k ≠ W.heap.size + 1 + 1 → ((((((w5.setCell ⟨W.heap.size + 1,3,none⟩ (.slice ka GS.length kc)).setCell ⟨W.heap.size + 1 + 1,0,none⟩ (.int .u8 op)).setCell ⟨W.heap.size + 1 + 1,1,none⟩ (str nw)).setCell ⟨W.heap.size + 1 + 1,2,none⟩ (.slice fa LS.length fc)).setCell ⟨W.heap.size + 1 + 1,3,none⟩ (.slice ka GS.length kc)).heap[k]?) = (w5.setCell ⟨W.heap.size + 1,3,none⟩ (.slice ka GS.length kc)).heap[k]?:=fun k hk=>by rw [Below.heap_setCell _ _ _ _ hk,Below.heap_setCell _ _ _ _ hk,Below.heap_setCell _ _ _ _ hk,Below.heap_setCell _ _ _ _ hk]
  have key2 : ∀ k,W.heap.size + 1 + 1 < k → (w5.setCell ⟨W.heap.size + 1,3,none⟩ (.slice ka GS.length kc)).heap[k]? = w5.heap[k]?:=fun k hk=>Below.heap_setCell _ _ _ _ (by show k ≠ W.heap.size + 1;omega)
  rw [te]
  refine ⟨_,_,_,_,_,_,rfl, ?_, ?_⟩
  ·refine h3.keep (aF fun k h1 h2=>?_)
   simp only [lo,decide_eq_false_iff_not,Nat.not_lt] at h2 ⊢
   refine ⟨by omega, ?_⟩
   rw [key k (by omega),key2 k (by omega),b5.block k (by omega),e4]
   exact Below.heap_setCell _ _ _ _ (by show k ≠ W.heap.size + 1;omega)
  ·refine h5.keep (aF fun k h1 h2=>?_)
   simp only [lo,decide_eq_false_iff_not,Nat.not_lt] at h2 ⊢
   exact ⟨by omega,by rw [key k (by omega),key2 k (by omega)]⟩
 by_cases hop : op = 1
 ·subst hop
  by_cases hsn : sn = nm
  ·subst hsn
   by_cases hsa : sa = N
   ·subst hsa
    have TE : Hid ((Fm.mk 1 sn ts fs).ren ⟨80,sn,sa⟩ tn = .mk 1 tn LS GS):=by show _ = _;rw [← HLS.out,← HGS.out];simp [Fm.ren,← L2.out]
    have M2:=Lib.hid (M0.out.set 1 (str tn) tn _ _ rfl)
    obtain ⟨⟨y0,y1,y2,y3⟩,z0,z1,z2,z3⟩:=aJ M0.out.r1
    obtain ⟨v0,v1,v2,v3⟩:=dE M0.out.r0
    go_wp2_with (first
     | (
       go_at_call 114
       refine (EC.out _ _ _ _ M2.out).mono ?_
       rintro e w3 ⟨fa,fc,rfl,h3,b3⟩
       have M3:=Lib.hid (M2.out.next b3)
       have H3:=Lib.hid (And.intro h3 b3)
       clear h3 b3 y0 y1 y2 y3 z0 z1 z2 z3 v0 v1 v2 v3 EC
       obtain ⟨⟨y0,y1,y2,y3⟩,z0,z1,z2,z3⟩:=aJ M3.out.r1
       have M4:=Lib.hid (M3.out.set 2 (.slice fa LS.length fc) _ _ _ rfl)
       obtain ⟨⟨q0,q1,q2,q3⟩,-,-,-,-⟩:=aJ M4.out.r1
       obtain ⟨v0,v1,v2,v3⟩:=dE M4.out.r0)
     | (
       go_at_call 69
       refine (FC.out _ _ _ _ M4.out).mono ?_
       rintro e w5 ⟨ka,kc,rfl,h5,b5⟩
       have M5:=Lib.hid (M4.out.next b5)
       have H5:=Lib.hid (And.intro h5 b5)
       clear h5 b5 y0 y1 y2 y3 z0 z1 z2 z3 q0 q1 q2 q3 v0 v1 v2 v3 FC
       obtain ⟨⟨y0,y1,y2,y3⟩,z0,z1,z2,z3⟩:=aJ M5.out.r1
       have M6:=Lib.hid (M5.out.set 3 (.slice ka GS.length kc) _ _ _ rfl)
       obtain ⟨⟨q0,q1,q2,q3⟩,-,-,-,-⟩:=aJ M6.out.r1
       obtain ⟨⟨s0,s1,s2,s3⟩,x0,x1,x2,x3⟩:=aJ M6.out.r2))
    have g:=aC (o:=3) (u:=.slice ka GS.length kc) (aC (o:=2) (u:=.slice fa LS.length fc) (aC (o:=1) (u:=str tn) (aC (o:=0) (u:=.int .u8 1) M6.out.r2)))
    refine bodyPost_ret (fB rfl _ _ (W.heap.size + 1 + 1) _ _ _ _ (0,0) rfl g) rfl ?_
    exact ⟨.agg #[.int .u8 1,str tn,.slice fa LS.length fc,.slice ka GS.length kc],rfl,KEY.out _ _ _ _ _ _ _ _ _ TE.out M2.out H3.out rfl H5.out,(((M6.out.bt.setCell (by simp;omega) _).setCell (by simp;omega) _).setCell (by simp;omega) _).setCell (by simp;omega) _⟩
   ·have TE : Hid ((Fm.mk 1 sn ts fs).ren ⟨80,sn,sa⟩ tn = .mk 1 sn LS GS):=by show _ = _;simp [Fm.ren,HLS.out,HGS.out,← L2.out,hsa,bV]
    have hsa2 : ¬ (sa : Int) = (N : Int):=by omega
    have M2:=M0
    obtain ⟨⟨y0,y1,y2,y3⟩,z0,z1,z2,z3⟩:=aJ M0.out.r1
    obtain ⟨v0,v1,v2,v3⟩:=dE M0.out.r0
    go_wp2_with (first
     | (
       go_at_call 114
       refine (EC.out _ _ _ _ M2.out).mono ?_
       rintro e w3 ⟨fa,fc,rfl,h3,b3⟩
       have M3:=Lib.hid (M2.out.next b3)
       have H3:=Lib.hid (And.intro h3 b3)
       clear h3 b3 y0 y1 y2 y3 z0 z1 z2 z3 v0 v1 v2 v3 EC
       obtain ⟨⟨y0,y1,y2,y3⟩,z0,z1,z2,z3⟩:=aJ M3.out.r1
       have M4:=Lib.hid (M3.out.set 2 (.slice fa LS.length fc) _ _ _ rfl)
       obtain ⟨⟨q0,q1,q2,q3⟩,-,-,-,-⟩:=aJ M4.out.r1
       obtain ⟨v0,v1,v2,v3⟩:=dE M4.out.r0)
     | (
       go_at_call 69
       refine (FC.out _ _ _ _ M4.out).mono ?_
       rintro e w5 ⟨ka,kc,rfl,h5,b5⟩
       have M5:=Lib.hid (M4.out.next b5)
       have H5:=Lib.hid (And.intro h5 b5)
       clear h5 b5 y0 y1 y2 y3 z0 z1 z2 z3 q0 q1 q2 q3 v0 v1 v2 v3 FC
       obtain ⟨⟨y0,y1,y2,y3⟩,z0,z1,z2,z3⟩:=aJ M5.out.r1
       have M6:=Lib.hid (M5.out.set 3 (.slice ka GS.length kc) _ _ _ rfl)
       obtain ⟨⟨q0,q1,q2,q3⟩,-,-,-,-⟩:=aJ M6.out.r1
       obtain ⟨⟨s0,s1,s2,s3⟩,x0,x1,x2,x3⟩:=aJ M6.out.r2))
    have g:=aC (o:=3) (u:=.slice ka GS.length kc) (aC (o:=2) (u:=.slice fa LS.length fc) (aC (o:=1) (u:=str sn) (aC (o:=0) (u:=.int .u8 1) M6.out.r2)))
    refine bodyPost_ret (fB rfl _ _ (W.heap.size + 1 + 1) _ _ _ _ (0,0) rfl g) rfl ?_
    exact ⟨.agg #[.int .u8 1,str sn,.slice fa LS.length fc,.slice ka GS.length kc],rfl,KEY.out _ _ _ _ _ _ _ _ _ TE.out M2.out H3.out rfl H5.out,(((M6.out.bt.setCell (by simp;omega) _).setCell (by simp;omega) _).setCell (by simp;omega) _).setCell (by simp;omega) _⟩
  ·have TE : Hid ((Fm.mk 1 nm ts fs).ren ⟨80,sn,sa⟩ tn = .mk 1 nm LS GS):=by show _ = _;simp [Fm.ren,HLS.out,HGS.out,hsn,bV]
   have M2:=M0
   obtain ⟨⟨y0,y1,y2,y3⟩,z0,z1,z2,z3⟩:=aJ M0.out.r1
   obtain ⟨v0,v1,v2,v3⟩:=dE M0.out.r0
   go_wp2_with (first
    | (
      go_at_call 114
      refine (EC.out _ _ _ _ M2.out).mono ?_
      rintro e w3 ⟨fa,fc,rfl,h3,b3⟩
      have M3:=Lib.hid (M2.out.next b3)
      have H3:=Lib.hid (And.intro h3 b3)
      clear h3 b3 y0 y1 y2 y3 z0 z1 z2 z3 v0 v1 v2 v3 EC
      obtain ⟨⟨y0,y1,y2,y3⟩,z0,z1,z2,z3⟩:=aJ M3.out.r1
      have M4:=Lib.hid (M3.out.set 2 (.slice fa LS.length fc) _ _ _ rfl)
      obtain ⟨⟨q0,q1,q2,q3⟩,-,-,-,-⟩:=aJ M4.out.r1
      obtain ⟨v0,v1,v2,v3⟩:=dE M4.out.r0)
    | (
      go_at_call 69
      refine (FC.out _ _ _ _ M4.out).mono ?_
      rintro e w5 ⟨ka,kc,rfl,h5,b5⟩
      have M5:=Lib.hid (M4.out.next b5)
      have H5:=Lib.hid (And.intro h5 b5)
      clear h5 b5 y0 y1 y2 y3 z0 z1 z2 z3 q0 q1 q2 q3 v0 v1 v2 v3 FC
      obtain ⟨⟨y0,y1,y2,y3⟩,z0,z1,z2,z3⟩:=aJ M5.out.r1
      have M6:=Lib.hid (M5.out.set 3 (.slice ka GS.length kc) _ _ _ rfl)
      obtain ⟨⟨q0,q1,q2,q3⟩,-,-,-,-⟩:=aJ M6.out.r1
      obtain ⟨⟨s0,s1,s2,s3⟩,x0,x1,x2,x3⟩:=aJ M6.out.r2))
   have g:=aC (o:=3) (u:=.slice ka GS.length kc) (aC (o:=2) (u:=.slice fa LS.length fc) (aC (o:=1) (u:=str nm) (aC (o:=0) (u:=.int .u8 1) M6.out.r2)))
   refine bodyPost_ret (fB rfl _ _ (W.heap.size + 1 + 1) _ _ _ _ (0,0) rfl g) rfl ?_
   exact ⟨.agg #[.int .u8 1,str nm,.slice fa LS.length fc,.slice ka GS.length kc],rfl,KEY.out _ _ _ _ _ _ _ _ _ TE.out M2.out H3.out rfl H5.out,(((M6.out.bt.setCell (by simp;omega) _).setCell (by simp;omega) _).setCell (by simp;omega) _).setCell (by simp;omega) _⟩
 ·have TE : Hid ((Fm.mk op nm ts fs).ren ⟨80,sn,sa⟩ tn = .mk op nm LS GS):=by show _ = _;simp [Fm.ren,HLS.out,HGS.out,hop]
  have M2:=M0
  have t1 : (op == 1) = false:=by simpa using hop
  by_cases h8 : op = 8
  ·subst h8
   obtain ⟨⟨y0,y1,y2,y3⟩,z0,z1,z2,z3⟩:=aJ M0.out.r1
   obtain ⟨v0,v1,v2,v3⟩:=dE M0.out.r0
   go_wp2_with (first
    | (
      go_at_call 114
      refine (EC.out _ _ _ _ M2.out).mono ?_
      rintro e w3 ⟨fa,fc,rfl,h3,b3⟩
      have M3:=Lib.hid (M2.out.next b3)
      have H3:=Lib.hid (And.intro h3 b3)
      clear h3 b3 y0 y1 y2 y3 z0 z1 z2 z3 v0 v1 v2 v3 EC
      obtain ⟨⟨y0,y1,y2,y3⟩,z0,z1,z2,z3⟩:=aJ M3.out.r1
      have M4:=Lib.hid (M3.out.set 2 (.slice fa LS.length fc) _ _ _ rfl)
      obtain ⟨⟨q0,q1,q2,q3⟩,-,-,-,-⟩:=aJ M4.out.r1
      obtain ⟨v0,v1,v2,v3⟩:=dE M4.out.r0)
    | (
      go_at_call 69
      refine (FC.out _ _ _ _ M4.out).mono ?_
      rintro e w5 ⟨ka,kc,rfl,h5,b5⟩
      have M5:=Lib.hid (M4.out.next b5)
      have H5:=Lib.hid (And.intro h5 b5)
      clear h5 b5 y0 y1 y2 y3 z0 z1 z2 z3 q0 q1 q2 q3 v0 v1 v2 v3 FC
      obtain ⟨⟨y0,y1,y2,y3⟩,z0,z1,z2,z3⟩:=aJ M5.out.r1
      have M6:=Lib.hid (M5.out.set 3 (.slice ka GS.length kc) _ _ _ rfl)
      obtain ⟨⟨q0,q1,q2,q3⟩,-,-,-,-⟩:=aJ M6.out.r1
      obtain ⟨⟨s0,s1,s2,s3⟩,x0,x1,x2,x3⟩:=aJ M6.out.r2))
   have g:=aC (o:=3) (u:=.slice ka GS.length kc) (aC (o:=2) (u:=.slice fa LS.length fc) (aC (o:=1) (u:=str nm) (aC (o:=0) (u:=.int .u8 8) M6.out.r2)))
   refine bodyPost_ret (fB rfl _ _ (W.heap.size + 1 + 1) _ _ _ _ (0,0) rfl g) rfl ?_
   exact ⟨.agg #[.int .u8 8,str nm,.slice fa LS.length fc,.slice ka GS.length kc],rfl,KEY.out _ _ _ _ _ _ _ _ _ TE.out M2.out H3.out rfl H5.out,(((M6.out.bt.setCell (by simp;omega) _).setCell (by simp;omega) _).setCell (by simp;omega) _).setCell (by simp;omega) _⟩
  ·have t8 : (op == 8) = false:=by simpa using h8
   by_cases h9 : op = 9
   ·subst h9
    obtain ⟨⟨y0,y1,y2,y3⟩,z0,z1,z2,z3⟩:=aJ M0.out.r1
    obtain ⟨v0,v1,v2,v3⟩:=dE M0.out.r0
    go_wp2_with (first
     | (
       go_at_call 114
       refine (EC.out _ _ _ _ M2.out).mono ?_
       rintro e w3 ⟨fa,fc,rfl,h3,b3⟩
       have M3:=Lib.hid (M2.out.next b3)
       have H3:=Lib.hid (And.intro h3 b3)
       clear h3 b3 y0 y1 y2 y3 z0 z1 z2 z3 v0 v1 v2 v3 EC
       obtain ⟨⟨y0,y1,y2,y3⟩,z0,z1,z2,z3⟩:=aJ M3.out.r1
       have M4:=Lib.hid (M3.out.set 2 (.slice fa LS.length fc) _ _ _ rfl)
       obtain ⟨⟨q0,q1,q2,q3⟩,-,-,-,-⟩:=aJ M4.out.r1
       obtain ⟨v0,v1,v2,v3⟩:=dE M4.out.r0)
     | (
       go_at_call 69
       refine (FC.out _ _ _ _ M4.out).mono ?_
       rintro e w5 ⟨ka,kc,rfl,h5,b5⟩
       have M5:=Lib.hid (M4.out.next b5)
       have H5:=Lib.hid (And.intro h5 b5)
       clear h5 b5 y0 y1 y2 y3 z0 z1 z2 z3 q0 q1 q2 q3 v0 v1 v2 v3 FC
       obtain ⟨⟨y0,y1,y2,y3⟩,z0,z1,z2,z3⟩:=aJ M5.out.r1
       have M6:=Lib.hid (M5.out.set 3 (.slice ka GS.length kc) _ _ _ rfl)
       obtain ⟨⟨q0,q1,q2,q3⟩,-,-,-,-⟩:=aJ M6.out.r1
       obtain ⟨⟨s0,s1,s2,s3⟩,x0,x1,x2,x3⟩:=aJ M6.out.r2))
    have g:=aC (o:=3) (u:=.slice ka GS.length kc) (aC (o:=2) (u:=.slice fa LS.length fc) (aC (o:=1) (u:=str nm) (aC (o:=0) (u:=.int .u8 9) M6.out.r2)))
    refine bodyPost_ret (fB rfl _ _ (W.heap.size + 1 + 1) _ _ _ _ (0,0) rfl g) rfl ?_
    exact ⟨.agg #[.int .u8 9,str nm,.slice fa LS.length fc,.slice ka GS.length kc],rfl,KEY.out _ _ _ _ _ _ _ _ _ TE.out M2.out H3.out rfl H5.out,(((M6.out.bt.setCell (by simp;omega) _).setCell (by simp;omega) _).setCell (by simp;omega) _).setCell (by simp;omega) _⟩
   ·have t9 : (op == 9) = false:=by simpa using h9
    obtain ⟨⟨y0,y1,y2,y3⟩,z0,z1,z2,z3⟩:=aJ M0.out.r1
    obtain ⟨v0,v1,v2,v3⟩:=dE M0.out.r0
    go_wp2_with (first
     | (
       go_at_call 114
       refine (EC.out _ _ _ _ M2.out).mono ?_
       rintro e w3 ⟨fa,fc,rfl,h3,b3⟩
       have M3:=Lib.hid (M2.out.next b3)
       have H3:=Lib.hid (And.intro h3 b3)
       clear h3 b3 y0 y1 y2 y3 z0 z1 z2 z3 v0 v1 v2 v3 EC
       obtain ⟨⟨y0,y1,y2,y3⟩,z0,z1,z2,z3⟩:=aJ M3.out.r1
       have M4:=Lib.hid (M3.out.set 2 (.slice fa LS.length fc) _ _ _ rfl)
       obtain ⟨⟨q0,q1,q2,q3⟩,-,-,-,-⟩:=aJ M4.out.r1
       obtain ⟨v0,v1,v2,v3⟩:=dE M4.out.r0)
     | (
       go_at_call 69
       refine (FC.out _ _ _ _ M4.out).mono ?_
       rintro e w5 ⟨ka,kc,rfl,h5,b5⟩
       have M5:=Lib.hid (M4.out.next b5)
       have H5:=Lib.hid (And.intro h5 b5)
       clear h5 b5 y0 y1 y2 y3 z0 z1 z2 z3 q0 q1 q2 q3 v0 v1 v2 v3 FC
       obtain ⟨⟨y0,y1,y2,y3⟩,z0,z1,z2,z3⟩:=aJ M5.out.r1
       have M6:=Lib.hid (M5.out.set 3 (.slice ka GS.length kc) _ _ _ rfl)
       obtain ⟨⟨q0,q1,q2,q3⟩,-,-,-,-⟩:=aJ M6.out.r1
       obtain ⟨⟨s0,s1,s2,s3⟩,x0,x1,x2,x3⟩:=aJ M6.out.r2))
    have g:=aC (o:=3) (u:=.slice ka GS.length kc) (aC (o:=2) (u:=.slice fa LS.length fc) (aC (o:=1) (u:=str nm) (aC (o:=0) (u:=.int .u8 op) M6.out.r2)))
    refine bodyPost_ret (fB rfl _ _ (W.heap.size + 1 + 1) _ _ _ _ (0,0) rfl g) rfl ?_
    exact ⟨.agg #[.int .u8 op,str nm,.slice fa LS.length fc,.slice ka GS.length kc],rfl,KEY.out _ _ _ _ _ _ _ _ _ TE.out M2.out H3.out rfl H5.out,(((M6.out.bt.setCell (by simp;omega) _).setCell (by simp;omega) _).setCell (by simp;omega) _).setCell (by simp;omega) _⟩
mutual
theorem zR (sn tn : Bs) (sa : Nat) : ∀ t : Fm,RF ⟨80,sn,sa⟩ tn t
 | .mk op nm ts fs=>rf_step sn tn sa op nm ts fs (yQ sn tn sa fs)
theorem yQ (sn tn : Bs) (sa : Nat) : ∀ ts : List Fm,∀ t ∈ ts,RF ⟨80,sn,sa⟩ tn t
 | [],_,h=>by cases h
 | x :: xs,t,h=>by
  rcases List.mem_cons.1 h with e | e
  ·rw [e];exact zR sn tn sa x
  ·exact yQ sn tn sa xs t e
end
end Go.Proofs.YtppfalbnhnpbnaaGreatDoor
namespace Go.Proofs.YtppfalbnhnpbnaaGreatDoor
open Go Go.RowKit Ly
set_option maxRecDepth 10000
attribute [local go_sem] Oper.semAt_some
def fmV (w : World) (bb off : Nat) : Value:=.agg #[(w.cell? ⟨bb,off,none⟩).getD undef,(w.cell? ⟨bb,off + 1,none⟩).getD undef,(w.cell? ⟨bb,off + 2,none⟩).getD undef,(w.cell? ⟨bb,off + 3,none⟩).getD undef]
def qR : Value → Nat × Nat
 | .agg a=>match (a[3]? : Option Value) with
  | some (Value.slice (some ad) _ _)=>(ad.block,ad.off)
  | _=>(0,0)
 | _=>(0,0)
mutual
def eY (w : World) : Fm → Value → List Value
 | .mk _ _ _ fs,x=>x :: fmsL w fs (qR x).1 (qR x).2
def fmsL (w : World) : List Fm → Nat → Nat → List Value
 | [],_,_=>[]
 | g :: gs,bb,off=>eY w g (fmV w bb off) ++ fmsL w gs bb (off + 4)
end
theorem tM (w : World) (bb : Nat) : ∀ (fs : List Fm) (off j : Nat) {g : Fm},fs[j]? = some g → fmsL w (fs.take (j + 1)) bb off = fmsL w (fs.take j) bb off ++ eY w g (fmV w bb (off + j * 4))
 | [],_,_,_,h=>by simp at h
 | x :: fs,off,0,g,h=>by simp at h;subst h;simp [fmsL]
 | x :: fs,off,j + 1,g,h=>by
  have:=tM w bb fs (off + 4) j (g:=g) (by simpa using h)
  rw [show off + 4 + j * 4 = off + (j + 1) * 4 by omega] at this
  simp only [List.take_succ_cons,fmsL,this,List.append_assoc]
theorem vY (w : World) (bb : Nat) : ∀ (fs : List Fm) (off j : Nat),fmsL w (fs.take j) bb off <+: fmsL w fs bb off
 | [],_,_=>by simp
 | x :: fs,off,0=>by simp [fmsL]
 | x :: fs,off,j + 1=>by
  simp only [List.take_succ_cons,fmsL]
  exact (List.prefix_append_right_inj _).2 (vY w bb fs (off + 4) j)
def qL (m r n : Nat) (J : List Value → World → Prop) (l : List Value) : Prop :=
 ∀ pre x W1,J pre W1 → pre ++ [x] <+: l → YieldAt Fence.wide n Tryz.prog r #[x] W1 fun e W'=>e = .returned (.bool true) ∧ J (pre ++ [x]) W' ∧ bP m W1 W'
def VW (w0 : World) (m r : Nat) (l : List Value) (J : List Value → World → Prop) (f : Fm) : Prop :=
 ∀ (n : Nat) (pre : List Value) (W : World) (x : Value),bH w0 f x → bR w0 W → J pre W → pre ++ eY w0 f x <+: l →
  CallsIn Fence.wide n Tryz.prog 203 #[x,.func (.yield r) #[] #[]] W fun e W'=>e = .returned (.bool true) ∧ J (pre ++ eY w0 f x) W' ∧ bP m W W'
set_option maxHeartbeats 4000000 in
theorem vw_step {w0 : World} {m r B : Nat} {l : List Value} {J : List Value → World → Prop} (hY : ∀ n,qL m r n J l) (hM : ∀ s A X,J s A → eZ B A X → J s X) (op : Int) (nm : Bs) (ts : List Tm) (fs : List Fm) (ih : ∀ f ∈ fs,VW w0 m r l J f) : VW w0 m r l J (.mk op nm ts fs):=by
 intro n pre W x hx0 hk0 hJ hp
 obtain ⟨a,N,c,b,N2,d,rfl,hx,hy⟩ : ∃ a N c b N2 d,x = .agg #[.int .u8 op,str nm,.slice a N c,.slice b N2 d] ∧ bE w0 ts (.slice a N c) ∧ aL w0 fs (.slice b N2 d):=hx0
 have hl:=hy.len
 obtain ⟨bb,off,hbo⟩ : ∃ bb off,qR (.agg #[.int .u8 op,str nm,.slice a N c,.slice b N2 d]) = (bb,off):=⟨_,_,rfl⟩
 have hpl : eY w0 (.mk op nm ts fs) (.agg #[.int .u8 op,str nm,.slice a N c,.slice b N2 d]) = .agg #[.int .u8 op,str nm,.slice a N c,.slice b N2 d] :: fmsL w0 fs bb off:=by rw [eY,hbo]
 rw [hpl] at hp ⊢
 have N1 : N2 ≤ 9223372036854775807:=le63 (Nat.le_trans hl.2.1 hl.2.2)
 obtain ⟨p1,hp1⟩ : ∃ p1,pre ++ [Value.agg #[.int .u8 op,str nm,.slice a N c,.slice b N2 d]] = p1:=⟨_,rfl⟩
 have hp2 : p1 ++ fmsL w0 fs bb off <+: l:=by rw [← hp1,List.append_assoc];exact hp
 have he : pre ++ Value.agg #[.int .u8 op,str nm,.slice a N c,.slice b N2 d] :: fmsL w0 fs bb off = p1 ++ fmsL w0 fs bb off:=by rw [← hp1];simp
 rw [he]
 obtain ⟨W1,hW1⟩ : ∃ W1,W.alloc (.cells #[.int .u8 op,str nm,.slice a N c,.slice b N2 d] 40) = W1:=⟨_,rfl⟩
 have r0 : W1.heap[W.heap.size]? = some (.cells #[.int .u8 op,str nm,.slice a N c,.slice b N2 d] 40 (0,0)):=by rw [← hW1];exact heap_alloc_new W _
 have J1 : J pre W1:=by rw [← hW1];exact hM _ _ _ hJ (eQ B W _)
 have R1 : Hid (bP m W W1):=by rw [← hW1];exact cO m W _
 obtain ⟨fn,tmps,assign,body,hyd,hR⟩:=hY (n - 1) pre _ W1 J1 (show pre ++ [Value.agg #[.int .u8 op,str nm,.slice a N c,.slice b N2 d]] <+: l from by rw [hp1];exact List.IsPrefix.trans (List.prefix_append _ _) hp2)
 rw [hp1] at hR
 have HR:=Lib.hid hR
 have L2:=Lib.hid hl.1
 have HY:=Lib.hid hy
 have HP:=Lib.hid hp2
 have HM:=Lib.hid hM
 have IH:=Lib.hid ih
 have HK0:=Lib.hid hk0
 have HBO : Hid (∀ bb' off',b = some ⟨bb',off',none⟩ → bb = bb' ∧ off = off'):=fun bb' off' e=>by
  subst e
  simp [qR] at hbo
  exact ⟨hbo.1.symm,hbo.2.symm⟩
 have R0:=Lib.hid r0
 obtain ⟨⟨y0,y1,y2,y3⟩,-⟩:=aJ r0
 clear hl hx hy hp hM ih hJ hp1 hY hbo hpl hp2 he r0 J1 hR hk0
 refine callsIn_of_wp Tryz.func203 rfl trivial ?_ rfl
 simp only [Tryz.ntmps203,List.size_toArray,List.length_cons,List.length_nil,Nat.reduceAdd,Nat.reduceSub,Array.replicate_succ,Array.replicate_zero,List.push_toArray,List.append_toArray,List.nil_append,List.cons_append]
 gi_wp2
 refine ⟨fun h=>absurd h (by decide),HR.out.mono ?_⟩
 rintro e W3 ⟨rfl,hj3,hk3⟩
 have J3 : Hid (J p1 W3 ∧ bP m W W3):=⟨hj3,R1.out.trans hk3⟩
 have R3 : Hid (W3.heap[W.heap.size]? = some (.cells #[.int .u8 op,str nm,.slice a N c,.slice b N2 d] 40 (0,0))):=hk3.keeps R0.out
 clear hj3 hk3 y0 y1 y2 y3 hyd HR hW1
 obtain ⟨⟨y0,y1,y2,y3⟩,-⟩:=aJ R3.out
 gi_wp2
 gi_loopw [14] (fun i wr=>∃ j : Nat,j ≤ N2 ∧ i = .int .i64 j ∧ Hid (J (p1 ++ fmsL w0 (fs.take j) bb off) wr ∧ bP m W wr)) (fun i _=>N2 - (intOf i).toNat)
 case atStart=>exact ⟨0,Nat.zero_le _,rfl,by simpa [fmsL] using J3.out.1,J3.out.2⟩
 case round =>
  obtain ⟨j,hj,rfl,hs⟩:=hrel
  clear J3
  by_cases hlt : j < N2
  ·obtain ⟨T,hT⟩:=aX (l:=fs) (j:=j) (by rw [← L2.out];exact hlt)
   obtain ⟨gb,go,rfl,hc⟩:=HY.out.get (aZ hT)
   obtain ⟨x0,x1,x2,x3,x4,x5,hx⟩:=hc j _ hT
   obtain ⟨rfl,rfl⟩:=HBO.out _ _ rfl
   have hK : bR w0 wr:=HK0.out.trans (bP.cells hs.out.2)
   have c0:=hK _ _ hx.c0;have c1:=hK _ _ hx.c1;have c2:=hK _ _ hx.c2;have c3:=hK _ _ hx.c3
   have HT:=Lib.hid (List.mem_of_getElem? hT)
   have fv : fmV w0 bb (off + j * 4) = .agg #[.int .u8 T.op,str T.name,.slice x0 x1 x2,.slice x3 x4 x5]:=by simp [fmV,hx.c0,hx.c1,hx.c2,hx.c3]
   have TE:=tM w0 bb fs off j hT
   rw [fv] at TE
   have TE:=Lib.hid TE
   have IC : Hid (∀ n o,CallsIn Fence.wide n Tryz.prog 203 #[.agg #[.int .u8 T.op,str T.name,.slice x0 x1 x2,.slice x3 x4 x5],.func (.yield r) #[] #[]] (wr.alloc o) fun e W'=>e = .returned (.bool true) ∧ J (p1 ++ fmsL w0 (fs.take (j + 1)) bb off) W' ∧ bP m (wr.alloc o) W'):=fun n o=>by
    have kk : bP m W (wr.alloc o):=hs.out.2.trans (cO m wr o)
    have:=IH.out T HT.out n (p1 ++ fmsL w0 (fs.take j) bb off) (wr.alloc o) (.agg #[.int .u8 T.op,str T.name,.slice x0 x1 x2,.slice x3 x4 x5]) ⟨_,_,_,_,_,_,rfl,hx.at_,hx.at'⟩ (HK0.out.trans (bP.cells kk)) (HM.out _ _ _ hs.out.1 (eQ B wr o)) (by
     rw [List.append_assoc,← TE.out]
     exact List.IsPrefix.trans ((List.prefix_append_right_inj _).2 (vY w0 bb fs off (j + 1))) HP.out)
    rw [TE.out,← List.append_assoc]
    exact this
   clear hc hx hT hK fv
   gi_wp2_with (refine ⟨trivial,fun h=>absurd h (by decide), ?_⟩;gi_at_call 203;refine (IC.out _ _).mono ?_;rintro e W4 ⟨rfl,hj4,hr4⟩;have J4:=Lib.hid hj4;have R4:=Lib.hid hr4;clear hj4 hr4)
   go_roundw
   case rel=>exact ⟨j + 1,by omega,by go_num,J4.out,hs.out.2.trans ((cO m wr _).trans R4.out)⟩
   case measure=>simp [intOf];omega
  ·have e : fs.take j = fs:=List.take_of_length_le (by rw [← L2.out];omega)
   gi_wp2
   go_ret
   exact ⟨rfl,by have:=hs.out.1;rw [e] at this;exact this,hs.out.2⟩
mutual
theorem zX {w0 : World} {m r B : Nat} {l : List Value} {J : List Value → World → Prop} (hY : ∀ n,qL m r n J l) (hM : ∀ s A X,J s A → eZ B A X → J s X) : ∀ f : Fm,VW w0 m r l J f
 | .mk op nm ts fs=>vw_step hY hM op nm ts fs (yV hY hM fs)
theorem yV {w0 : World} {m r B : Nat} {l : List Value} {J : List Value → World → Prop} (hY : ∀ n,qL m r n J l) (hM : ∀ s A X,J s A → eZ B A X → J s X) : ∀ fs : List Fm,∀ f ∈ fs,VW w0 m r l J f
 | [],_,h=>by cases h
 | x :: xs,f,h=>by
  rcases List.mem_cons.1 h with e | e
  ·rw [e];exact zX hY hM x
  ·exact yV hY hM xs f e
end
theorem zZ (f a b c : Value) (w : World) : Calls Tryz.prog 161 #[.agg #[f,a,b,c]] w fun e w'=>e = .returned (.func (.func 202) #[] #[one w.heap.size]) ∧ w' = w.alloc (.cells #[f,a,b,c] 40):=by
 go_enter Tryz.func161,Tryz.ntmps161
 go_wp2
 go_ret
 exact ⟨rfl,rfl⟩
set_option maxHeartbeats 2000000 in
theorem wW (n : Nat) (f : Fm) (x0 x1 x2 x3 : Value) (m cf : Nat) (w0 : World) (hf : w0.heap[cf]? = some (.cells #[x0,x1,x2,x3] 40 (0,0))) (hx : bH w0 f (.agg #[x0,x1,x2,x3])) :
  oM Fence.wide n Tryz.prog 202 #[one cf] id m (eY w0 f (.agg #[x0,x1,x2,x3])) w0:=by
 intro r J W hW hJ hY h0
 have hF:=(hW.block cf (Array.getElem?_eq_some_iff.1 hf).1).trans hf
 obtain ⟨⟨y0,y1,y2,y3⟩,-⟩:=aJ hF
 have hYs : ∀ n',qL m r n' J (eY w0 f (.agg #[x0,x1,x2,x3])):=fun n' pre x W1 h1 h2=>uO n' (hY pre x W1 h1 h2)
 have V:=zX (w0:=w0) (m:=m) (r:=r) (B:=W.heap.size) (l:=eY w0 f (.agg #[x0,x1,x2,x3])) (J:=J) hYs hJ f
 have VV : Hid (∀ n,CallsIn Fence.wide n Tryz.prog 203 #[.agg #[x0,x1,x2,x3],.func (.yield r) #[] #[]] W fun e W'=>e = .returned (.bool true) ∧ J (eY w0 f (.agg #[x0,x1,x2,x3])) W'):=fun n=>(V n [] _ _ hx (aA hW) h0 (by simp)).mono fun e W' h=>⟨h.1,by simpa using h.2.1⟩
 clear V hYs hF hx hf hJ hY
 refine callsIn_of_wp Tryz.func202 rfl trivial ?_ rfl
 simp only [Tryz.ntmps202,List.size_toArray,List.length_cons,List.length_nil,Nat.reduceAdd,Nat.reduceSub,Array.replicate_succ,Array.replicate_zero,List.push_toArray,List.append_toArray,List.nil_append,List.cons_append]
 gi_wp2_with (refine ⟨trivial,fun h=>absurd h (by decide), ?_⟩;gi_at_call 203;refine (VV.out _).mono ?_;rintro e w2 ⟨rfl,hj⟩;have HJ:=Lib.hid hj;clear hj)
 go_end0
 exact ⟨⟨_,rfl⟩,HJ.out⟩
end Go.Proofs.YtppfalbnhnpbnaaGreatDoor
namespace Go.Proofs.YtppfalbnhnpbnaaGreatDoor
open Go Go.RowKit Ly
set_option maxRecDepth 10000
attribute [local go_sem] Oper.semAt_some
def encX (s : Bs × Nat) : Value:=.agg #[str s.1,.int .i64 s.2]
def okX (s : Bs × Nat) : Prop:=s.1.length ≤ maxLen ∧ s.2 ≤ 1000000
def litX (s : Bs × Nat) : Lit:=.string (keyBytes [.string s.1,.int .i64 s.2])
theorem keyOfX (s : Bs × Nat) (h : okX s) : keyOf Tryz.prog 51 (encX s) = some (litX s):=by
 obtain ⟨D,hD⟩:=zV
 have hl:=zL (D + 1) s.1 s.2 h.1 (zI h.2)
 have hf : (encX s).formed Tryz.prog 51 = true:=by simp [encX,Value.formed,Tryz.underlying51,uS]
 have hk : Tryz.prog.keyType 51 = true:=by kernel_rfl
 unfold keyOf
 rw [Tryz.underlying51]
 simp only [hk,hf,Bool.and_self,if_true,hD]
 show Option.map _ (Tryz.prog.keyLits (D + 3) 51 [str s.1,.int .i64 s.2]) = _
 rw [hl]
 rfl
theorem encX_inj (s t : Bs × Nat) (h : encX s = encX t) : s = t:=by
 obtain ⟨a,b⟩:=s
 obtain ⟨a',b'⟩:=t
 simp only [encX,Value.agg.injEq,Array.mk.injEq,List.cons.injEq,and_true] at h
 obtain ⟨h1,h2⟩:=h
 have e1:=qQ h1
 simp only [Value.int.injEq,true_and] at h2
 have e2 : b = b':=by omega
 subst e1 e2
 rfl
theorem keyX : KeyG Tryz.prog 51 encX okX litX:=⟨Maps.Keyed.of_law law51,keyOfX,encX_inj⟩
theorem xD : Tryz.prog.underlying 186 = some (.map 51 4):=by kernel_rfl
def fC (w : World) (M n : Nat) (l : List (Bs × Nat)) : Prop:=MapG Tryz.prog 51 okX litX (.bool false) w M n (fun s=>decide (s ∈ l)) (fun s=>.bool (decide (s ∈ l)))
theorem fC.heap {w w' : World} {M n : Nat} {l : List (Bs × Nat)} (h : fC w M n l) (e : w'.heap[M]? = w.heap[M]?) : fC w' M n l:=MapG.heap h e
theorem fC.lt {w : World} {M n : Nat} {l : List (Bs × Nat)} (h : fC w M n l) : M < w.heap.size:=MapG.lt h
theorem fC.put {w : World} {M n : Nat} {l : List (Bs × Nat)} {x : Bs × Nat} (h : MapG Tryz.prog 51 okX litX (.bool false) w M n (fun u=>if u = x then true else decide (u ∈ l)) (fun u=>if u = x then .bool true else .bool (decide (u ∈ l)))) : fC w M n (l ++ [x]):=by
 refine h.cong (fun s hs=>?_) (fun s hs=>?_)
 ·by_cases e : s = x <;> simp [e]
 ·by_cases e : s = x <;> simp [e]
theorem fC.made (w : World) : fC (w.alloc (.map #[] 0)) w.heap.size 0 []:=(MapG.made (P:=Tryz.prog) (k:=51) (ok:=okX) (lit:=litX) (z:=.bool false) w).cong (fun _ _=>by simp) (fun _ _=>by simp)
def iC : Value → List (Bs × Nat)
 | .agg a=>match (a[0]? : Option Value),(a[1]? : Option Value),(a[2]? : Option Value) with
  | some (Value.int _ op),some (Value.string s),some (Value.slice _ n _)=>if op = 1 then [(s.data.toList,n)] else []
  | _,_,_=>[]
 | _=>[]
theorem sU (op : Int) (nm : Bs) (a : Option Addr) (n c : Nat) (v : Value) : iC (.agg #[.int .u8 op,str nm,.slice a n c,v]) = if op = 1 then [(nm,n)] else []:=by
 simp [iC]
def zE (x : Value) : Prop:=∃ (op : Int) (nm : Bs) (a : Option Addr) (n c : Nat) (b : Option Addr) (m d : Nat),x = .agg #[.int .u8 op,str nm,.slice a n c,.slice b m d] ∧ (op = 1 → nm.length ≤ maxLen ∧ n ≤ 1000000) ∧ n ≤ maxLen
mutual
theorem oH {w : World} : ∀ (f : Fm) (x : Value),bH w f x → (eY w f x).flatMap iC = f.preds
 | .mk op nm ts fs,x,h=>by
  obtain ⟨a,n,c,b,m,d,rfl,hx,hy⟩ : ∃ a N c b N2 d,x = .agg #[.int .u8 op,str nm,.slice a N c,.slice b N2 d] ∧ bE w ts (.slice a N c) ∧ aL w fs (.slice b N2 d):=h
  rw [eY,List.flatMap_cons,sU,Fm.preds,hx.len.1]
  congr 1
  cases fs with
  | nil=>simp [fmsL,cD]
  | cons g gs =>
   obtain ⟨bb,off,rfl,hc⟩:=hy.get (by simp)
   exact rN (g :: gs) bb off hc
theorem rN {w : World} : ∀ (fs : List Fm) (bb off : Nat),(∀ (i : Nat) (f : Fm),fs[i]? = some f → ∃ x k e y m d,nN w bb (off + i * 4) f x k e y m d) → (fmsL w fs bb off).flatMap iC = cD fs
 | [],_,_,_=>rfl
 | g :: gs,bb,off,h=>by
  obtain ⟨x,k,e,y,m,d,hc⟩:=h 0 g rfl
  rw [fmsL,List.flatMap_append,cD]
  have fv : fmV w bb off = .agg #[.int .u8 g.op,str g.name,.slice x k e,.slice y m d]:=by
   have:=hc.c0;have:=hc.c1;have:=hc.c2;have:=hc.c3
   simp_all [fmV]
  rw [oH g _ (by rw [fv];exact ⟨_,_,_,_,_,_,rfl,hc.at_,hc.at'⟩),rN gs bb (off + 4) (fun i f hf=>by
   have:=h (i + 1) f (by simpa using hf)
   rwa [show off + 4 + i * 4 = off + (i + 1) * 4 by omega])]
end
mutual
theorem qB {w : World} : ∀ (f : Fm) (x : Value),bH w f x → f.ok = true → ∀ y ∈ eY w f x,zE y
 | .mk op nm ts fs,x,h,ho,y,hy'=>by
  obtain ⟨a,n,c,b,m,d,rfl,hx,hy⟩ : ∃ a N c b N2 d,x = .agg #[.int .u8 op,str nm,.slice a N c,.slice b N2 d] ∧ bE w ts (.slice a N c) ∧ aL w fs (.slice b N2 d):=h
  rw [eY] at hy'
  unfold Fm.ok at ho
  simp only [Bool.and_eq_true] at ho
  rcases List.mem_cons.1 hy' with rfl | hy'
  ·refine ⟨op,nm,a,n,c,b,m,d,rfl,fun e=>?_,Nat.le_trans hx.len.2.1 hx.len.2.2⟩
   have:=ho.1.1.2
   rw [if_pos e,Bool.and_eq_true,decide_eq_true_eq] at this
   have h1:=dJ this.1
   have h2:=hx.len.1
   exact ⟨by unfold maxLen;omega,by omega⟩
  ·cases fs with
   | nil=>simp [fmsL] at hy'
   | cons g gs =>
    obtain ⟨bb,off,rfl,hc⟩:=hy.get (by simp)
    exact tL (g :: gs) bb off hc ho.2 y hy'
theorem tL {w : World} : ∀ (fs : List Fm) (bb off : Nat),(∀ (i : Nat) (f : Fm),fs[i]? = some f → ∃ x k e y m d,nN w bb (off + i * 4) f x k e y m d) → bU fs = true → ∀ y ∈ fmsL w fs bb off,zE y
 | [],_,_,_,_,y,hy=>by simp [fmsL] at hy
 | g :: gs,bb,off,h,ho,y,hy'=>by
  obtain ⟨x,k,e,z,m,d,hc⟩:=h 0 g rfl
  rw [bU,Bool.and_eq_true] at ho
  rw [fmsL] at hy'
  have fv : fmV w bb off = .agg #[.int .u8 g.op,str g.name,.slice x k e,.slice z m d]:=by
   have:=hc.c0;have:=hc.c1;have:=hc.c2;have:=hc.c3
   simp_all [fmV]
  rcases List.mem_append.1 hy' with hy' | hy'
  ·exact qB g _ (by rw [fv];exact ⟨_,_,_,_,_,_,rfl,hc.at_,hc.at'⟩) ho.1 y hy'
  ·exact tL gs bb (off + 4) (fun i f hf=>by
    have:=h (i + 1) f (by simpa using hf)
    rwa [show off + 4 + i * 4 = off + (i + 1) * 4 by omega]) ho.2 y hy'
end
mutual
theorem wL : ∀ f : Fm,f.ok = true → ∀ s ∈ f.preds,okX s
 | .mk op nm ts fs,h,s,hs=>by
  unfold Fm.ok at h
  simp only [Bool.and_eq_true] at h
  rw [Fm.preds] at hs
  rcases List.mem_append.1 hs with hs | hs
  ·split at hs
   ·next e =>
    simp at hs
    subst hs
    have:=h.1.1.2
    rw [if_pos e,Bool.and_eq_true,decide_eq_true_eq] at this
    have h1:=dJ this.1
    have h2:=this.2
    exact ⟨by show nm.length ≤ maxLen;unfold maxLen;omega,by show ts.length ≤ _;omega⟩
   ·simp at hs
  ·exact pX fs h.2 s hs
theorem pX : ∀ fs : List Fm,bU fs = true → ∀ s ∈ cD fs,okX s
 | [],_,s,hs=>by simp [cD] at hs
 | f :: fs,h,s,hs=>by
  rw [bU,Bool.and_eq_true] at h
  rw [cD] at hs
  rcases List.mem_append.1 hs with hs | hs
  ·exact wL f h.1 s hs
  ·exact pX fs h.2 s hs
end
mutual
theorem uC : ∀ f : Fm,f.preds.length ≤ f.nodes
 | .mk op nm ts fs=>by
  have:=nY fs
  rw [Fm.preds,Fm.nodes,List.length_append]
  split <;> simp <;> omega
theorem nY : ∀ fs : List Fm,(cD fs).length ≤ aG fs
 | []=>by simp [cD]
 | f :: fs=>by
  have:=uC f
  have:=nY fs
  simp [cD,aG];omega
end
end Go.Proofs.YtppfalbnhnpbnaaGreatDoor
namespace Go.Proofs.YtppfalbnhnpbnaaGreatDoor
open Go Go.RowKit Ly
set_option maxRecDepth 10000
attribute [local go_sem] Oper.semAt_some
def qD (l : List (Bs × Nat)) : List D:=l.flatMap (fun s=>[.val (str s.1),.val (.int .i64 s.2)])
def eM (w : World) (l : List (Bs × Nat)) (v : Value) : Prop:=At w (.sl 2 l.length (qD l)) v
def iS : Prop:=∀ (W : World) (M n : Nat) (l : List (Bs × Nat)),fC W M n l → n ≤ 100000 → (∀ s ∈ l,okX s) →
 Calls Tryz.prog 162 #[.map (some M)] W fun e w'=>∃ L v,e = .returned v ∧ (∀ s,s ∈ L ↔ s ∈ l) ∧ eM w' L v ∧ Below W.heap.size W w' ∧ L.length ≤ 100000
structure AF (w : World) (m : Nat) (pre : List Value) (W : World) : Prop where
 set : fC W m (pre.flatMap iC).length (pre.flatMap iC)
 cell : W.heap[m + 1]? = some (.cells #[.map (some m)] 186 (0,0))
 below : Below w.heap.size w W
set_option maxHeartbeats 4000000 in
theorem Predicates_c (hS : iS) (f : Fm) (x : Value) (w : World) (hx0 : bH w f x) (hok : f.ok = true) (hn : f.nodes ≤ 100000) :
  Calls Tryz.prog 108 #[x] w fun e w'=>∃ L v,e = .returned v ∧ (∀ s,s ∈ L ↔ s ∈ f.preds) ∧ eM w' L v ∧ Below w.heap.size w w' ∧ L.length ≤ 100000:=by
 obtain ⟨a,n,c,b,m',d,rfl,hx,hy⟩:=hx0
 obtain ⟨W0,hW0⟩ : ∃ W0,((w.alloc (.cells #[.int .u8 f.op,str f.name,.slice a n c,.slice b m' d] 40)).alloc (.map #[] 0)).alloc (.cells #[.map (some (w.heap.size + 1))] 186) = W0:=⟨_,rfl⟩
 obtain ⟨W1,hW1⟩ : ∃ W1,W0.alloc (.cells #[.int .u8 f.op,str f.name,.slice a n c,.slice b m' d] 40) = W1:=⟨_,rfl⟩
 have b0 : Below w.heap.size w W0:=by rw [← hW0];exact (((Below.refl _ _).alloc (Nat.le_refl _) _).alloc (by simp) _).alloc (by simp;omega) _
 have s0 : W0.heap.size = w.heap.size + 3:=by rw [← hW0];simp
 have b1 : Below w.heap.size w W1:=by rw [← hW1];exact b0.alloc (by omega) _
 have s1 : W1.heap.size = w.heap.size + 4:=by rw [← hW1];simp [s0]
 have r0 : W0.heap[w.heap.size]? = some (.cells #[.int .u8 f.op,str f.name,.slice a n c,.slice b m' d] 40 (0,0)):=by rw [← hW0];exact aI _ (aI _ (heap_alloc_new w _))
 have g1 : W1.heap[W0.heap.size]? = some (.cells #[.int .u8 f.op,str f.name,.slice a n c,.slice b m' d] 40 (0,0)):=by rw [← hW1];exact heap_alloc_new W0 _
 have I0 : AF w (w.heap.size + 1) [] W1:=by
  refine ⟨?_, ?_,b1⟩
  ·have e : W1.heap[w.heap.size + 1]? = ((w.alloc (.cells #[.int .u8 f.op,str f.name,.slice a n c,.slice b m' d] 40)).alloc (.map #[] 0)).heap[w.heap.size + 1]?:=by
    rw [← hW1,Below.heap_alloc _ _ _ (by omega),← hW0,Below.heap_alloc _ _ _ (by simp)]
   have:=fC.made (w.alloc (.cells #[.int .u8 f.op,str f.name,.slice a n c,.slice b m' d] 40))
   rw [World.size_alloc] at this
   exact this.heap e
  ·rw [← hW1]
   refine aI _ ?_
   rw [← hW0]
   have:=heap_alloc_new ((w.alloc (.cells #[.int .u8 f.op,str f.name,.slice a n c,.slice b m' d] 40)).alloc (.map #[] 0)) (.cells #[.map (some (w.heap.size + 1))] 186)
   rw [World.size_alloc,World.size_alloc] at this
   exact this
 have K1:=aA b1
 have fv1 : bH W1 f (.agg #[.int .u8 f.op,str f.name,.slice a n c,.slice b m' d]):=⟨_,_,_,_,_,_,rfl,hx.keep K1,hy.keep K1⟩
 obtain ⟨l,hl⟩ : ∃ l,eY W1 f (.agg #[.int .u8 f.op,str f.name,.slice a n c,.slice b m' d]) = l:=⟨_,rfl⟩
 have FS : ∀ n',oM Fence.wide n' Tryz.prog 202 #[one W0.heap.size] id (w.heap.size + 1) l W1:=fun n'=>by
  rw [← hl];exact wW n' f _ _ _ _ (w.heap.size + 1) W0.heap.size W1 g1 fv1
 have HF : Hid (∀ y ∈ l,zE y):=by rw [← hl];exact qB f _ fv1 hok
 have HPR : Hid (l.flatMap iC = f.preds):=by rw [← hl];exact oH f _ fv1
 have HLN : Hid (f.preds.length ≤ 100000):=by have:=uC f;show _ ≤ _;omega
 have HOK : Hid (∀ s ∈ f.preds,okX s):=fun s hs=>wL f hok s hs
 have HS:=Lib.hid hS
 have S1:=Lib.hid s1
 have S0:=Lib.hid s0
 obtain ⟨⟨y0,y1,y2,y3⟩,-⟩:=aJ r0
 clear hx hy hok hn hS K1 fv1 hl b0 b1 r0 g1 s0 s1
 refine (callsIn_wide (n:=6)).1 ?_
 refine callsIn_of_wp_marks Tryz.func108 rfl trivial ?_ rfl
 have hmm:=@run_makeMap Tryz.prog
 simp only [Tryz.ntmps108,List.size_toArray,List.length_cons,List.length_nil,Nat.reduceAdd,Nat.reduceSub,Array.replicate_succ,Array.replicate_zero,List.push_toArray,List.append_toArray,List.nil_append,List.cons_append]
 gi_wp2_with (refine ⟨trivial, ?_⟩;gi_at_call 161;refine callsIn_wide.2 ((zZ _ _ _ _ _).mono ?_);rintro e w2 ⟨rfl,rfl⟩)
 clear hW1 hW0 hmm y0 y1 y2 y3
 refine lX (w0:=W1) (a:=⟨#[.agg #[.int .u8 f.op,str f.name,.slice a n c,.slice b m' d],one w.heap.size,.slice none 0 0,one (w.heap.size + 1 + 1),undef,.map (some (w.heap.size + 1)),.agg #[.int .u8 f.op,str f.name,.slice a n c,.slice b m' d],.func (.func 202) #[] #[one W0.heap.size],undef,undef,undef,undef,undef,undef,undef,undef,undef,undef,undef,undef,undef],[]⟩) rfl (by decide) (gf:=202) (lb:=#[one W0.heap.size]) rfl trivial (enters_of Tryz.func202 (by kernel_rfl) rfl) (by have:=S1.out;omega) (FS 5) (Below.refl _ _) rfl
  (AF w (w.heap.size + 1)) (fun s A X h hA hb=>⟨h.set.heap (hb.block _ (by have:=S1.out;omega)),(hb.block _ (by have:=S1.out;omega)).trans h.cell,h.below.trans (hb.mono (by have:=S1.out;omega))⟩) I0
  (fun x ac W=>∃ (op : Int) (nm : Bs) (xa : Option Addr) (xn xc : Nat) (xb : Option Addr) (xm xd g : Nat),x = .agg #[.int .u8 op,str nm,.slice xa xn xc,.slice xb xm xd] ∧ (op = 1 → nm.length ≤ maxLen ∧ xn ≤ 1000000) ∧ xn ≤ maxLen ∧ W.heap[g]? = some (.cells #[.int .u8 op,str nm,.slice xa xn xc,.slice xb xm xd] 40 (0,0)) ∧
   ac = ⟨#[.agg #[.int .u8 f.op,str f.name,.slice a n c,.slice b m' d],one w.heap.size,.slice none 0 0,one (w.heap.size + 1 + 1),one g,.map (some (w.heap.size + 1)),.agg #[.int .u8 f.op,str f.name,.slice a n c,.slice b m' d],.func (.func 202) #[] #[one W0.heap.size],.agg #[.int .u8 op,str nm,.slice xa xn xc,.slice xb xm xd],undef,undef,undef,undef,undef,undef,undef,undef,undef,undef,undef,undef],[]⟩)
  (fun x ac A X h hk=>by
   obtain ⟨op,nm,xa,xn,xc,xb,xm,xd,g,h1,h2,h2',h3,h4⟩:=h
   exact ⟨op,nm,xa,xn,xc,xb,xm,xd,g,h1,h2,h2',hk _ _ h3 rfl,h4⟩) ?assign ?body ?done
 case assign =>
  intro r pre x W K hsz hi hp hK
  obtain ⟨op,nm,xa,xn,xc,xb,xm,xd,rfl,h2,h3⟩:=HF.out x (hp.subset (by simp))
  gi_wp2
  refine hK _ _ (dA.of_below ((Below.refl _ _).alloc (Nat.le_refl _) _)) ?_ ⟨op,nm,xa,xn,xc,xb,xm,xd,W.heap.size,rfl,h2,h3,heap_alloc_new W _,rfl⟩
  have bb : Below W.heap.size W (W.alloc (.cells #[.int .u8 op,str nm,.slice xa xn xc,.slice xb xm xd] 40)):=(Below.refl _ _).alloc (Nat.le_refl _) _
  exact ⟨hi.set.heap (bb.block _ hi.set.lt),(bb.block _ (Array.getElem?_eq_some_iff.1 hi.cell).1).trans hi.cell,hi.below.trans (bb.mono hi.below.size)⟩
 case body =>
  rintro r pre x W ac hsz hi ⟨op,nm,xa,xn,xc,xb,xm,xd,g,rfl,h2,h2',hg,rfl⟩ hp
  obtain ⟨y0,-⟩:=row1 hi.cell
  obtain ⟨⟨z0,z1,z2,z3⟩,-⟩:=aJ hg
  have HI:=Lib.hid hi
  have HP:=Lib.hid hp
  have H2:=Lib.hid h2
  have N1 : xn ≤ 9223372036854775807:=le63 h2'
  have TP:=sU op nm xa xn xc (.slice xb xm xd)
  clear hi hg hp h2 h2'
  by_cases hop : op = 1
  ·subst hop
   rw [if_pos rfl] at TP
   have TPH:=Lib.hid TP
   clear TP
   have hlen : Hid ((pre.flatMap iC).length < maxLen):=by
    have h1 : (pre.flatMap iC).length ≤ f.preds.length:=by
     rw [← HPR.out]
     obtain ⟨t,ht⟩:=HP.out
     rw [← ht]
     simp only [List.flatMap_append,List.length_append]
     omega
    have:=HLN.out
    show _ < _;unfold maxLen;omega
   gi_wp2_with (gi_at_mapUpdate;refine fQ rfl _ _ _ 186 rfl 4 keyX xD rfl HI.out.set hlen.out (nm,xn) (H2.out rfl) rfl ?_;intro w1 hm1 hg1)
   have ht : dA (w.heap.size + 1) W w1:=dA.of_grownBy hg1 (MapG.isMap HI.out.set)
   refine ⟨ht, ?_, ?_, ?_⟩
   ·rw [List.flatMap_append,List.flatMap_cons,List.flatMap_nil,List.append_nil,TPH.out,List.length_append]
    exact fC.put hm1
   ·exact ht.block _ _ HI.out.cell (.inr rfl)
   ·exact HI.out.below.trans ⟨ht.os,ht.tape,ht.output,ht.size,fun i hi=>hg1.block i (by have:=HI.out.below.size;omega) (fun e=>by cases e;omega)⟩
  ·rw [if_neg hop] at TP
   have TPH:=Lib.hid TP
   have hop2 : (op == 1) = false:=by simpa using hop
   clear TP
   gi_wp2
   refine ⟨dA.refl _ _, ?_,HI.out.cell,HI.out.below⟩
   rw [List.flatMap_append,List.flatMap_cons,List.flatMap_nil,List.append_nil,TPH.out,List.append_nil]
   exact HI.out.set
 case done =>
  intro D W hD hi hK
  obtain ⟨y0,-⟩:=row1 hi.cell
  have hi2:=hi.set
  rw [HPR.out] at hi2
  have SC : Hid (Calls Tryz.prog 162 #[.map (some (w.heap.size + 1))] W fun e w'=>∃ L v,e = .returned v ∧ (∀ s,s ∈ L ↔ s ∈ f.preds) ∧ eM w' L v ∧ Below W.heap.size W w' ∧ L.length ≤ 100000):=HS.out W _ _ f.preds hi2 HLN.out (HOK.out)
  have HK:=Lib.hid hK
  have HI:=Lib.hid hi.below
  clear hi hi2 hK
  gi_wp2_with (refine ⟨trivial, ?_⟩;gi_at_call 162;refine callsIn_wide.2 (SC.out.mono ?_);rintro e w5 ⟨L,v,rfl,hL,hv,b5,hll⟩;have H5:=Lib.hid (And.intro hL (And.intro hv b5));have HLL:=Lib.hid hll;clear hL hv b5 hll SC)
  have hK5 : w5.heap[D]? = some (.deferred (some [])):=(H5.out.2.2.block D (Array.getElem?_eq_some_iff.1 HK.out).1).trans HK.out
  refine ⟨by simp,.inl ⟨_,_,rfl,run_takeDeferred hK5, ?_⟩⟩
  refine ⟨_,results_tmp rfl _ _ _,L,v,rfl,H5.out.1,At.keep (bP.cells (m:=0) (bP.put _ hK5 rfl)) _ _ H5.out.2.1, ?_,HLL.out⟩
  exact (HI.out.trans (H5.out.2.2.mono HI.out.size)).trans (gM _ (by have:=S1.out;omega))
end Go.Proofs.YtppfalbnhnpbnaaGreatDoor
