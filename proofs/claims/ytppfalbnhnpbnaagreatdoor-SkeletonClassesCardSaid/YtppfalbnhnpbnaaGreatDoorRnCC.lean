/- renaming.form at a formula, where a predicate gets another name. Conditions: those of each statement. -/
import Derived.Test.YtppfalbnhnpbnaaGreatDoorEaEC
import Derived.Test.YtppfalbnhnpbnaaGreatDoorNtCC
set_option linter.unusedSimpArgs false
set_option linter.unusedVariables false
namespace Go.Proofs.YtppfalbnhnpbnaaGreatDoor
open Go Go.RowKit Ly
set_option maxRecDepth 10000
structure MidF (W : World) (rv : Array Value) (op : Int) (nm : Bs) (sl sm : Value) (X : World) : Prop where
 bt : Below W.heap.size W X
 r0 : X.heap[W.heap.size]? = some (.cells rv 107 (0,0))
 r1 : X.heap[W.heap.size + 1]? = some (.cells #[.int .u8 op,str nm,sl,sm] 40 (0,0))
 r2 : X.heap[W.heap.size + 1 + 1]? = some (.cells #[.int .u8 0,str [],.slice none 0 0,.slice none 0 0] 40 (0,0))
section
variable {W : World} {rv : Array Value} {op : Int} {nm : Bs} {sl sm : Value} {X Y : World}
theorem MidF.next (h : MidF W rv op nm sl sm X) (b : Below X.heap.size X Y) : MidF W rv op nm sl sm Y :=
 ⟨h.bt.trans (b.mono h.bt.size),(b.block _ (Array.getElem?_eq_some_iff.1 h.r0).1).trans h.r0,(b.block _ (Array.getElem?_eq_some_iff.1 h.r1).1).trans h.r1,(b.block _ (Array.getElem?_eq_some_iff.1 h.r2).1).trans h.r2⟩
theorem MidF.set (h : MidF W rv op nm sl sm X) (o : Nat) (u : Value) (nm' : Bs) (sl' sm' : Value) (e : (#[.int .u8 op,str nm,sl,sm] : Array Value).setIfInBounds o u = #[.int .u8 op,str nm',sl',sm']) : MidF W rv op nm' sl' sm' (X.setCell ⟨W.heap.size + 1,o,none⟩ u) :=
 ⟨h.bt.setCell (by simp) _,(Below.heap_setCell _ _ _ _ (by show W.heap.size ≠ W.heap.size + 1;omega)).trans h.r0,by rw [aC h.r1,e],(Below.heap_setCell _ _ _ _ (by show W.heap.size + 1 + 1 ≠ W.heap.size + 1;omega)).trans h.r2⟩
end
theorem midF_new (W : World) (rv : Array Value) (op : Int) (nm : Bs) (sl sm : Value) : MidF W rv op nm sl sm (((W.alloc (.cells rv 107)).alloc (.cells #[.int .u8 op,str nm,sl,sm] 40)).alloc (.cells #[.int .u8 0,str [],.slice none 0 0,.slice none 0 0] 40)):=by
 refine ⟨(((Below.refl _ _).alloc (Nat.le_refl _) _).alloc (by simp) _).alloc (by simp;omega) _, ?_, ?_, ?_⟩
 ·exact aI _ (aI _ (heap_alloc_new W _))
 ·have:=heap_alloc_new (W.alloc (.cells rv 107)) (.cells #[.int .u8 op,str nm,sl,sm] 40)
  rw [World.size_alloc] at this
  exact aI _ this
 ·have:=heap_alloc_new ((W.alloc (.cells rv 107)).alloc (.cells #[.int .u8 op,str nm,sl,sm] 40)) (.cells #[.int .u8 0,str [],.slice none 0 0,.slice none 0 0] 40)
  rw [World.size_alloc,World.size_alloc] at this
  exact this
theorem iC {w : World} {b : Nat} {x y z t : Value} (h : w.heap[b]? = some (.cells #[x,y,z,t] 107 (0,0))) : w.cell? ⟨b,0,none⟩ = some x ∧ w.cell? ⟨b,1,none⟩ = some y ∧ w.cell? ⟨b,2,none⟩ = some z ∧ w.cell? ⟨b,3,none⟩ = some t :=
 ⟨(bE h 0).trans rfl,(bE h 1).trans rfl,(bE h 2).trans rfl,(bE h 3).trans rfl⟩
def RetF61 (f : Fm) (W : World) (e : Ending) (w' : World) : Prop:=∃ v,e = .returned v ∧ aV (hide (lo W) w') f v ∧ Below W.heap.size W w'
def RF (s : Sy) (tn : Bs) (f : Fm) : Prop:=∀ (W : World) (x : Value),aV W f x → f.nodes ≤ 1000 → Calls Tryz.prog 61 #[renV s tn,x] W (RetF61 (f.ren s tn) W)
theorem forms_ren (s : Sy) (tn : Bs) (fs : List Fm) (ih : ∀ t ∈ fs,RF s tn t) (W : World) (a : Option Addr) (n c : Nat) (hx : aN W fs (.slice a n c)) (hn : aD fs ≤ 1000) :
  Calls Tryz.prog 69 #[.slice a n c,.func (.func 61) #[renV s tn] #[]] W fun e w'=>∃ v,e = .returned v ∧ aN (hide (lo W) w') (iN s tn fs) v ∧ Below W.heap.size W w':=by
 refine (qR (fun _=>False) (renV s tn) (fun (_ : Unit) _=>True) (fun _ t=>(Fm.ren s tn t,())) W fs () a n c hx (by have:=fmsLen_le' fs;omega) trivial (fun _ _ _ _ _=>trivial) (fun _ _ _ k hk=>absurd hk (fun e=>e)) (fun k hk=>absurd hk (fun e=>e)) (fun j t ht X x hI hX hv=>?_)).mono ?_
 ·have hm:=List.mem_of_getElem? ht
  refine (ih t hm X x hv (by have:=jH fs j ht;omega)).mono ?_
  rintro e w' ⟨v,rfl,h1,h2⟩
  exact ⟨v,rfl,h1,trivial,.of_below h2⟩
 ·rintro e w' ⟨v,rfl,h1,-,h3⟩
  rw [jA] at h1
  exact ⟨v,rfl,h1,h3.toBelow⟩
set_option maxHeartbeats 8000000 in
theorem rf_step (sn tn : Bs) (sa : Nat) (op : Int) (nm : Bs) (ts : List Tm) (fs : List Fm) (ih : ∀ t ∈ fs,RF ⟨80,sn,sa⟩ tn t) : RF ⟨80,sn,sa⟩ tn (.mk op nm ts fs):=by
 intro W x hx0 hn
 obtain ⟨a,N,c,a2,N2,c2,rfl,hx,hy⟩ : ∃ a N c a2 N2 c2,x = .agg #[.int .u8 op,str nm,.slice a N c,.slice a2 N2 c2] ∧ bG W ts (.slice a N c) ∧ aN W fs (.slice a2 N2 c2):=hx0
 have hlen:=hx.len
 have nd : (Fm.mk op nm ts fs).nodes = 1 + aF ts + aD fs:=by simp [Fm.nodes]
 rw [nd] at hn
 have N0 : N ≤ 1000:=by rw [hlen.1];have:=eO ts;omega
 obtain ⟨LS,hLS⟩ : ∃ LS,kK ⟨80,sn,sa⟩ tn ts = LS:=⟨_,rfl⟩
 obtain ⟨GS,hGS⟩ : ∃ GS,iN ⟨80,sn,sa⟩ tn fs = GS:=⟨_,rfl⟩
 have EC : Hid (∀ X nm' sl' sm',MidF W #[str [80],str sn,.int .i64 sa,str tn] op nm' sl' sm' X → Calls Tryz.prog 114 #[.slice a N c,.func (.func 115) #[.agg #[str [80],str sn,.int .i64 sa,str tn]] #[]] X fun e w'=>∃ fa fc,e = .returned (.slice fa LS.length fc) ∧ bG (hide (lo X) w') LS (.slice fa LS.length fc) ∧ Below X.heap.size X w'):=fun X nm' sl' sm' hM=>by
  rw [← hLS]
  refine (uA ⟨80,sn,sa⟩ tn ts (fun t _=>zO _ _ t) X a N c (hx.keep (aA hM.bt)) (by omega)).mono ?_
  rintro e w' ⟨v3,rfl,h3,b3⟩
  obtain ⟨fa,fc,rfl,-,-,-,-⟩:=At.sl_inv h3
  exact ⟨fa,fc,rfl,h3,b3⟩
 have FC : Hid (∀ X nm' sl' sm',MidF W #[str [80],str sn,.int .i64 sa,str tn] op nm' sl' sm' X → Calls Tryz.prog 69 #[.slice a2 N2 c2,.func (.func 61) #[.agg #[str [80],str sn,.int .i64 sa,str tn]] #[]] X fun e w'=>∃ fa fc,e = .returned (.slice fa GS.length fc) ∧ aN (hide (lo X) w') GS (.slice fa GS.length fc) ∧ Below X.heap.size X w'):=fun X nm' sl' sm' hM=>by
  rw [← hGS]
  refine (forms_ren ⟨80,sn,sa⟩ tn fs ih X a2 N2 c2 (hy.keep (aA hM.bt)) (by omega)).mono ?_
  rintro e w' ⟨v3,rfl,h3,b3⟩
  obtain ⟨fa,fc,rfl,-,-,-,-⟩:=At.sl_inv h3
  exact ⟨fa,fc,rfl,h3,b3⟩
 have L2:=Lib.hid hlen.1
 have HLS:=Lib.hid hLS
 have HGS:=Lib.hid hGS
 have M0:=Lib.hid (midF_new W #[str [80],str sn,.int .i64 sa,str tn] op nm (.slice a N c) (.slice a2 N2 c2))
 obtain ⟨W0,hW0⟩ : ∃ W0,(((W.alloc (.cells #[str [80],str sn,.int .i64 sa,str tn] 107)).alloc (.cells #[.int .u8 op,str nm,.slice a N c,.slice a2 N2 c2] 40)).alloc (.cells #[.int .u8 0,str [],.slice none 0 0,.slice none 0 0] 40)) = W0:=⟨_,rfl⟩
 rw [hW0] at M0
 clear ih hx hy hlen hn nd hLS hGS
 unfold renV
 go_enter Tryz.func61,Tryz.ntmps61
 have KEY : Hid (∀ (nw : Bs) (w3 w5 : World) (fa ka : Option Addr) (fc kc : Nat) (X2 X4 : World),(Fm.mk op nm ts fs).ren ⟨80,sn,sa⟩ tn = .mk op nw LS GS → MidF W #[str [80],str sn,.int .i64 sa,str tn] op nw (.slice a N c) (.slice a2 N2 c2) X2 →
   (bG (hide (lo X2) w3) LS (.slice fa LS.length fc) ∧ Below X2.heap.size X2 w3) → X4 = w3.setCell ⟨W.heap.size + 1,2,none⟩ (.slice fa LS.length fc) → (aN (hide (lo X4) w5) GS (.slice ka GS.length kc) ∧ Below X4.heap.size X4 w5) →
   aV (hide (lo W) (((((w5.setCell ⟨W.heap.size + 1,3,none⟩ (.slice ka GS.length kc)).setCell ⟨W.heap.size + 1 + 1,0,none⟩ (.int .u8 op)).setCell ⟨W.heap.size + 1 + 1,1,none⟩ (str nw)).setCell ⟨W.heap.size + 1 + 1,2,none⟩ (.slice fa LS.length fc)).setCell ⟨W.heap.size + 1 + 1,3,none⟩ (.slice ka GS.length kc))) ((Fm.mk op nm ts fs).ren ⟨80,sn,sa⟩ tn) (.agg #[.int .u8 op,str nw,.slice fa LS.length fc,.slice ka GS.length kc])):=by
  rintro nw w3 w5 fa ka fc kc X2 X4 te m2 ⟨h3,b3⟩ e4 ⟨h5,b5⟩
  have m4:=(m2.next b3).set 2 (.slice fa LS.length fc) nw (.slice fa LS.length fc) (.slice a2 N2 c2) rfl
  rw [← e4] at m4
  have lw:=(Array.getElem?_eq_some_iff.1 m2.r2).1
  have lw4:=(Array.getElem?_eq_some_iff.1 m4.r2).1
  have l34 : w3.heap.size = X4.heap.size:=by rw [e4];simp
  have b2:=b3.size
  have key : ∀ k,k ≠ W.heap.size + 1 + 1 → ((((((w5.setCell ⟨W.heap.size + 1,3,none⟩ (.slice ka GS.length kc)).setCell ⟨W.heap.size + 1 + 1,0,none⟩ (.int .u8 op)).setCell ⟨W.heap.size + 1 + 1,1,none⟩ (str nw)).setCell ⟨W.heap.size + 1 + 1,2,none⟩ (.slice fa LS.length fc)).setCell ⟨W.heap.size + 1 + 1,3,none⟩ (.slice ka GS.length kc)).heap[k]?) = (w5.setCell ⟨W.heap.size + 1,3,none⟩ (.slice ka GS.length kc)).heap[k]?:=fun k hk=>by rw [Below.heap_setCell _ _ _ _ hk,Below.heap_setCell _ _ _ _ hk,Below.heap_setCell _ _ _ _ hk,Below.heap_setCell _ _ _ _ hk]
  have key2 : ∀ k,W.heap.size + 1 + 1 < k → (w5.setCell ⟨W.heap.size + 1,3,none⟩ (.slice ka GS.length kc)).heap[k]? = w5.heap[k]?:=fun k hk=>Below.heap_setCell _ _ _ _ (by show k ≠ W.heap.size + 1;omega)
  rw [te]
  refine ⟨_,_,_,_,_,_,rfl, ?_, ?_⟩
  ·refine h3.keep (aH fun k h1 h2=>?_)
   simp only [lo,decide_eq_false_iff_not,Nat.not_lt] at h2 ⊢
   refine ⟨by omega, ?_⟩
   rw [key k (by omega),key2 k (by omega),b5.block k (by omega),e4]
   exact Below.heap_setCell _ _ _ _ (by show k ≠ W.heap.size + 1;omega)
  ·refine h5.keep (aH fun k h1 h2=>?_)
   simp only [lo,decide_eq_false_iff_not,Nat.not_lt] at h2 ⊢
   exact ⟨by omega,by rw [key k (by omega),key2 k (by omega)]⟩
 by_cases hop : op = 1
 ·subst hop
  by_cases hsn : sn = nm
  ·subst hsn
   by_cases hsa : sa = N
   ·subst hsa
    have TE : Hid ((Fm.mk 1 sn ts fs).ren ⟨80,sn,sa⟩ tn = .mk 1 tn LS GS):=by show _ = _;rw [← HLS.out,← HGS.out];simp [Fm.ren,← L2.out]
    have M2:=Lib.hid (M0.out.set 1 (str tn) tn _ _ rfl)
    obtain ⟨⟨y0,y1,y2,y3⟩,z0,z1,z2,z3⟩:=aL M0.out.r1
    obtain ⟨v0,v1,v2,v3⟩:=iC M0.out.r0
    go_wp2_with (first
     | (
       go_at_call 114
       refine (EC.out _ _ _ _ M2.out).mono ?_
       rintro e w3 ⟨fa,fc,rfl,h3,b3⟩
       have M3:=Lib.hid (M2.out.next b3)
       have H3:=Lib.hid (And.intro h3 b3)
       clear h3 b3 y0 y1 y2 y3 z0 z1 z2 z3 v0 v1 v2 v3 EC
       obtain ⟨⟨y0,y1,y2,y3⟩,z0,z1,z2,z3⟩:=aL M3.out.r1
       have M4:=Lib.hid (M3.out.set 2 (.slice fa LS.length fc) _ _ _ rfl)
       obtain ⟨⟨q0,q1,q2,q3⟩,-,-,-,-⟩:=aL M4.out.r1
       obtain ⟨v0,v1,v2,v3⟩:=iC M4.out.r0)
     | (
       go_at_call 69
       refine (FC.out _ _ _ _ M4.out).mono ?_
       rintro e w5 ⟨ka,kc,rfl,h5,b5⟩
       have M5:=Lib.hid (M4.out.next b5)
       have H5:=Lib.hid (And.intro h5 b5)
       clear h5 b5 y0 y1 y2 y3 z0 z1 z2 z3 q0 q1 q2 q3 v0 v1 v2 v3 FC
       obtain ⟨⟨y0,y1,y2,y3⟩,z0,z1,z2,z3⟩:=aL M5.out.r1
       have M6:=Lib.hid (M5.out.set 3 (.slice ka GS.length kc) _ _ _ rfl)
       obtain ⟨⟨q0,q1,q2,q3⟩,-,-,-,-⟩:=aL M6.out.r1
       obtain ⟨⟨s0,s1,s2,s3⟩,x0,x1,x2,x3⟩:=aL M6.out.r2))
    have g:=aC (o:=3) (u:=.slice ka GS.length kc) (aC (o:=2) (u:=.slice fa LS.length fc) (aC (o:=1) (u:=str tn) (aC (o:=0) (u:=.int .u8 1) M6.out.r2)))
    refine bodyPost_ret (jV rfl _ _ (W.heap.size + 1 + 1) _ _ _ _ (0,0) rfl g) rfl ?_
    exact ⟨.agg #[.int .u8 1,str tn,.slice fa LS.length fc,.slice ka GS.length kc],rfl,KEY.out _ _ _ _ _ _ _ _ _ TE.out M2.out H3.out rfl H5.out,(((M6.out.bt.setCell (by simp;omega) _).setCell (by simp;omega) _).setCell (by simp;omega) _).setCell (by simp;omega) _⟩
   ·have TE : Hid ((Fm.mk 1 sn ts fs).ren ⟨80,sn,sa⟩ tn = .mk 1 sn LS GS):=by show _ = _;simp [Fm.ren,HLS.out,HGS.out,← L2.out,hsa,quant]
    have hsa2 : ¬ (sa : Int) = (N : Int):=by omega
    have M2:=M0
    obtain ⟨⟨y0,y1,y2,y3⟩,z0,z1,z2,z3⟩:=aL M0.out.r1
    obtain ⟨v0,v1,v2,v3⟩:=iC M0.out.r0
    go_wp2_with (first
     | (
       go_at_call 114
       refine (EC.out _ _ _ _ M2.out).mono ?_
       rintro e w3 ⟨fa,fc,rfl,h3,b3⟩
       have M3:=Lib.hid (M2.out.next b3)
       have H3:=Lib.hid (And.intro h3 b3)
       clear h3 b3 y0 y1 y2 y3 z0 z1 z2 z3 v0 v1 v2 v3 EC
       obtain ⟨⟨y0,y1,y2,y3⟩,z0,z1,z2,z3⟩:=aL M3.out.r1
       have M4:=Lib.hid (M3.out.set 2 (.slice fa LS.length fc) _ _ _ rfl)
       obtain ⟨⟨q0,q1,q2,q3⟩,-,-,-,-⟩:=aL M4.out.r1
       obtain ⟨v0,v1,v2,v3⟩:=iC M4.out.r0)
     | (
       go_at_call 69
       refine (FC.out _ _ _ _ M4.out).mono ?_
       rintro e w5 ⟨ka,kc,rfl,h5,b5⟩
       have M5:=Lib.hid (M4.out.next b5)
       have H5:=Lib.hid (And.intro h5 b5)
       clear h5 b5 y0 y1 y2 y3 z0 z1 z2 z3 q0 q1 q2 q3 v0 v1 v2 v3 FC
       obtain ⟨⟨y0,y1,y2,y3⟩,z0,z1,z2,z3⟩:=aL M5.out.r1
       have M6:=Lib.hid (M5.out.set 3 (.slice ka GS.length kc) _ _ _ rfl)
       obtain ⟨⟨q0,q1,q2,q3⟩,-,-,-,-⟩:=aL M6.out.r1
       obtain ⟨⟨s0,s1,s2,s3⟩,x0,x1,x2,x3⟩:=aL M6.out.r2))
    have g:=aC (o:=3) (u:=.slice ka GS.length kc) (aC (o:=2) (u:=.slice fa LS.length fc) (aC (o:=1) (u:=str sn) (aC (o:=0) (u:=.int .u8 1) M6.out.r2)))
    refine bodyPost_ret (jV rfl _ _ (W.heap.size + 1 + 1) _ _ _ _ (0,0) rfl g) rfl ?_
    exact ⟨.agg #[.int .u8 1,str sn,.slice fa LS.length fc,.slice ka GS.length kc],rfl,KEY.out _ _ _ _ _ _ _ _ _ TE.out M2.out H3.out rfl H5.out,(((M6.out.bt.setCell (by simp;omega) _).setCell (by simp;omega) _).setCell (by simp;omega) _).setCell (by simp;omega) _⟩
  ·have TE : Hid ((Fm.mk 1 nm ts fs).ren ⟨80,sn,sa⟩ tn = .mk 1 nm LS GS):=by show _ = _;simp [Fm.ren,HLS.out,HGS.out,hsn,quant]
   have M2:=M0
   obtain ⟨⟨y0,y1,y2,y3⟩,z0,z1,z2,z3⟩:=aL M0.out.r1
   obtain ⟨v0,v1,v2,v3⟩:=iC M0.out.r0
   go_wp2_with (first
    | (
      go_at_call 114
      refine (EC.out _ _ _ _ M2.out).mono ?_
      rintro e w3 ⟨fa,fc,rfl,h3,b3⟩
      have M3:=Lib.hid (M2.out.next b3)
      have H3:=Lib.hid (And.intro h3 b3)
      clear h3 b3 y0 y1 y2 y3 z0 z1 z2 z3 v0 v1 v2 v3 EC
      obtain ⟨⟨y0,y1,y2,y3⟩,z0,z1,z2,z3⟩:=aL M3.out.r1
      have M4:=Lib.hid (M3.out.set 2 (.slice fa LS.length fc) _ _ _ rfl)
      obtain ⟨⟨q0,q1,q2,q3⟩,-,-,-,-⟩:=aL M4.out.r1
      obtain ⟨v0,v1,v2,v3⟩:=iC M4.out.r0)
    | (
      go_at_call 69
      refine (FC.out _ _ _ _ M4.out).mono ?_
      rintro e w5 ⟨ka,kc,rfl,h5,b5⟩
      have M5:=Lib.hid (M4.out.next b5)
      have H5:=Lib.hid (And.intro h5 b5)
      clear h5 b5 y0 y1 y2 y3 z0 z1 z2 z3 q0 q1 q2 q3 v0 v1 v2 v3 FC
      obtain ⟨⟨y0,y1,y2,y3⟩,z0,z1,z2,z3⟩:=aL M5.out.r1
      have M6:=Lib.hid (M5.out.set 3 (.slice ka GS.length kc) _ _ _ rfl)
      obtain ⟨⟨q0,q1,q2,q3⟩,-,-,-,-⟩:=aL M6.out.r1
      obtain ⟨⟨s0,s1,s2,s3⟩,x0,x1,x2,x3⟩:=aL M6.out.r2))
   have g:=aC (o:=3) (u:=.slice ka GS.length kc) (aC (o:=2) (u:=.slice fa LS.length fc) (aC (o:=1) (u:=str nm) (aC (o:=0) (u:=.int .u8 1) M6.out.r2)))
   refine bodyPost_ret (jV rfl _ _ (W.heap.size + 1 + 1) _ _ _ _ (0,0) rfl g) rfl ?_
   exact ⟨.agg #[.int .u8 1,str nm,.slice fa LS.length fc,.slice ka GS.length kc],rfl,KEY.out _ _ _ _ _ _ _ _ _ TE.out M2.out H3.out rfl H5.out,(((M6.out.bt.setCell (by simp;omega) _).setCell (by simp;omega) _).setCell (by simp;omega) _).setCell (by simp;omega) _⟩
 ·have TE : Hid ((Fm.mk op nm ts fs).ren ⟨80,sn,sa⟩ tn = .mk op nm LS GS):=by show _ = _;simp [Fm.ren,HLS.out,HGS.out,hop]
  have M2:=M0
  have t1 : (op == 1) = false:=by simpa using hop
  by_cases h8 : op = 8
  ·subst h8
   obtain ⟨⟨y0,y1,y2,y3⟩,z0,z1,z2,z3⟩:=aL M0.out.r1
   obtain ⟨v0,v1,v2,v3⟩:=iC M0.out.r0
   go_wp2_with (first
    | (
      go_at_call 114
      refine (EC.out _ _ _ _ M2.out).mono ?_
      rintro e w3 ⟨fa,fc,rfl,h3,b3⟩
      have M3:=Lib.hid (M2.out.next b3)
      have H3:=Lib.hid (And.intro h3 b3)
      clear h3 b3 y0 y1 y2 y3 z0 z1 z2 z3 v0 v1 v2 v3 EC
      obtain ⟨⟨y0,y1,y2,y3⟩,z0,z1,z2,z3⟩:=aL M3.out.r1
      have M4:=Lib.hid (M3.out.set 2 (.slice fa LS.length fc) _ _ _ rfl)
      obtain ⟨⟨q0,q1,q2,q3⟩,-,-,-,-⟩:=aL M4.out.r1
      obtain ⟨v0,v1,v2,v3⟩:=iC M4.out.r0)
    | (
      go_at_call 69
      refine (FC.out _ _ _ _ M4.out).mono ?_
      rintro e w5 ⟨ka,kc,rfl,h5,b5⟩
      have M5:=Lib.hid (M4.out.next b5)
      have H5:=Lib.hid (And.intro h5 b5)
      clear h5 b5 y0 y1 y2 y3 z0 z1 z2 z3 q0 q1 q2 q3 v0 v1 v2 v3 FC
      obtain ⟨⟨y0,y1,y2,y3⟩,z0,z1,z2,z3⟩:=aL M5.out.r1
      have M6:=Lib.hid (M5.out.set 3 (.slice ka GS.length kc) _ _ _ rfl)
      obtain ⟨⟨q0,q1,q2,q3⟩,-,-,-,-⟩:=aL M6.out.r1
      obtain ⟨⟨s0,s1,s2,s3⟩,x0,x1,x2,x3⟩:=aL M6.out.r2))
   have g:=aC (o:=3) (u:=.slice ka GS.length kc) (aC (o:=2) (u:=.slice fa LS.length fc) (aC (o:=1) (u:=str nm) (aC (o:=0) (u:=.int .u8 8) M6.out.r2)))
   refine bodyPost_ret (jV rfl _ _ (W.heap.size + 1 + 1) _ _ _ _ (0,0) rfl g) rfl ?_
   exact ⟨.agg #[.int .u8 8,str nm,.slice fa LS.length fc,.slice ka GS.length kc],rfl,KEY.out _ _ _ _ _ _ _ _ _ TE.out M2.out H3.out rfl H5.out,(((M6.out.bt.setCell (by simp;omega) _).setCell (by simp;omega) _).setCell (by simp;omega) _).setCell (by simp;omega) _⟩
  ·have t8 : (op == 8) = false:=by simpa using h8
   by_cases h9 : op = 9
   ·subst h9
    obtain ⟨⟨y0,y1,y2,y3⟩,z0,z1,z2,z3⟩:=aL M0.out.r1
    obtain ⟨v0,v1,v2,v3⟩:=iC M0.out.r0
    go_wp2_with (first
     | (
       go_at_call 114
       refine (EC.out _ _ _ _ M2.out).mono ?_
       rintro e w3 ⟨fa,fc,rfl,h3,b3⟩
       have M3:=Lib.hid (M2.out.next b3)
       have H3:=Lib.hid (And.intro h3 b3)
       clear h3 b3 y0 y1 y2 y3 z0 z1 z2 z3 v0 v1 v2 v3 EC
       obtain ⟨⟨y0,y1,y2,y3⟩,z0,z1,z2,z3⟩:=aL M3.out.r1
       have M4:=Lib.hid (M3.out.set 2 (.slice fa LS.length fc) _ _ _ rfl)
       obtain ⟨⟨q0,q1,q2,q3⟩,-,-,-,-⟩:=aL M4.out.r1
       obtain ⟨v0,v1,v2,v3⟩:=iC M4.out.r0)
     | (
       go_at_call 69
       refine (FC.out _ _ _ _ M4.out).mono ?_
       rintro e w5 ⟨ka,kc,rfl,h5,b5⟩
       have M5:=Lib.hid (M4.out.next b5)
       have H5:=Lib.hid (And.intro h5 b5)
       clear h5 b5 y0 y1 y2 y3 z0 z1 z2 z3 q0 q1 q2 q3 v0 v1 v2 v3 FC
       obtain ⟨⟨y0,y1,y2,y3⟩,z0,z1,z2,z3⟩:=aL M5.out.r1
       have M6:=Lib.hid (M5.out.set 3 (.slice ka GS.length kc) _ _ _ rfl)
       obtain ⟨⟨q0,q1,q2,q3⟩,-,-,-,-⟩:=aL M6.out.r1
       obtain ⟨⟨s0,s1,s2,s3⟩,x0,x1,x2,x3⟩:=aL M6.out.r2))
    have g:=aC (o:=3) (u:=.slice ka GS.length kc) (aC (o:=2) (u:=.slice fa LS.length fc) (aC (o:=1) (u:=str nm) (aC (o:=0) (u:=.int .u8 9) M6.out.r2)))
    refine bodyPost_ret (jV rfl _ _ (W.heap.size + 1 + 1) _ _ _ _ (0,0) rfl g) rfl ?_
    exact ⟨.agg #[.int .u8 9,str nm,.slice fa LS.length fc,.slice ka GS.length kc],rfl,KEY.out _ _ _ _ _ _ _ _ _ TE.out M2.out H3.out rfl H5.out,(((M6.out.bt.setCell (by simp;omega) _).setCell (by simp;omega) _).setCell (by simp;omega) _).setCell (by simp;omega) _⟩
   ·have t9 : (op == 9) = false:=by simpa using h9
    obtain ⟨⟨y0,y1,y2,y3⟩,z0,z1,z2,z3⟩:=aL M0.out.r1
    obtain ⟨v0,v1,v2,v3⟩:=iC M0.out.r0
    go_wp2_with (first
     | (
       go_at_call 114
       refine (EC.out _ _ _ _ M2.out).mono ?_
       rintro e w3 ⟨fa,fc,rfl,h3,b3⟩
       have M3:=Lib.hid (M2.out.next b3)
       have H3:=Lib.hid (And.intro h3 b3)
       clear h3 b3 y0 y1 y2 y3 z0 z1 z2 z3 v0 v1 v2 v3 EC
       obtain ⟨⟨y0,y1,y2,y3⟩,z0,z1,z2,z3⟩:=aL M3.out.r1
       have M4:=Lib.hid (M3.out.set 2 (.slice fa LS.length fc) _ _ _ rfl)
       obtain ⟨⟨q0,q1,q2,q3⟩,-,-,-,-⟩:=aL M4.out.r1
       obtain ⟨v0,v1,v2,v3⟩:=iC M4.out.r0)
     | (
       go_at_call 69
       refine (FC.out _ _ _ _ M4.out).mono ?_
       rintro e w5 ⟨ka,kc,rfl,h5,b5⟩
       have M5:=Lib.hid (M4.out.next b5)
       have H5:=Lib.hid (And.intro h5 b5)
       clear h5 b5 y0 y1 y2 y3 z0 z1 z2 z3 q0 q1 q2 q3 v0 v1 v2 v3 FC
       obtain ⟨⟨y0,y1,y2,y3⟩,z0,z1,z2,z3⟩:=aL M5.out.r1
       have M6:=Lib.hid (M5.out.set 3 (.slice ka GS.length kc) _ _ _ rfl)
       obtain ⟨⟨q0,q1,q2,q3⟩,-,-,-,-⟩:=aL M6.out.r1
       obtain ⟨⟨s0,s1,s2,s3⟩,x0,x1,x2,x3⟩:=aL M6.out.r2))
    have g:=aC (o:=3) (u:=.slice ka GS.length kc) (aC (o:=2) (u:=.slice fa LS.length fc) (aC (o:=1) (u:=str nm) (aC (o:=0) (u:=.int .u8 op) M6.out.r2)))
    refine bodyPost_ret (jV rfl _ _ (W.heap.size + 1 + 1) _ _ _ _ (0,0) rfl g) rfl ?_
    exact ⟨.agg #[.int .u8 op,str nm,.slice fa LS.length fc,.slice ka GS.length kc],rfl,KEY.out _ _ _ _ _ _ _ _ _ TE.out M2.out H3.out rfl H5.out,(((M6.out.bt.setCell (by simp;omega) _).setCell (by simp;omega) _).setCell (by simp;omega) _).setCell (by simp;omega) _⟩
mutual
theorem zM (sn tn : Bs) (sa : Nat) : ∀ t : Fm,RF ⟨80,sn,sa⟩ tn t
 | .mk op nm ts fs=>rf_step sn tn sa op nm ts fs (yB sn tn sa fs)
theorem yB (sn tn : Bs) (sa : Nat) : ∀ ts : List Fm,∀ t ∈ ts,RF ⟨80,sn,sa⟩ tn t
 | [],_,h=>by cases h
 | x :: xs,t,h=>by
  rcases List.mem_cons.1 h with e | e
  ·rw [e];exact zM sn tn sa x
  ·exact yB sn tn sa xs t e
end
end Go.Proofs.YtppfalbnhnpbnaaGreatDoor
