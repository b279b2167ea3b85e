/- renaming.term at a term. Conditions: those of each statement. -/
import Derived.Test.YtppfalbnhnpbnaaGreatDoorRnAC
import Derived.Test.YtppfalbnhnpbnaaGreatDoorEaBC
set_option linter.unusedSimpArgs false
set_option linter.unusedVariables false
namespace Go.Proofs.YtppfalbnhnpbnaaGreatDoor
open Go Go.RowKit Ly
set_option maxRecDepth 10000
structure MidN (W : World) (rv : Array Value) (v : Bool) (nm : Bs) (sl : Value) (X : World) : Prop where
 bt : Below W.heap.size W X
 r0 : X.heap[W.heap.size]? = some (.cells rv 107 (0,0))
 r1 : X.heap[W.heap.size + 1]? = some (.cells #[.bool v,str nm,sl] 38 (0,0))
 r2 : X.heap[W.heap.size + 1 + 1]? = some (.cells #[.bool false,str [],.slice none 0 0] 38 (0,0))
section
variable {W : World} {rv : Array Value} {v : Bool} {nm : Bs} {sl : Value} {X Y : World}
theorem MidN.next (h : MidN W rv v nm sl X) (b : Below X.heap.size X Y) : MidN W rv v nm sl Y :=
 ⟨h.bt.trans (b.mono h.bt.size),(b.block _ (Array.getElem?_eq_some_iff.1 h.r0).1).trans h.r0,(b.block _ (Array.getElem?_eq_some_iff.1 h.r1).1).trans h.r1,(b.block _ (Array.getElem?_eq_some_iff.1 h.r2).1).trans h.r2⟩
theorem MidN.set (h : MidN W rv v nm sl X) (o : Nat) (u : Value) (nm' : Bs) (sl' : Value) (e : (#[.bool v,str nm,sl] : Array Value).setIfInBounds o u = #[.bool v,str nm',sl']) : MidN W rv v nm' sl' (X.setCell ⟨W.heap.size + 1,o,none⟩ u) :=
 ⟨h.bt.setCell (by simp) _,(Below.heap_setCell _ _ _ _ (by show W.heap.size ≠ W.heap.size + 1;omega)).trans h.r0,by rw [aC h.r1,e],(Below.heap_setCell _ _ _ _ (by show W.heap.size + 1 + 1 ≠ W.heap.size + 1;omega)).trans h.r2⟩
end
theorem midN_new (W : World) (rv : Array Value) (v : Bool) (nm : Bs) (sl : Value) (o : Obj) : MidN W rv v nm sl ((((W.alloc (.cells rv 107)).alloc (.cells #[.bool v,str nm,sl] 38)).alloc (.cells #[.bool false,str [],.slice none 0 0] 38)).alloc o):=by
 refine ⟨((((Below.refl _ _).alloc (Nat.le_refl _) _).alloc (by simp) _).alloc (by simp;omega) _).alloc (by simp;omega) _, ?_, ?_, ?_⟩
 ·exact aI _ (aI _ (aI _ (heap_alloc_new W _)))
 ·have:=heap_alloc_new (W.alloc (.cells rv 107)) (.cells #[.bool v,str nm,sl] 38)
  rw [World.size_alloc] at this
  exact aI _ (aI _ this)
 ·have:=heap_alloc_new ((W.alloc (.cells rv 107)).alloc (.cells #[.bool v,str nm,sl] 38)) (.cells #[.bool false,str [],.slice none 0 0] 38)
  rw [World.size_alloc,World.size_alloc] at this
  exact aI _ this
set_option maxHeartbeats 4000000 in
theorem rt_step (s : Sy) (tn : Bs) (v : Bool) (nm : Bs) (ts : List Tm) (ih : ∀ t ∈ ts,RT s tn t) : RT s tn (.mk v nm ts):=by
 intro W x hx0 hn
 obtain ⟨a,N,c,rfl,hx⟩ : ∃ a N c,x = .agg #[.bool v,str nm,.slice a N c] ∧ bG W ts (.slice a N c):=hx0
 have hlen:=hx.len
 have nd : (Tm.mk v nm ts).nodes = 1 + aF ts:=by simp [Tm.nodes]
 rw [nd] at hn
 have N0 : N ≤ 1000:=by rw [hlen.1];have:=eO ts;omega
 obtain ⟨ss,sn,sa⟩:=s
 obtain ⟨LS,hLS⟩ : ∃ LS,kK ⟨ss,sn,sa⟩ tn ts = LS:=⟨_,rfl⟩
 have EC : Hid (∀ X rv' v' nm' sl',MidN W rv' v' nm' sl' X → W.heap.size + 1 + 1 < X.heap.size → Calls Tryz.prog 114 #[.slice a N c,.func (.func 115) #[.agg #[str [ss],str sn,.int .i64 sa,str tn]] #[]] X fun e w'=>∃ fa fc,e = .returned (.slice fa LS.length fc) ∧ (bG (hide (lo X) w') LS (.slice fa LS.length fc) ∧ W.heap.size + 1 + 1 < X.heap.size) ∧ MidN W rv' v' nm' sl' w'):=fun X rv' v' nm' sl' hM hlx=>by
  rw [← hLS]
  refine (uA ⟨ss,sn,sa⟩ tn ts ih X a N c (hx.keep (aA hM.bt)) (by omega)).mono ?_
  rintro e w' ⟨v3,rfl,h3,b3⟩
  obtain ⟨fa,fc,rfl,-,-,-,-⟩:=At.sl_inv h3
  exact ⟨fa,fc,rfl,⟨h3,hlx⟩,hM.next b3⟩
 have L2:=Lib.hid hlen.1
 have HLS:=Lib.hid hLS
 clear ih hx hlen hn nd hLS
 unfold renV
 go_enter Tryz.func115,Tryz.ntmps115
 cases v
 all_goals
  go_wp2_with (
         go_at_call 114
         refine (EC.out _ _ _ _ _ (midN_new _ _ _ _ _ _) (by simp)).mono ?_
         rintro e w3 ⟨fa,fc,rfl,h3,m3⟩
         have H3:=Lib.hid h3
         have M3:=Lib.hid m3
         have M4:=Lib.hid (m3.set 2 (.slice fa LS.length fc) _ _ rfl)
         obtain ⟨y0,y1,y2,z0,z1,z2⟩:=row95' m3.r1
         clear h3 m3 EC
         obtain ⟨q0,q1,q2,-,-,-⟩:=row95' M4.out.r1
         obtain ⟨s0,s1,s2,x0,x1,x2⟩:=row95' M4.out.r2)
 ·clear y0 y1 y2 z0 z1 z2 q0 q1 q2 s0 s1 s2 x0 x1 x2
  refine bodyPost_ret (gJ rfl _ _ (W.heap.size + 1 + 1) _ _ _ (0,0) rfl (aC (o:=2) (u:=.slice fa LS.length fc) (aC (o:=1) (u:=str tn) (aC (o:=0) (u:=.bool false) M4.out.r2)))) rfl ?_
  refine ⟨.agg #[.bool false,str tn,.slice fa LS.length fc],rfl, ?_,((M4.out.bt.setCell (by simp;omega) _).setCell (by simp;omega) _).setCell (by simp;omega) _⟩
  have lN:=L2.out
  have lS:=HLS.out
  rename_i e2 e1 e0
  have te : (Tm.mk false nm ts).ren ⟨ss,sn,sa⟩ tn = .mk false tn LS:=by
   have hy : (⟨97,nm,ts.length⟩ : Sy) = ⟨ss,sn,sa⟩:=by rw [Sy.mk.injEq];exact ⟨e2,e1,by omega⟩
   simp only [Tm.ren,Bool.false_eq_true,if_false,if_true,hy,lS]
  rw [te]
  refine ⟨_,_,_,rfl,H3.out.1.keep (aH fun k h1 h2=>?_)⟩
  have lx:=H3.out.2
  simp only [lo,decide_eq_false_iff_not,Nat.not_lt] at h2 ⊢
  exact ⟨by omega,by rw [Below.heap_setCell _ _ _ _ (by show k ≠ W.heap.size + 1 + 1;omega),Below.heap_setCell _ _ _ _ (by show k ≠ W.heap.size + 1 + 1;omega),Below.heap_setCell _ _ _ _ (by show k ≠ W.heap.size + 1 + 1;omega),Below.heap_setCell _ _ _ _ (by show k ≠ W.heap.size + 1;omega)]⟩
 ·clear y0 y1 y2 z0 z1 z2 q0 q1 q2 s0 s1 s2 x0 x1 x2
  refine bodyPost_ret (gJ rfl _ _ (W.heap.size + 1 + 1) _ _ _ (0,0) rfl (aC (o:=2) (u:=.slice fa LS.length fc) (aC (o:=1) (u:=str sn) (aC (o:=0) (u:=.bool false) M4.out.r2)))) rfl ?_
  refine ⟨.agg #[.bool false,str sn,.slice fa LS.length fc],rfl, ?_,((M4.out.bt.setCell (by simp;omega) _).setCell (by simp;omega) _).setCell (by simp;omega) _⟩
  have lN:=L2.out
  have lS:=HLS.out
  rename_i e2 e1 e0
  have te : (Tm.mk false nm ts).ren ⟨ss,sn,sa⟩ tn = .mk false sn LS:=by
   have hy : ¬ (⟨97,nm,ts.length⟩ : Sy) = ⟨ss,sn,sa⟩:=by
    rw [Sy.mk.injEq]
    rintro ⟨q0,q1,q2⟩
    exact e0 (by omega)
   simp only [Tm.ren,Bool.false_eq_true,if_false,if_true,hy,lS]
   rw [e1]
  rw [te]
  refine ⟨_,_,_,rfl,H3.out.1.keep (aH fun k h1 h2=>?_)⟩
  have lx:=H3.out.2
  simp only [lo,decide_eq_false_iff_not,Nat.not_lt] at h2 ⊢
  exact ⟨by omega,by rw [Below.heap_setCell _ _ _ _ (by show k ≠ W.heap.size + 1 + 1;omega),Below.heap_setCell _ _ _ _ (by show k ≠ W.heap.size + 1 + 1;omega),Below.heap_setCell _ _ _ _ (by show k ≠ W.heap.size + 1 + 1;omega),Below.heap_setCell _ _ _ _ (by show k ≠ W.heap.size + 1;omega)]⟩
 ·clear y0 y1 y2 z0 z1 z2 q0 q1 q2 s0 s1 s2 x0 x1 x2
  refine bodyPost_ret (gJ rfl _ _ (W.heap.size + 1 + 1) _ _ _ (0,0) rfl (aC (o:=2) (u:=.slice fa LS.length fc) (aC (o:=1) (u:=str nm) (aC (o:=0) (u:=.bool false) M4.out.r2)))) rfl ?_
  refine ⟨.agg #[.bool false,str nm,.slice fa LS.length fc],rfl, ?_,((M4.out.bt.setCell (by simp;omega) _).setCell (by simp;omega) _).setCell (by simp;omega) _⟩
  have lN:=L2.out
  have lS:=HLS.out
  rename_i e2 e0
  have te : (Tm.mk false nm ts).ren ⟨ss,sn,sa⟩ tn = .mk false nm LS:=by
   have hy : ¬ (⟨97,nm,ts.length⟩ : Sy) = ⟨ss,sn,sa⟩:=by
    rw [Sy.mk.injEq]
    rintro ⟨q0,q1,q2⟩
    exact e0 q1
   simp only [Tm.ren,Bool.false_eq_true,if_false,if_true,hy,lS]
  rw [te]
  refine ⟨_,_,_,rfl,H3.out.1.keep (aH fun k h1 h2=>?_)⟩
  have lx:=H3.out.2
  simp only [lo,decide_eq_false_iff_not,Nat.not_lt] at h2 ⊢
  exact ⟨by omega,by rw [Below.heap_setCell _ _ _ _ (by show k ≠ W.heap.size + 1 + 1;omega),Below.heap_setCell _ _ _ _ (by show k ≠ W.heap.size + 1 + 1;omega),Below.heap_setCell _ _ _ _ (by show k ≠ W.heap.size + 1 + 1;omega),Below.heap_setCell _ _ _ _ (by show k ≠ W.heap.size + 1;omega)]⟩
 ·clear y0 y1 y2 z0 z1 z2 q0 q1 q2 s0 s1 s2 x0 x1 x2
  refine bodyPost_ret (gJ rfl _ _ (W.heap.size + 1 + 1) _ _ _ (0,0) rfl (aC (o:=2) (u:=.slice fa LS.length fc) (aC (o:=1) (u:=str nm) (aC (o:=0) (u:=.bool false) M4.out.r2)))) rfl ?_
  refine ⟨.agg #[.bool false,str nm,.slice fa LS.length fc],rfl, ?_,((M4.out.bt.setCell (by simp;omega) _).setCell (by simp;omega) _).setCell (by simp;omega) _⟩
  have lN:=L2.out
  have lS:=HLS.out
  rename_i e0
  have te : (Tm.mk false nm ts).ren ⟨ss,sn,sa⟩ tn = .mk false nm LS:=by
   have hy : ¬ (⟨97,nm,ts.length⟩ : Sy) = ⟨ss,sn,sa⟩:=by
    rw [Sy.mk.injEq]
    rintro ⟨q0,q1,q2⟩
    exact e0 q0
   simp only [Tm.ren,Bool.false_eq_true,if_false,if_true,hy,lS]
  rw [te]
  refine ⟨_,_,_,rfl,H3.out.1.keep (aH fun k h1 h2=>?_)⟩
  have lx:=H3.out.2
  simp only [lo,decide_eq_false_iff_not,Nat.not_lt] at h2 ⊢
  exact ⟨by omega,by rw [Below.heap_setCell _ _ _ _ (by show k ≠ W.heap.size + 1 + 1;omega),Below.heap_setCell _ _ _ _ (by show k ≠ W.heap.size + 1 + 1;omega),Below.heap_setCell _ _ _ _ (by show k ≠ W.heap.size + 1 + 1;omega),Below.heap_setCell _ _ _ _ (by show k ≠ W.heap.size + 1;omega)]⟩
 ·clear y0 y1 y2 z0 z1 z2 q0 q1 q2 s0 s1 s2 x0 x1 x2
  refine bodyPost_ret (gJ rfl _ _ (W.heap.size + 1 + 1) _ _ _ (0,0) rfl (aC (o:=2) (u:=.slice fa LS.length fc) (aC (o:=1) (u:=str tn) (aC (o:=0) (u:=.bool true) M4.out.r2)))) rfl ?_
  refine ⟨.agg #[.bool true,str tn,.slice fa LS.length fc],rfl, ?_,((M4.out.bt.setCell (by simp;omega) _).setCell (by simp;omega) _).setCell (by simp;omega) _⟩
  have lN:=L2.out
  have lS:=HLS.out
  rename_i e2 e1 e0
  have te : (Tm.mk true nm ts).ren ⟨ss,sn,sa⟩ tn = .mk true tn LS:=by
   have hy : (⟨117,nm,0⟩ : Sy) = ⟨ss,sn,sa⟩:=by rw [Sy.mk.injEq];exact ⟨e2,e1,by omega⟩
   simp only [Tm.ren,Bool.false_eq_true,if_false,if_true,hy,lS]
  rw [te]
  refine ⟨_,_,_,rfl,H3.out.1.keep (aH fun k h1 h2=>?_)⟩
  have lx:=H3.out.2
  simp only [lo,decide_eq_false_iff_not,Nat.not_lt] at h2 ⊢
  exact ⟨by omega,by rw [Below.heap_setCell _ _ _ _ (by show k ≠ W.heap.size + 1 + 1;omega),Below.heap_setCell _ _ _ _ (by show k ≠ W.heap.size + 1 + 1;omega),Below.heap_setCell _ _ _ _ (by show k ≠ W.heap.size + 1 + 1;omega),Below.heap_setCell _ _ _ _ (by show k ≠ W.heap.size + 1;omega)]⟩
 ·clear y0 y1 y2 z0 z1 z2 q0 q1 q2 s0 s1 s2 x0 x1 x2
  refine bodyPost_ret (gJ rfl _ _ (W.heap.size + 1 + 1) _ _ _ (0,0) rfl (aC (o:=2) (u:=.slice fa LS.length fc) (aC (o:=1) (u:=str sn) (aC (o:=0) (u:=.bool true) M4.out.r2)))) rfl ?_
  refine ⟨.agg #[.bool true,str sn,.slice fa LS.length fc],rfl, ?_,((M4.out.bt.setCell (by simp;omega) _).setCell (by simp;omega) _).setCell (by simp;omega) _⟩
  have lN:=L2.out
  have lS:=HLS.out
  rename_i e2 e1 e0
  have te : (Tm.mk true nm ts).ren ⟨ss,sn,sa⟩ tn = .mk true sn LS:=by
   have hy : ¬ (⟨117,nm,0⟩ : Sy) = ⟨ss,sn,sa⟩:=by
    rw [Sy.mk.injEq]
    rintro ⟨q0,q1,q2⟩
    exact e0 (by omega)
   simp only [Tm.ren,Bool.false_eq_true,if_false,if_true,hy,lS]
   rw [e1]
  rw [te]
  refine ⟨_,_,_,rfl,H3.out.1.keep (aH fun k h1 h2=>?_)⟩
  have lx:=H3.out.2
  simp only [lo,decide_eq_false_iff_not,Nat.not_lt] at h2 ⊢
  exact ⟨by omega,by rw [Below.heap_setCell _ _ _ _ (by show k ≠ W.heap.size + 1 + 1;omega),Below.heap_setCell _ _ _ _ (by show k ≠ W.heap.size + 1 + 1;omega),Below.heap_setCell _ _ _ _ (by show k ≠ W.heap.size + 1 + 1;omega),Below.heap_setCell _ _ _ _ (by show k ≠ W.heap.size + 1;omega)]⟩
 ·clear y0 y1 y2 z0 z1 z2 q0 q1 q2 s0 s1 s2 x0 x1 x2
  refine bodyPost_ret (gJ rfl _ _ (W.heap.size + 1 + 1) _ _ _ (0,0) rfl (aC (o:=2) (u:=.slice fa LS.length fc) (aC (o:=1) (u:=str nm) (aC (o:=0) (u:=.bool true) M4.out.r2)))) rfl ?_
  refine ⟨.agg #[.bool true,str nm,.slice fa LS.length fc],rfl, ?_,((M4.out.bt.setCell (by simp;omega) _).setCell (by simp;omega) _).setCell (by simp;omega) _⟩
  have lN:=L2.out
  have lS:=HLS.out
  rename_i e2 e0
  have te : (Tm.mk true nm ts).ren ⟨ss,sn,sa⟩ tn = .mk true nm LS:=by
   have hy : ¬ (⟨117,nm,0⟩ : Sy) = ⟨ss,sn,sa⟩:=by
    rw [Sy.mk.injEq]
    rintro ⟨q0,q1,q2⟩
    exact e0 q1
   simp only [Tm.ren,Bool.false_eq_true,if_false,if_true,hy,lS]
  rw [te]
  refine ⟨_,_,_,rfl,H3.out.1.keep (aH fun k h1 h2=>?_)⟩
  have lx:=H3.out.2
  simp only [lo,decide_eq_false_iff_not,Nat.not_lt] at h2 ⊢
  exact ⟨by omega,by rw [Below.heap_setCell _ _ _ _ (by show k ≠ W.heap.size + 1 + 1;omega),Below.heap_setCell _ _ _ _ (by show k ≠ W.heap.size + 1 + 1;omega),Below.heap_setCell _ _ _ _ (by show k ≠ W.heap.size + 1 + 1;omega),Below.heap_setCell _ _ _ _ (by show k ≠ W.heap.size + 1;omega)]⟩
 ·clear y0 y1 y2 z0 z1 z2 q0 q1 q2 s0 s1 s2 x0 x1 x2
  refine bodyPost_ret (gJ rfl _ _ (W.heap.size + 1 + 1) _ _ _ (0,0) rfl (aC (o:=2) (u:=.slice fa LS.length fc) (aC (o:=1) (u:=str nm) (aC (o:=0) (u:=.bool true) M4.out.r2)))) rfl ?_
  refine ⟨.agg #[.bool true,str nm,.slice fa LS.length fc],rfl, ?_,((M4.out.bt.setCell (by simp;omega) _).setCell (by simp;omega) _).setCell (by simp;omega) _⟩
  have lN:=L2.out
  have lS:=HLS.out
  rename_i e0
  have te : (Tm.mk true nm ts).ren ⟨ss,sn,sa⟩ tn = .mk true nm LS:=by
   have hy : ¬ (⟨117,nm,0⟩ : Sy) = ⟨ss,sn,sa⟩:=by
    rw [Sy.mk.injEq]
    rintro ⟨q0,q1,q2⟩
    exact e0 q0
   simp only [Tm.ren,Bool.false_eq_true,if_false,if_true,hy,lS]
  rw [te]
  refine ⟨_,_,_,rfl,H3.out.1.keep (aH fun k h1 h2=>?_)⟩
  have lx:=H3.out.2
  simp only [lo,decide_eq_false_iff_not,Nat.not_lt] at h2 ⊢
  exact ⟨by omega,by rw [Below.heap_setCell _ _ _ _ (by show k ≠ W.heap.size + 1 + 1;omega),Below.heap_setCell _ _ _ _ (by show k ≠ W.heap.size + 1 + 1;omega),Below.heap_setCell _ _ _ _ (by show k ≠ W.heap.size + 1 + 1;omega),Below.heap_setCell _ _ _ _ (by show k ≠ W.heap.size + 1;omega)]⟩
mutual
theorem zO (s : Sy) (tn : Bs) : ∀ t : Tm,RT s tn t
 | .mk v nm ts=>rt_step s tn v nm ts (yD s tn ts)
theorem yD (s : Sy) (tn : Bs) : ∀ ts : List Tm,∀ t ∈ ts,RT s tn t
 | [],_,h=>by cases h
 | x :: xs,t,h=>by
  rcases List.mem_cons.1 h with e | e
  ·rw [e];exact zO s tn x
  ·exact yD s tn xs t e
end
end Go.Proofs.YtppfalbnhnpbnaaGreatDoor
namespace Go.Proofs.YtppfalbnhnpbnaaGreatDoor
open Go Go.RowKit Ly
set_option maxRecDepth 10000
set_option maxHeartbeats 8000000 in
theorem qR {St : Type} (E : Nat → Prop) (nv : Value) (I : St → World → Prop) (f : St → Fm → Fm × St) (W : World) (ts : List Fm) (s0 : St) (a : Option Addr) (n c : Nat) (hx : aN W ts (.slice a n c)) (hn : ts.length ≤ 100000) (h0 : I s0 W) (hI : kU W.heap.size I)
  (hmap : ∀ s X,I s X → ∀ k,E k → ∃ es c,X.heap[k]? = some (.map es c)) (hE : ∀ k,E k → k < W.heap.size)
  (hf : ∀ j t,ts[j]? = some t → ∀ X x,I (stAt f s0 ts j) X → ButE E W X → aV X t x → Calls Tryz.prog 61 #[nv,x] X fun e w'=>∃ v,e = .returned v ∧ aV (hide (lo X) w') (f (stAt f s0 ts j) t).1 v ∧ I (f (stAt f s0 ts j) t).2 w' ∧ ButE E X w') :
  Calls Tryz.prog 69 #[.slice a n c,.func (.func 61) #[nv] #[]] W fun e w'=>∃ v,e = .returned v ∧ aN (hide (lo W) w') (aK f s0 ts).1 v ∧ I (aK f s0 ts).2 w' ∧ ButE E W w':=by
 have hl:=hx.len
 have L2:=Lib.hid hl.1
 have N0 : n ≤ 100000:=by rw [hl.1];exact hn
 have HX:=Lib.hid hx
 have H0:=Lib.hid h0
 have HI:=Lib.hid hI
 have HK : Hid (∀ X,ButE E W X → bI W X):=fun X hX=>hX.keeps (hmap s0 W h0)
 have HE:=Lib.hid hE
 have HF:=Lib.hid hf
 obtain ⟨i0,hi0,hz0,hs0,hb0⟩:=info_parts dV
 clear hl hx hn h0 hI hmap hE hf
 go_enter Tryz.func69,Tryz.ntmps69
 by_cases hn0 : n = 0
 ·subst hn0
  go_wp2
  have e : ts = []:=List.eq_nil_of_length_eq_zero L2.out.symm
  go_ret
  subst e
  exact ⟨_,rfl,At.sl_nil (by unfold maxLen;omega),H0.out,ButE.refl _ _⟩
 ·go_wp2_with (at_make;refine wpList_make_full _ rfl _ _ 24 rfl W.heap.size 40 i0 (.agg #[.int .u8 0,.string ⟨#[]⟩,.slice none 0 0,.slice none 0 0]) 4 Tryz.underlying24 hi0 hz0 hs0 .i64 .i64 _ _ n rfl rfl (by first | rfl | omega) (by first | rfl | omega) (by rw [hb0];omega) (by unfold maxLen;omega) (Nat.le_refl _) ?_;intro w1 hown1 hgrow1)
  obtain ⟨G,hG⟩ : ∃ G,W.heap.size = G:=⟨_,rfl⟩
  have A0 : Hid (cF G n 4 40 (bJ (aK f s0 (ts.take 0)).1) 0 w1 ∧ I (stAt f s0 ts 0) w1 ∧ ButE E W w1):=by
   have B : ButE E W w1:=⟨hgrow1.os,hgrow1.tape,hgrow1.output,hgrow1.size,fun k hk _=>hgrow1.block k hk (by simp)⟩
   refine ⟨?_,HI.out s0 W w1 H0.out (fun k hk=>hgrow1.block k hk (by simp)),B⟩
   rcases hown1.2 with ⟨e,-⟩ | ⟨g,cap,cur,e,-,h3,h4,h5,h6,h7⟩
   ·cases e
   ·simp only [Value.slice.injEq,Option.some.injEq,Addr.mk.injEq,and_true,true_and] at e
    obtain ⟨e1,rfl⟩:=e
    rw [← hG]
    rw [← e1] at h3
    exact ⟨cur.toList,by simpa using h3,by simpa using h6,by simpa [aK,bJ] using aU.nil _⟩
  rw [hG]
  have HG:=Lib.hid hG
  clear hown1 hgrow1 hn0 hG H0
  go_loopw [16] (fun i wr=>∃ j : Nat,j ≤ n ∧ i = .int .i64 j ∧ Hid (cF G n 4 40 (bJ (aK f s0 (ts.take j)).1) j wr ∧ I (stAt f s0 ts j) wr ∧ ButE E W wr)) (fun i _=>n - (intOf i).toNat)
  case atStart=>exact ⟨0,Nat.zero_le _,rfl,A0.out⟩
  case round =>
   obtain ⟨j,hj,rfl,hs⟩:=hrel
   clear A0
   by_cases hlt : j < n
   ·obtain ⟨T,hT⟩:=aT (l:=ts) (j:=j) (by rw [← L2.out];exact hlt)
    obtain ⟨bb,off,rfl,hc⟩:=HX.out.get (aX hT)
    obtain ⟨x0,x1,x2,x3,x4,x5,hx⟩:=hc j _ hT
    have hK:=HK.out _ hs.out.2.2
    have c0:=hK _ _ hx.c0;have c1:=hK _ _ hx.c1;have c2:=hK _ _ hx.c2;have c3:=hK _ _ hx.c3
    have HT:=Lib.hid hT
    have IC : Hid (∀ o,Calls Tryz.prog 61 #[nv,.agg #[.int .u8 T.op,str T.name,.slice x0 x1 x2,.slice x3 x4 x5]] (wr.alloc o) fun e w'=>∃ v,e = .returned v ∧ aV (hide (lo (wr.alloc o)) w') (f (stAt f s0 ts j) T).1 v ∧ I (f (stAt f s0 ts j) T).2 w' ∧ ButE E (wr.alloc o) w'):=fun o =>
     HF.out j T HT.out _ _ (HI.out _ _ _ hs.out.2.1 (fun k hk=>((Below.refl _ wr).alloc (Nat.le_refl _) o).block k (by have:=hs.out.2.2.size;omega))) (hs.out.2.2.alloc o) ⟨_,_,_,_,_,_,rfl,(hx.at_.keep hK).keep (aA ((Below.refl _ _).alloc (Nat.le_refl _) _)),(hx.at'.keep hK).keep (aA ((Below.refl _ _).alloc (Nat.le_refl _) _))⟩
    clear hc hx hT hK
    go_wp2_with (
           go_at_call 61
           refine (IC.out _).mono ?_
           rintro e w3 ⟨v3,rfl,⟨fa,fn,fc,fb,fm,fd,rfl,h3,h4⟩,i3,b3⟩
           have FA:=hs.out.1.keep (W':=w3) (fun k h1 h2=>(b3.block k (by simp;omega) (fun e=>by have:=HE.out k e;have:=HG.out;omega)).trans (((Below.refl _ wr).alloc (Nat.le_refl _) _).block k h2))
           obtain ⟨⟨p0,q0⟩,f0,p1,f1,p2,f2,p3,f3⟩:=FA.cells4 hlt
           obtain ⟨u1,q1⟩:=Classical.axiomOfChoice p1
           obtain ⟨u2,q2⟩ : ∃ u2 : Value → Value → Value,∀ a b,((w3.setCell ⟨G,j * 4,none⟩ a).setCell ⟨G,j * 4 + 1,none⟩ b).cell? ⟨G,j * 4 + 2,none⟩ = some (u2 a b):=⟨fun a b=>(p2 a b).choose,fun a b=>(p2 a b).choose_spec⟩
           obtain ⟨u3,q3⟩ : ∃ u3 : Value → Value → Value → Value,∀ a b c,(((w3.setCell ⟨G,j * 4,none⟩ a).setCell ⟨G,j * 4 + 1,none⟩ b).setCell ⟨G,j * 4 + 2,none⟩ c).cell? ⟨G,j * 4 + 3,none⟩ = some (u3 a b c):=⟨fun a b c=>(p3 a b c).choose,fun a b c=>(p3 a b c).choose_spec⟩
           clear p1 p2 p3
           have H3:=Lib.hid (And.intro FA (And.intro i3 b3))
           have R3:=Lib.hid (And.intro h3 h4)
           clear FA i3 b3 h3 h4)
    go_roundw
    case rel =>
     refine ⟨j + 1,by omega,by go_num, ?_⟩
     obtain ⟨FA,i3,b3⟩:=H3.out
     have e:=gY f s0 HT.out
     have g:=HG.out
     have lg : G < wr.heap.size:=by obtain ⟨cs,h1,-,-⟩:=hs.out.1;exact (Array.getElem?_eq_some_iff.1 h1).1
     have K : ∀ o,bI (hide (lo (wr.alloc o)) w3) (hide (fun k=>decide (k < G + 1)) w3):=fun o=>aH fun k a b=>⟨by simp [lo] at b;simp;omega,rfl⟩
     refine ⟨?_, ?_, ?_⟩
     ·rw [e,iH]
      have:=cF.put4 FA hlt (eV (R3.out.1.keep (K _)) (R3.out.2.keep (K _)))
      simpa [bJ] using this
     ·have : stAt f s0 ts (j + 1) = (f (stAt f s0 ts j) T).2:=by unfold stAt;rw [e];rfl
      rw [this]
      exact HI.out _ w3 _ i3 (fun k hk=>by rw [Below.heap_setCell _ _ _ _ (by show k ≠ G;omega),Below.heap_setCell _ _ _ _ (by show k ≠ G;omega),Below.heap_setCell _ _ _ _ (by show k ≠ G;omega),Below.heap_setCell _ _ _ _ (by show k ≠ G;omega)])
     ·exact (((((hs.out.2.2.alloc _).trans b3).set (by omega) _ _).set (by omega) _ _).set (by omega) _ _).set (by omega) _ _
    case measure=>simp [intOf];omega
   ·have ej : j = n:=by omega
    obtain ⟨FA,i3,b3⟩:=hs.out
    have et : ts.take j = ts:=List.take_of_length_le (by rw [← L2.out];omega)
    rw [et] at FA
    have i4 : I (aK f s0 ts).2 wr:=by have:=i3;unfold stAt at this;rwa [et] at this
    have FE : Hid (aN (hide (lo W) wr) (aK f s0 ts).1 (.slice (some ⟨G,0,none⟩) n n) ∧ I (aK f s0 ts).2 wr ∧ ButE E W wr):=by
     refine ⟨?_,i4,b3⟩
     have le : (aK f s0 ts).1.length = n:=by rw [gO,← L2.out]
     show At _ (.sl 4 (aK f s0 ts).1.length (bJ (aK f s0 ts).1)) _
     rw [le]
     rw [ej] at FA
     have ld : (bJ (aK f s0 ts).1).length = n * 4:=by rw [gN,le]
     exact cF.at FA ld (by unfold maxLen;omega) (by have:=HG.out;omega)
    clear FA i3 b3 i4 et ej hs
    go_wp2_with fail
    go_ret
    exact ⟨_,rfl,FE.out⟩
end Go.Proofs.YtppfalbnhnpbnaaGreatDoor
