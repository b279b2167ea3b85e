/- subst.Free: the free variables of a formula, as a list. Conditions: those of the statement. -/
import Derived.Test.YtppfalbnhnpbnaaGreatDoorNtDX
import Derived.Test.YtppfalbnhnpbnaaGreatDoorRegUX
import Derived.Test.YtppfalbnhnpbnaaGreatDoorNmCX
import Derived.Test.YtppfalbnhnpbnaaGreatDoorSdAX
import Derived.Test.YtppfalbnhnpbnaaGreatDoorFuBX
import Derived.Test.YtppfalbnhnpbnaaGreatDoorNtBX
import Derived.Test.YtppfalbnhnpbnaaGreatDoorAwAX
set_option linter.unusedSimpArgs false
set_option linter.unusedVariables false
namespace Go.Proofs.YtppfalbnhnpbnaaGreatDoor
open Go Go.RowKit Ly
set_option maxRecDepth 10000
set_option maxHeartbeats 4000000 in
theorem Free_c (f : Fm) (x : Value) (W : World) (hx0 : bH W f x) (hok : f.okNames = true) (hn : f.nodes ≤ 100000) :
  Calls Tryz.prog 111 #[x] W fun e w'=>∃ L v,e = .returned v ∧ (∀ s,s ∈ L ↔ s ∈ f.free []) ∧ eG w' L v ∧ Below W.heap.size W w':=by
 obtain ⟨a,n,c,b,m,d,rfl,hx,hx'⟩:=hx0
 obtain ⟨W1,hW1⟩ : ∃ W1,W.alloc (.cells #[.int .u8 f.op,str f.name,.slice a n c,.slice b m d] 40) = W1:=⟨_,rfl⟩
 have bw : Below W.heap.size W W1:=by rw [← hW1];exact (Below.refl _ _).alloc (Nat.le_refl _) _
 have r0 : W1.heap[W.heap.size]? = some (.cells #[.int .u8 f.op,str f.name,.slice a n c,.slice b m d] 40 (0,0)):=by rw [← hW1];exact heap_alloc_new W _
 obtain ⟨W2,hW2⟩ : ∃ W2,W1.alloc (.cells #[.int .u8 f.op,str f.name,.slice a n c,.slice b m d] 40) = W2:=⟨_,rfl⟩
 have b2 : Below W.heap.size W W2:=by rw [← hW2];exact bw.alloc bw.size _
 have r2 : W2.heap[W1.heap.size]? = some (.cells #[.int .u8 f.op,str f.name,.slice a n c,.slice b m d] 40 (0,0)):=by rw [← hW2];exact heap_alloc_new W1 _
 have SC : Hid (Calls Tryz.prog 53 #[.func (.func 100) #[] #[one W1.heap.size]] W2 fun e w'=>e = .returned (.map (some W2.heap.size)) ∧ cW w' W2.heap.size (f.free []).length (f.free []) ∧ Below W2.heap.size W2 w') :=
  AX f _ _ _ _ W1.heap.size W2 r2 ⟨_,_,_,_,_,_,rfl,hx.keep (aA b2),hx'.keep (aA b2)⟩ hok hn (by have:=f.free_len [];omega) (Fm.free_ok f [] hok)
 have B2:=Lib.hid b2
 obtain ⟨⟨y0,y1,y2,y3⟩,-⟩:=aJ r0
 have NL : Hid ((f.free []).length ≤ 100000):=by have:=f.free_len [];show _ ≤ _;omega
 have HB : Hid (∀ s ∈ f.free [],okS s):=Fm.free_ok f [] hok
 clear hx hx' hok hn bw r0 b2 r2
 go_enter Tryz.func111,Tryz.ntmps111
 go_wp2_with (first
  | (go_at_call 54;refine (pY _ _ _ _ _).mono ?_;rintro e w2 ⟨rfl,rfl⟩)
  | (go_at_call 53;refine SC.out.mono ?_;rintro e w2 ⟨rfl,hs2,hb2⟩;have BB:=Lib.hid (B2.out.trans (hb2.mono B2.out.size));have S2:=Lib.hid hs2;clear hb2 hs2 SC)
  | (go_at_call 122;refine ((callsIn_wide (n:=5)).1 (Tryz.maps_Keys_122 (some W2.heap.size) w2)).mono ?_;rintro e w3 ⟨rfl,rfl⟩)
  | (go_at_call 121;obtain ⟨D,h1,h2,h3,-⟩:=S2.out;refine ((callsIn_wide (n:=5)).1 (Tryz.slices_Sorted_keys_121_122 W2.heap.size (f.free []).length D hR w2 h1 (Nat.le_trans h1.size_le (by have:=NL.out;unfold maxLen;omega)) (by have:=h1.size_le;have:=NL.out;omega))).mono ?_;rintro e w4 ⟨v,ss,rfl,hp,ho,hv,b4⟩;have HD:=Lib.hid (And.intro h1 h2);have HO:=Lib.hid ho;have HP:=Lib.hid hp;have B4:=Lib.hid b4;clear h1 h2 h3 hp ho hv b4))
 go_ret
 have hsz : (w2.alloc (.cells #[.map (some W2.heap.size)] 93)).heap.size = w2.heap.size + 1:=by simp
 refine ⟨ss.mergeSort (fun x y=>decide (x ≤ y)),v,rfl,fun s=>?_,qC HO.out (by rw [List.length_mergeSort]),BB.out.trans (((Below.refl _ w2).alloc (Nat.le_refl _) _).trans (B4.out.mono (by omega)) |>.mono BB.out.size)⟩
 rw [List.mem_mergeSort,HP.out.mem_iff,jD HD.out.1 Tryz.underlying9]
 have hs:=HD.out.2
 constructor
 ·intro h
  by_cases hl : okS s
  ·have:=hs s hl
   rw [show litS s = .string s from rfl,h] at this
   simpa using this.symm
  ·exfalso
   have hm : s ∈ strKeys _:=(jD HD.out.1 Tryz.underlying9 s).2 h
   exact hl (strKeys_le HD.out.1 Tryz.underlying9 s hm)
 ·intro h
  have:=hs s (HB.out s h)
  rw [show litS s = .string s from rfl] at this
  rw [this]
  simpa using h
end Go.Proofs.YtppfalbnhnpbnaaGreatDoor
namespace Go.Proofs.YtppfalbnhnpbnaaGreatDoor
open Go Go.RowKit Ly
set_option maxRecDepth 10000
set_option maxHeartbeats 4000000 in
theorem hasA1_c (hS : iS) (f : Fm) (x : Value) (cs : Nat) (nm : Bs) (ar : Nat) (W : World) (hc : W.heap[cs]? = some (.cells #[str [97],str nm,.int .i64 ar] 104 (0,0))) (hx0 : bH W f x) (hok : f.ok = true) (hn : f.nodes ≤ 100000) :
  Calls Tryz.prog 106 #[x,one cs] W fun e w'=>e = .returned (.bool (decide ((nm,ar) ∈ f.funs))) ∧ Below W.heap.size W w':=by
 obtain ⟨a,n,c,b,m,d,rfl,hx,hy⟩:=hx0
 obtain ⟨W1,hW1⟩ : ∃ W1,W.alloc (.cells #[.int .u8 f.op,str f.name,.slice a n c,.slice b m d] 40) = W1:=⟨_,rfl⟩
 have b1 : Below W.heap.size W W1:=by rw [← hW1];exact (Below.refl _ _).alloc (Nat.le_refl _) _
 have r0 : W1.heap[W.heap.size]? = some (.cells #[.int .u8 f.op,str f.name,.slice a n c,.slice b m d] 40 (0,0)):=by rw [← hW1];exact heap_alloc_new W _
 have r1 : W1.heap[cs]? = some (.cells #[str [97],str nm,.int .i64 ar] 104 (0,0)):=(b1.block _ (Array.getElem?_eq_some_iff.1 hc).1).trans hc
 have PC : Hid (∀ X,Below W.heap.size W X → Calls Tryz.prog 109 #[.agg #[.int .u8 f.op,str f.name,.slice a n c,.slice b m d]] X fun e w'=>∃ L v,e = .returned v ∧ (∀ s,s ∈ L ↔ s ∈ f.funs) ∧ eM w' L v ∧ Below X.heap.size X w' ∧ L.length ≤ 100000):=fun X hb =>
  Functions_c hS f _ X ⟨_,_,_,_,_,_,rfl,hx.keep (aA hb),hy.keep (aA hb)⟩ hok hn
 have B1:=Lib.hid b1
 have R0:=Lib.hid r0
 have R1:=Lib.hid r1
 obtain ⟨y0,y1,y2⟩:=row3 r1
 generalize hq : decide ((nm,ar) ∈ f.funs) = q
 have HQ:=Lib.hid hq
 clear b1 r0 r1 hx hy hok hn hc hS hq
 go_enter Tryz.func106,Tryz.ntmps106
 go_upto_region 5 with fail
 refine cH (q:=5) (S:=fun w'=>Below W1.heap.size W1 w') (by kernel_rfl) (Below.refl _ _).drew (fun hHeld=>?_)
 refine aD (i:=0) (v:=?_) rfl (by kernel_rfl) (by kernel_rfl) (by kernel_rfl) (by kernel_rfl) (fun _ _ _ h=>h) (Or.inl ⟨by rfl, ?_⟩) (by assumption) ?_
 rotate_left
 ·(intro w0 hSw;obtain ⟨⟨z0,z1,z2,z3⟩,-⟩:=aJ ((hSw.block _ (Array.getElem?_eq_some_iff.1 R0.out).1).trans R0.out);go_simp;(try with_reducible rfl))
 try simp only [Act.put,List.getElem_toArray,List.getElem_cons_succ,List.getElem_cons_zero,List.setIfInBounds_toArray,List.set_cons_zero,List.set_cons_succ]
 refine aD (i:=2) (v:=?_) rfl (by kernel_rfl) (by kernel_rfl) (by kernel_rfl) (by kernel_rfl) (fun _ _ _ h=>h) (Or.inl ⟨by rfl, ?_⟩) (by assumption) ?_
 rotate_left
 ·(intro w0 hSw;go_simp;(try with_reducible rfl))
 try simp only [Act.put,List.getElem_toArray,List.getElem_cons_succ,List.getElem_cons_zero,List.setIfInBounds_toArray,List.set_cons_zero,List.set_cons_succ]
 refine aD (i:=3) (v:=?_) rfl (by kernel_rfl) (by kernel_rfl) (by kernel_rfl) (by kernel_rfl) (fun _ _ _ h=>h) (Or.inl ⟨by rfl, ?_⟩) (by assumption) ?_
 rotate_left
 ·(intro w0 hSw;obtain ⟨z0,z1,z2⟩:=row3 ((hSw.block _ (Array.getElem?_eq_some_iff.1 R1.out).1).trans R1.out);go_simp;(try with_reducible rfl))
 try simp only [Act.put,List.getElem_toArray,List.getElem_cons_succ,List.getElem_cons_zero,List.setIfInBounds_toArray,List.set_cons_zero,List.set_cons_succ]
 refine aY (j:=1) (by kernel_rfl) (by kernel_rfl) rfl (fun K hK=>?_)
 go_simp
 go_at_call 109
 refine (PC.out _ B1.out.drew).mono ?_
 rintro e w5 ⟨L,v,rfl,hL,hv,b5,hll⟩
 have H5:=Lib.hid (And.intro hL (And.intro hv hll))
 have hS5:=hHeld.trans b5
 clear hL hv b5 hll PC hHeld
 go_simp
 refine hK.out _ _ hS5 (fun hHeld=>?_)
 clear hK K hS5
 try simp only [Act.put,List.getElem_toArray,List.getElem_cons_succ,List.getElem_cons_zero,List.setIfInBounds_toArray,List.set_cons_zero,List.set_cons_succ]
 refine aY (j:=4) (by kernel_rfl) (by kernel_rfl) rfl (fun K hK=>?_)
 go_simp
 go_at_call 107
 refine (mL L (nm,ar) v w5 H5.out.2.1 (Nat.le_trans H5.out.2.2 (by omega))).mono ?_
 rintro e w6 ⟨he,b6⟩
 rw [kO f.funs L H5.out.1,HQ.out] at he
 subst he
 have hS6:=hHeld.trans (b6.mono hHeld.size)
 have BF : Hid (Below W.heap.size W w6):=B1.out.trans (hS6.mono B1.out.size)
 clear b6 hHeld
 go_simp
 refine hK.out _ _ hS6 (fun hHeld=>?_)
 clear hK K hS6
 try simp only [Act.put,List.getElem_toArray,List.getElem_cons_succ,List.getElem_cons_zero,List.setIfInBounds_toArray,List.set_cons_zero,List.set_cons_succ]
 refine cG (by kernel_rfl) (by kernel_rfl) rfl (fun K hK=>?_)
 go_simp
 refine hK.out _ _ ?_
 clear hK K hHeld
 go_wp2_with fail
 go_ret
 exact ⟨rfl,BF.out⟩
set_option maxHeartbeats 4000000 in
theorem hasU1_c (f : Fm) (x : Value) (cs : Nat) (nm : Bs) (ar : Nat) (W : World) (hc : W.heap[cs]? = some (.cells #[str [117],str nm,.int .i64 ar] 104 (0,0))) (hx0 : bH W f x) (hok : f.okNames = true) (hn : f.nodes ≤ 100000) :
  Calls Tryz.prog 106 #[x,one cs] W fun e w'=>e = .returned (.bool (decide (nm ∈ f.free []))) ∧ Below W.heap.size W w':=by
 obtain ⟨a,n,c,b,m,d,rfl,hx,hy⟩:=hx0
 obtain ⟨W1,hW1⟩ : ∃ W1,W.alloc (.cells #[.int .u8 f.op,str f.name,.slice a n c,.slice b m d] 40) = W1:=⟨_,rfl⟩
 have b1 : Below W.heap.size W W1:=by rw [← hW1];exact (Below.refl _ _).alloc (Nat.le_refl _) _
 have r0 : W1.heap[W.heap.size]? = some (.cells #[.int .u8 f.op,str f.name,.slice a n c,.slice b m d] 40 (0,0)):=by rw [← hW1];exact heap_alloc_new W _
 have r1 : W1.heap[cs]? = some (.cells #[str [117],str nm,.int .i64 ar] 104 (0,0)):=(b1.block _ (Array.getElem?_eq_some_iff.1 hc).1).trans hc
 have PC : Hid (∀ X,Below W.heap.size W X → Calls Tryz.prog 111 #[.agg #[.int .u8 f.op,str f.name,.slice a n c,.slice b m d]] X fun e w'=>∃ L v,e = .returned v ∧ (∀ s,s ∈ L ↔ s ∈ f.free []) ∧ eG w' L v ∧ Below X.heap.size X w'):=fun X hb =>
  Free_c f _ X ⟨_,_,_,_,_,_,rfl,hx.keep (aA hb),hy.keep (aA hb)⟩ hok hn
 have B1:=Lib.hid b1
 have R0:=Lib.hid r0
 have R1:=Lib.hid r1
 obtain ⟨y0,y1,y2⟩:=row3 r1
 generalize hq : decide (nm ∈ f.free []) = q
 have HQ:=Lib.hid hq
 clear b1 r0 r1 hx hy hok hn hc hq
 go_enter Tryz.func106,Tryz.ntmps106
 go_upto_region 6 with fail
 refine cH (q:=6) (S:=fun w'=>Below W1.heap.size W1 w') (by kernel_rfl) (Below.refl _ _).drew (fun hHeld=>?_)
 refine aD (i:=0) (v:=?_) rfl (by kernel_rfl) (by kernel_rfl) (by kernel_rfl) (by kernel_rfl) (fun _ _ _ h=>h) (Or.inl ⟨by rfl, ?_⟩) (by assumption) ?_
 rotate_left
 ·(intro w0 hSw;obtain ⟨⟨z0,z1,z2,z3⟩,-⟩:=aJ ((hSw.block _ (Array.getElem?_eq_some_iff.1 R0.out).1).trans R0.out);go_simp;(try with_reducible rfl))
 try simp only [Act.put,List.getElem_toArray,List.getElem_cons_succ,List.getElem_cons_zero,List.setIfInBounds_toArray,List.set_cons_zero,List.set_cons_succ]
 refine aD (i:=2) (v:=?_) rfl (by kernel_rfl) (by kernel_rfl) (by kernel_rfl) (by kernel_rfl) (fun _ _ _ h=>h) (Or.inl ⟨by rfl, ?_⟩) (by assumption) ?_
 rotate_left
 ·(intro w0 hSw;go_simp;(try with_reducible rfl))
 try simp only [Act.put,List.getElem_toArray,List.getElem_cons_succ,List.getElem_cons_zero,List.setIfInBounds_toArray,List.set_cons_zero,List.set_cons_succ]
 refine aD (i:=3) (v:=?_) rfl (by kernel_rfl) (by kernel_rfl) (by kernel_rfl) (by kernel_rfl) (fun _ _ _ h=>h) (Or.inl ⟨by rfl, ?_⟩) (by assumption) ?_
 rotate_left
 ·(intro w0 hSw;go_simp;(try with_reducible rfl))
 try simp only [Act.put,List.getElem_toArray,List.getElem_cons_succ,List.getElem_cons_zero,List.setIfInBounds_toArray,List.set_cons_zero,List.set_cons_succ]
 refine aD (i:=4) (v:=?_) rfl (by kernel_rfl) (by kernel_rfl) (by kernel_rfl) (by kernel_rfl) (fun _ _ _ h=>h) (Or.inl ⟨by rfl, ?_⟩) (by assumption) ?_
 rotate_left
 ·(intro w0 hSw;obtain ⟨z0,z1,z2⟩:=row3 ((hSw.block _ (Array.getElem?_eq_some_iff.1 R1.out).1).trans R1.out);go_simp;(try with_reducible rfl))
 try simp only [Act.put,List.getElem_toArray,List.getElem_cons_succ,List.getElem_cons_zero,List.setIfInBounds_toArray,List.set_cons_zero,List.set_cons_succ]
 refine aY (j:=1) (by kernel_rfl) (by kernel_rfl) rfl (fun K hK=>?_)
 go_simp
 go_at_call 111
 refine (PC.out _ B1.out.drew).mono ?_
 rintro e w5 ⟨L,v,rfl,hL,hv,b5⟩
 have H5:=Lib.hid (And.intro hL hv)
 have hS5:=hHeld.trans b5
 clear hL hv b5 PC hHeld
 go_simp
 refine hK.out _ _ hS5 (fun hHeld=>?_)
 clear hK K hS5
 try simp only [Act.put,List.getElem_toArray,List.getElem_cons_succ,List.getElem_cons_zero,List.setIfInBounds_toArray,List.set_cons_zero,List.set_cons_succ]
 refine aY (j:=5) (by kernel_rfl) (by kernel_rfl) rfl (fun K hK=>?_)
 go_simp
 go_at_call 110
 refine (mW H5.out.2 nm).mono ?_
 rintro e w6 ⟨he,rfl⟩
 rw [show decide (nm ∈ L) = decide (nm ∈ f.free []) from decide_eq_decide.2 (H5.out.1 nm),HQ.out] at he
 subst he
 have hS6:=hHeld
 have BF : Hid (Below W.heap.size W w6):=B1.out.trans (hS6.mono B1.out.size)
 clear hHeld
 go_simp
 refine hK.out _ _ hS6 (fun hHeld=>?_)
 clear hK K hS6
 try simp only [Act.put,List.getElem_toArray,List.getElem_cons_succ,List.getElem_cons_zero,List.setIfInBounds_toArray,List.set_cons_zero,List.set_cons_succ]
 refine cG (by kernel_rfl) (by kernel_rfl) rfl (fun K hK=>?_)
 go_simp
 refine hK.out _ _ ?_
 clear hK K hHeld
 go_wp2_with fail
 go_ret
 exact ⟨rfl,BF.out⟩
set_option maxHeartbeats 4000000 in
theorem binds1_c (f : Fm) (x : Value) (cs : Nat) (nm : Bs) (W : World) (hc : W.heap[cs]? = some (.cells #[str nm] 9 (0,0))) (hx0 : bH W f x) (hok : f.okNames = true) (hn : f.nodes ≤ 100000) :
  Calls Tryz.prog 112 #[x,one cs] W fun e w'=>e = .returned (.bool (decide (nm ∈ f.binds))) ∧ Below W.heap.size W w':=by
 obtain ⟨a,n,c,b,m,d,rfl,hx,hy⟩:=hx0
 obtain ⟨W1,hW1⟩ : ∃ W1,W.alloc (.cells #[.int .u8 f.op,str f.name,.slice a n c,.slice b m d] 40) = W1:=⟨_,rfl⟩
 have b1 : Below W.heap.size W W1:=by rw [← hW1];exact (Below.refl _ _).alloc (Nat.le_refl _) _
 have r0 : W1.heap[W.heap.size]? = some (.cells #[.int .u8 f.op,str f.name,.slice a n c,.slice b m d] 40 (0,0)):=by rw [← hW1];exact heap_alloc_new W _
 have r1 : W1.heap[cs]? = some (.cells #[str nm] 9 (0,0)):=(b1.block _ (Array.getElem?_eq_some_iff.1 hc).1).trans hc
 have PC : Hid (∀ X,Below W.heap.size W X → Calls Tryz.prog 72 #[.agg #[.int .u8 f.op,str f.name,.slice a n c,.slice b m d]] X fun e w'=>∃ L v,e = .returned v ∧ (∀ s,s ∈ L ↔ s ∈ f.binds) ∧ eG w' L v ∧ Below X.heap.size X w'):=fun X hb =>
  xF f _ X ⟨_,_,_,_,_,_,rfl,hx.keep (aA hb),hy.keep (aA hb)⟩ hok hn (qZ f hok)
 have B1:=Lib.hid b1
 have R0:=Lib.hid r0
 have R1:=Lib.hid r1
 obtain ⟨y0,-⟩:=row1 r1
 generalize hq : decide (nm ∈ f.binds) = q
 have HQ:=Lib.hid hq
 clear b1 r0 r1 hx hy hok hn hc hq
 go_enter Tryz.func112,Tryz.ntmps112
 go_upto_region 1 with fail
 refine cH (q:=4) (S:=fun w'=>Below W1.heap.size W1 w') (by kernel_rfl) (Below.refl _ _).drew (fun hHeld=>?_)
 refine aD (i:=0) (v:=?_) rfl (by kernel_rfl) (by kernel_rfl) (by kernel_rfl) (by kernel_rfl) (fun _ _ _ h=>h) (Or.inl ⟨by rfl, ?_⟩) (by assumption) ?_
 rotate_left
 ·(intro w0 hSw;obtain ⟨⟨z0,z1,z2,z3⟩,-⟩:=aJ ((hSw.block _ (Array.getElem?_eq_some_iff.1 R0.out).1).trans R0.out);go_simp;(try with_reducible rfl))
 try simp only [Act.put,List.getElem_toArray,List.getElem_cons_succ,List.getElem_cons_zero,List.setIfInBounds_toArray,List.set_cons_zero,List.set_cons_succ]
 refine aD (i:=2) (v:=?_) rfl (by kernel_rfl) (by kernel_rfl) (by kernel_rfl) (by kernel_rfl) (fun _ _ _ h=>h) (Or.inl ⟨by rfl, ?_⟩) (by assumption) ?_
 rotate_left
 ·(intro w0 hSw;obtain ⟨z0,-⟩:=row1 ((hSw.block _ (Array.getElem?_eq_some_iff.1 R1.out).1).trans R1.out);go_simp;(try with_reducible rfl))
 try simp only [Act.put,List.getElem_toArray,List.getElem_cons_succ,List.getElem_cons_zero,List.setIfInBounds_toArray,List.set_cons_zero,List.set_cons_succ]
 refine aY (j:=1) (by kernel_rfl) (by kernel_rfl) rfl (fun K hK=>?_)
 go_simp
 go_at_call 72
 refine (PC.out _ B1.out.drew).mono ?_
 rintro e w5 ⟨L,v,rfl,hL,hv,b5⟩
 have H5:=Lib.hid (And.intro hL hv)
 have hS5:=hHeld.trans b5
 clear hL hv b5 PC hHeld
 go_simp
 refine hK.out _ _ hS5 (fun hHeld=>?_)
 clear hK K hS5
 try simp only [Act.put,List.getElem_toArray,List.getElem_cons_succ,List.getElem_cons_zero,List.setIfInBounds_toArray,List.set_cons_zero,List.set_cons_succ]
 refine aY (j:=3) (by kernel_rfl) (by kernel_rfl) rfl (fun K hK=>?_)
 go_simp
 go_at_call 110
 refine (mW H5.out.2 nm).mono ?_
 rintro e w6 ⟨he,rfl⟩
 rw [show decide (nm ∈ L) = decide (nm ∈ f.binds) from decide_eq_decide.2 (H5.out.1 nm),HQ.out] at he
 subst he
 have hS6:=hHeld
 have BF : Hid (Below W.heap.size W w6):=B1.out.trans (hS6.mono B1.out.size)
 clear hHeld
 go_simp
 refine hK.out _ _ hS6 (fun hHeld=>?_)
 clear hK K hS6
 try simp only [Act.put,List.getElem_toArray,List.getElem_cons_succ,List.getElem_cons_zero,List.setIfInBounds_toArray,List.set_cons_zero,List.set_cons_succ]
 refine cG (by kernel_rfl) (by kernel_rfl) rfl (fun K hK=>?_)
 go_simp
 refine hK.out _ _ ?_
 clear hK K hHeld
 go_wp2_with fail
 go_ret
 exact ⟨rfl,BF.out⟩
end Go.Proofs.YtppfalbnhnpbnaaGreatDoor
namespace Go.Proofs.YtppfalbnhnpbnaaGreatDoor
open Go Go.RowKit Ly
set_option maxRecDepth 10000
set_option maxHeartbeats 2000000 in
theorem IndexFunc112_c (l : List Fm) (p : Fm → Bool) (cs : Nat) (a : Option Addr) (n c : Nat) (w : World) (hx : aL w l (.slice a n c)) (hn : n ≤ 1000)
  (h : ∀ f ∈ l,∀ x X,Below w.heap.size w X → bH X f x → Calls Tryz.prog 112 #[x,one cs] X fun e w'=>e = .returned (.bool (p f)) ∧ Below X.heap.size X w') :
  Calls Tryz.prog 118 #[.slice a n c,.func (.func 112) #[] #[one cs]] w fun e w'=>∃ z : Int,e = .returned (.int .i64 z) ∧ (0 ≤ z ↔ l.any p = true) ∧ Below w.heap.size w w':=by
 have hl:=hx.len
 have LX:=Lib.hid hl.1
 have HX:=Lib.hid hx
 have RC:=Lib.hid h
 clear hl hx h
 go_enter Tryz.func118,Tryz.ntmps118
 go_wp2_with fail
 go_loopw [8] (fun i wr=>∃ j : Nat,j ≤ n ∧ i = .int .i64 j ∧ Hid ((l.take j).any p = false ∧ Below w.heap.size w wr)) (fun i _=>n - (intOf i).toNat)
 case atStart=>exact ⟨0,Nat.zero_le _,rfl,by simp,Below.refl _ _⟩
 case round =>
  obtain ⟨j,hj,rfl,hb⟩:=hrel
  by_cases hlt : j < n
  ·obtain ⟨T,hT⟩:=aX (l:=l) (j:=j) (by rw [← LX.out];exact hlt)
   obtain ⟨bb,off,rfl,hc⟩:=HX.out.get (aZ hT)
   obtain ⟨x0,x1,x2,x3,x4,x5,hx⟩:=hc j _ hT
   have hK:=aA hb.out.2
   have c0:=hK _ _ hx.c0;have c1:=hK _ _ hx.c1;have c2:=hK _ _ hx.c2;have c3:=hK _ _ hx.c3
   have R1 : Hid (Calls Tryz.prog 112 #[.agg #[.int .u8 T.op,str T.name,.slice x0 x1 x2,.slice x3 x4 x5],one cs] wr fun e w'=>e = .returned (.bool (p T)) ∧ Below wr.heap.size wr w'):=RC.out T (List.mem_of_getElem? hT) _ wr hb.out.2 ⟨_,_,_,_,_,_,rfl,hx.at_.keep hK,hx.at'.keep hK⟩
   have HT:=Lib.hid hT
   clear hc hx hT hK
   generalize hq : p T = q at *
   have HQ:=Lib.hid hq
   clear hq
   cases q
   ·go_wp2_with (go_at_call 112;refine R1.out.mono ?_;rintro e w2 ⟨rfl,b2⟩;have B2:=Lib.hid b2;clear b2 R1)
    go_roundw
    case rel =>
     refine ⟨j + 1,by omega,by go_num, ?_,hb.out.2.trans (B2.out.mono hb.out.2.size)⟩
     rw [List.take_add_one,HT.out,List.any_append,hb.out.1]
     show (false || (p T || false)) = false
     rw [HQ.out];rfl
    case measure=>simp [intOf];omega
   ·go_wp2_with (go_at_call 112;refine R1.out.mono ?_;rintro e w2 ⟨rfl,b2⟩;have B2:=Lib.hid b2;clear b2 R1)
    go_ret
    exact ⟨_,rfl,⟨fun _=>List.any_eq_true.2 ⟨T,List.mem_of_getElem? HT.out,HQ.out⟩,fun _=>by omega⟩,hb.out.2.trans (B2.out.mono hb.out.2.size)⟩
  ·have e : l.take j = l:=List.take_of_length_le (by rw [← LX.out];omega)
   have NE:=Lib.hid hb.out.1
   rw [e] at NE
   have BF:=Lib.hid hb.out.2
   clear e hb
   go_wp2_with fail
   go_ret
   exact ⟨_,rfl,⟨fun h=>absurd h (by decide),fun h=>by rw [NE.out] at h;cases h⟩,BF.out⟩
theorem ContainsFunc112_c (l : List Fm) (p : Fm → Bool) (cs : Nat) (v : Value) (w : World) (hx : aL w l v) (hn : l.length ≤ 1000)
  (h : ∀ f ∈ l,∀ x X,Below w.heap.size w X → bH X f x → Calls Tryz.prog 112 #[x,one cs] X fun e w'=>e = .returned (.bool (p f)) ∧ Below X.heap.size X w') :
  Calls Tryz.prog 67 #[v,.func (.func 112) #[] #[one cs]] w fun e w'=>e = .returned (.bool (l.any p)) ∧ Below w.heap.size w w':=by
 obtain ⟨a,c,rfl,-⟩:=At.sl_inv hx
 have IC:=Lib.hid (IndexFunc112_c l p cs a _ c w hx hn h)
 generalize hq : l.any p = q at *
 clear hx hn h hq
 go_enter Tryz.func67,Tryz.ntmps67
 go_wp2_with (go_at_call 118;refine IC.out.mono ?_;rintro e w2 ⟨z,rfl,hz,b2⟩;have B2:=Lib.hid b2;have HZ:=Lib.hid hz;clear b2 hz IC)
 go_ret
 refine ⟨?_,B2.out⟩
 show Ending.returned (.bool (decide (z ≥ 0))) = _
 congr 2
 rw [Bool.eq_iff_iff,decide_eq_true_eq]
 exact HZ.out
theorem has1_all (hS : iS) (s : Sy) (hs : s.sort = 80 ∨ s.sort = 97 ∨ s.sort = 117) (f : Fm) (x : Value) (cs : Nat) (W : World) (hc : W.heap[cs]? = some (.cells #[str [s.sort],str s.name,.int .i64 s.ar] 104 (0,0))) (hx0 : bH W f x) (hok : f.ok = true) (hn : f.nodes ≤ 100000) :
  Calls Tryz.prog 106 #[x,one cs] W fun e w'=>e = .returned (.bool (f.hasSy s)) ∧ Below W.heap.size W w':=by
 obtain ⟨k,n,a⟩:=s
 simp only at hs hc
 rcases hs with rfl | rfl | rfl
 ·exact zF hS f x cs n a W hc hx0 hok hn
 ·exact hasA1_c hS f x cs n a W hc hx0 hok hn
 ·exact hasU1_c f x cs n a W hc hx0 (Fm.okNames_of f hok) hn
set_option maxHeartbeats 4000000 in
theorem AM (hS : iS) (s : Sy) (hs : s.sort = 80 ∨ s.sort = 97 ∨ s.sort = 117) (L R : List Fm) (x : Value) (W : World) (hx0 : bT W L R x) (h1 : okSq L R) :
  Calls Tryz.prog 59 #[x,.agg #[str [s.sort],str s.name,.int .i64 s.ar]] W fun e w'=>e = .returned (.bool ((L ++ R).any (Fm.hasSy s))) ∧ Below W.heap.size W w':=by
 obtain ⟨a,n,c,b,m,d,rfl,hx,hy⟩:=hx0
 obtain ⟨W1,hW1⟩ : ∃ W1,(W.alloc (.cells #[.slice a n c,.slice b m d] 26)).alloc (.cells #[str [s.sort],str s.name,.int .i64 s.ar] 104) = W1:=⟨_,rfl⟩
 have b1 : Below W.heap.size W W1:=by rw [← hW1];exact ((Below.refl _ _).alloc (Nat.le_refl _) _).alloc (by simp) _
 have r0 : W1.heap[W.heap.size]? = some (.cells #[.slice a n c,.slice b m d] 26 (0,0)):=by rw [← hW1];exact aI _ (heap_alloc_new W _)
 have r1 : W1.heap[W.heap.size + 1]? = some (.cells #[str [s.sort],str s.name,.int .i64 s.ar] 104 (0,0)):=by
  rw [← hW1]
  have:=heap_alloc_new (W.alloc (.cells #[.slice a n c,.slice b m d] 26)) (.cells #[str [s.sort],str s.name,.int .i64 s.ar] 104)
  rwa [World.size_alloc] at this
 have FC : Hid (Calls Tryz.prog 56 #[.agg #[.slice a n c,.slice b m d]] W1 fun e w'=>∃ v,e = .returned v ∧ aL w' (L ++ R) v ∧ Below W1.heap.size W1 w'):=oA L R _ W1 ⟨_,_,_,_,_,_,rfl,hx.keep (aA b1),hy.keep (aA b1)⟩ (by have:=h1.2.2.1;omega) (by have:=h1.2.2.2;omega)
 have rA : ∀ f ∈ L ++ R,f.right = true:=fun f hf=>by rcases List.mem_append.1 hf with h | h;exact h1.1 f h;exact h1.2.1 f h
 have CC : Hid (∀ X v,Below W1.heap.size W1 X → aL X (L ++ R) v → Calls Tryz.prog 67 #[v,.func (.func 106) #[] #[one (W.heap.size + 1)]] X fun e w'=>e = .returned (.bool ((L ++ R).any (Fm.hasSy s))) ∧ Below X.heap.size X w'):=fun X v hb hv =>
  iR (L ++ R) _ _ v X hv (by have h2:=h1.2.2.1;have h3:=h1.2.2.2;rw [List.length_append];omega) (fun f hf y Y hY hy'=>by
   have fr:=rA f hf
   simp only [Fm.right,Bool.and_eq_true,decide_eq_true_eq] at fr
   exact has1_all hS s hs f y _ Y ((hY.block _ (by have:=(Array.getElem?_eq_some_iff.1 r1).1;have:=hb.size;omega)).trans ((hb.block _ (Array.getElem?_eq_some_iff.1 r1).1).trans r1)) hy' fr.1.1 (by omega))
 have B1:=Lib.hid b1
 obtain ⟨y0,y1,-,-⟩:=row2 r0
 generalize (L ++ R).any (Fm.hasSy s) = q at *
 clear b1 r0 r1 hx hy h1 hS hs rA
 go_enter Tryz.func59,Tryz.ntmps59
 go_wp2_with (first
  | (
    go_at_call 56
    refine FC.out.mono ?_
    rintro e w2 ⟨v2,rfl,h2,b2⟩
    obtain ⟨fa,fk,fc,rfl⟩ : ∃ a k c,v2 = .slice a k c:=by obtain ⟨a,c,rfl,-⟩:=At.sl_inv h2;exact ⟨_,_,_,rfl⟩
    have H2:=Lib.hid (And.intro h2 b2)
    clear h2 b2 FC)
  | (
    go_at_call 67
    refine (CC.out _ _ H2.out.2 H2.out.1).mono ?_
    rintro e w3 ⟨rfl,b3⟩
    have B3:=Lib.hid (B1.out.trans ((H2.out.2.trans (b3.mono H2.out.2.size)).mono B1.out.size))
    clear b3 CC))
 go_ret
 exact ⟨rfl,B3.out⟩
set_option maxHeartbeats 4000000 in
theorem binds_c (L R : List Fm) (x : Value) (nm : Bs) (W : World) (hx0 : bT W L R x) (h1 : okSq L R) :
  Calls Tryz.prog 60 #[x,str nm] W fun e w'=>e = .returned (.bool ((L ++ R).any (fun f=>decide (nm ∈ f.binds)))) ∧ Below W.heap.size W w':=by
 obtain ⟨a,n,c,b,m,d,rfl,hx,hy⟩:=hx0
 obtain ⟨W1,hW1⟩ : ∃ W1,(W.alloc (.cells #[.slice a n c,.slice b m d] 26)).alloc (.cells #[str nm] 9) = W1:=⟨_,rfl⟩
 have b1 : Below W.heap.size W W1:=by rw [← hW1];exact ((Below.refl _ _).alloc (Nat.le_refl _) _).alloc (by simp) _
 have r0 : W1.heap[W.heap.size]? = some (.cells #[.slice a n c,.slice b m d] 26 (0,0)):=by rw [← hW1];exact aI _ (heap_alloc_new W _)
 have r1 : W1.heap[W.heap.size + 1]? = some (.cells #[str nm] 9 (0,0)):=by
  rw [← hW1]
  have:=heap_alloc_new (W.alloc (.cells #[.slice a n c,.slice b m d] 26)) (.cells #[str nm] 9)
  rwa [World.size_alloc] at this
 have FC : Hid (Calls Tryz.prog 56 #[.agg #[.slice a n c,.slice b m d]] W1 fun e w'=>∃ v,e = .returned v ∧ aL w' (L ++ R) v ∧ Below W1.heap.size W1 w'):=oA L R _ W1 ⟨_,_,_,_,_,_,rfl,hx.keep (aA b1),hy.keep (aA b1)⟩ (by have:=h1.2.2.1;omega) (by have:=h1.2.2.2;omega)
 have rA : ∀ f ∈ L ++ R,f.right = true:=fun f hf=>by rcases List.mem_append.1 hf with h | h;exact h1.1 f h;exact h1.2.1 f h
 have CC : Hid (∀ X v,Below W1.heap.size W1 X → aL X (L ++ R) v → Calls Tryz.prog 67 #[v,.func (.func 112) #[] #[one (W.heap.size + 1)]] X fun e w'=>e = .returned (.bool ((L ++ R).any (fun f=>decide (nm ∈ f.binds)))) ∧ Below X.heap.size X w'):=fun X v hb hv =>
  ContainsFunc112_c (L ++ R) _ _ v X hv (by have h2:=h1.2.2.1;have h3:=h1.2.2.2;rw [List.length_append];omega) (fun f hf y Y hY hy'=>by
   have fr:=rA f hf
   simp only [Fm.right,Bool.and_eq_true,decide_eq_true_eq] at fr
   exact binds1_c f y _ nm Y ((hY.block _ (by have:=(Array.getElem?_eq_some_iff.1 r1).1;have:=hb.size;omega)).trans ((hb.block _ (Array.getElem?_eq_some_iff.1 r1).1).trans r1)) hy' (Fm.okNames_of f fr.1.1) (by omega))
 have B1:=Lib.hid b1
 obtain ⟨y0,y1,-,-⟩:=row2 r0
 generalize (L ++ R).any (fun f=>decide (nm ∈ f.binds)) = q at *
 clear b1 r0 r1 hx hy h1 rA
 go_enter Tryz.func60,Tryz.ntmps60
 go_wp2_with (first
  | (
    go_at_call 56
    refine FC.out.mono ?_
    rintro e w2 ⟨v2,rfl,h2,b2⟩
    obtain ⟨fa,fk,fc,rfl⟩ : ∃ a k c,v2 = .slice a k c:=by obtain ⟨a,c,rfl,-⟩:=At.sl_inv h2;exact ⟨_,_,_,rfl⟩
    have H2:=Lib.hid (And.intro h2 b2)
    clear h2 b2 FC)
  | (
    go_at_call 67
    refine (CC.out _ _ H2.out.2 H2.out.1).mono ?_
    rintro e w3 ⟨rfl,b3⟩
    have B3:=Lib.hid (B1.out.trans ((H2.out.2.trans (b3.mono H2.out.2.size)).mono B1.out.size))
    clear b3 CC))
 go_ret
 exact ⟨rfl,B3.out⟩
end Go.Proofs.YtppfalbnhnpbnaaGreatDoor
namespace Go.Proofs.YtppfalbnhnpbnaaGreatDoor
open Go Go.RowKit Ly
set_option maxRecDepth 10000
def hasG (c : UInt8) (L R : List Fm) (a : Bs) (k : Nat) : Bool:=(L ++ R).any (Fm.hasSy ⟨c,a,k⟩)
def bndG (c : UInt8) (L R : List Fm) (b : Bs) : Bool:=decide (c = 117) && (L ++ R).any (fun f=>decide (b ∈ f.binds))
def renG (c : UInt8) (L R : List Fm) (a b : Bs) (k : Nat) : List Fm × List Fm × Int :=
 if (hasG c L R b k || bndG c L R b) = true then ([],[],300) else if hasG c L R a k = true then (bN ⟨c,a,k⟩ b L,bN ⟨c,a,k⟩ b R,0) else ([],[],6)
set_option maxHeartbeats 8000000 in
theorem renamedA_c (L R : List Fm) (x : Value) (W : World) (hr : cZ W) (hx0 : bT W L R x) (h1 : okSq L R) (a b : Bs) (k : Nat) (la : a.length ≤ maxLen) (lb : b.length ≤ maxLen) (ha : kM a = [97]) (hb : kM b = [97]) (hne : b ≠ a) :
  Calls Tryz.prog 29 #[x,.agg #[str a,.int .i64 k],.agg #[str b,.int .i64 k]] W (RetR (renG 97 L R a b k).1 (renG 97 L R a b k).2.1 (renG 97 L R a b k).2.2 W):=by
 obtain ⟨xa,xn,xc,xb,xm,xd,rfl,hx,hy⟩:=hx0
 have KV : ∀ X,Below W.heap.size W X → bT X L R (.agg #[.slice xa xn xc,.slice xb xm xd]):=fun X hX=>⟨_,_,_,_,_,_,rfl,hx.keep (aA hX),hy.keep (aA hX)⟩
 have SA : Hid (∀ X,Calls Tryz.prog 58 #[str a] X fun e w'=>e = .returned (str [97]) ∧ Below X.heap.size X w'):=fun X=>by have:=pG a la X;rwa [ha] at this
 have SB : Hid (∀ X,Calls Tryz.prog 58 #[str b] X fun e w'=>e = .returned (str [97]) ∧ Below X.heap.size X w'):=fun X=>by have:=pG b lb X;rwa [hb] at this
 have RC : Hid (∀ X,Below W.heap.size W X → Calls Tryz.prog 35 #[.agg #[.slice xa xn xc,.slice xb xm xd]] X fun e w'=>e = .returned (.bool true) ∧ Below X.heap.size X w'):=fun X hX=>qP L R _ X (hr.keep (aA hX)) (KV X hX) h1.1 h1.2.1 h1.2.2.1 h1.2.2.2
 have HC : Hid (∀ X n,Below W.heap.size W X → Calls Tryz.prog 59 #[.agg #[.slice xa xn xc,.slice xb xm xd],.agg #[str [97],str n,.int .i64 k]] X fun e w'=>e = .returned (.bool (hasG 97 L R n k)) ∧ Below X.heap.size X w'):=fun X n hX=>AM sN ⟨97,n,k⟩ (.inr (.inl rfl)) L R _ X (KV X hX) h1
 have CC : Hid (∀ X,Below W.heap.size W X → Calls Tryz.prog 36 #[.agg #[.slice xa xn xc,.slice xb xm xd],.func (.func 61) #[.agg #[str [97],str a,.int .i64 k,str b]] #[]] X fun e w'=>∃ v,e = .returned v ∧ bT (hide (lo X) w') (bN ⟨97,a,k⟩ b L) (bN ⟨97,a,k⟩ b R) v ∧ Below X.heap.size X w'):=fun X hX=>by
  have rA : ∀ f ∈ L ++ R,f.right = true:=fun f hf=>by rcases List.mem_append.1 hf with h | h;exact h1.1 f h;exact h1.2.1 f h
  refine (mV (fun _=>False) (renV ⟨97,a,k⟩ b) (fun (_ : Unit) _=>True) (fun _ f=>(Fm.ren ⟨97,a,k⟩ b f,())) X L R () _ (KV X hX) (by have:=h1.2.2.1;omega) (by have:=h1.2.2.2;omega) trivial (fun _ _ _ _ _=>trivial) (fun _ _ _ k hk=>absurd hk (fun e=>e)) (fun k hk=>absurd hk (fun e=>e)) (fun j t ht Y y _ hY hv=>?_)).mono ?_
  ·have fr:=rA t (List.mem_of_getElem? ht)
   simp only [Fm.right,Bool.and_eq_true,decide_eq_true_eq] at fr
   refine (yO a b k t Y y hv (by omega)).mono ?_
   rintro e w' ⟨v,rfl,h1,h2⟩
   exact ⟨v,rfl,h1,trivial,.of_below h2⟩
  ·rintro e w' ⟨v,rfl,h1,-,h3⟩
   rw [eP,eP] at h1
   exact ⟨v,rfl,h1,h3.toBelow⟩
 have M0:=Lib.hid (rZ W (.slice xa xn xc) (.slice xb xm xd) a b k)
 obtain ⟨W0,hW0⟩ : ∃ W0,((((W.alloc (.cells #[.slice xa xn xc,.slice xb xm xd] 26)).alloc (.cells #[str a,.int .i64 k] 51)).alloc (.cells #[str b,.int .i64 k] 51)).alloc (.cells #[.slice none 0 0,.slice none 0 0] 26)) = W0:=⟨_,rfl⟩
 rw [hW0] at M0
 obtain ⟨⟨⟨p0,p1⟩,q0,q1⟩,⟨s0,s1⟩,z0,z1,z2,z3⟩:=M0.out.cells
 unfold renG
 rw [show bndG 97 L R b = false from rfl,Bool.or_false]
 generalize hp : hasG 97 L R b k = p at *
 generalize hq : hasG 97 L R a k = q at *
 have HP:=Lib.hid hp
 have HQ:=Lib.hid hq
 clear hp hq hx hy KV h1 ha hb la lb hr
 go_enter Tryz.func29,Tryz.ntmps29
 cases p
 ·cases q
  ·go_wp2_with (first
    | (go_at_call 58;refine (SA.out _).mono ?_;rintro e w1 ⟨rfl,b1⟩;have M1:=Lib.hid (M0.out.next b1);clear b1 SA p0 p1 q0 q1 s0 s1 z0 z1 z2 z3;obtain ⟨⟨⟨p0,p1⟩,q0,q1⟩,⟨s0,s1⟩,z0,z1,z2,z3⟩:=M1.out.cells)
    | (go_at_call 35;refine (RC.out _ M1.out.bt).mono ?_;rintro e w2 ⟨rfl,b1⟩;have M2:=Lib.hid (M1.out.next b1);clear b1 RC p0 p1 q0 q1 s0 s1 z0 z1 z2 z3;obtain ⟨⟨⟨p0,p1⟩,q0,q1⟩,⟨s0,s1⟩,z0,z1,z2,z3⟩:=M2.out.cells)
    | (go_at_call 58;refine (SB.out _).mono ?_;rintro e w3 ⟨rfl,b1⟩;have M3:=Lib.hid (M2.out.next b1);clear b1 SB p0 p1 q0 q1 s0 s1 z0 z1 z2 z3;obtain ⟨⟨⟨p0,p1⟩,q0,q1⟩,⟨s0,s1⟩,z0,z1,z2,z3⟩:=M3.out.cells)
    | (have Z4:=M4.out;clear Z4;go_at_call 59;refine (HC.out _ a M4.out.bt).mono ?_;rw [HQ.out];rintro e w5 ⟨rfl,b1⟩;have M5:=Lib.hid (M4.out.next b1);clear b1 p0 p1 q0 q1 s0 s1 z0 z1 z2 z3;obtain ⟨⟨⟨p0,p1⟩,q0,q1⟩,⟨s0,s1⟩,z0,z1,z2,z3⟩:=M5.out.cells)
    | (go_at_call 59;refine (HC.out _ b M3.out.bt).mono ?_;rw [HP.out];rintro e w4 ⟨rfl,b1⟩;have M4:=Lib.hid (M3.out.next b1);clear b1 p0 p1 q0 q1 s0 s1 z0 z1 z2 z3;obtain ⟨⟨⟨p0,p1⟩,q0,q1⟩,⟨s0,s1⟩,z0,z1,z2,z3⟩:=M4.out.cells))
   refine bodyPost_ret (mP _ _ (W.heap.size + 1 + 1 + 1) (.slice none 0 0) (.slice none 0 0) _ rfl rfl (aC (o:=1) (u:=.slice none 0 0) (aC (o:=0) (u:=.slice none 0 0) M5.out.r3))) rfl ?_
   exact ⟨none,0,0,none,0,0,rfl,At.sl_nil (by unfold maxLen;omega),At.sl_nil (by unfold maxLen;omega),(M5.out.bt.setCell (by simp;omega) _).setCell (by simp;omega) _⟩
  ·go_wp2_with (first
    | (go_at_call 58;refine (SA.out _).mono ?_;rintro e w1 ⟨rfl,b1⟩;have M1:=Lib.hid (M0.out.next b1);clear b1 SA p0 p1 q0 q1 s0 s1 z0 z1 z2 z3;obtain ⟨⟨⟨p0,p1⟩,q0,q1⟩,⟨s0,s1⟩,z0,z1,z2,z3⟩:=M1.out.cells)
    | (go_at_call 35;refine (RC.out _ M1.out.bt).mono ?_;rintro e w2 ⟨rfl,b1⟩;have M2:=Lib.hid (M1.out.next b1);clear b1 RC p0 p1 q0 q1 s0 s1 z0 z1 z2 z3;obtain ⟨⟨⟨p0,p1⟩,q0,q1⟩,⟨s0,s1⟩,z0,z1,z2,z3⟩:=M2.out.cells)
    | (go_at_call 58;refine (SB.out _).mono ?_;rintro e w3 ⟨rfl,b1⟩;have M3:=Lib.hid (M2.out.next b1);clear b1 SB p0 p1 q0 q1 s0 s1 z0 z1 z2 z3;obtain ⟨⟨⟨p0,p1⟩,q0,q1⟩,⟨s0,s1⟩,z0,z1,z2,z3⟩:=M3.out.cells)
    | (
      go_at_call 36
      refine (CC.out _ M5.out.bt).mono ?_
      rintro e w6 ⟨v6,rfl,⟨ga,gn,gc,gb,gm,gd,rfl,h3,h4⟩,b6⟩
      have M6:=Lib.hid (M5.out.next b6)
      have H6:=Lib.hid (And.intro h3 (And.intro h4 b6))
      clear h3 h4 b6 CC p0 p1 q0 q1 s0 s1 z0 z1 z2 z3
      obtain ⟨⟨⟨p0,p1⟩,q0,q1⟩,⟨s0,s1⟩,z0,z1,z2,z3⟩:=M6.out.cells)
    | (have Z4:=M4.out;clear Z4;go_at_call 59;refine (HC.out _ a M4.out.bt).mono ?_;rw [HQ.out];rintro e w5 ⟨rfl,b1⟩;have M5:=Lib.hid (M4.out.next b1);clear b1 p0 p1 q0 q1 s0 s1 z0 z1 z2 z3;obtain ⟨⟨⟨p0,p1⟩,q0,q1⟩,⟨s0,s1⟩,z0,z1,z2,z3⟩:=M5.out.cells)
    | (go_at_call 59;refine (HC.out _ b M3.out.bt).mono ?_;rw [HP.out];rintro e w4 ⟨rfl,b1⟩;have M4:=Lib.hid (M3.out.next b1);clear b1 p0 p1 q0 q1 s0 s1 z0 z1 z2 z3;obtain ⟨⟨⟨p0,p1⟩,q0,q1⟩,⟨s0,s1⟩,z0,z1,z2,z3⟩:=M4.out.cells))
   obtain ⟨h3,h4,b6⟩:=H6.out
   have l5:=(Array.getElem?_eq_some_iff.1 M5.out.r3).1
   have key : ∀ k,k ≠ W.heap.size + 1 + 1 + 1 → ((w6.setCell ⟨W.heap.size + 1 + 1 + 1,0,none⟩ (.slice ga gn gc)).setCell ⟨W.heap.size + 1 + 1 + 1,1,none⟩ (.slice gb gm gd)).heap[k]? = w6.heap[k]?:=fun k hk=>by rw [Below.heap_setCell _ _ _ _ hk,Below.heap_setCell _ _ _ _ hk]
   refine bodyPost_ret (mP _ _ (W.heap.size + 1 + 1 + 1) (.slice ga gn gc) (.slice gb gm gd) _ rfl rfl (aC (o:=1) (u:=.slice gb gm gd) (aC (o:=0) (u:=.slice ga gn gc) M6.out.r3))) rfl ?_
   refine ⟨ga,gn,gc,gb,gm,gd,rfl, ?_, ?_,(M6.out.bt.setCell (by simp;omega) _).setCell (by simp;omega) _⟩
   ·refine h3.keep (aF fun k h1 h2=>?_)
    simp only [lo,decide_eq_false_iff_not,Nat.not_lt] at h2 ⊢
    exact ⟨by omega,key k (by omega)⟩
   ·refine h4.keep (aF fun k h1 h2=>?_)
    simp only [lo,decide_eq_false_iff_not,Nat.not_lt] at h2 ⊢
    exact ⟨by omega,key k (by omega)⟩
 ·have hne2 : ¬ a = b:=fun e=>hne e.symm
  go_wp2_with (first
    | (go_at_call 58;refine (SA.out _).mono ?_;rintro e w1 ⟨rfl,b1⟩;have M1:=Lib.hid (M0.out.next b1);clear b1 SA p0 p1 q0 q1 s0 s1 z0 z1 z2 z3;obtain ⟨⟨⟨p0,p1⟩,q0,q1⟩,⟨s0,s1⟩,z0,z1,z2,z3⟩:=M1.out.cells)
    | (go_at_call 35;refine (RC.out _ M1.out.bt).mono ?_;rintro e w2 ⟨rfl,b1⟩;have M2:=Lib.hid (M1.out.next b1);clear b1 RC p0 p1 q0 q1 s0 s1 z0 z1 z2 z3;obtain ⟨⟨⟨p0,p1⟩,q0,q1⟩,⟨s0,s1⟩,z0,z1,z2,z3⟩:=M2.out.cells)
    | (go_at_call 58;refine (SB.out _).mono ?_;rintro e w3 ⟨rfl,b1⟩;have M3:=Lib.hid (M2.out.next b1);clear b1 SB p0 p1 q0 q1 s0 s1 z0 z1 z2 z3;obtain ⟨⟨⟨p0,p1⟩,q0,q1⟩,⟨s0,s1⟩,z0,z1,z2,z3⟩:=M3.out.cells)
    | (go_at_call 59;refine (HC.out _ b M3.out.bt).mono ?_;rw [HP.out];rintro e w4 ⟨rfl,b1⟩;have M4:=Lib.hid (M3.out.next b1);clear b1 p0 p1 q0 q1 s0 s1 z0 z1 z2 z3;obtain ⟨⟨⟨p0,p1⟩,q0,q1⟩,⟨s0,s1⟩,z0,z1,z2,z3⟩:=M4.out.cells))
  refine bodyPost_ret (mP _ _ (W.heap.size + 1 + 1 + 1) (.slice none 0 0) (.slice none 0 0) _ rfl rfl (aC (o:=1) (u:=.slice none 0 0) (aC (o:=0) (u:=.slice none 0 0) M4.out.r3))) rfl ?_
  exact ⟨none,0,0,none,0,0,rfl,At.sl_nil (by unfold maxLen;omega),At.sl_nil (by unfold maxLen;omega),(M4.out.bt.setCell (by simp;omega) _).setCell (by simp;omega) _⟩
end Go.Proofs.YtppfalbnhnpbnaaGreatDoor
