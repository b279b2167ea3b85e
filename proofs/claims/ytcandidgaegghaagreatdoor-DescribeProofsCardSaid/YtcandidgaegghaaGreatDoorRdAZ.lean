/- The reader of words: where it lies, take and must, the map of first words, the makers of closures. Conditions: none but those of each statement. -/
import Derived.Test.YtcandidgaegghaaGreatDoorCpZ
import Derived.Test.YtcandidgaegghaaGreatDoorProofBZ
import Derived.Shelf.Abstract
import Derived.OneCell
import Derived.Maps.OwnOps
import Derived.Maps.Views
import Derived.Orders
set_option maxRecDepth 10000
set_option linter.unusedSimpArgs false
set_option linter.unusedVariables false
namespace Go.Proofs.YtcandidgaegghaaGreatDoor
open Go Go.RowKit Ly
set_option maxHeartbeats 800000
structure RdIx where
 L : Nat
 A : Nat
 S : Nat
 R : Nat
 M : Nat
 la : Option Addr
 ln : Nat
 lc : Nat
abbrev one (b : Nat) : Value:=.pointer (some ⟨b,0,none⟩)
structure Rd (w : World) (I : RdIx) (ws : List Bs) (k : Nat) (failed : Bool) : Prop where
 hL : w.heap[I.L]? = some (.cells #[.slice I.la I.ln I.lc] 36 (0,0))
 hA : w.heap[I.A]? = some (.cells #[.int .i64 k] 3 (0,0))
 hS : w.heap[I.S]? = some (.cells #[.func (.func 190) #[] #[one I.R,one I.A,one I.L],.func (.func 191) #[] #[one I.A,one I.L],.bool failed,.map (some I.M)] 161 (0,0))
 hR : w.heap[I.R]? = some (.cells #[one I.S] 153 (0,0))
 list : aU w ws (.slice I.la I.ln I.lc)
 at_ : k ≤ ws.length
 short : ws.length ≤ 1000000
 lO : ∀ a,I.la = some a → a.block ≠ I.A ∧ a.block ≠ I.S
 sep : I.A ≠ I.S
theorem CI (I : RdIx) (ws : List Bs) (k : Nat) (f : Bool) (g : FuncId) (fs cs : Array Value) (w : World) (h : Rd w I ws k f) (hf : f = true ∨ k = ws.length) :
  Calls Tryz.prog 190 #[.func (.func g) fs cs,one I.R,one I.A,one I.L] w fun e w'=>e = .returned (.tuple #[str [],.bool false]) ∧ w = w':=by
 obtain ⟨hL,hA,hS,hR,li,ak,sh,lO,sp⟩:=h
 have hn:=li.len
 have a0:=cell_of_one hA
 have l0:=cell_of_one hL
 have r0:=cell_of_one hR
 have s2 : w.cell? ⟨I.S,2,none⟩ = some (.bool f):=by rw [box_cell hS];rfl
 have kk : k ≤ 1000000:=by omega
 have nn : I.ln ≤ 1000000:=by omega
 have d1 : f = false → decide (I.ln ≤ k) = true:=fun e=>by
  rcases hf with h | h
  ·rw [e] at h;cases h
  ·simp;omega
 have D1:=Hd d1
 clear hL hA hS hR li lO sp hn d1 hf
 obtain ⟨L,A,S,R,M,la,ln,lc⟩:=I
 simp only at *
 cases f
 ·have d2:=D1.out rfl
  go_enter Tryz.func190,Tryz.ntmps190
  go_wp2_with fail
  go_ret2
  exact ⟨rfl,rfl⟩
 ·go_enter Tryz.func190,Tryz.ntmps190
  go_wp2_with fail
  go_ret2
  exact ⟨rfl,rfl⟩
theorem KI (I : RdIx) (ws : List Bs) (k : Nat) (x : Bs) (g : FuncId) (fs cs : Array Value) (w : World) (h : Rd w I ws k false) (hx : ws[k]? = some x) (en : Enters Tryz.prog g)
  (hacc : Calls Tryz.prog g (fs.push (str x) ++ cs) w (Rt (.bool false) w)) :
  Calls Tryz.prog 190 #[.func (.func g) fs cs,one I.R,one I.A,one I.L] w (Rt (.tuple #[str [],.bool false]) w):=by
 obtain ⟨hL,hA,hS,hR,li,ak,sh,lO,sp⟩:=h
 have hn:=li.len
 obtain ⟨b,off,hla,hc⟩:=li.get (aJ hx)
 have c0:=hc k x hx
 have a0:=cell_of_one hA
 have l0:=cell_of_one hL
 have r0:=cell_of_one hR
 have s2 : w.cell? ⟨I.S,2,none⟩ = some (.bool false):=by rw [box_cell hS];rfl
 have kk : k ≤ 1000000:=by omega
 have nn : I.ln ≤ 1000000:=by omega
 have kl : k < I.ln:=by have:=(List.getElem?_eq_some_iff.1 hx).1;omega
 have d1 : decide (I.ln ≤ k) = false:=by simp;omega
 have HA:=Hd hacc
 have en' : ∀ (args : Array Value) (w : World),(callFunc g args).run Tryz.prog w = .ok (.enter g args) w:=en
 clear hL hA hS hR li lO sp hn hc hacc en
 obtain ⟨L,A,S,R,M,la,ln,lc⟩:=I
 simp only at *
 subst hla
 go_enter Tryz.func190,Tryz.ntmps190
 go_wp2_with fail
 refine HA.out.mono ?_
 rintro e w1 ⟨rfl,b1⟩
 have B1:=Hd b1
 clear b1
 go_wp2_with fail
 go_ret2
 exact ⟨rfl,B1.out⟩
structure aN (I : RdIx) (w w' : World) : Prop where
 os : w'.os = w.os
 tape : w'.tape = w.tape
 output : w'.output = w.output
 size : w.heap.size ≤ w'.heap.size
 block : ∀ k,k < w.heap.size → k ≠ I.A → k ≠ I.S → w'.heap[k]? = w.heap[k]?
theorem aN.refl (I : RdIx) (w : World) : aN I w w:=⟨rfl,rfl,rfl,Nat.le_refl _,fun _ _ _ _=>rfl⟩
theorem aN.trans {I : RdIx} {u v w : World} (h : aN I u v) (k : aN I v w) : aN I u w :=
 ⟨k.os.trans h.os,k.tape.trans h.tape,k.output.trans h.output,Nat.le_trans h.size k.size,fun i hi ha hs=>(k.block i (Nat.lt_of_lt_of_le hi h.size) ha hs).trans (h.block i hi ha hs)⟩
theorem aN.of_below {I : RdIx} {w w' : World} (h : Below w.heap.size w w') : aN I w w':=⟨h.os,h.tape,h.output,h.size,fun k hk _ _=>h.block k hk⟩
theorem aN.setA (I : RdIx) (w : World) (v : Value) : aN I w (w.setCell (⟨I.A,0,none⟩) v):=⟨rfl,rfl,rfl,by simp [World.setCell],fun k _ ha _=>Below.heap_setCell _ _ _ _ ha⟩
theorem aN.setS (I : RdIx) (w : World) (o : Nat) (v : Value) : aN I w (w.setCell (⟨I.S,o,none⟩) v):=⟨rfl,rfl,rfl,by simp [World.setCell],fun k _ _ hs=>Below.heap_setCell _ _ _ _ hs⟩
theorem Rd.ne {w : World} {I : RdIx} {ws : List Bs} {k : Nat} {f : Bool} (h : Rd w I ws k f) : I.L ≠ I.A ∧ I.L ≠ I.S ∧ I.R ≠ I.A ∧ I.R ≠ I.S ∧ I.A ≠ I.S:=by
 obtain ⟨hL,hA,hS,hR,li,ak,sh,lO,sp⟩:=h
 refine ⟨fun e=>?_,fun e=>?_,fun e=>?_,fun e=>?_,sp⟩
 ·rw [e,hA] at hL;simp at hL
 ·rw [e,hS] at hL;simp at hL
 ·rw [e,hA] at hR;simp at hR
 ·rw [e,hS] at hR;simp at hR
theorem Rd.lt {w : World} {I : RdIx} {ws : List Bs} {k : Nat} {f : Bool} (h : Rd w I ws k f) : I.L < w.heap.size ∧ I.A < w.heap.size ∧ I.S < w.heap.size ∧ I.R < w.heap.size :=
 ⟨(Array.getElem?_eq_some_iff.1 h.hL).1,(Array.getElem?_eq_some_iff.1 h.hA).1,(Array.getElem?_eq_some_iff.1 h.hS).1,(Array.getElem?_eq_some_iff.1 h.hR).1⟩
theorem AP {w w' : World} {I : RdIx} {ws : List Bs} {k : Nat} {f : Bool} (h : Rd w I ws k f) (m : aN I w w') : aU w' ws (.slice I.la I.ln I.lc):=by
 have li:=h.list
 by_cases hne : ws = []
 ·subst hne
  have e:=li.len
  have e1 : I.ln = 0:=e.1
  rw [e1];exact At.sl_nil e.2.2
 ·obtain ⟨b,off,hla,hc⟩:=li.get hne
  have ho:=h.lO _ hla
  have e:=li.len
  rw [hla,e.1]
  refine At.sl_mk (by simp) (by rw [← e.1];exact e.2.1) e.2.2 fun j d hd=>?_
  rw [List.getElem?_map] at hd
  obtain ⟨y,hy,rfl⟩:=Option.map_eq_some_iff.1 hd
  refine ⟨_, ?_,rfl⟩
  have c0:=hc j y hy
  rw [← c0]
  have hb : b < w.heap.size:=World.block_lt_of_cell? w ⟨b,off + j,none⟩ c0
  exact World.cell?_of_block (a:=⟨b,off + j,none⟩) (m.block b hb ho.1 ho.2)
theorem Rd.next {w w' : World} {I : RdIx} {ws : List Bs} {k k' : Nat} {f f' : Bool} (h : Rd w I ws k f) (m : aN I w w') (hk : k' ≤ ws.length)
  (hA : w'.heap[I.A]? = some (.cells #[.int .i64 k'] 3 (0,0)))
  (hS : w'.heap[I.S]? = some (.cells #[.func (.func 190) #[] #[one I.R,one I.A,one I.L],.func (.func 191) #[] #[one I.A,one I.L],.bool f',.map (some I.M)] 161 (0,0))) : Rd w' I ws k' f':=by
 have ne:=h.ne
 have lt:=h.lt
 exact ⟨(m.block _ lt.1 ne.1 ne.2.1).trans h.hL,hA,hS,(m.block _ lt.2.2.2 ne.2.2.1 ne.2.2.2.1).trans h.hR,AP h m,hk,h.short,h.lO,h.sep⟩
theorem Rd.below {w w' : World} {I : RdIx} {ws : List Bs} {k : Nat} {f : Bool} (h : Rd w I ws k f) (m : Below w.heap.size w w') : Rd w' I ws k f :=
 h.next (aN.of_below m) h.at_ ((m.block _ h.lt.2.1).trans h.hA) ((m.block _ h.lt.2.2.1).trans h.hS)
theorem Rd.step {w : World} {I : RdIx} {ws : List Bs} {k : Nat} {f : Bool} (h : Rd w I ws k f) (hk : k + 1 ≤ ws.length) : Rd (w.setCell ⟨I.A,0,none⟩ (.int .i64 (k + 1 : Nat))) I ws (k + 1) f :=
 h.next (aN.setA I w _) hk (one_setCell h.hA) (by rw [Below.heap_setCell _ _ _ _ (Ne.symm h.sep)];exact h.hS)
theorem GL (I : RdIx) (ws : List Bs) (k : Nat) (x : Bs) (g : FuncId) (fs cs : Array Value) (w : World) (h : Rd w I ws k false) (hx : ws[k]? = some x) (en : Enters Tryz.prog g)
  (hacc : Calls Tryz.prog g (fs.push (str x) ++ cs) w (Rt (.bool true) w)) :
  Calls Tryz.prog 190 #[.func (.func g) fs cs,one I.R,one I.A,one I.L] w fun e w'=>e = .returned (.tuple #[str x,.bool true]) ∧ Rd w' I ws (k + 1) false ∧ aN I w w':=by
 have HR:=Hd h
 obtain ⟨hL,hA,hS,hR,li,ak,sh,lO,sp⟩:=h
 have hn:=li.len
 obtain ⟨b,off,hla,hc⟩:=li.get (aJ hx)
 have c0:=hc k x hx
 have a0:=cell_of_one hA
 have l0:=cell_of_one hL
 have r0:=cell_of_one hR
 have s2 : w.cell? ⟨I.S,2,none⟩ = some (.bool false):=by rw [box_cell hS];rfl
 have kk : k ≤ 1000000:=by omega
 have nn : I.ln ≤ 1000000:=by omega
 have kl : k < I.ln:=by have:=(List.getElem?_eq_some_iff.1 hx).1;omega
 have d1 : decide (I.ln ≤ k) = false:=by simp;omega
 have HA:=Hd hacc
 have NE:=HR.out.ne
 have lO':=lO _ hla
 have hkl : Hid (k + 1 ≤ ws.length):=(List.getElem?_eq_some_iff.1 hx).1
 have en' : ∀ (args : Array Value) (w : World),(callFunc g args).run Tryz.prog w = .ok (.enter g args) w:=en
 have ba : b ≠ I.A:=lO'.1
 have la' : I.L ≠ I.A:=NE.1
 clear hL hA hS hR li lO lO' sp hn hc hacc en NE
 obtain ⟨L,A,S,R,M,la,ln,lc⟩:=I
 simp only at *
 subst hla
 go_enter Tryz.func190,Tryz.ntmps190
 go_wp2_with fail
 refine HA.out.mono ?_
 rintro e w1 ⟨rfl,b1⟩
 have RD:=Hd (HR.out.below b1)
 have MV : Hid (aN ⟨L,A,S,R,M,some ⟨b,off,none⟩,ln,lc⟩ w w1):=aN.of_below b1
 have K1:=aA b1
 have a1:=K1 _ _ a0;have l1:=K1 _ _ l0;have c1:=K1 _ _ c0
 have f1 : w1.frozen? ⟨A,0,none⟩ = false:=free_of_one RD.out.hA
 clear b1 K1
 go_wp2_with fail
 go_ret2
 exact ⟨rfl,RD.out.step hkl.out,MV.out.trans (aN.setA _ w1 _)⟩
theorem aC {w : World} {b o : Nat} {cs : Array Value} {u : Value} {t : TypeId} {fz : Nat × Nat} (h : w.heap[b]? = some (.cells cs t fz)) : (w.setCell ⟨b,o,none⟩ u).heap[b]? = some (.cells (cs.setIfInBounds o u) t fz):=by
 simp [World.setCell,Array.getElem?_modify,h]
theorem Rd.fail {w : World} {I : RdIx} {ws : List Bs} {k : Nat} {f : Bool} (h : Rd w I ws k f) : Rd (w.setCell ⟨I.S,2,none⟩ (.bool true)) I ws k true :=
 h.next (aN.setS I w 2 _) h.at_ (by rw [Below.heap_setCell _ _ _ _ h.sep];exact h.hA) (by rw [aC h.hS];rfl)
theorem AU (I : RdIx) (ws : List Bs) (k : Nat) (f : Bool) (g : FuncId) (fs cs : Array Value) (w : World) (h : Rd w I ws k f)
  (ht : Calls Tryz.prog 190 #[.func (.func g) fs cs,one I.R,one I.A,one I.L] w (Rt (.tuple #[str [],.bool false]) w)) :
  Calls Tryz.prog 196 #[one I.S,.func (.func g) fs cs] w fun e w'=>e = .returned (str []) ∧ Rd w' I ws k true ∧ aN I w w':=by
 have HR:=Hd h
 have HT:=Hd ht
 have s0 : w.cell? ⟨I.S,0,none⟩ = some (.func (.func 190) #[] #[one I.R,one I.A,one I.L]):=by rw [box_cell h.hS];rfl
 clear h ht
 go_enter Tryz.func196,Tryz.ntmps196
 go_wp2_with fail
 refine HT.out.mono ?_
 rintro e w1 ⟨rfl,b1⟩
 have RD:=Hd (HR.out.below b1)
 have MV : Hid (aN I w w1):=aN.of_below b1
 have s2 : w1.cell? ⟨I.S,2,none⟩ = some (.bool f):=by rw [box_cell RD.out.hS];rfl
 have f2 : w1.frozen? ⟨I.S,2,none⟩ = false:=by simp [World.frozen?,RD.out.hS]
 clear b1 s0
 go_wp2_with fail
 go_ret
 exact ⟨rfl,RD.out.fail,MV.out.trans (aN.setS _ w1 _ _)⟩
theorem must_yes (I : RdIx) (ws : List Bs) (k : Nat) (x : Bs) (g : FuncId) (fs cs : Array Value) (w : World) (h : Rd w I ws k false)
  (ht : Calls Tryz.prog 190 #[.func (.func g) fs cs,one I.R,one I.A,one I.L] w fun e w'=>e = .returned (.tuple #[str x,.bool true]) ∧ Rd w' I ws (k + 1) false ∧ aN I w w') :
  Calls Tryz.prog 196 #[one I.S,.func (.func g) fs cs] w fun e w'=>e = .returned (str x) ∧ Rd w' I ws (k + 1) false ∧ aN I w w':=by
 have HT:=Hd ht
 have s0 : w.cell? ⟨I.S,0,none⟩ = some (.func (.func 190) #[] #[one I.R,one I.A,one I.L]):=by rw [box_cell h.hS];rfl
 clear h ht
 go_enter Tryz.func196,Tryz.ntmps196
 go_wp2_with fail
 refine HT.out.mono ?_
 rintro e w1 ⟨rfl,r1,m1⟩
 have R1:=Hd (And.intro r1 m1)
 clear r1 m1 s0
 go_wp2_with fail
 go_ret
 exact ⟨rfl,R1.out.1,R1.out.2⟩
open Go Go.RowKit Ly
set_option maxHeartbeats 800000
def fR (v : Value) : Option (DataW Value × List MemPlace):=some (.held v,[])
def gI (w : World) (M n : Nat) (T : Bs → Value) : Prop:=∃ D : DataW Value,w.ownsMap Tryz.prog 9 fR M n D ∧ ∀ s : Bs,D.atKey (.string s) (.held .nilFunc) = .held (T s)
theorem gI.made (w : World) : gI (w.alloc (.map #[] 0)) w.heap.size 0 fun _=>.nilFunc:=⟨_,World.ownsMap_made _ _ _ _,fun _=>rfl⟩
theorem gI.grown {w w' : World} {M n : Nat} {T : Bs → Value} {row : Option Nat} (h : gI w M n T) (hg : w.grownBy w' row) (hne : some M ≠ row) : gI w' M n T:=by
 obtain ⟨D,h1,h2⟩:=h
 exact ⟨D,h1.kept hg hne,h2⟩
theorem LC : Tryz.prog.underlying 159 = some (.map 9 155):=by kernel_rfl
theorem zero155 (w : World) : (zeroValue 155).run Tryz.prog w = .ok .nilFunc w:=by kernel_rfl
theorem JN (s : Bs) (hs : s.length ≤ maxLen) : keyOf Tryz.prog 9 (str s) = some (.string s) :=
 WideMaps.keyOf_string_mk Tryz.underlying9 (s:=⟨s.toArray⟩) hs
theorem gI.look {w : World} {M n : Nat} {T : Bs → Value} (h : gI w M n T) (s : Bs) (hs : s.length ≤ maxLen) : (Instr.lookup 159 (.map (some M)) (str s) false).run Tryz.prog w = .ok (T s) w:=by
 obtain ⟨D,h1,h2⟩:=h
 obtain ⟨v,ps,hrun,hv⟩:=h1.lookup (Maps.string_keyed Tryz.underlying9) LC (zero155 w) (R:=fR) rfl (JN s hs)
 rw [h2 s] at hv
 simp only [fR,Option.some.injEq,Prod.mk.injEq,DataW.held.injEq] at hv
 rw [hrun,hv.1]
theorem gI.store {w : World} {M n : Nat} {T : Bs → Value} (h : gI w M n T) (hn : n < 100) (s : Bs) (hs : s.length ≤ maxLen) (v : Value) : ∃ w',(Instr.mapUpdate 159 (.map (some M)) (str s) v).run Tryz.prog w = .ok () w' ∧ gI w' M (n + 1) (fun t=>if t = s then v else T t) ∧ w.grownBy w' (some M):=by
 obtain ⟨D,h1,h2⟩:=h
 obtain ⟨w',hrun,ho,hg⟩:=h1.update (Maps.string_keyed Tryz.underlying9) LC (by unfold maxLen;omega) (val:=v) (d:=.held v) (ps:=[]) (JN s hs) rfl
 refine ⟨w',hrun,⟨_,ho,fun t=>?_⟩,hg⟩
 have im : Maps.IsMap D:=by
  obtain ⟨es,clock,_,_,_,e⟩:=h1
  exact ⟨_,e⟩
 by_cases ht : t = s
 ·subst ht
  rw [Maps.atKey_put_same im (by trivial)];simp
 ·rw [Maps.atKey_put_other (fun e=>ht (by cases e;rfl))];simp only [if_neg ht]
  exact h2 t
open Go Go.RowKit Ly
set_option maxHeartbeats 800000
def rA (w : World) (S : Nat) (op : Int) (v : Value) : Prop:=∃ b1 b2,v = .func (.func 264) #[] #[one b1,one b2] ∧ w.heap[b1]? = some (.cells #[.int .u8 op] 5 (0,0)) ∧ w.heap[b2]? = some (.cells #[one S] 153 (0,0))
def rB (w : World) (S : Nat) (op : Int) (x : Bs) (v : Value) : Prop:=∃ b1 b2 b3,v = .func (.func 267) #[] #[one b1,one b2,one b3] ∧ w.heap[b1]? = some (.cells #[one S] 153 (0,0)) ∧ w.heap[b2]? = some (.cells #[str x] 9 (0,0)) ∧ w.heap[b3]? = some (.cells #[.int .u8 op] 5 (0,0))
def MI (R : World → Value → Prop) (w : World) (e : Ending) (w' : World) : Prop:=∃ v,e = .returned v ∧ R w' v ∧ Below w.heap.size w w'
theorem one_c (S : Nat) (op : Int) (w : World) : Calls Tryz.prog 193 #[one S,.int .u8 op] w (MI (fun w' v=>rA w' S op v) w):=by
 have h1 : ((w.alloc (.cells #[one S] 153)).alloc (.cells #[.int .u8 op] 5)).heap[w.heap.size]? = some (.cells #[one S] 153 (0,0)):=by
  rw [heap_alloc_old _ _ (by simp)];exact heap_alloc_new w _
 have h2 : ((w.alloc (.cells #[one S] 153)).alloc (.cells #[.int .u8 op] 5)).heap[w.heap.size + 1]? = some (.cells #[.int .u8 op] 5 (0,0)):=by
  have:=heap_alloc_new (w.alloc (.cells #[one S] 153)) (.cells #[.int .u8 op] 5)
  simpa using this
 have H : Hid (rA ((w.alloc (.cells #[one S] 153)).alloc (.cells #[.int .u8 op] 5)) S op (.func (.func 264) #[] #[one (w.heap.size + 1),one w.heap.size]) ∧ Below w.heap.size w ((w.alloc (.cells #[one S] 153)).alloc (.cells #[.int .u8 op] 5))) :=
  ⟨⟨_,_,rfl,h2,h1⟩,bnew.alloc (by simp) _⟩
 clear h1 h2
 go_enter Tryz.func193,Tryz.ntmps193
 go_wp2_with fail
 go_ret
 exact ⟨_,rfl,H.out.1,H.out.2⟩
theorem two_c (S : Nat) (op : Int) (x : Bs) (w : World) : Calls Tryz.prog 195 #[one S,.int .u8 op,str x] w (MI (fun w' v=>rB w' S op x v) w):=by
 have h1 : (((w.alloc (.cells #[one S] 153)).alloc (.cells #[.int .u8 op] 5)).alloc (.cells #[str x] 9)).heap[w.heap.size]? = some (.cells #[one S] 153 (0,0)):=by
  rw [heap_alloc_old _ _ (by simp;omega),heap_alloc_old _ _ (by simp)];exact heap_alloc_new w _
 have h2 : (((w.alloc (.cells #[one S] 153)).alloc (.cells #[.int .u8 op] 5)).alloc (.cells #[str x] 9)).heap[w.heap.size + 1]? = some (.cells #[.int .u8 op] 5 (0,0)):=by
  rw [heap_alloc_old _ _ (by simp)]
  have:=heap_alloc_new (w.alloc (.cells #[one S] 153)) (.cells #[.int .u8 op] 5)
  simpa using this
 have h3 : (((w.alloc (.cells #[one S] 153)).alloc (.cells #[.int .u8 op] 5)).alloc (.cells #[str x] 9)).heap[w.heap.size + 1 + 1]? = some (.cells #[str x] 9 (0,0)):=by
  have:=heap_alloc_new ((w.alloc (.cells #[one S] 153)).alloc (.cells #[.int .u8 op] 5)) (.cells #[str x] 9)
  simpa using this
 have H : Hid (rB (((w.alloc (.cells #[one S] 153)).alloc (.cells #[.int .u8 op] 5)).alloc (.cells #[str x] 9)) S op x (.func (.func 267) #[] #[one w.heap.size,one (w.heap.size + 1 + 1),one (w.heap.size + 1)]) ∧ Below w.heap.size w (((w.alloc (.cells #[one S] 153)).alloc (.cells #[.int .u8 op] 5)).alloc (.cells #[str x] 9))) :=
  ⟨⟨_,_,_,rfl,h1,h3,h2⟩,(bnew.alloc (by simp) _).alloc (by simp;omega) _⟩
 clear h1 h2 h3
 go_enter Tryz.func195,Tryz.ntmps195
 go_wp2_with fail
 go_ret
 exact ⟨_,rfl,H.out.1,H.out.2⟩
section
variable {t : Tmp} {z : Int} {ops : Array Oper} {Q : Exit → Act → World → Prop} {K : Act → World → Prop} {a : Act} {w : World} {o : Oper} {i : Nat}
theorem qG (hi : ops[i]? = some o) (hg : o.guard = none) (h : o.wp Tryz.prog a w K Q) : wpOp Tryz.prog ops Q i K a w:=by
 unfold wpOp
 simp only [hi]
 have hw : Region.wanted o (yielded ops a.tmps) = true:=by simp [Region.wanted,hg]
 rw [if_pos hw];exact .inl h
theorem dU (hop : o.op = Op.load 153 (.tmp 4)) {R S : Nat} (h4 : a.tmps.getD 4 undef = one R) (hc : w.cell? ⟨R,0,none⟩ = some (one S)) (hK : K (a.put o.dst (one S)) w) : o.wp Tryz.prog a w K Q:=by
 have e : a.eval (.tmp 4) = one R:=h4
 unfold Oper.wp
 simp only [execOp,hop,e]
 go_simp
 exact hK
theorem wp_call1 (hop : o.op = Op.call { callee:=.value (.func 193),args:=#[.tmp t,.const (.int .u8 z)],argTypes:=#[153,5] }) {S : Nat} (ht : a.tmps.getD t undef = one S)
  (hK : ∀ v w',rA w' S z v → Below w.heap.size w w' → K (a.put o.dst v) w') : o.wp Tryz.prog a w K Q:=by
 have e : a.eval (.tmp t) = one S:=ht
 unfold Oper.wp
 simp only [execOp,hop,e]
 go_simp
 refine (one_c S z w).mono ?_
 rintro e' w' ⟨v,rfl,h1,h2⟩
 exact hK v w' h1 h2
theorem wp_call2 {x : Bs} (hop : o.op = Op.call { callee:=.value (.func 195),args:=#[.tmp t,.const (.int .u8 z),.const (.string ⟨x.toArray⟩)],argTypes:=#[153,5,9] }) {S : Nat} (ht : a.tmps.getD t undef = one S)
  (hK : ∀ v w',rB w' S z x v → Below w.heap.size w w' → K (a.put o.dst v) w') : o.wp Tryz.prog a w K Q:=by
 have e : a.eval (.tmp t) = one S:=ht
 unfold Oper.wp
 simp only [execOp,hop,e]
 go_simp
 refine (two_c S z x w).mono ?_
 rintro e' w' ⟨v,rfl,h1,h2⟩
 exact hK v w' h1 h2
theorem wp_mkmap (hop : o.op = Op.makeMap 159 none) (hK : K (a.put o.dst (.map (some w.heap.size))) (w.alloc (.map #[] 0))) : o.wp Tryz.prog a w K Q:=by
 have hmm:=@run_makeMap Tryz.prog
 unfold Oper.wp
 simp only [execOp,hop]
 go_simp
 exact hK
theorem wp_mkfunc (hop : o.op = Op.makeFunc (.func 194) #[.tmp t] #[]) {S : Nat} (ht : a.tmps.getD t undef = one S)
  (hK : K (a.put o.dst (.func (.func 194) #[one S] #[])) w) : o.wp Tryz.prog a w K Q:=by
 have e : a.eval (.tmp t) = one S:=ht
 unfold Oper.wp
 simp only [execOp,hop]
 go_simp
 first | exact hK | (rw [e];exact hK) | (have e2 : a.eval (.tmp t) = one S:=ht;simp only [e2];exact hK)
theorem wp_insert {key : Bs} {src : Operand} (hop : o.op = Op.insert 159 (.tmp 16) (.const (.string ⟨key.toArray⟩)) src) (hd : o.dst = none) {M n : Nat} {T : Bs → Value} (h16 : a.tmps.getD 16 undef = .map (some M)) (hM : gI w M n T) (hn : n < 100) (hk : key.length ≤ 100)
  (hK : ∀ w',gI w' M (n + 1) (fun t=>if t = key then a.eval src else T t) → w.grownBy w' (some M) → K a w') : o.wp Tryz.prog a w K Q:=by
 have e : a.eval (.tmp 16) = .map (some M):=h16
 obtain ⟨w',hrun,h1,h2⟩:=hM.store hn key (by unfold maxLen;omega) (a.eval src)
 have:=hK w' h1 h2
 unfold Oper.wp
 simp only [execOp,hop,e]
 have e2 : a.eval (.const (.string ⟨key.toArray⟩)) = str key:=rfl
 simp only [e2,Sem.run_bind,Sem.run_pure,hrun,Result.andThen_ok]
 rw [Oper.upon_skip,hd]
 exact this
end
end Go.Proofs.YtcandidgaegghaaGreatDoor
