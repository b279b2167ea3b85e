/- Lists of proofs that may be overwritten (OkPs); lyceumkit.markProof at 2. Printed by gen/genovg.py. -/
import Derived.Test.YtcandidgaegghaaGreatDoorCpZ
import Derived.Test.YtcandidgaegghaaGreatDoorLnCZ
import Derived.Test.YtcandidgaegghaaGreatDoorLpBZ
set_option maxRecDepth 10000
set_option linter.unusedSimpArgs false
set_option linter.unusedVariables false
namespace Go.Proofs.YtcandidgaegghaaGreatDoor
open Go Go.RowKit Go.Sort Ly
set_option maxHeartbeats 1600000
theorem OkMs.nul {B : Nat} {S : Nat → Prop} {W : World} : OkMs B S W (.slice Option.none 0 0):=⟨_,_,_,rfl,Nat.le_refl _,.inl rfl⟩
def OkPs (B : Nat) (S : Nat → Prop) (W : World) : Nat → Value → Prop
 | 0,u=>∃ a c,u = .slice a 0 c ∧ (c = 0 ∨ ∃ (b off : Nat) (xs : Array Value),a = some ⟨b,off,Option.none⟩ ∧ S b ∧ off % 8 = 0 ∧ W.heap[b]? = some (Obj.cells xs 53 (0,0)) ∧ off + c * 8 ≤ xs.size ∧ kK 0 c)
 | n + 1,u=>∃ a l c,u = .slice a l c ∧ l ≤ c ∧ (c = 0 ∨ ∃ (b off : Nat) (xs : Array Value),a = some ⟨b,off,Option.none⟩ ∧ S b ∧ off % 8 = 0 ∧ W.heap[b]? = some (Obj.cells xs 53 (0,0)) ∧ off + c * 8 ≤ xs.size ∧ kK l c ∧
   ∀ j : Nat,j < l → ∃ (r : Bs) (o : Int) (s : Bs) (ua us : Value) (z : Int) (up um : Value),(xs[off + j * 8]? = some (str r) ∧ xs[off + j * 8 + 1]? = some (.int .u8 o) ∧ xs[off + j * 8 + 2]? = some (str s) ∧ xs[off + j * 8 + 3]? = some (ua) ∧ xs[off + j * 8 + 4]? = some (us) ∧ xs[off + j * 8 + 5]? = some (.int .i64 z) ∧ xs[off + j * 8 + 6]? = some (up) ∧ xs[off + j * 8 + 7]? = some (um)) ∧ ((∃ k,OkTs S W k ua) ∧ (∃ k,OkFs S W k us) ∧ OkMs B S W um) ∧ OkPs B S W n up)
theorem OkPs.nul {B : Nat} {S : Nat → Prop} {W : World} : ∀ n,OkPs B S W n (.slice Option.none 0 0)
 | 0=>⟨_,_,rfl,.inl rfl⟩
 | _ + 1=>⟨_,_,_,rfl,Nat.le_refl _,.inl rfl⟩
theorem OkPs.ovr {B : Nat} {S : Nat → Prop} {W W' : World} (h : Ovr B S W W') : ∀ (n : Nat) (u : Value),OkPs B S W n u → OkPs B S W' n u
 | 0,u,⟨a,c,e,k⟩=>by
  refine ⟨a,c,e,k.elim .inl fun ⟨b,off,xs,h1,h2,h3,h4,h5,h6⟩=>.inr ?_⟩
  obtain ⟨ys,e1,r⟩:=h.pfs b xs h4
  exact ⟨b,off,ys,h1,h2,h3,e1,by rw [r.1];exact h5,h6⟩
 | n + 1,u,⟨a,l,c,e,hl,k⟩=>by
  refine ⟨a,l,c,e,hl,k.elim .inl fun ⟨b,off,xs,h1,h2,h3,h4,h5,h6,h7⟩=>.inr ?_⟩
  obtain ⟨ys,e1,r⟩:=h.pfs b xs h4
  refine ⟨b,off,ys,h1,h2,h3,e1,by rw [r.1];exact h5,h6,fun j hj=>?_⟩
  rcases r.2 (off + j * 8) (by omega) (by omega) with q | ⟨⟨r,m0⟩,m1,⟨s,m2⟩,m3,m4,⟨z,m5⟩,m6,m7⟩
  ·obtain ⟨r,o,s,ua,us,z,up,um,⟨x0,x1,x2,x3,x4,x5,x6,x7⟩,⟨⟨k,y0⟩,⟨k',y1⟩,y2⟩,y3⟩:=h7 j hj
   exact ⟨r,o,s,ua,us,z,up,um,⟨(q 0 (by omega)).trans x0,(q 1 (by omega)).trans x1,(q 2 (by omega)).trans x2,(q 3 (by omega)).trans x3,(q 4 (by omega)).trans x4,(q 5 (by omega)).trans x5,(q 6 (by omega)).trans x6,(q 7 (by omega)).trans x7⟩,⟨⟨k,OkTs.ovr h k ua y0⟩,⟨k',OkFs.ovr h k' us y1⟩,y2.ovr h⟩,OkPs.ovr h n up y3⟩
  ·exact ⟨r,0,s,_,_,z,_,_,⟨m0,m1,m2,m3,m4,m5,m6,m7⟩,⟨⟨0,OkTs.nul 0⟩,⟨0,OkFs.nul 0⟩,OkMs.nul⟩,OkPs.nul n⟩
theorem markProof2_c (i : Nat) (hi : i ≤ 1000000000000000) (w : World) : Calls Tryz.prog 260 #[.int .i64 2,.int .i64 i] w fun e w'=>∃ M z,e = .returned (.agg #[str M,.int .u8 0,str [],.slice none 0 0,.slice none 0 0,.int .i64 z,.slice none 0 0,.slice none 0 0]) ∧ Below w.heap.size w w':=by
 have HB : Hid (Below w.heap.size w (w.alloc (.cells #[str [],.int .u8 0,str [],.slice none 0 0,.slice none 0 0,.int .i64 0,.slice none 0 0,.slice none 0 0] 53))):=bnew
 have HG:=Hd (heap_alloc_new w (.cells #[str [],.int .u8 0,str [],.slice none 0 0,.slice none 0 0,.int .i64 0,.slice none 0 0,.slice none 0 0] 53))
 have R : Hid (∀ W,Calls Tryz.prog 182 #[.int .i64 2,.int .i64 i] W fun e w'=>∃ M,e = .returned (str M) ∧ Below W.heap.size W w'):=fun W=>pD i hi W
 have R2 : Hid (∀ W,Calls Tryz.prog 136 #[.int .i64 2,.int .i64 i] W fun e w'=>∃ z : Int,e = .returned (.int .i64 z) ∧ w' = W):=fun W=>DS i hi W
 go_enter Tryz.func260,Tryz.ntmps260
 go_wp2_with (first
  | (go_at_call 182;refine (R.out _).mono ?_;rintro e w1 ⟨M,rfl,b1⟩;have B1:=Hd (aB HB.out b1);have G1:=Hd (kc b1 HG.out);clear b1;obtain ⟨c0,c1,c2,c3,c4,c5,c6,c7⟩:=row53' G1.out;obtain ⟨f0,f1,f2,f3,f4,f5,f6,f7⟩:=rM G1.out)
  | (go_at_call 136;refine (R2.out _).mono ?_;rintro e w2 ⟨N,rfl,rfl⟩))
 have g1:=aC (o:=0) (u:=str M) G1.out
 have g2:=aC (o:=1) (u:=.int .u8 0) g1
 have g3:=aC (o:=2) (u:=str []) g2
 have g4:=aC (o:=3) (u:=.slice none 0 0) g3
 have g5:=aC (o:=4) (u:=.slice none 0 0) g4
 have g6:=aC (o:=5) (u:=.int .i64 N) g5
 have g7:=aC (o:=6) (u:=.slice none 0 0) g6
 have g8:=aC (o:=7) (u:=.slice none 0 0) g7
 refine bodyPost_ret (IF rfl _ _ w.heap.size _ _ _ _ _ _ _ _ (0,0) rfl g8) rfl ?_
 exact ⟨M,N,rfl,(((((((B1.out.setCell (by simp) _).setCell (by simp) _).setCell (by simp) _).setCell (by simp) _).setCell (by simp) _).setCell (by simp) _).setCell (by simp) _).setCell (by simp) _⟩
open Go Go.RowKit Go.Sort Ly
set_option maxHeartbeats 4000000
theorem OkPs.form {B : Nat} {S : Nat → Prop} {W : World} {m : Nat} {u : Value} (h : OkPs B S W m u) : ∃ a l c,u = .slice a l c ∧ l ≤ c ∧ (c = 0 ∨ ∃ (b off : Nat) (xs : Array Value),a = some ⟨b,off,Option.none⟩ ∧ S b ∧ off % 8 = 0 ∧ W.heap[b]? = some (Obj.cells xs 53 (0,0)) ∧ off + c * 8 ≤ xs.size ∧ kK l c ∧
  ∀ j : Nat,j < l → ∃ n : Nat,m = n + 1 ∧ ∃ (r : Bs) (o : Int) (s : Bs) (ua us : Value) (z : Int) (up um : Value),(xs[off + j * 8]? = some (str r) ∧ xs[off + j * 8 + 1]? = some (.int .u8 o) ∧ xs[off + j * 8 + 2]? = some (str s) ∧ xs[off + j * 8 + 3]? = some (ua) ∧ xs[off + j * 8 + 4]? = some (us) ∧ xs[off + j * 8 + 5]? = some (.int .i64 z) ∧ xs[off + j * 8 + 6]? = some (up) ∧ xs[off + j * 8 + 7]? = some (um)) ∧ ((∃ k,OkTs S W k ua) ∧ (∃ k,OkFs S W k us) ∧ OkMs B S W um) ∧ OkPs B S W n up):=by
 cases m with
 | zero =>
  obtain ⟨a,c,e,k⟩:=h
  exact ⟨a,0,c,e,Nat.zero_le _,k.elim .inl fun ⟨b,off,xs,h1,h2,h3,h4,h5,h6⟩=>.inr ⟨b,off,xs,h1,h2,h3,h4,h5,h6,fun j hj=>absurd hj (by omega)⟩⟩
 | succ n =>
  obtain ⟨a,l,c,e,hl,k⟩:=h
  exact ⟨a,l,c,e,hl,k.elim .inl fun ⟨b,off,xs,h1,h2,h3,h4,h5,h6,h7⟩=>.inr ⟨b,off,xs,h1,h2,h3,h4,h5,h6,fun j hj=>⟨n,rfl,h7 j hj⟩⟩⟩
theorem pN (w : World) (a : Addr) (v : Value) : (w.setCell a v).os = w.os:=rfl
theorem gQ (w : World) (a : Addr) (v : Value) : (w.setCell a v).output = w.output:=rfl
theorem kG (w : World) (a : Addr) (v : Value) : (w.setCell a v).tape = w.tape:=rfl
theorem Ovr.pf {B : Nat} {S : Nat → Prop} {W : World} {b o : Nat} {xs : Array Value} {r s : Bs} {z : Int} (hb : S b) (h : W.heap[b]? = some (Obj.cells xs 53 (0,0))) (ho : o % 8 = 0) (hs : o + 8 ≤ xs.size) : Ovr B S W ((((((((W.setCell ⟨b,o,Option.none⟩ (str r)).setCell ⟨b,o + 1,Option.none⟩ (.int .u8 0)).setCell ⟨b,o + 2,Option.none⟩ (str s)).setCell ⟨b,o + 3,Option.none⟩ (.slice Option.none 0 0)).setCell ⟨b,o + 4,Option.none⟩ (.slice Option.none 0 0)).setCell ⟨b,o + 5,Option.none⟩ (.int .i64 z)).setCell ⟨b,o + 6,Option.none⟩ (.slice Option.none 0 0)).setCell ⟨b,o + 7,Option.none⟩ (.slice Option.none 0 0)):=by
 have e1:=aC (o:=o) (u:=str r) h
 have e2:=aC (o:=o + 1) (u:=.int .u8 0) e1
 have e3:=aC (o:=o + 2) (u:=str s) e2
 have e4:=aC (o:=o + 3) (u:=.slice Option.none 0 0) e3
 have e5:=aC (o:=o + 4) (u:=.slice Option.none 0 0) e4
 have e6:=aC (o:=o + 5) (u:=.int .i64 z) e5
 have e7:=aC (o:=o + 6) (u:=.slice Option.none 0 0) e6
 have e8:=aC (o:=o + 7) (u:=.slice Option.none 0 0) e7
 refine uC hb (by decide) (by simp [World.setCell]) (by rw [pN,pN,pN,pN,pN,pN,pN,pN]) (by rw [gQ,gQ,gQ,gQ,gQ,gQ,gQ,gQ]) (by rw [kG,kG,kG,kG,kG,kG,kG,kG]) h (fun b' hh=>by rw [Below.heap_setCell _ _ _ _ hh,Below.heap_setCell _ _ _ _ hh,Below.heap_setCell _ _ _ _ hh,Below.heap_setCell _ _ _ _ hh,Below.heap_setCell _ _ _ _ hh,Below.heap_setCell _ _ _ _ hh,Below.heap_setCell _ _ _ _ hh,Below.heap_setCell _ _ _ _ hh]) e8 (fun q=>absurd q (by decide)) (fun q=>absurd q (by decide)) (fun _=>⟨by simp,fun o' ho' hs'=>?_⟩) (by simp)
 by_cases hh : o' = o
 ·subst hh
  right
  have g0 : o' + 0 < xs.size:=by omega
  have g1 : o' + 1 < xs.size:=by omega
  have g2 : o' + 2 < xs.size:=by omega
  have g3 : o' + 3 < xs.size:=by omega
  have g4 : o' + 4 < xs.size:=by omega
  have g5 : o' + 5 < xs.size:=by omega
  have g6 : o' + 6 < xs.size:=by omega
  have g7 : o' + 7 < xs.size:=by omega
  refine ⟨⟨r, ?_⟩, ?_,⟨s, ?_⟩, ?_, ?_,⟨z, ?_⟩, ?_, ?_⟩
  ·simp [Array.getElem?_setIfInBounds,show o' < xs.size by omega]
  ·simp [Array.getElem?_setIfInBounds,g1]
  ·simp [Array.getElem?_setIfInBounds,g2]
  ·simp [Array.getElem?_setIfInBounds,g3]
  ·simp [Array.getElem?_setIfInBounds,g4]
  ·simp [Array.getElem?_setIfInBounds,g5]
  ·simp [Array.getElem?_setIfInBounds,g6]
  ·simp [Array.getElem?_setIfInBounds,g7]
 ·left
  intro i hi
  rw [Array.getElem?_setIfInBounds_ne (by omega),Array.getElem?_setIfInBounds_ne (by omega),Array.getElem?_setIfInBounds_ne (by omega),Array.getElem?_setIfInBounds_ne (by omega),Array.getElem?_setIfInBounds_ne (by omega),Array.getElem?_setIfInBounds_ne (by omega),Array.getElem?_setIfInBounds_ne (by omega),Array.getElem?_setIfInBounds_ne (by omega)]
def OpS (n : Nat) : Prop:=∀ (B : Nat) (S : Nat → Prop) (w : World) (u : Value),(∀ b : Nat,S b → b < w.heap.size) → B ≤ w.heap.size → OkPs B S w n u → Calls Tryz.prog 188 #[u] w fun e w'=>e = .returned (.tuple #[]) ∧ Ovr B S w w'
def OpT (n : Nat) : Prop:=∀ (B : Nat) (S : Nat → Prop) (w : World) (r : Bs) (o : Int) (s : Bs) (ua us : Value) (z : Int) (up um : Value) (k k' : Nat),(∀ b : Nat,S b → b < w.heap.size) → B ≤ w.heap.size → OkTs S w k ua → OkFs S w k' us → OkMs B S w um → OkPs B S w n up → Calls Tryz.prog 115 #[.agg #[str r,.int .u8 o,str s,ua,us,.int .i64 z,up,um]] w fun e w'=>e = .returned (.tuple #[]) ∧ Ovr B S w w'
theorem FJ (n : Nat) (hh : ∀ n',n = n' + 1 → OpT n') : OpS n:=by
 intro B S w u hB hN hu
 obtain ⟨a,l,c,rfl,hl,hc⟩:=hu.form
 have hc6 : kK l c:=by
  rcases hc with rfl | ⟨b,off,xs,h1,h2,h3,h4,h5,h6,h7⟩
  ·exact ⟨by omega,by omega⟩
  ·exact h6
 obtain ⟨hl63,hc63⟩:=hc6
 have HU:=Hd hu
 have HH:=Hd hh
 obtain ⟨m,hm⟩ : ∃ m,m = min c (l + 12):=⟨_,rfl⟩
 have hm1 : m ≤ c:=by omega
 have hm2 : m ≤ l + 12:=by omega
 have hmin : min (c : Int) ((l : Int) + 12) = m:=by omega
 clear hc hm hu hh
 go_enter Tryz.func188,Tryz.ntmps188
 go_wp2_with fail
 go_loopw [2] (fun i wr=>∃ j : Nat,j ≤ l ∧ i = .int .i64 j ∧ Hid (Ovr B S w wr)) (fun i _=>l - (intOf i).toNat)
 case atStart=>exact ⟨0,Nat.zero_le _,rfl,Ovr.refl _ _ _⟩
 case round =>
  obtain ⟨j,hj,rfl,hs⟩:=hrel
  have UR:=Hd (OkPs.ovr hs.out n _ HU.out)
  obtain ⟨a2,l2,c2,e2,-,hc⟩:=UR.out.form
  simp only [Value.slice.injEq] at e2
  obtain ⟨rfl,rfl,rfl⟩:=e2
  by_cases hlt : j < l
  ·obtain ⟨b,off,xs,rfl,h2,h3,h4,h5,h6,h7⟩:=hc.resolve_left (by omega)
   obtain ⟨n',en,r,o,s,ua,us,z,up,um,⟨x0,x1,x2,x3,x4,x5,x6,x7⟩,⟨⟨k,y0⟩,⟨k',y1⟩,y2⟩,y3⟩:=h7 j hlt
   have c0 : wr.cell? ⟨b,off + j * 8,none⟩ = some (str r):=(box_cell h4 _).trans x0
   have c1 : wr.cell? ⟨b,off + j * 8 + 1,none⟩ = some (.int .u8 o):=(box_cell h4 _).trans x1
   have c2 : wr.cell? ⟨b,off + j * 8 + 2,none⟩ = some (str s):=(box_cell h4 _).trans x2
   have c3 : wr.cell? ⟨b,off + j * 8 + 3,none⟩ = some ua:=(box_cell h4 _).trans x3
   have c4 : wr.cell? ⟨b,off + j * 8 + 4,none⟩ = some us:=(box_cell h4 _).trans x4
   have c5 : wr.cell? ⟨b,off + j * 8 + 5,none⟩ = some (.int .i64 z):=(box_cell h4 _).trans x5
   have c6 : wr.cell? ⟨b,off + j * 8 + 6,none⟩ = some up:=(box_cell h4 _).trans x6
   have c7 : wr.cell? ⟨b,off + j * 8 + 7,none⟩ = some um:=(box_cell h4 _).trans x7
   have R:=Hd (HH.out n' en B S wr r o s ua us z up um k k' (fun b hb=>Nat.lt_of_lt_of_le (hB b hb) hs.out.size) (Nat.le_trans hN hs.out.size) y0 y1 y2 y3)
   obtain ⟨a',l',c',rfl,-⟩:=y0.form
   obtain ⟨a'',l'',c'',rfl,-⟩:=y1.form
   obtain ⟨a3,l3,c3',rfl,-⟩:=y3.form
   obtain ⟨a4,l4,c4',rfl,-⟩:=y2
   clear h2 h3 h4 h5 h6 h7 x0 x1 x2 x3 x4 x5 x6 x7 y0 y1 y3 en hc UR
   go_wp2_with (go_at_call 115;refine R.out.mono ?_;rintro e w1 ⟨rfl,o1⟩;have O1:=Hd o1;clear o1)
   go_roundw
   case rel=>exact ⟨j + 1,by omega,by go_num,hs.out.trans O1.out⟩
   case measure=>simp [intOf];omega
  ·have HS:=Hd hs.out
   obtain rfl : j = l:=by omega
   clear hs hc UR
   go_wp2_with fail
   go_loopw [4] (fun i wr=>∃ p : Nat,p ≤ m ∧ i = .int .i64 p ∧ Hid (Ovr B S w wr)) (fun i _=>m - (intOf i).toNat)
   case atStart=>exact ⟨0,Nat.zero_le _,rfl,HS.out⟩
   case round =>
    clear HS
    obtain ⟨p,hp,rfl,hs⟩:=hrel
    by_cases hlt2 : p < m
    ·obtain ⟨a2,l2,c2,e2,-,hc⟩:=(OkPs.ovr hs.out n _ HU.out).form
     simp only [Value.slice.injEq] at e2
     obtain ⟨rfl,rfl,rfl⟩:=e2
     obtain ⟨b,off,xs,rfl,h2,h3,h4,h5,h6,-⟩:=hc.resolve_left (by omega)
     have M2 : Hid (∀ W,Calls Tryz.prog 260 #[.int .i64 2,.int .i64 p] W fun e w'=>∃ M z,e = .returned (.agg #[str M,.int .u8 0,str [],.slice none 0 0,.slice none 0 0,.int .i64 z,.slice none 0 0,.slice none 0 0]) ∧ Below W.heap.size W w'):=fun W=>markProof2_c p (by omega) W
     have H4:=Hd h4
     have H5 : Hid (off + p * 8 + 8 ≤ xs.size):=by show _ ≤ _;omega
     have H3 : Hid ((off + p * 8) % 8 = 0):=by show _ = _;omega
     have H2:=Hd h2
     clear hc h2 h3 h4 h5 h6
     go_wp2_with (go_at_call 260;refine (M2.out _).mono ?_;rintro e w1 ⟨s,z,rfl,b1⟩;have B1:=Hd b1;have E1:=Hd (kc b1 H4.out);clear b1;obtain ⟨y0,h0⟩ : ∃ y,xs[off + p * 8]? = some y:=⟨_,Array.getElem?_eq_getElem (by have:=H5.out;omega)⟩;obtain ⟨y1,h1⟩ : ∃ y,xs[off + p * 8 + 1]? = some y:=⟨_,Array.getElem?_eq_getElem (by have:=H5.out;omega)⟩;obtain ⟨y2,h2⟩ : ∃ y,xs[off + p * 8 + 2]? = some y:=⟨_,Array.getElem?_eq_getElem (by have:=H5.out;omega)⟩;obtain ⟨y3,h3⟩ : ∃ y,xs[off + p * 8 + 3]? = some y:=⟨_,Array.getElem?_eq_getElem (by have:=H5.out;omega)⟩;have c3:=(box_cell E1.out (off + p * 8 + 3)).trans h3;have f3 : w1.frozen? ⟨b,off + p * 8 + 3,none⟩ = false:=(by simp [World.frozen?,E1.out]);obtain ⟨y4,h4⟩ : ∃ y,xs[off + p * 8 + 4]? = some y:=⟨_,Array.getElem?_eq_getElem (by have:=H5.out;omega)⟩;have c4:=(box_cell E1.out (off + p * 8 + 4)).trans h4;have f4 : w1.frozen? ⟨b,off + p * 8 + 4,none⟩ = false:=(by simp [World.frozen?,E1.out]);obtain ⟨y5,h5⟩ : ∃ y,xs[off + p * 8 + 5]? = some y:=⟨_,Array.getElem?_eq_getElem (by have:=H5.out;omega)⟩;have c5:=(box_cell E1.out (off + p * 8 + 5)).trans h5;have f5 : w1.frozen? ⟨b,off + p * 8 + 5,none⟩ = false:=(by simp [World.frozen?,E1.out]);obtain ⟨y6,h6⟩ : ∃ y,xs[off + p * 8 + 6]? = some y:=⟨_,Array.getElem?_eq_getElem (by have:=H5.out;omega)⟩;have c6:=(box_cell E1.out (off + p * 8 + 6)).trans h6;have f6 : w1.frozen? ⟨b,off + p * 8 + 6,none⟩ = false:=(by simp [World.frozen?,E1.out]);obtain ⟨y7,h7⟩ : ∃ y,xs[off + p * 8 + 7]? = some y:=⟨_,Array.getElem?_eq_getElem (by have:=H5.out;omega)⟩;have c7:=(box_cell E1.out (off + p * 8 + 7)).trans h7;have f7 : w1.frozen? ⟨b,off + p * 8 + 7,none⟩ = false:=(by simp [World.frozen?,E1.out]);have c0:=(box_cell E1.out (off + p * 8)).trans h0;have c1:=(box_cell E1.out (off + p * 8 + 1)).trans h1;have c2:=(box_cell E1.out (off + p * 8 + 2)).trans h2;have f0 : w1.frozen? ⟨b,off + p * 8,none⟩ = false:=(by simp [World.frozen?,E1.out]);have f1 : w1.frozen? ⟨b,off + p * 8 + 1,none⟩ = false:=(by simp [World.frozen?,E1.out]);have f2 : w1.frozen? ⟨b,off + p * 8 + 2,none⟩ = false:=(by simp [World.frozen?,E1.out]);clear h0 h1 h2 h3 h4 h5 h6 h7)
     go_roundw
     case rel=>exact ⟨p + 1,by omega,by go_num,(hs.out.trans (Ovr.below B1.out)).trans (Ovr.pf H2.out E1.out H3.out H5.out)⟩
     case measure=>simp [intOf];omega
    ·go_wp2_with fail
     exact bodyPost_end (lN rfl _ _) rfl ⟨rfl,hs.out⟩
open Go Go.RowKit Go.Sort Ly
set_option maxHeartbeats 8000000
theorem NI {n : Nat} (h : OpS n) : OpT n:=by
 intro B S w r o s ua us z up um k k' hB hN h1 h2 h3 h4
 have HB : Hid (Below w.heap.size w (w.alloc (.cells #[str r,.int .u8 o,str s,ua,us,.int .i64 z,up,um] 53))):=bnew
 have HG:=Hd (heap_alloc_new w (.cells #[str r,.int .u8 o,str s,ua,us,.int .i64 z,up,um] 53))
 have NS : Hid (¬ S w.heap.size):=fun hs=>Nat.lt_irrefl _ (hB _ hs)
 have R1:=Hd (overForm_c k' B S (w.alloc (.cells #[str r,.int .u8 o,str s,ua,us,.int .i64 z,up,um] 53)) o s ua us k (fun b hb=>Nat.lt_of_lt_of_le (hB b hb) HB.out.size) (OkTs.ovr (Ovr.below (B:=B) HB.out) k ua h1) (OkFs.ovr (Ovr.below (B:=B) HB.out) k' us h2))
 have R2 : Hid (∀ W,Ovr B S w W → Calls Tryz.prog 188 #[up] W fun e w'=>e = .returned (.tuple #[]) ∧ Ovr B S W w'):=fun W hW=>h B S W up (fun b hb=>Nat.lt_of_lt_of_le (hB b hb) hW.size) (Nat.le_trans hN hW.size) (OkPs.ovr hW n up h4)
 have R3 : Hid (∀ W v,Ovr B S w W → OkI B W v → Calls Tryz.prog 189 #[v] W fun e w'=>e = .returned (.tuple #[]) ∧ Ovr B S W w'):=fun W v hW hv=>overInts_c B S W v (fun b hb=>Nat.lt_of_lt_of_le (hB b hb) hW.size) hv
 have HM:=Hd h3
 have HN:=Hd hN
 obtain ⟨a,l,c,rfl,-⟩:=h1.form
 obtain ⟨a',l',c',rfl,-⟩:=h2.form
 obtain ⟨a3,l3,c3',rfl,-⟩:=h4.form
 obtain ⟨aq,lq,cq,rfl,hlq,hq⟩:=h3
 have hc6 : kK lq cq:=by
  rcases hq with rfl | ⟨b,off,xs,q1,q2,q3,q4,q5,q6⟩
  ·exact ⟨by omega,by omega⟩
  ·exact q5
 obtain ⟨hl63,hc63⟩:=hc6
 obtain ⟨m,hm⟩ : ∃ m,m = min cq (lq + 12):=⟨_,rfl⟩
 have hm1 : m ≤ cq:=by omega
 have hm2 : m ≤ lq + 12:=by omega
 have hmin : min (cq : Int) ((lq : Int) + 12) = m:=by omega
 clear hq hm h1 h2 h4 h hN
 go_enter Tryz.func115,Tryz.ntmps115
 go_wp2_with (first
  | (go_at_call 187;refine R1.out.mono ?_;rintro e w1 ⟨rfl,o1⟩;have O1:=Hd ((Ovr.below (B:=B) (S:=S) HB.out).trans o1);have E1:=Hd ((o1.old w.heap.size (by simp) NS.out (.inr fun xs q=>by rw [HG.out] at q;simp at q)).trans HG.out);clear o1;obtain ⟨c0,c1,c2,c3,c4,c5,c6,c7⟩:=row53' E1.out)
  | (go_at_call 188;refine (R2.out _ O1.out).mono ?_;rintro e w2 ⟨rfl,o2⟩;have O2:=Hd (O1.out.trans o2);have E2:=Hd ((o2.old w.heap.size (Array.getElem?_eq_some_iff.1 E1.out).1 NS.out (.inr fun xs q=>by rw [E1.out] at q;simp at q)).trans E1.out);clear o2 c0 c1 c2 c3 c4 c5 c6 c7))
 go_loopw [2] (fun i wr=>∃ j : Nat,j ≤ lq ∧ i = .int .i64 j ∧ Hid (Ovr B S w wr ∧ wr.heap[w.heap.size]? = some (.cells #[str r,.int .u8 o,str s,.slice a l c,.slice a' l' c',.int .i64 z,.slice a3 l3 c3',.slice aq lq cq] 53 (0,0)))) (fun i _=>lq - (intOf i).toNat)
 case atStart=>exact ⟨0,Nat.zero_le _,rfl,O2.out,E2.out⟩
 case round =>
  clear O1 E1 O2 E2 R1 R2
  obtain ⟨j,hj,rfl,hs⟩:=hrel
  obtain ⟨c0,c1,c2,c3,c4,c5,c6,c7⟩:=row53' hs.out.2
  by_cases hlt : j < lq
  ·obtain ⟨a2,l2,c2',e2,-,hc⟩:=OkMs.ovr hs.out.1 HM.out
   simp only [Value.slice.injEq] at e2
   obtain ⟨rfl,rfl,rfl⟩:=e2
   obtain ⟨b,off,xs,rfl,q2,q3,q4,q5,q6⟩:=hc.resolve_left (by omega)
   obtain ⟨v,x0,x1⟩:=q6 j hlt
   have cv : wr.cell? ⟨b,off + j,none⟩ = some v:=(box_cell q3 _).trans x0
   have R:=Hd (R3.out wr v hs.out.1 x1)
   obtain ⟨av,lv,cv',rfl,-⟩:=x1
   clear q2 q3 q4 q5 q6 x0 hc
   go_wp2_with (go_at_call 189;refine R.out.mono ?_;rintro e w1 ⟨rfl,o1⟩;have O1:=Hd o1;have E1:=Hd ((o1.old w.heap.size (Array.getElem?_eq_some_iff.1 hs.out.2).1 NS.out (.inr fun xs q=>by rw [hs.out.2] at q;simp at q)).trans hs.out.2);clear o1)
   go_roundw
   case rel=>exact ⟨j + 1,by omega,by go_num,hs.out.1.trans O1.out,E1.out⟩
   case measure=>simp [intOf];omega
  ·have HS:=Hd hs.out.1
   obtain rfl : j = lq:=by omega
   clear hs
   go_wp2_with fail
   go_loopw [4] (fun i wr=>∃ p : Nat,p ≤ m ∧ i = .int .i64 p ∧ Hid (Ovr B S w wr)) (fun i _=>m - (intOf i).toNat)
   case atStart=>exact ⟨0,Nat.zero_le _,rfl,HS.out⟩
   case round =>
    clear HS c0 c1 c2 c3 c4 c5 c6 c7
    obtain ⟨p,hp,rfl,hs⟩:=hrel
    by_cases hlt2 : p < m
    ·obtain ⟨a2,l2,c2,e2,-,hc⟩:=OkMs.ovr hs.out HM.out
     simp only [Value.slice.injEq] at e2
     obtain ⟨rfl,rfl,rfl⟩:=e2
     obtain ⟨b,off,xs,rfl,q2,q3,q4,q5,q6⟩:=hc.resolve_left (by omega)
     have E1:=Hd q3
     have H2:=Hd q2
     have H5 : Hid (off + p < xs.size):=by show _ < _;omega
     have zb : b < wr.heap.size:=(Array.getElem?_eq_some_iff.1 q3).1
     have HBW : Hid (B ≤ wr.heap.size):=Nat.le_trans HN.out hs.out.size
     obtain ⟨y0,h0⟩ : ∃ y,xs[off + p]? = some y:=⟨_,Array.getElem?_eq_getElem H5.out⟩
     have c0:=(box_cell q3 (off + p)).trans h0
     have f0 : wr.frozen? ⟨b,off + p,none⟩ = false:=by simp [World.frozen?,q3]
     clear hc q2 q3 q4 q5 q6 h0
     go_wp2_with (go_at_call 136;refine (DS p (by omega) _).mono ?_;rintro e w3 ⟨z3,rfl,rfl⟩)
     go_roundw
     case rel =>
      have ba : Below w3.heap.size w3 (w3.alloc (.cells #[.int .i64 z3] 3)):=bnew
      have X:=(hs.out.trans (Ovr.below ba)).trans (Ovr.mk1 (o:=off + p) H2.out (kc ba E1.out) HBW.out (heap_alloc_new w3 _) (by simp))
      rw [World.setCell_alloc_past _ _ _ _ (Array.getElem?_eq_some_iff.1 E1.out).1] at X
      exact ⟨p + 1,by omega,by go_num,X⟩
     case measure=>simp [intOf];omega
    ·go_wp2_with fail
     exact bodyPost_end (lN rfl _ _) rfl ⟨rfl,hs.out⟩
theorem sW : ∀ n,OpS n
 | 0=>FJ 0 fun n' e=>by omega
 | n + 1=>FJ (n + 1) fun n' e=>by
  obtain rfl : n' = n:=by omega
  exact NI (sW n')
theorem overProof_c (n : Nat) : OpT n:=NI (sW n)
end Go.Proofs.YtcandidgaegghaaGreatDoor
