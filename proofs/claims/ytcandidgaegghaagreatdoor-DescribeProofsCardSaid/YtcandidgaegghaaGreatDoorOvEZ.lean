/- lyceumkit.OverTerm, OverTerms: they overwrite by marks, and end. Conditions: the list is new, its cells are all there (OkTs). -/
import Derived.Test.YtcandidgaegghaaGreatDoorCpZ
import Derived.Test.YtcandidgaegghaaGreatDoorOvCZ
set_option maxRecDepth 10000
set_option linter.unusedSimpArgs false
set_option linter.unusedVariables false
namespace Go.Proofs.YtcandidgaegghaaGreatDoor
open Go Go.RowKit Go.Sort Ly
set_option maxHeartbeats 1600000
theorem OkTs.form {S : Nat → Prop} {W : World} {n : Nat} {u : Value} (h : OkTs S W n u) : ∃ a l c,u = .slice a l c ∧ l ≤ c ∧ (c = 0 ∨ ∃ (b off : Nat) (xs : Array Value),a = some ⟨b,off,none⟩ ∧ S b ∧ off % 3 = 0 ∧ W.heap[b]? = some (Obj.cells xs 95 (0,0)) ∧ off + c * 3 ≤ xs.size ∧ kK l c ∧
  ∀ j : Nat,j < l → ∃ n' v s u',n = n' + 1 ∧ xs[off + j * 3]? = some (.bool v) ∧ xs[off + j * 3 + 1]? = some (str s) ∧ xs[off + j * 3 + 2]? = some u' ∧ OkTs S W n' u'):=by
 cases n with
 | zero =>
  obtain ⟨a,c,e,k⟩:=h
  exact ⟨a,0,c,e,Nat.zero_le _,k.elim .inl fun ⟨b,off,xs,h1,h2,h3,h4,h5,h6⟩=>.inr ⟨b,off,xs,h1,h2,h3,h4,h5,h6,fun j hj=>absurd hj (by omega)⟩⟩
 | succ n =>
  obtain ⟨a,l,c,e,hl,k⟩:=h
  refine ⟨a,l,c,e,hl,k.elim .inl fun ⟨b,off,xs,h1,h2,h3,h4,h5,h6,h7⟩=>.inr ⟨b,off,xs,h1,h2,h3,h4,h5,h6,fun j hj=>?_⟩⟩
  obtain ⟨v,s,u',x0,x1,x2,x3⟩:=h7 j hj
  exact ⟨n,v,s,u',rfl,x0,x1,x2,x3⟩
theorem uC {B : Nat} {S : Nat → Prop} {b : Nat} {W W' : World} {t : TypeId} {xs ys : Array Value} (hb : S b) (h29 : t ≠ 29) (hsz : W'.heap.size = W.heap.size) (ho : W'.os = W.os) (hp : W'.output = W.output) (ht : W'.tape = W.tape) (h : W.heap[b]? = some (Obj.cells xs t (0,0))) (ne : ∀ b' : Nat,b' ≠ b → W'.heap[b']? = W.heap[b']?) (e : W'.heap[b]? = some (Obj.cells ys t (0,0)))
  (h1 : t = 95 → cY 3 MkT xs ys) (h2 : t = 25 → cY 4 MkF xs ys) (h3 : t = 53 → cY 8 MkP xs ys) (h4 : ys.size = xs.size) : Ovr B S W W':=by
 have go : ∀ (b' : Nat) (zs : Array Value) (s : TypeId) (R : Array Value → Array Value → Prop),(∀ x,R x x) → (t = s → R xs ys) → W.heap[b']? = some (Obj.cells zs s (0,0)) → ∃ qs,W'.heap[b']? = some (Obj.cells qs s (0,0)) ∧ R zs qs:=fun b' zs s R hR hx hz=>by
  by_cases hh : b' = b
  ·subst hh
   rw [h] at hz
   simp only [Option.some.injEq,Obj.cells.injEq] at hz
   obtain ⟨rfl,rfl,-⟩:=hz
   exact ⟨ys,e,hx rfl⟩
  ·exact ⟨zs,by rw [ne b' hh];exact hz,hR _⟩
 exact ⟨ho,hp,ht,Nat.le_of_eq hsz.symm,fun b' _ hb' _=>ne b' (fun e=>hb' (e ▸ hb)),fun b' zs hz=>go b' zs 95 _ (cY.refl _ _) h1 hz,fun b' zs hz=>go b' zs 25 _ (cY.refl _ _) h2 hz,fun b' zs hz=>go b' zs 53 _ (cY.refl _ _) h3 hz,fun b' zs hz=>by
  obtain ⟨qs,q1,q2⟩:=go b' zs 29 (fun x y=>y = x) (fun _=>rfl) (fun q=>absurd q h29) hz
  exact ⟨qs,q1,by rw [q2],fun _ _=>.inl (by rw [q2])⟩,fun b' zs hz=>go b' zs 3 (fun x y=>y.size = x.size) (fun _=>rfl) (fun _=>h4) hz⟩
theorem Ovr.tm {B : Nat} {S : Nat → Prop} {W : World} {b o : Nat} {xs : Array Value} {s : Bs} (hb : S b) (h : W.heap[b]? = some (Obj.cells xs 95 (0,0))) (ho : o % 3 = 0) (hs : o + 3 ≤ xs.size) : Ovr B S W (((W.setCell ⟨b,o,none⟩ (.bool false)).setCell ⟨b,o + 1,none⟩ (str s)).setCell ⟨b,o + 2,none⟩ (.slice none 0 0)):=by
 have e1:=aC (o:=o) (u:=.bool false) h
 have e2:=aC (o:=o + 1) (u:=str s) e1
 have e3:=aC (o:=o + 2) (u:=.slice none 0 0) e2
 refine uC hb (by decide) (by simp [World.setCell]) rfl rfl rfl h (fun b' hh=>by rw [Below.heap_setCell _ _ _ _ hh,Below.heap_setCell _ _ _ _ hh,Below.heap_setCell _ _ _ _ hh]) e3 (fun _=>⟨by simp,fun o' ho' hs'=>?_⟩) (fun q=>absurd q (by decide)) (fun q=>absurd q (by decide)) (by simp)
 by_cases hh : o' = o
 ·subst hh
  right
  have g0 : o' < xs.size:=by omega
  have g1 : o' + 1 < xs.size:=by omega
  have g2 : o' + 2 < xs.size:=by omega
  refine ⟨?_,⟨s, ?_⟩, ?_⟩
  ·simp [Array.getElem?_setIfInBounds,g0]
  ·simp [Array.getElem?_setIfInBounds,g1]
  ·simp [Array.getElem?_setIfInBounds,g2]
 ·left
  intro i hi
  rw [Array.getElem?_setIfInBounds_ne (by omega),Array.getElem?_setIfInBounds_ne (by omega),Array.getElem?_setIfInBounds_ne (by omega)]
def OtS (n : Nat) : Prop:=∀ (B : Nat) (S : Nat → Prop) (w : World) (u : Value),(∀ b : Nat,S b → b < w.heap.size) → OkTs S w n u → Calls Tryz.prog 262 #[u] w fun e w'=>e = .returned (.tuple #[]) ∧ Ovr B S w w'
def OtT (n : Nat) : Prop:=∀ (B : Nat) (S : Nat → Prop) (w : World) (v : Bool) (s : Bs) (u : Value),(∀ b : Nat,S b → b < w.heap.size) → OkTs S w n u → Calls Tryz.prog 298 #[.agg #[.bool v,str s,u]] w fun e w'=>e = .returned (.tuple #[]) ∧ Ovr B S w w'
theorem ot_of {n : Nat} (h : OtS n) : OtT n:=by
 intro B S w v s u hB hu
 have HB : Hid (Below w.heap.size w (w.alloc (.cells #[.bool v,str s,u] 95))):=bnew
 have R:=Hd (h B S (w.alloc (.cells #[.bool v,str s,u] 95)) u (fun b hb=>Nat.lt_of_lt_of_le (hB b hb) HB.out.size) (OkTs.ovr (Ovr.below (B:=B) HB.out) n u hu))
 obtain ⟨a,l,c,rfl,-⟩:=hu.form
 clear hu h
 go_enter Tryz.func298,Tryz.ntmps298
 go_wp2_with (go_at_call 262;refine R.out.mono ?_;rintro e w1 ⟨rfl,o1⟩;have O1:=Hd o1;clear o1)
 exact bodyPost_end (lN rfl _ _) rfl ⟨rfl,(Ovr.below HB.out).trans O1.out⟩
theorem FK (n : Nat) (hh : ∀ n',n = n' + 1 → OtT n') : OtS n:=by
 intro B S w u hB hu
 obtain ⟨a,l,c,rfl,hl,hc⟩:=hu.form
 have hc6 : kK l c:=by
  rcases hc with rfl | ⟨b,off,xs,h1,h2,h3,h4,h5,h6,h7⟩
  ·exact ⟨by omega,by omega⟩
  ·exact h6
 obtain ⟨hl63,hc63⟩:=hc6
 have HU:=Hd hu
 have HH:=Hd hh
 obtain ⟨m,hm⟩ : ∃ m,m = min c (l + 12):=⟨_,rfl⟩
 have hm1 : m ≤ c:=by omega
 have hm2 : m ≤ l + 12:=by omega
 have hmin : min (c : Int) ((l : Int) + 12) = m:=by omega
 clear hc hm hu hh
 go_enter Tryz.func262,Tryz.ntmps262
 go_wp2_with fail
 go_loopw [2] (fun i wr=>∃ j : Nat,j ≤ l ∧ i = .int .i64 j ∧ Hid (Ovr B S w wr)) (fun i _=>l - (intOf i).toNat)
 case atStart=>exact ⟨0,Nat.zero_le _,rfl,Ovr.refl _ _ _⟩
 case round =>
  obtain ⟨j,hj,rfl,hs⟩:=hrel
  have UR:=Hd (OkTs.ovr hs.out n _ HU.out)
  obtain ⟨a2,l2,c2,e2,-,hc⟩:=UR.out.form
  simp only [Value.slice.injEq] at e2
  obtain ⟨rfl,rfl,rfl⟩:=e2
  by_cases hlt : j < l
  ·obtain ⟨b,off,xs,rfl,h2,h3,h4,h5,h6,h7⟩:=hc.resolve_left (by omega)
   obtain ⟨n',v,s,u',en,x0,x1,x2,x3⟩:=h7 j hlt
   have c0 : wr.cell? ⟨b,off + j * 3,none⟩ = some (.bool v):=(box_cell h4 _).trans x0
   have c1 : wr.cell? ⟨b,off + j * 3 + 1,none⟩ = some (str s):=(box_cell h4 _).trans x1
   have c2 : wr.cell? ⟨b,off + j * 3 + 2,none⟩ = some u':=(box_cell h4 _).trans x2
   have R:=Hd (HH.out n' en B S wr v s u' (fun b hb=>Nat.lt_of_lt_of_le (hB b hb) hs.out.size) x3)
   obtain ⟨a',l',c',rfl,-⟩:=x3.form
   clear h2 h3 h4 h5 h6 h7 x0 x1 x2 x3 en hc UR
   go_wp2_with (go_at_call 298;refine R.out.mono ?_;rintro e w1 ⟨rfl,o1⟩;have O1:=Hd o1;clear o1)
   go_roundw
   case rel=>exact ⟨j + 1,by omega,by go_num,hs.out.trans O1.out⟩
   case measure=>simp [intOf];omega
  ·have HS:=Hd hs.out
   obtain rfl : j = l:=by omega
   clear hs hc UR
   go_wp2_with fail
   go_loopw [4] (fun i wr=>∃ p : Nat,p ≤ m ∧ i = .int .i64 p ∧ Hid (Ovr B S w wr)) (fun i _=>m - (intOf i).toNat)
   case atStart=>exact ⟨0,Nat.zero_le _,rfl,HS.out⟩
   case round =>
    clear HS
    obtain ⟨p,hp,rfl,hs⟩:=hrel
    by_cases hlt2 : p < m
    ·obtain ⟨a2,l2,c2,e2,-,hc⟩:=(OkTs.ovr hs.out n _ HU.out).form
     simp only [Value.slice.injEq] at e2
     obtain ⟨rfl,rfl,rfl⟩:=e2
     obtain ⟨b,off,xs,rfl,h2,h3,h4,h5,h6,-⟩:=hc.resolve_left (by omega)
     have M2 : Hid (∀ W,Calls Tryz.prog 206 #[.int .i64 2,.int .i64 p] W fun e w'=>∃ s,e = .returned (.agg #[.bool false,str s,.slice none 0 0]) ∧ Below W.heap.size W w'):=fun W=>markTerm2_c p (by omega) W
     have H4:=Hd h4
     have H5 : Hid (off + p * 3 + 3 ≤ xs.size):=by show _ ≤ _;omega
     have H3 : Hid ((off + p * 3) % 3 = 0):=by show _ = _;omega
     have H2:=Hd h2
     clear hc h2 h3 h4 h5 h6
     go_wp2_with (go_at_call 206;refine (M2.out _).mono ?_;rintro e w1 ⟨s,rfl,b1⟩;have B1:=Hd b1;have E1:=Hd (kc b1 H4.out);clear b1;obtain ⟨y0,h0⟩ : ∃ y,xs[off + p * 3]? = some y:=⟨_,Array.getElem?_eq_getElem (by have:=H5.out;omega)⟩;obtain ⟨y1,h1⟩ : ∃ y,xs[off + p * 3 + 1]? = some y:=⟨_,Array.getElem?_eq_getElem (by have:=H5.out;omega)⟩;obtain ⟨y2,h2⟩ : ∃ y,xs[off + p * 3 + 2]? = some y:=⟨_,Array.getElem?_eq_getElem (by have:=H5.out;omega)⟩;have c0:=(box_cell E1.out (off + p * 3)).trans h0;have c1:=(box_cell E1.out (off + p * 3 + 1)).trans h1;have c2:=(box_cell E1.out (off + p * 3 + 2)).trans h2;have f0 : w1.frozen? ⟨b,off + p * 3,none⟩ = false:=(by simp [World.frozen?,E1.out]);have f1 : w1.frozen? ⟨b,off + p * 3 + 1,none⟩ = false:=(by simp [World.frozen?,E1.out]);have f2 : w1.frozen? ⟨b,off + p * 3 + 2,none⟩ = false:=(by simp [World.frozen?,E1.out]);clear h0 h1 h2)
     go_roundw
     case rel=>exact ⟨p + 1,by omega,by go_num,(hs.out.trans (Ovr.below B1.out)).trans (Ovr.tm H2.out E1.out H3.out H5.out)⟩
     case measure=>simp [intOf];omega
    ·go_wp2_with fail
     exact bodyPost_end (lN rfl _ _) rfl ⟨rfl,hs.out⟩
theorem vL : ∀ n,OtS n
 | 0=>FK 0 fun n' e=>by omega
 | n + 1=>FK (n + 1) fun n' e=>by
  obtain rfl : n' = n:=by omega
  exact ot_of (vL n')
open Go Go.RowKit Go.Sort Ly
set_option maxHeartbeats 1600000
def OkFs (S : Nat → Prop) (W : World) : Nat → Value → Prop
 | 0,u=>∃ a c,u = .slice a 0 c ∧ (c = 0 ∨ ∃ (b off : Nat) (xs : Array Value),a = some ⟨b,off,none⟩ ∧ S b ∧ off % 4 = 0 ∧ W.heap[b]? = some (Obj.cells xs 25 (0,0)) ∧ off + c * 4 ≤ xs.size ∧ kK 0 c)
 | n + 1,u=>∃ a l c,u = .slice a l c ∧ l ≤ c ∧ (c = 0 ∨ ∃ (b off : Nat) (xs : Array Value),a = some ⟨b,off,none⟩ ∧ S b ∧ off % 4 = 0 ∧ W.heap[b]? = some (Obj.cells xs 25 (0,0)) ∧ off + c * 4 ≤ xs.size ∧ kK l c ∧
   ∀ j : Nat,j < l → ∃ (o : Int) (s : Bs) (ua us : Value),xs[off + j * 4]? = some (.int .u8 o) ∧ xs[off + j * 4 + 1]? = some (str s) ∧ xs[off + j * 4 + 2]? = some ua ∧ xs[off + j * 4 + 3]? = some us ∧ (∃ k,OkTs S W k ua) ∧ OkFs S W n us)
theorem OkFs.nul {S : Nat → Prop} {W : World} : ∀ n,OkFs S W n (.slice none 0 0)
 | 0=>⟨_,_,rfl,.inl rfl⟩
 | _ + 1=>⟨_,_,_,rfl,Nat.le_refl _,.inl rfl⟩
theorem OkFs.ovr {B : Nat} {S : Nat → Prop} {W W' : World} (h : Ovr B S W W') : ∀ (n : Nat) (u : Value),OkFs S W n u → OkFs S W' n u
 | 0,u,⟨a,c,e,k⟩=>by
  refine ⟨a,c,e,k.elim .inl fun ⟨b,off,xs,h1,h2,h3,h4,h5,h6⟩=>.inr ?_⟩
  obtain ⟨ys,e1,r⟩:=h.fms b xs h4
  exact ⟨b,off,ys,h1,h2,h3,e1,by rw [r.1];exact h5,h6⟩
 | n + 1,u,⟨a,l,c,e,hl,k⟩=>by
  refine ⟨a,l,c,e,hl,k.elim .inl fun ⟨b,off,xs,h1,h2,h3,h4,h5,h6,h7⟩=>.inr ?_⟩
  obtain ⟨ys,e1,r⟩:=h.fms b xs h4
  refine ⟨b,off,ys,h1,h2,h3,e1,by rw [r.1];exact h5,h6,fun j hj=>?_⟩
  rcases r.2 (off + j * 4) (by omega) (by omega) with q | ⟨m0,⟨s,m1⟩,m2,m3⟩
  ·obtain ⟨o,s,ua,us,x0,x1,x2,x3,⟨k,x4⟩,x5⟩:=h7 j hj
   exact ⟨o,s,ua,us,(q 0 (by omega)).trans x0,(q 1 (by omega)).trans x1,(q 2 (by omega)).trans x2,(q 3 (by omega)).trans x3,⟨k,OkTs.ovr h k ua x4⟩,OkFs.ovr h n us x5⟩
  ·exact ⟨0,s,_,_,m0,m1,m2,m3,⟨0,OkTs.nul 0⟩,OkFs.nul n⟩
theorem OkFs.form {S : Nat → Prop} {W : World} {n : Nat} {u : Value} (h : OkFs S W n u) : ∃ a l c,u = .slice a l c ∧ l ≤ c ∧ (c = 0 ∨ ∃ (b off : Nat) (xs : Array Value),a = some ⟨b,off,Option.none⟩ ∧ S b ∧ off % 4 = 0 ∧ W.heap[b]? = some (Obj.cells xs 25 (0,0)) ∧ off + c * 4 ≤ xs.size ∧ kK l c ∧
  ∀ j : Nat,j < l → ∃ (n' : Nat) (o : Int) (s : Bs) (ua us : Value),n = n' + 1 ∧ xs[off + j * 4]? = some (.int .u8 o) ∧ xs[off + j * 4 + 1]? = some (str s) ∧ xs[off + j * 4 + 2]? = some ua ∧ xs[off + j * 4 + 3]? = some us ∧ (∃ k,OkTs S W k ua) ∧ OkFs S W n' us):=by
 cases n with
 | zero =>
  obtain ⟨a,c,e,k⟩:=h
  exact ⟨a,0,c,e,Nat.zero_le _,k.elim .inl fun ⟨b,off,xs,h1,h2,h3,h4,h5,h6⟩=>.inr ⟨b,off,xs,h1,h2,h3,h4,h5,h6,fun j hj=>absurd hj (by omega)⟩⟩
 | succ n =>
  obtain ⟨a,l,c,e,hl,k⟩:=h
  refine ⟨a,l,c,e,hl,k.elim .inl fun ⟨b,off,xs,h1,h2,h3,h4,h5,h6,h7⟩=>.inr ⟨b,off,xs,h1,h2,h3,h4,h5,h6,fun j hj=>?_⟩⟩
  obtain ⟨o,s,ua,us,x⟩:=h7 j hj
  exact ⟨n,o,s,ua,us,rfl,x⟩
theorem Ovr.fm {B : Nat} {S : Nat → Prop} {W : World} {b o : Nat} {xs : Array Value} {s : Bs} (hb : S b) (h : W.heap[b]? = some (Obj.cells xs 25 (0,0))) (ho : o % 4 = 0) (hs : o + 4 ≤ xs.size) : Ovr B S W ((((W.setCell ⟨b,o,none⟩ (.int .u8 0)).setCell ⟨b,o + 1,none⟩ (str s)).setCell ⟨b,o + 2,none⟩ (.slice none 0 0)).setCell ⟨b,o + 3,none⟩ (.slice none 0 0)):=by
 have e1:=aC (o:=o) (u:=.int .u8 0) h
 have e2:=aC (o:=o + 1) (u:=str s) e1
 have e3:=aC (o:=o + 2) (u:=.slice none 0 0) e2
 have e4:=aC (o:=o + 3) (u:=.slice none 0 0) e3
 refine uC hb (by decide) (by simp [World.setCell]) rfl rfl rfl h (fun b' hh=>by rw [Below.heap_setCell _ _ _ _ hh,Below.heap_setCell _ _ _ _ hh,Below.heap_setCell _ _ _ _ hh,Below.heap_setCell _ _ _ _ hh]) e4 (fun q=>absurd q (by decide)) (fun _=>⟨by simp,fun o' ho' hs'=>?_⟩) (fun q=>absurd q (by decide)) (by simp)
 by_cases hh : o' = o
 ·subst hh
  right
  have g0 : o' < xs.size:=by omega
  have g1 : o' + 1 < xs.size:=by omega
  have g2 : o' + 2 < xs.size:=by omega
  have g3 : o' + 3 < xs.size:=by omega
  refine ⟨?_,⟨s, ?_⟩, ?_, ?_⟩
  ·simp [Array.getElem?_setIfInBounds,g0]
  ·simp [Array.getElem?_setIfInBounds,g1]
  ·simp [Array.getElem?_setIfInBounds,g2]
  ·simp [Array.getElem?_setIfInBounds,g3]
 ·left
  intro i hi
  rw [Array.getElem?_setIfInBounds_ne (by omega),Array.getElem?_setIfInBounds_ne (by omega),Array.getElem?_setIfInBounds_ne (by omega),Array.getElem?_setIfInBounds_ne (by omega)]
def OfS (n : Nat) : Prop:=∀ (B : Nat) (S : Nat → Prop) (w : World) (u : Value),(∀ b : Nat,S b → b < w.heap.size) → OkFs S w n u → Calls Tryz.prog 263 #[u] w fun e w'=>e = .returned (.tuple #[]) ∧ Ovr B S w w'
def OfT (n : Nat) : Prop:=∀ (B : Nat) (S : Nat → Prop) (w : World) (o : Int) (s : Bs) (ua us : Value) (k : Nat),(∀ b : Nat,S b → b < w.heap.size) → OkTs S w k ua → OkFs S w n us → Calls Tryz.prog 187 #[.agg #[.int .u8 o,str s,ua,us]] w fun e w'=>e = .returned (.tuple #[]) ∧ Ovr B S w w'
theorem NC {n : Nat} (h : OfS n) : OfT n:=by
 intro B S w o s ua us k hB hu hv
 have HB : Hid (Below w.heap.size w (w.alloc (.cells #[.int .u8 o,str s,ua,us] 25))):=bnew
 have HG:=Hd (heap_alloc_new w (.cells #[.int .u8 o,str s,ua,us] 25))
 have NS : Hid (¬ S w.heap.size):=fun hs=>Nat.lt_irrefl _ (hB _ hs)
 have R:=Hd (vL k B S (w.alloc (.cells #[.int .u8 o,str s,ua,us] 25)) ua (fun b hb=>Nat.lt_of_lt_of_le (hB b hb) HB.out.size) (OkTs.ovr (Ovr.below (B:=B) HB.out) k ua hu))
 have R2 : Hid (∀ W,Ovr B S w W → Calls Tryz.prog 263 #[us] W fun e w'=>e = .returned (.tuple #[]) ∧ Ovr B S W w'):=fun W hW=>h B S W us (fun b hb=>Nat.lt_of_lt_of_le (hB b hb) hW.size) (OkFs.ovr hW n us hv)
 obtain ⟨a,l,c,rfl,-⟩:=hu.form
 obtain ⟨a',l',c',rfl,-⟩:=hv.form
 clear hu hv h
 go_enter Tryz.func187,Tryz.ntmps187
 go_wp2_with (first
  | (go_at_call 262;refine R.out.mono ?_;rintro e w1 ⟨rfl,o1⟩;have O1:=Hd o1;have E1:=Hd ((o1.old w.heap.size (by simp) NS.out (.inr fun xs q=>by rw [HG.out] at q;simp at q)).trans HG.out);clear o1;obtain ⟨c0,c1,c2,c3,f0,f1,f2,f3⟩:=row25' E1.out)
  | (go_at_call 263;refine (R2.out _ ((Ovr.below HB.out).trans O1.out)).mono ?_;rintro e w2 ⟨rfl,o2⟩;have O2:=Hd o2;clear o2))
 exact bodyPost_end (lN rfl _ _) rfl ⟨rfl,((Ovr.below HB.out).trans O1.out).trans O2.out⟩
theorem FI (n : Nat) (hh : ∀ n',n = n' + 1 → OfT n') : OfS n:=by
 intro B S w u hB hu
 obtain ⟨a,l,c,rfl,hl,hc⟩:=hu.form
 have hc6 : kK l c:=by
  rcases hc with rfl | ⟨b,off,xs,h1,h2,h3,h4,h5,h6,h7⟩
  ·exact ⟨by omega,by omega⟩
  ·exact h6
 obtain ⟨hl63,hc63⟩:=hc6
 have HU:=Hd hu
 have HH:=Hd hh
 obtain ⟨m,hm⟩ : ∃ m,m = min c (l + 12):=⟨_,rfl⟩
 have hm1 : m ≤ c:=by omega
 have hm2 : m ≤ l + 12:=by omega
 have hmin : min (c : Int) ((l : Int) + 12) = m:=by omega
 clear hc hm hu hh
 go_enter Tryz.func263,Tryz.ntmps263
 go_wp2_with fail
 go_loopw [2] (fun i wr=>∃ j : Nat,j ≤ l ∧ i = .int .i64 j ∧ Hid (Ovr B S w wr)) (fun i _=>l - (intOf i).toNat)
 case atStart=>exact ⟨0,Nat.zero_le _,rfl,Ovr.refl _ _ _⟩
 case round =>
  obtain ⟨j,hj,rfl,hs⟩:=hrel
  have UR:=Hd (OkFs.ovr hs.out n _ HU.out)
  obtain ⟨a2,l2,c2,e2,-,hc⟩:=UR.out.form
  simp only [Value.slice.injEq] at e2
  obtain ⟨rfl,rfl,rfl⟩:=e2
  by_cases hlt : j < l
  ·obtain ⟨b,off,xs,rfl,h2,h3,h4,h5,h6,h7⟩:=hc.resolve_left (by omega)
   obtain ⟨n',o,s,ua,us,en,x0,x1,x2,x3,⟨k,x4⟩,x5⟩:=h7 j hlt
   have c0 : wr.cell? ⟨b,off + j * 4,none⟩ = some (.int .u8 o):=(box_cell h4 _).trans x0
   have c1 : wr.cell? ⟨b,off + j * 4 + 1,none⟩ = some (str s):=(box_cell h4 _).trans x1
   have c2 : wr.cell? ⟨b,off + j * 4 + 2,none⟩ = some ua:=(box_cell h4 _).trans x2
   have c3 : wr.cell? ⟨b,off + j * 4 + 3,none⟩ = some us:=(box_cell h4 _).trans x3
   have R:=Hd (HH.out n' en B S wr o s ua us k (fun b hb=>Nat.lt_of_lt_of_le (hB b hb) hs.out.size) x4 x5)
   obtain ⟨a',l',c',rfl,-⟩:=x4.form
   obtain ⟨a'',l'',c'',rfl,-⟩:=x5.form
   clear h2 h3 h4 h5 h6 h7 x0 x1 x2 x3 x4 x5 en hc UR
   go_wp2_with (go_at_call 187;refine R.out.mono ?_;rintro e w1 ⟨rfl,o1⟩;have O1:=Hd o1;clear o1)
   go_roundw
   case rel=>exact ⟨j + 1,by omega,by go_num,hs.out.trans O1.out⟩
   case measure=>simp [intOf];omega
  ·have HS:=Hd hs.out
   obtain rfl : j = l:=by omega
   clear hs hc UR
   go_wp2_with fail
   go_loopw [4] (fun i wr=>∃ p : Nat,p ≤ m ∧ i = .int .i64 p ∧ Hid (Ovr B S w wr)) (fun i _=>m - (intOf i).toNat)
   case atStart=>exact ⟨0,Nat.zero_le _,rfl,HS.out⟩
   case round =>
    clear HS
    obtain ⟨p,hp,rfl,hs⟩:=hrel
    by_cases hlt2 : p < m
    ·obtain ⟨a2,l2,c2,e2,-,hc⟩:=(OkFs.ovr hs.out n _ HU.out).form
     simp only [Value.slice.injEq] at e2
     obtain ⟨rfl,rfl,rfl⟩:=e2
     obtain ⟨b,off,xs,rfl,h2,h3,h4,h5,h6,-⟩:=hc.resolve_left (by omega)
     have M2 : Hid (∀ W,Calls Tryz.prog 207 #[.int .i64 2,.int .i64 p] W fun e w'=>∃ s,e = .returned (.agg #[.int .u8 0,str s,.slice none 0 0,.slice none 0 0]) ∧ Below W.heap.size W w'):=fun W=>markForm2_c p (by omega) W
     have H4:=Hd h4
     have H5 : Hid (off + p * 4 + 4 ≤ xs.size):=by show _ ≤ _;omega
     have H3 : Hid ((off + p * 4) % 4 = 0):=by show _ = _;omega
     have H2:=Hd h2
     clear hc h2 h3 h4 h5 h6
     go_wp2_with (go_at_call 207;refine (M2.out _).mono ?_;rintro e w1 ⟨s,rfl,b1⟩;have B1:=Hd b1;have E1:=Hd (kc b1 H4.out);clear b1;obtain ⟨y0,h0⟩ : ∃ y,xs[off + p * 4]? = some y:=⟨_,Array.getElem?_eq_getElem (by have:=H5.out;omega)⟩;obtain ⟨y1,h1⟩ : ∃ y,xs[off + p * 4 + 1]? = some y:=⟨_,Array.getElem?_eq_getElem (by have:=H5.out;omega)⟩;obtain ⟨y2,h2⟩ : ∃ y,xs[off + p * 4 + 2]? = some y:=⟨_,Array.getElem?_eq_getElem (by have:=H5.out;omega)⟩;obtain ⟨y3,h3⟩ : ∃ y,xs[off + p * 4 + 3]? = some y:=⟨_,Array.getElem?_eq_getElem (by have:=H5.out;omega)⟩;have c3:=(box_cell E1.out (off + p * 4 + 3)).trans h3;have f3 : w1.frozen? ⟨b,off + p * 4 + 3,none⟩ = false:=(by simp [World.frozen?,E1.out]);have c0:=(box_cell E1.out (off + p * 4)).trans h0;have c1:=(box_cell E1.out (off + p * 4 + 1)).trans h1;have c2:=(box_cell E1.out (off + p * 4 + 2)).trans h2;have f0 : w1.frozen? ⟨b,off + p * 4,none⟩ = false:=(by simp [World.frozen?,E1.out]);have f1 : w1.frozen? ⟨b,off + p * 4 + 1,none⟩ = false:=(by simp [World.frozen?,E1.out]);have f2 : w1.frozen? ⟨b,off + p * 4 + 2,none⟩ = false:=(by simp [World.frozen?,E1.out]);clear h0 h1 h2 h3)
     go_roundw
     case rel=>exact ⟨p + 1,by omega,by go_num,(hs.out.trans (Ovr.below B1.out)).trans (Ovr.fm H2.out E1.out H3.out H5.out)⟩
     case measure=>simp [intOf];omega
    ·go_wp2_with fail
     exact bodyPost_end (lN rfl _ _) rfl ⟨rfl,hs.out⟩
theorem vK : ∀ n,OfS n
 | 0=>FI 0 fun n' e=>by omega
 | n + 1=>FI (n + 1) fun n' e=>by
  obtain rfl : n' = n:=by omega
  exact NC (vK n')
theorem overForm_c (n : Nat) : OfT n:=NC (vK n)
end Go.Proofs.YtcandidgaegghaaGreatDoor
