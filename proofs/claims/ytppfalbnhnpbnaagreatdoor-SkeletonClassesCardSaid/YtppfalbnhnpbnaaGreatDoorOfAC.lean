/- skeleton.change at a method value: both sides of a claim in turn. Conditions: those of each statement. -/
import Derived.Test.YtppfalbnhnpbnaaGreatDoorEaBC
import Derived.Test.YtppfalbnhnpbnaaGreatDoorNtDC
import Derived.Test.YtppfalbnhnpbnaaGreatDoorSameBC
import Derived.Test.YtppfalbnhnpbnaaGreatDoorBuiltAC
import Derived.Lib.AppendZerosOnto
set_option linter.unusedSimpArgs false
set_option linter.unusedVariables false
namespace Go.Proofs.YtppfalbnhnpbnaaGreatDoor
open Go Go.RowKit Ly
set_option maxRecDepth 10000
theorem lF {St A : Type} (f : St → A → A × St) : ∀ (s : St) (l l' : List A),aK f s (l ++ l') = ((aK f s l).1 ++ (aK f (aK f s l).2 l').1,(aK f (aK f s l).2 l').2)
 | s,[],l'=>by simp [aK]
 | s,x :: l,l'=>by simp [aK,lF f _ l l']
theorem iSq : (Tryz.prog.info? 26).map (·.size) = some 2:=by kernel_rfl
set_option maxHeartbeats 8000000 in
theorem change38_c {St : Type} (E : Nat → Prop) (nv : Value) (I : St → World → Prop) (f : St → Fm → Fm × St) (W : World) (L R : List Fm) (s0 : St) (x : Value) (hx0 : cV W L R x) (hL : L.length ≤ 100000) (hR : R.length ≤ 100000) (h0 : I s0 W) (hI : kU W.heap.size I)
  (hmap : ∀ s X,I s X → ∀ k,E k → ∃ es c,X.heap[k]? = some (.map es c)) (hE : ∀ k,E k → k < W.heap.size)
  (hf : ∀ j t,(L ++ R)[j]? = some t → ∀ X x,I (stAt f s0 (L ++ R) j) X → ButE E W X → aV X t x → Calls Tryz.prog 38 #[nv,x] X fun e w'=>∃ v,e = .returned v ∧ aV (hide (lo X) w') (f (stAt f s0 (L ++ R) j) t).1 v ∧ I (f (stAt f s0 (L ++ R) j) t).2 w' ∧ ButE E X w') :
  Calls Tryz.prog 36 #[x,.func (.func 38) #[nv] #[]] W fun e w'=>∃ v,e = .returned v ∧ cV (hide (lo W) w') (aK f s0 L).1 (aK f (aK f s0 L).2 R).1 v ∧ I (aK f (aK f s0 L).2 R).2 w' ∧ ButE E W w':=by
 obtain ⟨a,n,c,b,m,d,rfl,hx,hy⟩:=hx0
 obtain ⟨W0,hW0⟩ : ∃ W0,(W.alloc (.cells #[.slice a n c,.slice b m d] 26)).alloc (.cells #[.slice none 0 0,.slice none 0 0] 26) = W0:=⟨_,rfl⟩
 have bw : Below W.heap.size W W0:=by rw [← hW0];exact ((Below.refl _ _).alloc (Nat.le_refl _) _).alloc (by simp) _
 have r0 : W0.heap[W.heap.size]? = some (.cells #[.slice a n c,.slice b m d] 26 (0,0)):=by rw [← hW0];exact aI _ (heap_alloc_new W _)
 have r1 : W0.heap[W.heap.size + 1]? = some (.cells #[.slice none 0 0,.slice none 0 0] 26 (0,0)):=by
  rw [← hW0]
  have:=heap_alloc_new (W.alloc (.cells #[.slice a n c,.slice b m d] 26)) (.cells #[.slice none 0 0,.slice none 0 0] 26)
  rw [World.size_alloc] at this
  exact this
 have B0 : ButE E W W0:=.of_below bw
 have KW : ∀ X,ButE E W X → bI W X:=fun X hX=>hX.keeps (hmap s0 W h0)
 have C1 : Hid (Calls Tryz.prog 69 #[.slice a n c,.func (.func 38) #[nv] #[]] W0 fun e w'=>∃ v,e = .returned v ∧ aN (hide (lo W0) w') (aK f s0 L).1 v ∧ I (aK f s0 L).2 w' ∧ ButE E W0 w'):=by
  refine vP E nv I f W0 L s0 a n c (hx.keep (KW _ B0)) hL (hI _ _ _ h0 (fun k hk=>bw.block k hk)) (fun s X X' h e=>hI s X X' h (fun k hk=>e k (by have:=bw.size;omega))) hmap (fun k hk=>by have:=hE k hk;have:=bw.size;omega) (fun j t ht X x hI' hX hv=>?_)
  have e : stAt f s0 (L ++ R) j = stAt f s0 L j:=by
   unfold stAt
   rw [List.take_append_of_le_length (Nat.le_of_lt (List.getElem?_eq_some_iff.1 ht).1)]
  have:=hf j t (by rw [List.getElem?_append_left (List.getElem?_eq_some_iff.1 ht).1];exact ht) X x (by rw [e];exact hI') (B0.trans hX) hv
  rwa [e] at this
 have C2 : Hid (∀ X,I (aK f s0 L).2 X → ButE E W X → Calls Tryz.prog 69 #[.slice b m d,.func (.func 38) #[nv] #[]] X fun e w'=>∃ v,e = .returned v ∧ aN (hide (lo X) w') (aK f (aK f s0 L).2 R).1 v ∧ I (aK f (aK f s0 L).2 R).2 w' ∧ ButE E X w'):=by
  intro X hIX hX
  refine vP E nv I f X R _ b m d (hy.keep (KW _ hX)) hR hIX (fun s Y Y' h e=>hI s Y Y' h (fun k hk=>e k (by have:=hX.size;omega))) hmap (fun k hk=>by have:=hE k hk;have:=hX.size;omega) (fun j t ht Y x hI' hY hv=>?_)
  have e : stAt f s0 (L ++ R) (L.length + j) = stAt f (aK f s0 L).2 R j:=by
   unfold stAt
   rw [List.take_append,List.take_of_length_le (by omega),Nat.add_sub_cancel_left,lF]
  have:=hf (L.length + j) t (by rw [List.getElem?_append_right (by omega),Nat.add_sub_cancel_left];exact ht) Y x (by rw [e];exact hI') (hX.trans hY) hv
  rwa [e] at this
 have LE : Hid (∀ k,W.heap.size ≤ k → ¬ E k):=fun k hk e=>by have:=hE k e;omega
 have HB:=Lib.hid B0
 have R0:=Lib.hid r0
 have R1:=Lib.hid r1
 have HI:=Lib.hid hI
 obtain ⟨y0,y1,z0,z1⟩:=row2 r0
 clear hx hy hL hR h0 hI hmap hE hf bw r0 r1 B0 KW
 go_enter Tryz.func36,Tryz.ntmps36
 go_wp2_with (first
  | (
    go_at_call 69
    refine C1.out.mono ?_
    rintro e w3 ⟨v3,rfl,h3,i3,b3⟩
    obtain ⟨fa,fc,rfl,-,-,-,-⟩:=At.sl_inv h3
    have I3:=Lib.hid (And.intro h3 (And.intro i3 b3))
    have B3:=Lib.hid (HB.out.trans b3)
    have Q0:=Lib.hid ((b3.block _ (Array.getElem?_eq_some_iff.1 R0.out).1 (LE.out _ (Nat.le_refl _))).trans R0.out)
    have Q1:=Lib.hid ((b3.block _ (Array.getElem?_eq_some_iff.1 R1.out).1 (LE.out _ (by omega))).trans R1.out)
    clear C1 h3 i3 b3 y0 y1 z0 z1 hW0
    obtain ⟨y0,y1,z0,z1⟩:=row2 Q0.out)
  | (
    go_at_call 69
    refine (C2.out _ I3.out.2.1 B3.out).mono ?_
    rintro e w5 ⟨v5,rfl,h5,i5,b5⟩
    obtain ⟨ga,gc,rfl,-,-,-,-⟩:=At.sl_inv h5
    have I5:=Lib.hid (And.intro h5 (And.intro i5 b5))
    have P1:=Lib.hid ((b5.block _ (Array.getElem?_eq_some_iff.1 Q1.out).1 (LE.out _ (by omega))).trans Q1.out)
    clear h5 i5 b5 y0 y1 z0 z1
    obtain ⟨y0,y1,z0,z1⟩:=row2 P1.out))
 have g:=aC (o:=1) (u:=.slice ga (aK f (aK f s0 L).2 R).1.length gc) (aC (o:=0) (u:=.slice fa (aK f s0 L).1.length fc) P1.out)
 refine bodyPost_ret (results_cell_row rfl _ _ (W.heap.size + 1) 26 _ (0,0) _ rfl g Tryz.underlying26 rfl iSq) rfl ?_
 obtain ⟨h3,i3,b3⟩:=I3.out
 obtain ⟨h5,i5,b5⟩:=I5.out
 have key : ∀ k,k ≠ W.heap.size + 1 → ((w5.setCell ⟨W.heap.size + 1,0,none⟩ (.slice fa (aK f s0 L).1.length fc)).setCell ⟨W.heap.size + 1,1,none⟩ (.slice ga (aK f (aK f s0 L).2 R).1.length gc)).heap[k]? = w5.heap[k]?:=fun k hk=>by rw [Below.heap_setCell _ _ _ _ hk,Below.heap_setCell _ _ _ _ hk]
 have l1:=(Array.getElem?_eq_some_iff.1 R1.out).1
 have l3:=b3.size
 refine ⟨_,rfl,⟨_,_,_,_,_,_,rfl, ?_, ?_⟩, ?_, ?_⟩
 ·refine h3.keep (aH fun k h1 h2=>?_)
  simp only [lo,decide_eq_false_iff_not,Nat.not_lt] at h2 ⊢
  exact ⟨by omega,by rw [key k (by omega),b5.block k h1 (LE.out k (by omega))]⟩
 ·refine h5.keep (aH fun k h1 h2=>?_)
  simp only [lo,decide_eq_false_iff_not,Nat.not_lt] at h2 ⊢
  exact ⟨by omega,key k (by omega)⟩
 ·exact HI.out _ w5 _ i5 (fun k hk=>key k (by omega))
 ·exact ((B3.out.trans b5).set (by omega) _ _).set (by omega) _ _
theorem lV : ∀ (σ : List Sy) (fs : List Fm),aK (fun σ f=>Fm.sk σ f) σ fs = dX σ fs
 | _,[]=>by simp [aK,dX]
 | σ,t :: ts=>by simp [aK,dX,lV _ ts]
theorem jR : ∀ (fs : List Fm) (σ : List Sy),(∀ f ∈ fs,f.right = true) → σ.length + 400 * fs.length ≤ 800000 → (dX σ fs).2.length ≤ σ.length + 400 * fs.length
 | [],σ,_,_=>by simp [dX]
 | f :: fs,σ,h,hl=>by
  simp only [List.length_cons] at hl
  have h1:=(Fm.mid_right (σ:=σ) (h f (by simp)) (by omega)).2.2.2
  have h2:=jR fs (f.sk σ).2 (fun g hg=>h g (by simp [hg])) (by omega)
  simp only [dX,List.length_cons]
  omega
theorem changeSk_c (g1 c1 gm cm : Nat) (W : World) (L R : List Fm) (x : Value) (h : aY g1 c1 gm cm [] W) (hp : cK W) (hr : cU W) (hx : cV W L R x) (rL : ∀ f ∈ L,f.right = true) (rR : ∀ f ∈ R,f.right = true) (hL : L.length ≤ 64) (hR : R.length ≤ 64) :
  Calls Tryz.prog 36 #[x,.func (.func 38) #[gI g1 c1 (.slice none 0 0)] #[]] W fun e w'=>∃ v,e = .returned v ∧ cV (hide (lo W) w') (skOf L R).1 (skOf L R).2 v ∧ ButE (EN gm cm) W w':=by
 have lt:=h.lt
 refine (change38_c (EN gm cm) (gI g1 c1 (.slice none 0 0)) (fun σ W=>aY g1 c1 gm cm σ W) (fun σ f=>Fm.sk σ f) W L R [] x hx (by omega) (by omega) h (aY.steady g1 c1 gm cm lt) (fun s X hX k hk=>hX.maps hk) (fun k hk=>by rcases hk with rfl | rfl <;> omega) (fun j t ht X y hI hX hv=>?_)).mono ?_
 ·have e : stAt (fun σ f=>Fm.sk σ f) [] (L ++ R) j = (dX [] ((L ++ R).take j)).2:=by unfold stAt;rw [lV]
  have rA : ∀ f ∈ L ++ R,f.right = true:=fun f hf=>by rcases List.mem_append.1 hf with h | h;exact rL f h;exact rR f h
  have lj : ((L ++ R).take j).length ≤ 128:=by have h1:=List.length_take_le' j (L ++ R);have h2 : (L ++ R).length = L.length + R.length:=List.length_append;omega
  have:=jR ((L ++ R).take j) [] (fun f hf=>rA f (List.mem_of_mem_take hf)) (by simp only [List.length_nil];omega)
  rw [e] at hI ⊢
  exact form_c t g1 c1 gm cm _ _ X y hI (h.powE hX hp) (hr.keep (h.keepE hX)) hv (rA t (List.mem_of_getElem? ht)) (by simp only [List.length_nil] at this;omega) ⟨_,_,_,rfl⟩
 ·rintro e w' ⟨v,rfl,h1,h2,h3⟩
  rw [lV,lV] at h1
  exact ⟨v,rfl,h1,h3⟩
end Go.Proofs.YtppfalbnhnpbnaaGreatDoor
namespace Go.Proofs.YtppfalbnhnpbnaaGreatDoor
open Go Go.RowKit Ly
set_option maxRecDepth 10000
theorem append_none' {P : Program} {w : World} {ops : Array Oper} {rest : List Oper} {o : Oper} {a : Act} {Q : Exit → Act → World → Prop} (hgd : o.guard = none) (s x : Operand) (t : TypeId)
  (ho : o.op = .call { callee:=.builtin .append,args:=#[s,x],argTypes:=#[t,t] })
  (base : Nat) (e : TypeId) (i : TypeInfo) (size : Nat) (ht : P.underlying t = some (.slice e)) (hi : P.info? e = some i)
  (v : Value) (n : Nat) (xs : List Value) (hs : a.eval s = v) (hown : w.ownsRow base e size v n xs) (c : Nat) (hx : a.eval x = .slice none 0 c)
  (h : wpList P ops Q rest (a.put o.dst v) w) : wpList P ops Q (o :: rest) a w:=by
 refine wpList_plain hgd fun K hK=>?_
 have hrun : (Builtin.append_ #[t,t] o.type #[v,.slice none 0 c]).run P w = .ok v w:=by
  rcases hown.2 with ⟨rfl,rfl⟩ | ⟨g,cap,cur,rfl,_,_,hnc,_⟩
  ·simp [Builtin.append_,run_underlying ht,sizeOf,typeInfo,hi,Builtin.lenOf,Builtin.firstCells]
  ·simp [Builtin.append_,run_underlying ht,sizeOf,typeInfo,hi,Builtin.lenOf,Builtin.firstCells,hnc,storeCells]
 unfold Oper.wp
 simp [execOp,ho,resolve,invoke,builtin,hs,hx,hrun,Result.andThen]
 exact hK _ _ h
theorem wG {w : World} {b : Nat} : ∀ (ds : List D) (off : Nat),fU w b off ds → ∃ vs,aU w ds vs ∧ ∀ (j : Nat) (u : Value),vs[j]? = some u → w.cell? ⟨b,off + j,none⟩ = some u
 | [],off,_=>⟨[],aU.nil _,fun j u h=>by simp at h⟩
 | d :: ds,off,h=>by
  obtain ⟨⟨u,hu,ha⟩,hr⟩:=h
  obtain ⟨vs,h1,h2⟩:=wG ds (off + 1) hr
  refine ⟨u :: vs,aU.cons ha h1,fun j x hx=>?_⟩
  cases j with
  | zero=>simp at hx;subst hx;exact hu
  | succ j =>
   have:=h2 j x (by simpa using hx)
   rwa [show off + 1 + j = off + (j + 1) by omega] at this
theorem yW {w : World} : ∀ (l : List Fm) (vs : List Value),aU w (bJ l) vs → ∀ u ∈ vs,u.oneCell' = true
 | [],vs,h,u,hu=>by
  have : vs = []:=List.eq_nil_of_length_eq_zero (by simpa [bJ] using h.1)
  subst this;cases hu
 | .mk op nm ts sub :: l,vs,h,u,hu=>by
  have hl:=h.1
  simp [bJ,Fm.ds] at hl
  match vs,h,hl,hu with
  | v0 :: v1 :: v2 :: v3 :: vs,h,hl,hu =>
   have hr : aU w (bJ l) vs:=by
    refine ⟨by simp at hl;omega,fun j d hd=>?_⟩
    obtain ⟨x,hx,ha⟩:=h.2 (j + 4) d (by simpa [bJ,Fm.ds] using hd)
    exact ⟨x,by simpa using hx,ha⟩
   rcases List.mem_cons.1 hu with rfl | hu
   ·obtain ⟨x,hx,ha⟩:=h.2 0 _ rfl
    simp at hx;subst hx
    have : u = .int .u8 op:=ha
    subst this;rfl
   rcases List.mem_cons.1 hu with rfl | hu
   ·obtain ⟨x,hx,ha⟩:=h.2 1 _ rfl
    simp at hx;subst hx
    have : u = str nm:=ha
    subst this;rfl
   rcases List.mem_cons.1 hu with rfl | hu
   ·obtain ⟨x,hx,ha⟩:=h.2 2 _ rfl
    simp at hx;subst hx
    obtain ⟨a,c,rfl,-⟩:=At.sl_inv ha
    rfl
   rcases List.mem_cons.1 hu with rfl | hu
   ·obtain ⟨x,hx,ha⟩:=h.2 3 _ rfl
    simp at hx;subst hx
    obtain ⟨a,c,rfl,-⟩:=At.sl_inv ha
    rfl
   exact yW l vs hr u hu
  | [],h,hl,hu=>simp at hl
  | [_],h,hl,hu=>simp at hl
  | [_,_],h,hl,hu=>simp at hl
  | [_,_,_],h,hl,hu=>simp at hl
theorem xL {w : World} {l : List Fm} {a : Option Addr} {n c : Nat} (h : aN w l (.slice a n c)) :
  (a = none ∧ n = 0 ∧ l = []) ∨ ∃ ad vs,a = some ad ∧ vs.length = n * 4 ∧ (∀ (j : Nat) (u : Value),vs[j]? = some u → w.cell? (ad.add j) = some u) ∧ (∀ u ∈ vs,u.oneCell' = true) ∧ aU w (bJ l) vs:=by
 obtain ⟨a',cap,e,h1,h2,h3,h4⟩:=h
 simp only [Value.slice.injEq] at e
 obtain ⟨rfl,rfl,rfl⟩:=e
 rcases h4 with h4 | ⟨b,off,rfl,h4⟩
 ·have hl : l = []:=List.eq_nil_of_length_eq_zero h4
  subst hl
  cases a with
  | none=>exact .inl ⟨rfl,rfl,rfl⟩
  | some ad=>exact .inr ⟨ad,[],rfl,by simp,fun j u h=>by simp at h,(by simp),aU.nil _⟩
 ·obtain ⟨vs,h5,h6⟩:=wG _ _ h4
  refine .inr ⟨_,vs,rfl,by rw [h5.1,gN],fun j u hu=>?_,yW l vs h5,h5⟩
  rw [Addr.add_lit]
  exact h6 j u hu
theorem Grow153_nil (n : Nat) (w : World) (h : n ≤ 1000) : Calls Tryz.prog 153 #[.slice none 0 0,.int .i64 n] w fun e w' =>
  ∃ v,e = .returned v ∧ w'.ownsRow w.heap.size 40 4 v 0 [] ∧ Below w.heap.size w w':=by
 have hn : n ≤ 9223372036854775807:=by omega
 have h1 : ¬ ((n : Int) < 0):=by omega
 by_cases hz : n = 0
 ·subst hz
  clear h hn h1
  go_enter Tryz.func153,Tryz.ntmps153
  go_wp2
  go_ret
  exact ⟨_,rfl,World.ownsRow_nil _ _ _ _,Below.refl _ _⟩
 ·have h2 : 0 < n:=by omega
  obtain ⟨i0,hi0,hz0,hs0,hb0⟩:=info_parts dV
  have h4 : (n : Int) > 0:=by omega
  have hold : (Builtin.firstCells i0.size 0 (.slice none 0 0)).run Tryz.prog w.drew = .ok #[] w.drew:=run_firstCells_none w.drew i0.size 0 0 0
  have hGn : n ≤ grownCap w n 0 40:=grownCap_ge w _ _ _
  have hGm : grownCap w n 0 40 ≤ maxLen:=grownCap_le_maxLen w _ _ _ (by unfold maxLen;omega)
  have hrz : ∀ ty,(Builtin.append_ #[24,3] ty #[.slice none 0 0,.int .i64 (n : Int)]).run Tryz.prog w =
   .ok (.slice (some ⟨w.heap.size,0,none⟩) n (grownCap w n 0 40)) (w.drew.alloc (.cells (Builtin.zeroCells (Value.agg #[.int .u8 0,.string ⟨#[]⟩,.slice none 0 0,.slice none 0 0]).cells n ++ Builtin.zeroCells (Value.agg #[.int .u8 0,.string ⟨#[]⟩,.slice none 0 0,.slice none 0 0]).cells (grownCap w n 0 40 - n)) 40)):=fun ty=>by
   have h:=Lib.run_append_grow_zeros w 24 3 ty 40 i0 (.agg #[.int .u8 0,.string ⟨#[]⟩,.slice none 0 0,.slice none 0 0]) .i64 .i64 Tryz.underlying24 Tryz.underlying3 hi0 hz0 none 0 0 [] hold n (by omega) (by omega) (by omega) (by omega)
    (by rw [hb0];omega) (by rw [hb0];exact growslice_fits (by omega) (by omega))
   simpa using h
  have hsz : (Builtin.zeroCells (Value.agg #[.int .u8 0,.string ⟨#[]⟩,.slice none 0 0,.slice none 0 0]).cells n ++ Builtin.zeroCells (Value.agg #[.int .u8 0,.string ⟨#[]⟩,.slice none 0 0,.slice none 0 0]).cells (grownCap w n 0 40 - n)).size = grownCap w n 0 40 * 4:=by
   simp [Builtin.zeroCells,Value.cells];omega
  generalize (Builtin.zeroCells (Value.agg #[.int .u8 0,.string ⟨#[]⟩,.slice none 0 0,.slice none 0 0]).cells n ++ Builtin.zeroCells (Value.agg #[.int .u8 0,.string ⟨#[]⟩,.slice none 0 0,.slice none 0 0]).cells (grownCap w n 0 40 - n)) = Z at *
  generalize grownCap w n 0 40 = G at *
  have hG63 : G ≤ 9223372036854775807:=le63 hGm
  have HM:=Lib.hid hGm
  have HS:=Lib.hid hsz
  clear hold hi0 hz0 hs0 hb0 hGm hsz
  go_enter Tryz.func153,Tryz.ntmps153
  go_wp2_with (at_builtin;refine Lib.wpList_append_run _ rfl _ _ _ _ rfl _ _ rfl rfl _ _ (hrz _) ?_)
  go_ret
  refine ⟨_,rfl, ?_, ?_⟩
  ·exact ⟨by simp,.inr ⟨w.heap.size,G,Z,rfl,Nat.le_refl _,heap_alloc_new w.drew _,Nat.zero_le _,HM.out,HS.out,by simp⟩⟩
  ·exact (Below.refl _ _).drew.alloc (Nat.le_refl _) _
def pre2 (n m : Nat) : Nat → Nat
 | 0=>0
 | 1=>n
 | _=>n + m
def preL (L R : List Fm) : Nat → List Fm
 | 0=>[]
 | 1=>L
 | _=>L ++ R
def sF (w w' : World) (l : List Fm) (n : Nat) (v : Value) : Prop:=∃ xs,w'.ownsRow w.heap.size 40 4 v n xs ∧ aU w (bJ l) xs
theorem sF.at {w w' : World} {l : List Fm} {n : Nat} {v : Value} (h : sF w w' l n v) (hn : l.length = n) (k : bI w w') : aN w' l v:=by
 obtain ⟨xs,⟨h1,h2⟩,h3⟩:=h
 subst hn
 rcases h2 with ⟨rfl,h0⟩ | ⟨g,cap,cur,rfl,hb,hg,hc,hm,hs,ht⟩
 ·have : l = []:=List.eq_nil_of_length_eq_zero h0
  subst this
  exact At.sl_nil (Nat.zero_le _)
 ·refine At.sl_mk (gN l) hc hm fun j d hd=>?_
  obtain ⟨u,hu,ha⟩:=h3.2 j d hd
  refine ⟨u, ?_,ha.keep k⟩
  rw [Nat.zero_add,bE hg,← Array.getElem?_toList]
  rw [← ht,List.getElem?_take] at hu
  split at hu
  ·exact hu
  ·cases hu
set_option maxHeartbeats 4000000 in
theorem Concat2_c (L R : List Fm) (a b : Option Addr) (n c m d g : Nat) (w : World) (hx : aN w L (.slice a n c)) (hy : aN w R (.slice b m d)) (hb0 : w.heap[g]? = some (.cells #[.slice a n c,.slice b m d] 24 (0,0))) (hn : n ≤ 400) (hm : m ≤ 400) :
  Calls Tryz.prog 102 #[.slice (some ⟨g,0,none⟩) 2 2] w fun e w'=>∃ v,e = .returned v ∧ aN w' (L ++ R) v ∧ Below w.heap.size w w':=by
 have hlx:=hx.len
 have hly:=hy.len
 have LX:=Lib.hid hlx.1
 have LY:=Lib.hid hly.1
 have SX:=Lib.hid (xL hx)
 have SY:=Lib.hid (xL hy)
 have R0:=Lib.hid hb0
 obtain ⟨y0,y1,-,-⟩:=row2 hb0
 clear hx hy hlx hly hb0
 go_enter Tryz.func102,Tryz.ntmps102
 go_wp2_with fail
 go_loop [3,11] (fun s i=>∃ j : Nat,j ≤ 2 ∧ i = .int .i64 j ∧ s = .int .i64 (pre2 n m j : Nat)) (fun _ i=>2 - (intOf i).toNat)
 case atStart=>exact ⟨0,by omega,rfl,rfl⟩
 case round =>
  obtain ⟨j,hj,rfl,rfl⟩:=hrel
  match j,hj with
  | 0,hj =>
   simp only [pre2]
   go_wp2_with fail
   all_goals go_round
   case rel=>exact ⟨1,by omega,rfl,by simp [pre2]⟩
   case measure=>simp [intOf]
  | 1,hj =>
   simp only [pre2]
   go_wp2_with fail
   all_goals go_round
   case rel=>exact ⟨2,by omega,rfl,by simp [pre2]⟩
   case measure=>simp [intOf]
  | 2,hj =>
   simp only [pre2]
   have GC : Hid (Calls Tryz.prog 153 #[.slice none 0 0,.int .i64 ((n : Int) + m)] w fun e w'=>∃ v,e = .returned v ∧ w'.ownsRow w.heap.size 40 4 v 0 [] ∧ Below w.heap.size w w'):=by
    have:=Grow153_nil (n + m) w (by omega)
    rw [Int.natCast_add] at this
    exact this
   go_wp2_with (go_at_call 153;refine GC.out.mono ?_;rintro e w1 ⟨v,rfl,hown,hb⟩;have HO:=Lib.hid (And.intro hown hb);clear hown hb GC)
   obtain ⟨i0,hi0,hz0,hs0,hb0⟩:=info_parts dV
   go_loopw [6,27] (fun u i wr=>∃ (q : Nat) (U : Value),q ≤ 2 ∧ i = .int .i64 q ∧ U = u ∧ Hid (sF w wr (preL L R q) (pre2 n m q) U ∧ Below w.heap.size w wr)) (fun _ i _=>2 - (intOf i).toNat)
   case atStart=>exact ⟨0,_,by omega,rfl,rfl,⟨[],HO.out.1,aU.nil _⟩,HO.out.2⟩
   case round =>
   obtain ⟨q,U,hq,rfl,rfl,hr⟩:=hrel
   clear HO
   match q,hq with
   | 0,hq =>
    have hK:=aA hr.out.2
    have d0:=hK _ _ y0
    obtain ⟨⟨xs,ho,hxs⟩,hbb⟩:=hr.out
    rcases SX.out with ⟨e1,e2,e3⟩ | ⟨ad,vs,e1,h1,h2,h3,h4⟩
    ·have NX : Hid (sF w wr (preL L R 1) (pre2 n m 1) U ∧ Below w.heap.size w wr):=by
      refine ⟨⟨xs, ?_, ?_⟩,hbb⟩
      ·rw [show pre2 n m 1 = pre2 n m 0 by simp [pre2,e2]];exact ho
      ·rw [show preL L R 1 = preL L R 0 by simp [preL,e3]];exact hxs
     have HO:=Lib.hid ho
     clear ho hxs hK hbb e3
     subst e1 e2
     go_wp2_with (at_builtin;refine append_none' rfl _ _ 24 rfl w.heap.size 40 i0 4 Tryz.underlying24 hi0 U _ xs (by rfl) HO.out c (by rfl) ?_)
     go_roundw
     case rel=>exact ⟨_,_,_,⟨1,by omega,rfl,NX.out⟩,rfl,rfl,rfl⟩
     case measure=>simp [intOf]
    ·have HO:=Lib.hid ho
     have HV:=Lib.hid (And.intro h1 (And.intro (fun j u hu=>hK _ _ (h2 j u hu)) h3))
     have HC:=Lib.hid (And.intro hxs h4)
     have HB:=Lib.hid hbb
     clear ho hxs hK hbb h1 h2 h3 h4
     subst e1
     go_wp2_with (at_builtin;refine wpList_append_own _ rfl _ _ 24 rfl w.heap.size 40 i0 (.agg #[.int .u8 0,.string ⟨#[]⟩,.slice none 0 0,.slice none 0 0]) 4 72 Tryz.underlying24 hi0 hz0 hs0 hb0 rfl (by decide) U (pre2 n m 0) xs (by rfl) HO.out ad n c vs (by rfl) HV.out.1 HV.out.2.1 HV.out.2.2 (by simp only [pre2];unfold maxLen;omega) (by simp only [pre2];omega) HB.out.size ?_;intro v' w2 hown2 hg2 hat2)
     go_roundw
     case rel =>
      refine ⟨1,_,by omega,rfl,rfl,⟨xs ++ vs, ?_, ?_⟩,HB.out.grown hg2 HB.out.size (fun kk hkk=>(HO.out.lt kk hkk).1)⟩
      ·have e : pre2 n m 0 + n = pre2 n m 1:=by simp [pre2]
       show w2.ownsRow w.heap.size 40 4 v' (pre2 n m 1) _;rw [← e];exact hown2
      ·have e : preL L R 1 = preL L R 0 ++ L:=by simp [preL]
       rw [e,iH]
       exact HC.out.1.append HC.out.2
     case measure=>simp [intOf]
   | 1,hq =>
    have hK:=aA hr.out.2
    have d0:=hK _ _ y1
    obtain ⟨⟨xs,ho,hxs⟩,hbb⟩:=hr.out
    rcases SY.out with ⟨e1,e2,e3⟩ | ⟨ad,vs,e1,h1,h2,h3,h4⟩
    ·have NX : Hid (sF w wr (preL L R 2) (pre2 n m 2) U ∧ Below w.heap.size w wr):=by
      refine ⟨⟨xs, ?_, ?_⟩,hbb⟩
      ·rw [show pre2 n m 2 = pre2 n m 1 by simp [pre2,e2]];exact ho
      ·rw [show preL L R 2 = preL L R 1 by simp [preL,e3]];exact hxs
     have HO:=Lib.hid ho
     clear ho hxs hK hbb e3
     subst e1 e2
     go_wp2_with (at_builtin;refine append_none' rfl _ _ 24 rfl w.heap.size 40 i0 4 Tryz.underlying24 hi0 U _ xs (by rfl) HO.out d (by rfl) ?_)
     go_roundw
     case rel=>exact ⟨_,_,_,⟨2,by omega,rfl,NX.out⟩,rfl,rfl,rfl⟩
     case measure=>simp [intOf]
    ·have HO:=Lib.hid ho
     have HV:=Lib.hid (And.intro h1 (And.intro (fun j u hu=>hK _ _ (h2 j u hu)) h3))
     have HC:=Lib.hid (And.intro hxs h4)
     have HB:=Lib.hid hbb
     clear ho hxs hK hbb h1 h2 h3 h4
     subst e1
     go_wp2_with (at_builtin;refine wpList_append_own _ rfl _ _ 24 rfl w.heap.size 40 i0 (.agg #[.int .u8 0,.string ⟨#[]⟩,.slice none 0 0,.slice none 0 0]) 4 72 Tryz.underlying24 hi0 hz0 hs0 hb0 rfl (by decide) U (pre2 n m 1) xs (by rfl) HO.out ad m d vs (by rfl) HV.out.1 HV.out.2.1 HV.out.2.2 (by simp only [pre2];unfold maxLen;omega) (by simp only [pre2];omega) HB.out.size ?_;intro v' w2 hown2 hg2 hat2)
     go_roundw
     case rel =>
      refine ⟨2,_,by omega,rfl,rfl,⟨xs ++ vs, ?_, ?_⟩,HB.out.grown hg2 HB.out.size (fun kk hkk=>(HO.out.lt kk hkk).1)⟩
      ·have e : pre2 n m 1 + m = pre2 n m 2:=by simp [pre2]
       show w2.ownsRow w.heap.size 40 4 v' (pre2 n m 2) _;rw [← e];exact hown2
      ·have e : preL L R 2 = preL L R 1 ++ R:=by simp [preL]
       rw [e,iH]
       exact HC.out.1.append HC.out.2
     case measure=>simp [intOf]
   | 2,hq =>
    obtain ⟨ho,hbb⟩:=hr.out
    have AT:=Lib.hid (sF.at ho (by simp only [preL,pre2,List.length_append];rw [LX.out,LY.out]) (aA hbb))
    have HB:=Lib.hid hbb
    clear ho hbb hr
    go_wp2_with fail
    go_ret
    exact ⟨_,rfl,AT.out,HB.out⟩
end Go.Proofs.YtppfalbnhnpbnaaGreatDoor
namespace Go.Proofs.YtppfalbnhnpbnaaGreatDoor
open Go Go.RowKit Ly
set_option maxRecDepth 10000
theorem xM (L R : List Fm) (x : Value) (w : World) (hx0 : cV w L R x) (hL : L.length ≤ 400) (hR : R.length ≤ 400) :
  Calls Tryz.prog 56 #[x] w fun e w'=>∃ v,e = .returned v ∧ aN w' (L ++ R) v ∧ Below w.heap.size w w':=by
 obtain ⟨a,n,c,b,m,d,rfl,hx,hy⟩:=hx0
 obtain ⟨W0,hW0⟩ : ∃ W0,(w.alloc (.cells #[.slice a n c,.slice b m d] 26)) = W0:=⟨_,rfl⟩
 obtain ⟨W1,hW1⟩ : ∃ W1,(W0.alloc (.cells #[.slice a n c,.slice b m d] 24)) = W1:=⟨_,rfl⟩
 have b0 : Below w.heap.size w W0:=by rw [← hW0];exact (Below.refl _ _).alloc (Nat.le_refl _) _
 have s0 : W0.heap.size = w.heap.size + 1:=by rw [← hW0];simp
 have b1 : Below w.heap.size w W1:=by rw [← hW1];exact b0.alloc (by omega) _
 have r0 : W0.heap[w.heap.size]? = some (.cells #[.slice a n c,.slice b m d] 26 (0,0)):=by rw [← hW0];exact heap_alloc_new w _
 have r1 : W1.heap[w.heap.size + 1]? = some (.cells #[.slice a n c,.slice b m d] 24 (0,0)):=by rw [← hW1,← s0];exact heap_alloc_new W0 _
 have CC : Hid (Calls Tryz.prog 102 #[.slice (some ⟨w.heap.size + 1,0,none⟩) 2 2] W1 fun e w'=>∃ v,e = .returned v ∧ aN w' (L ++ R) v ∧ Below W1.heap.size W1 w') :=
  Concat2_c L R a b n c m d _ W1 (hx.keep (aA b1)) (hy.keep (aA b1)) r1 (by have:=hx.len.1;omega) (by have:=hy.len.1;omega)
 have B1:=Lib.hid b1
 obtain ⟨y0,y1,z0,z1⟩:=row2 r0
 clear b0 b1 r0 r1 hx hy hL hR
 go_enter Tryz.func56,Tryz.ntmps56
 go_wp2_with (go_at_call 102;refine CC.out.mono ?_;rintro e w2 ⟨v,rfl,h2,b2⟩;have H2:=Lib.hid (And.intro h2 b2);clear h2 b2 CC)
 go_ret
 exact ⟨_,rfl,H2.out.1,B1.out.trans (H2.out.2.mono B1.out.size)⟩
theorem right1_c (f : Fm) (x : Value) (w : World) (hr : cU w) (hx0 : aV w f x) (h : f.right = true) : Calls Tryz.prog 68 #[x] w fun e w'=>e = .returned (.bool false) ∧ Below w.heap.size w w':=by
 obtain ⟨a,n,c,b,m,d,rfl,hx,hy⟩:=hx0
 obtain ⟨W0,hW0⟩ : ∃ W0,(w.alloc (.cells #[.int .u8 f.op,str f.name,.slice a n c,.slice b m d] 40)) = W0:=⟨_,rfl⟩
 have b0 : Below w.heap.size w W0:=by rw [← hW0];exact (Below.refl _ _).alloc (Nat.le_refl _) _
 have r0 : W0.heap[w.heap.size]? = some (.cells #[.int .u8 f.op,str f.name,.slice a n c,.slice b m d] 40 (0,0)):=by rw [← hW0];exact heap_alloc_new w _
 have K:=aA b0
 have RC : Hid (Calls Tryz.prog 16 #[.agg #[.int .u8 f.op,str f.name,.slice a n c,.slice b m d]] W0 fun e w'=>e = .returned (.bool true) ∧ Below W0.heap.size W0 w'):=sG f _ W0 (hr.keep K) ⟨_,_,_,_,_,_,rfl,hx.keep K,hy.keep K⟩ h
 have B0:=Lib.hid b0
 obtain ⟨⟨y0,y1,y2,y3⟩,-⟩:=aL r0
 clear b0 r0 K hx hy hr h
 go_enter Tryz.func68,Tryz.ntmps68
 go_wp2_with (go_at_call 16;refine RC.out.mono ?_;rintro e w2 ⟨rfl,b2⟩;have B2:=Lib.hid b2;clear b2 RC)
 go_ret
 exact ⟨rfl,B0.out.trans (B2.out.mono B0.out.size)⟩
set_option maxHeartbeats 2000000 in
theorem IndexFunc_c (l : List Fm) (a : Option Addr) (n c : Nat) (w : World) (hr : cU w) (hx : aN w l (.slice a n c)) (h : ∀ f ∈ l,f.right = true) (hn : n ≤ 1000) :
  Calls Tryz.prog 118 #[.slice a n c,.func (.func 68) #[] #[]] w fun e w'=>e = .returned (.int .i64 (-1)) ∧ Below w.heap.size w w':=by
 have hl:=hx.len
 have LX:=Lib.hid hl.1
 have HX:=Lib.hid hx
 have RC : Hid (∀ f x X,f ∈ l → Below w.heap.size w X → aV X f x → Calls Tryz.prog 68 #[x] X fun e w'=>e = .returned (.bool false) ∧ Below X.heap.size X w'):=fun f x X hf hb hv=>right1_c f x X (hr.keep (aA hb)) hv (h f hf)
 clear hl hx hr h
 go_enter Tryz.func118,Tryz.ntmps118
 go_wp2_with fail
 go_loopw [8] (fun i wr=>∃ j : Nat,j ≤ n ∧ i = .int .i64 j ∧ Hid (Below w.heap.size w wr)) (fun i _=>n - (intOf i).toNat)
 case atStart=>exact ⟨0,Nat.zero_le _,rfl,Below.refl _ _⟩
 case round =>
  obtain ⟨j,hj,rfl,hb⟩:=hrel
  by_cases hlt : j < n
  ·obtain ⟨T,hT⟩:=aT (l:=l) (j:=j) (by rw [← LX.out];exact hlt)
   obtain ⟨bb,off,rfl,hc⟩:=HX.out.get (aX hT)
   obtain ⟨x0,x1,x2,x3,x4,x5,hx⟩:=hc j _ hT
   have hK:=aA hb.out
   have c0:=hK _ _ hx.c0;have c1:=hK _ _ hx.c1;have c2:=hK _ _ hx.c2;have c3:=hK _ _ hx.c3
   have R1 : Hid (Calls Tryz.prog 68 #[.agg #[.int .u8 T.op,str T.name,.slice x0 x1 x2,.slice x3 x4 x5]] wr fun e w'=>e = .returned (.bool false) ∧ Below wr.heap.size wr w'):=RC.out T _ wr (List.mem_of_getElem? hT) hb.out ⟨_,_,_,_,_,_,rfl,hx.at_.keep hK,hx.at'.keep hK⟩
   clear hc hx hT hK
   go_wp2_with (go_at_call 68;refine R1.out.mono ?_;rintro e w2 ⟨rfl,b2⟩;have B2:=Lib.hid b2;clear b2 R1)
   go_roundw
   case rel=>exact ⟨j + 1,by omega,by go_num,hb.out.trans (B2.out.mono hb.out.size)⟩
   case measure=>simp [intOf];omega
  ·go_wp2_with fail
   go_ret
   exact ⟨rfl,hb.out⟩
theorem ContainsFunc_c (l : List Fm) (v : Value) (w : World) (hr : cU w) (hx : aN w l v) (h : ∀ f ∈ l,f.right = true) (hn : l.length ≤ 1000) :
  Calls Tryz.prog 67 #[v,.func (.func 68) #[] #[]] w fun e w'=>e = .returned (.bool false) ∧ Below w.heap.size w w':=by
 obtain ⟨a,c,rfl,-⟩:=At.sl_inv hx
 have IC:=Lib.hid (IndexFunc_c l a _ c w hr hx h hn)
 clear hr hx h hn
 go_enter Tryz.func67,Tryz.ntmps67
 go_wp2_with (go_at_call 118;refine IC.out.mono ?_;rintro e w2 ⟨rfl,b2⟩;have B2:=Lib.hid b2;clear b2 IC)
 go_ret
 exact ⟨rfl,B2.out⟩
set_option maxHeartbeats 2000000 in
theorem yC (L R : List Fm) (x : Value) (w : World) (hr : cU w) (hx0 : cV w L R x) (rL : ∀ f ∈ L,f.right = true) (rR : ∀ f ∈ R,f.right = true) (hL : L.length ≤ 64) (hR : R.length ≤ 64) :
  Calls Tryz.prog 35 #[x] w fun e w'=>e = .returned (.bool true) ∧ Below w.heap.size w w':=by
 obtain ⟨a,n,c,b,m,d,rfl,hx,hy⟩:=hx0
 obtain ⟨W0,hW0⟩ : ∃ W0,(w.alloc (.cells #[.slice a n c,.slice b m d] 26)) = W0:=⟨_,rfl⟩
 have b0 : Below w.heap.size w W0:=by rw [← hW0];exact (Below.refl _ _).alloc (Nat.le_refl _) _
 have r0 : W0.heap[w.heap.size]? = some (.cells #[.slice a n c,.slice b m d] 26 (0,0)):=by rw [← hW0];exact heap_alloc_new w _
 have K:=aA b0
 have hn : n ≤ 64:=by rw [hx.len.1];exact hL
 have hm : m ≤ 64:=by rw [hy.len.1];exact hR
 have FC : Hid (Calls Tryz.prog 56 #[.agg #[.slice a n c,.slice b m d]] W0 fun e w'=>∃ v,e = .returned v ∧ aN w' (L ++ R) v ∧ Below W0.heap.size W0 w'):=xM L R _ W0 ⟨_,_,_,_,_,_,rfl,hx.keep K,hy.keep K⟩ (by omega) (by omega)
 have CC : Hid (∀ X v,Below w.heap.size w X → aN X (L ++ R) v → Calls Tryz.prog 67 #[v,.func (.func 68) #[] #[]] X fun e w'=>e = .returned (.bool false) ∧ Below X.heap.size X w'):=fun X v hb hv =>
  ContainsFunc_c (L ++ R) v X (hr.keep (aA hb)) hv (fun f hf=>by rcases List.mem_append.1 hf with h | h;exact rL f h;exact rR f h) (by rw [List.length_append];omega)
 have B0:=Lib.hid b0
 obtain ⟨y0,y1,z0,z1⟩:=row2 r0
 clear b0 r0 K hx hy hr rL rR hL hR
 go_enter Tryz.func35,Tryz.ntmps35
 go_wp2_with (first
  | (
    go_at_call 56
    refine FC.out.mono ?_
    rintro e w2 ⟨v2,rfl,h2,b2⟩
    obtain ⟨fa,fk,fc,rfl⟩ : ∃ a k c,v2 = .slice a k c:=by obtain ⟨a,c,rfl,-⟩:=At.sl_inv h2;exact ⟨_,_,_,rfl⟩
    have H2:=Lib.hid (And.intro h2 (B0.out.trans (b2.mono B0.out.size)))
    clear h2 b2 FC)
  | (
    go_at_call 67
    refine (CC.out _ _ H2.out.2 H2.out.1).mono ?_
    rintro e w3 ⟨rfl,b3⟩
    have B3:=Lib.hid (H2.out.2.trans (b3.mono H2.out.2.size))
    clear b3 CC))
 go_ret
 exact ⟨rfl,B3.out⟩
end Go.Proofs.YtppfalbnhnpbnaaGreatDoor
namespace Go.Proofs.YtppfalbnhnpbnaaGreatDoor
open Go Go.RowKit Ly
set_option maxRecDepth 10000
def RetS (L R : List Fm) (w : World) (e : Ending) (w' : World) : Prop:=∃ a n c b m d,e = .returned (.tuple #[.agg #[.slice a n c,.slice b m d],.int .i64 0]) ∧ aN (hide (lo w) w') L (.slice a n c) ∧ aN (hide (lo w) w') R (.slice b m d) ∧ Below w.heap.size w w'
theorem res11 (tmps : Array Value) (w : World) (g : Nat) (a b z : Value) (h3 : tmps.getD 2 undef = one g) (h4 : tmps.getD 3 undef = z) (hg : w.heap[g]? = some (.cells #[a,b] 26 (0,0))) :
  (results Tryz.f11 tmps).run Tryz.prog w = .ok (.tuple #[.agg #[a,b],z]) w:=by
 have e3 : tmps[2]?.getD undef = .pointer (some ⟨g,0,none⟩):=by simpa using h3
 have e4 : tmps[3]?.getD undef = z:=by simpa using h4
 simp [results,Tryz.results11,e3,e4,asAddr,run_loadVar_row w g 26 26 #[a,b] (0,0) _ hg Tryz.underlying26 rfl iSq]
set_option maxHeartbeats 8000000 in
theorem Of_c (L R : List Fm) (x : Value) (W : World) (hr : cU W) (hp : cK W) (hx0 : cV W L R x) (rL : ∀ f ∈ L,f.right = true) (rR : ∀ f ∈ R,f.right = true) (hL : L.length ≤ 64) (hR : R.length ≤ 64) :
  Calls Tryz.prog 11 #[x] W (RetS (skOf L R).1 (skOf L R).2 W):=by
 obtain ⟨a,n,c,b,m,d,rfl,hx,hy⟩:=hx0
 obtain ⟨W3,hW3⟩ : ∃ W3,(W.alloc (.cells #[.slice a n c,.slice b m d] 26)).alloc (.cells #[.slice none 0 0,.slice none 0 0] 26) = W3:=⟨_,rfl⟩
 have bw : Below W.heap.size W W3:=by rw [← hW3];exact ((Below.refl _ _).alloc (Nat.le_refl _) _).alloc (by simp) _
 have r0 : W3.heap[W.heap.size]? = some (.cells #[.slice a n c,.slice b m d] 26 (0,0)):=by rw [← hW3];exact aI _ (heap_alloc_new W _)
 have r1 : W3.heap[W.heap.size + 1]? = some (.cells #[.slice none 0 0,.slice none 0 0] 26 (0,0)):=by
  rw [← hW3]
  have:=heap_alloc_new (W.alloc (.cells #[.slice a n c,.slice b m d] 26)) (.cells #[.slice none 0 0,.slice none 0 0] 26)
  rwa [World.size_alloc] at this
 have RC : Hid (Calls Tryz.prog 35 #[.agg #[.slice a n c,.slice b m d]] W3 fun e w'=>e = .returned (.bool true) ∧ Below W3.heap.size W3 w') :=
  yC L R _ W3 (hr.keep (aA bw)) ⟨_,_,_,_,_,_,rfl,hx.keep (aA bw),hy.keep (aA bw)⟩ rL rR hL hR
 obtain ⟨S1,hS1⟩ : ∃ S1,(skOf L R).1 = S1:=⟨_,rfl⟩
 obtain ⟨S2,hS2⟩ : ∃ S2,(skOf L R).2 = S2:=⟨_,rfl⟩
 have CC : Hid (∀ X g1 c1 gm cm,Below W.heap.size W X → aY g1 c1 gm cm [] X → Calls Tryz.prog 36 #[.agg #[.slice a n c,.slice b m d],.func (.func 38) #[.agg #[.func (.func 70) #[] #[one g1,one c1],.slice none 0 0]] #[]] X fun e w'=>∃ v,e = .returned v ∧ cV (hide (lo X) w') S1 S2 v ∧ ButE (EN gm cm) X w'):=by
  rw [← hS1,← hS2]
  exact fun X g1 c1 gm cm hb hn=>changeSk_c g1 c1 gm cm X L R _ hn (hp.below hb) (hr.keep (aA hb)) ⟨_,_,_,_,_,_,rfl,hx.keep (aA hb),hy.keep (aA hb)⟩ rL rR hL hR
 rw [hS1,hS2]
 have BW:=Lib.hid bw
 have R0:=Lib.hid r0
 have R1:=Lib.hid r1
 obtain ⟨y0,y1,-,-⟩:=row2 r0
 clear hx hy hr hp rL rR hL hR bw r0 r1 hS1 hS2
 go_enter Tryz.func11,Tryz.ntmps11
 go_wp2_with (go_at_call 35;refine RC.out.mono ?_;rintro e w4 ⟨rfl,b4⟩;have B4:=Lib.hid b4;clear b4 RC y0 y1)
 have G0 : Hid (w4.heap[W.heap.size]? = some (.cells #[.slice a n c,.slice b m d] 26 (0,0))):=(B4.out.block _ (Array.getElem?_eq_some_iff.1 R0.out).1).trans R0.out
 have G1 : Hid (w4.heap[W.heap.size + 1]? = some (.cells #[.slice none 0 0,.slice none 0 0] 26 (0,0))):=(B4.out.block _ (Array.getElem?_eq_some_iff.1 R1.out).1).trans R1.out
 have BA : Hid (Below W.heap.size W w4):=BW.out.trans (B4.out.mono BW.out.size)
 clear B4 R0 R1 BW
 refine dG (q:=5) (S:=fun w'=>w'.heap[W.heap.size]? = some (.cells #[.slice a n c,.slice b m d] 26 (0,0))) (by kernel_rfl) G0.out (fun hHeld=>?_)
 refine aJ (i:=0) (v:=?_) rfl (by kernel_rfl) (by kernel_rfl) (by kernel_rfl) (by kernel_rfl) (fun _ _ _ h=>h) (Or.inl ⟨by rfl, ?_⟩) (by assumption) ?_
 rotate_left
 ·(intro w0 hSw;obtain ⟨z0,z1,-,-⟩:=row2 hSw;go_simp;(try with_reducible rfl))
 try simp only [Act.put,List.getElem_toArray,List.getElem_cons_succ,List.getElem_cons_zero,List.setIfInBounds_toArray,List.set_cons_zero,List.set_cons_succ]
 refine bQ (j:=1) (by kernel_rfl) (by kernel_rfl) rfl (fun K hK=>?_)
 go_simp
 go_at_call 37
 refine (newNames_c _).mono ?_
 rintro e w5 ⟨g1,c1,gm,cm,rfl,n5,b5,lg,lc⟩
 have N5:=Lib.hid n5
 have B5 : Hid (Below w4.heap.size w4 w5):=aG (Below.refl _ _).drew b5
 have hS5:=(b5.block W.heap.size (by have:=(Array.getElem?_eq_some_iff.1 G0.out).1;simp;omega)).trans hHeld
 have EL : Hid (∀ k,EN gm cm k → W.heap.size + 1 < k):=fun k hk=>by
  have:=(Array.getElem?_eq_some_iff.1 G1.out).1
  simp at lg lc
  rcases hk with rfl | rfl <;> omega
 clear n5 b5 lg lc
 go_simp
 refine hK.out _ _ hS5 (fun hHeld2=>?_)
 clear hK K hHeld hS5
 try simp only [Act.put,List.getElem_toArray,List.getElem_cons_succ,List.getElem_cons_zero,List.setIfInBounds_toArray,List.set_cons_zero,List.set_cons_succ]
 refine bQ (j:=2) (by kernel_rfl) (by kernel_rfl) rfl (fun K hK=>?_)
 unfold gI
 go_simp
 refine hK.out _ _ hHeld2 (fun hHeld3=>?_)
 clear hK K hHeld2
 try simp only [Act.put,List.getElem_toArray,List.getElem_cons_succ,List.getElem_cons_zero,List.setIfInBounds_toArray,List.set_cons_zero,List.set_cons_succ]
 refine bQ (j:=3) (by kernel_rfl) (by kernel_rfl) rfl (fun K hK=>?_)
 go_simp
 go_at_call 36
 refine (CC.out w5 g1 c1 gm cm (BA.out.trans (B5.out.mono BA.out.size)) N5.out).mono ?_
 rintro e w7 ⟨v7,rfl,⟨ga,gn,gc,gb,gm',gd,rfl,h3,h4⟩,b7⟩
 have H3:=Lib.hid h3
 have H4:=Lib.hid h4
 have L1 : Hid (W.heap.size + 1 < w5.heap.size):=by have:=(Array.getElem?_eq_some_iff.1 G1.out).1;have:=B5.out.size;show _ < _;omega
 have B7 : Hid (But2 gm cm w5 w7):=b7.to2
 have hS7:=(b7.block W.heap.size (by have:=L1.out;omega) (fun e=>by have:=EL.out _ e;omega)).trans hHeld3
 have Q1 : Hid (w7.heap[W.heap.size + 1]? = some (.cells #[.slice none 0 0,.slice none 0 0] 26 (0,0))):=(b7.block _ L1.out (fun e=>by have:=EL.out _ e;omega)).trans ((B5.out.block _ (Array.getElem?_eq_some_iff.1 G1.out).1).trans G1.out)
 have BB : Hid (Below W.heap.size W w7):=by
  have b:=BA.out.trans (B5.out.mono BA.out.size)
  refine ⟨b7.os.trans b.os,b7.tape.trans b.tape,b7.output.trans b.output,Nat.le_trans b.size b7.size,fun k hk=>?_⟩
  rw [b7.block k (by have:=b.size;omega) (fun e=>by have:=EL.out _ e;omega)]
  exact b.block k hk
 clear h3 h4 b7 CC
 go_simp
 refine hK.out _ _ hS7 (fun hHeld4=>?_)
 clear hK K hHeld3 hS7
 try simp only [Act.put,List.getElem_toArray,List.getElem_cons_succ,List.getElem_cons_zero,List.setIfInBounds_toArray,List.set_cons_zero,List.set_cons_succ]
 refine bQ (j:=4) (by kernel_rfl) (by kernel_rfl) rfl (fun K hK=>?_)
 obtain ⟨p0,p1,f0,f1⟩:=row2 Q1.out
 go_simp
 have J1:=Lib.hid (aC (o:=1) (u:=.slice gb gm' gd) (aC (o:=0) (u:=.slice ga gn gc) Q1.out))
 have J3 : Hid (∀ k,k ≠ W.heap.size + 1 → ((w7.setCell ⟨W.heap.size + 1,0,none⟩ (.slice ga gn gc)).setCell ⟨W.heap.size + 1,1,none⟩ (.slice gb gm' gd)).heap[k]? = w7.heap[k]?):=fun k hk=>by rw [Below.heap_setCell _ _ _ _ hk,Below.heap_setCell _ _ _ _ hk]
 refine hK.out _ _ ((J3.out _ (by omega)).trans hHeld4) (fun hHeld5=>?_)
 clear hK K hHeld4 p0 p1 f0 f1
 try simp only [Act.put,List.getElem_toArray,List.getElem_cons_succ,List.getElem_cons_zero,List.setIfInBounds_toArray,List.set_cons_zero,List.set_cons_succ]
 refine dF (by kernel_rfl) (by kernel_rfl) rfl (fun K hK=>?_)
 go_simp
 refine hK.out _ _ ?_
 clear hK K hHeld5
 go_wp2_with fail
 refine bodyPost_ret (res11 _ _ (W.heap.size + 1) _ _ _ rfl rfl J1.out) rfl ?_
 refine ⟨ga,gn,gc,gb,gm',gd,rfl,H3.out.keep ?_,H4.out.keep ?_,(BB.out.setCell (by simp) _).setCell (by simp) _⟩
 ·refine aH fun k h1 h2=>?_
  have h5 : w5.heap.size ≤ k:=by simpa [lo] using h2
  have:=L1.out
  exact ⟨by simp [lo];omega,J3.out k (by omega)⟩
 ·refine aH fun k h1 h2=>?_
  have h5 : w5.heap.size ≤ k:=by simpa [lo] using h2
  have:=L1.out
  exact ⟨by simp [lo];omega,J3.out k (by omega)⟩
end Go.Proofs.YtppfalbnhnpbnaaGreatDoor
