/- A range over an iterator that gives the elements of a list (SeqGives), whose rounds keep collections, iterators and records: the law of such a loop, which is never left. Conditions: those of each statement. -/
import Derived.Test.YtppfalbnhnpbnaaGreatDoorRgmC
import Derived.RangeFuncGives
import Derived.Test.YtppfalbnhnpbnaaGreatDoorSdAC
import Derived.Maps.OwnIn
set_option linter.unusedSimpArgs false
set_option linter.unusedVariables false
namespace Ly
open Go Go.RowKit
structure dY (A X : World) : Prop where
 size : A.heap.size ≤ X.heap.size
 same : ∀ (k : Nat) (o : Obj),A.heap[k]? = some o → (o.isWalk = true ∨ kQ o = true) → X.heap[k]? = some o
theorem dY.trans {A B C : World} (h : dY A B) (k : dY B C) : dY A C:=⟨Nat.le_trans h.size k.size,fun i o hi ho=>k.same i o (h.same i o hi ho) ho⟩
theorem dY.walks {A B : World} (h : dY A B) : KeepsWalks A B:=⟨h.size,fun k o hk ho=>h.same k o hk (.inl ho)⟩
theorem dY.of_below {A B : World} (h : Below A.heap.size A B) : dY A B:=⟨h.size,fun k o hk _=>(h.block k (Array.getElem?_eq_some_iff.1 hk).1).trans hk⟩
theorem dY.of_grownBy {A B : World} {row : Option Nat} (h : A.grownBy B row) (hr : ∀ (j : Nat) (o : Obj),row = some j → A.heap[j]? = some o → o.isWalk = false ∧ kQ o = false) : dY A B :=
 ⟨h.size,fun k o hk ho=>(h.block k (Array.getElem?_eq_some_iff.1 hk).1 (fun e=>by
  have:=hr k o e.symm hk
  rw [this.1,this.2] at ho
  rcases ho with ho | ho <;> cases ho)).trans hk⟩
theorem iZ (W : World) (l : Nat) (o : Obj) : W.grownBy (W.putObj l o) (some l) :=
 ⟨rfl,rfl,rfl,by simp,fun k _ hk=>World.putObj_heap_other (fun e=>hk (by rw [e]))⟩
section
variable {F : Fence} {n : Nat} {P : Program} {w : World}
theorem wp_rangeGives {α : Type} {g : Operand} {ps : Array Tmp} {assign body : Code} {Q : Exit → Act → World → Prop} {a : Act}
  (hro : F.round = none) (h1 : 1 ≤ n) {gf : Nat} {lb : Array Value} (hg : a.eval g = .func (.func gf) #[] lb) (hFg : F.fn gf) (eg : ∀ args w,(callFunc gf args).run P w = .ok (.enter gf args) w)
  {enc : α → Value} {S : List α → Prop} {N : Nat} {w0 : World} (hseq : SeqGives F (n - 1) P gf lb enc S N w0) (hb0 : Below w0.heap.size w0 w) (hps : ps.size = 1)
  (I : List α → World → Prop) (hI : ∀ s A X row,I s A → A.grownBy X row → (∀ r,row = some r → w.heap.size ≤ r ∧ ∃ o : Obj,A.heap[r]? = some o ∧ (o.isWalk = true ∨ kQ o = true)) → I s X) (h0 : I [] w)
  (Ax : α → Act → World → Prop) (hAx : ∀ (x : α) (a : Act) (A X : World),Ax x a A → (∀ (i : Nat) (o : Obj),A.heap[i]? = some o → kQ o = false → X.heap[i]? = some o) → Ax x a X)
  (hassign : ∀ (r : Nat) (pre : List α) (x : α) (W : World) (K : Act → World → Prop),w.heap.size ≤ W.heap.size → I pre W → pre.length < N → (∀ a1 W1,dY W W1 → I pre W1 → Ax x a1 W1 → K a1 W1) → assign.wpIn (F.inRound r) (n - 1 - 1) P (Exit.then K (fun _ _ _=>False)) { tmps:=(ps.zip #[enc x]).foldl (fun t (p,v)=>t.setIfInBounds p v) a.tmps,defers:=[] } W)
  (hbody : ∀ (r : Nat) (pre : List α) (x : α) (W : World) (a1 : Act),w.heap.size ≤ W.heap.size → I pre W → Ax x a1 W → pre.length < N → body.wpIn (F.inRound r) (n - 1 - 1) P (fun e _ W'=>e = .normal ∧ dY W W' ∧ I (pre ++ [x]) W') a1 W)
  (hdone : ∀ (ss : List α) (D : Nat) (W : World),S ss → w.heap.size ≤ D → I ss W → W.heap[D]? = some (.deferred (some [])) → Q .normal { a with defers:={ target:=.collected D,args:=#[] } :: a.defers } W) :
  (Code.rangeFunc g ps assign body).wpIn F n P Q a w:=by
 refine wpIn_rangeFunc fun fn hfn=>?_
 rw [hro]
 obtain ⟨rec,hrec⟩ : ∃ rec : LoopState → Option Code → Loop,rec = fun st pe=>{ state:=st,pending:=pe,fn,tmps:=a.tmps,params:=ps,assign,body,defers:=w.heap.size }:=⟨_,rfl⟩
 obtain ⟨W1,hW1⟩ : ∃ W1,(w.alloc (.deferred (some []))).alloc (.loop (rec .ready none)) = W1:=⟨_,rfl⟩
 have hs1 : W1.heap.size = w.heap.size + 2:=by rw [← hW1];simp
 have hL1 : W1.heap[w.heap.size + 1]? = some (.loop (rec .ready none)):=by
  rw [← hW1]
  have:=World.alloc_heap_new (w.alloc (.deferred (some []))) (.loop (rec .ready none))
  rwa [World.size_alloc] at this
 have hK1 : W1.heap[w.heap.size]? = some (.deferred (some [])):=by
  rw [← hW1]
  exact (Below.heap_alloc _ _ _ (by simp)).trans (World.alloc_heap_new w _)
 have hw1 : Below w.heap.size w W1:=by
  rw [← hW1]
  exact ((Below.refl _ w).alloc (Nat.le_refl _) _).alloc (by simp) _
 have hI1 : I [] W1:=hI _ _ _ none h0 ⟨hw1.os,hw1.tape,hw1.output,hw1.size,fun i hi _=>hw1.block i hi⟩ (fun r e=>by cases e)
 have hb1 : Below w0.heap.size w0 W1:=hb0.trans (hw1.mono hb0.size)
 have hput : ∀ s A lo o',I s A → A.heap[w.heap.size + 1]? = some (.loop lo) → I s (A.putObj (w.heap.size + 1) o'):=fun s A lo o' h hl =>
  hI _ _ _ _ h (iZ _ _ _) (fun r e=>by cases e;exact ⟨by omega,_,hl,.inr rfl⟩)
 refine ⟨w.heap.size + 1,[{ target:=.collected w.heap.size,args:=#[] }],W1,{ target:=.fn (.func gf) lb,args:=#[.func (.yield (w.heap.size + 1)) #[] #[]] },W1,gf,
  #[.func (.yield (w.heap.size + 1)) #[] #[]] ++ lb,W1, ?_, ?_, ?_, ?_,fun _=>h1, ?_⟩
 ·rw [← hW1,hrec];exact run_enterLoop_outer _ _ _ _ _
 ·simp only [resolve,hg];simp [go_sem]
 ·intro f' hf';simp [Target.leads] at hf';subst hf';exact hFg
 ·simp [invoke,go_sem,eg]
 ·refine (hseq (w.heap.size + 1)
   (fun pre W=>I pre W ∧ w.heap.size ≤ W.heap.size ∧ W.heap[w.heap.size + 1]? = some (.loop (rec .ready none)) ∧ W.heap[w.heap.size]? = some (.deferred (some [])))
   W1 hb1 (fun s A X row hs hgr hrow=>?_) ?_ ⟨hI1,by omega,hL1,hK1⟩).mono ?_
  ·have hrow' : ∀ r,row = some r → ∃ o : Obj,A.heap[r]? = some o ∧ o.isWalk = true:=fun r e=>(hrow r e).2
   exact ⟨hI s A X row hs.1 hgr (fun r e=>by obtain ⟨h1,o,h2,h3⟩:=hrow r e;exact ⟨by omega,o,h2,.inl h3⟩),Nat.le_trans hs.2.1 hgr.size,(grownBy_keeps hgr hrow' hs.2.2.1 rfl).trans hs.2.2.1,(grownBy_keeps hgr hrow' hs.2.2.2 rfl).trans hs.2.2.2⟩
  ·rintro pre x W ⟨hi,hsz,hl,hk⟩ hpre
   have hy:=run_yield (P:=P) (args:=#[enc x]) hl (by rw [hrec];exact hps.symm)
   rw [hrec] at hy
   refine ⟨fn,_,assign,body,hy,roundIn_of_wpIn hfn (hassign _ pre x W _ hsz hi hpre fun a1 W2 ht2 hi2 hax2=>?_)⟩
   have hl2:=ht2.same _ _ hl (.inr rfl)
   have hk2:=ht2.same _ _ hk (.inr rfl)
   have hsz2 : w.heap.size ≤ W2.heap.size:=Nat.le_trans hsz ht2.size
   have hlt2 : w.heap.size + 1 < W2.heap.size:=(Array.getElem?_eq_some_iff.1 hl2).1
   refine ⟨_,run_beginRound hl2 (by rw [hrec]), ?_⟩
   have hi3:=hput pre W2 _ (.loop { rec .ready none with state:=.busy }) hi2 hl2
   have hw3 : KeepsWalks W2 (W2.putObj (w.heap.size + 1) (.loop { rec .ready none with state:=.busy })):=KeepsWalks.putObj _ hl2 rfl
   have hg3:=iZ W2 (w.heap.size + 1) (.loop { rec .ready none with state:=.busy })
   obtain ⟨W3,hW3⟩ : ∃ W3,W2.putObj (w.heap.size + 1) (.loop { rec .ready none with state:=.busy }) = W3:=⟨_,rfl⟩
   rw [hW3] at hi3 hw3 hg3 ⊢
   have hl3 : W3.heap[w.heap.size + 1]? = some (.loop { rec .ready none with state:=.busy }):=by rw [← hW3];exact World.putObj_heap_same hlt2
   have hk3 : W3.heap[w.heap.size]? = some (.deferred (some [])):=by rw [← hW3];exact (World.putObj_heap_other (by omega)).trans hk2
   have hax3 : Ax x a1 W3:=hAx _ _ _ _ hax2 fun i o ho hr=>by
    refine (hg3.block i (Array.getElem?_eq_some_iff.1 ho).1 (fun e=>?_)).trans ho
    cases e;rw [hl2] at ho;cases ho;cases hr
   refine wpIn_mono (hbody _ pre x W3 a1 (Nat.le_trans hsz2 hw3.size) hi3 hax3 hpre) ?_
   rintro e a4 W4 ⟨rfl,ht4,hi4⟩
   have hl4:=ht4.same _ _ hl3 (.inr rfl)
   have hk4:=ht4.same _ _ hk3 (.inr rfl)
   have hlt4 : w.heap.size + 1 < W4.heap.size:=(Array.getElem?_eq_some_iff.1 hl4).1
   have hr:=run_endRound (P:=P) none hl4
   rw [hrec] at hr
   refine ⟨_,_,hr,rfl,⟨hput _ _ _ _ hi4 hl4,by have:=(iZ W4 (w.heap.size + 1) (Obj.loop { rec .ready none with state:=.ready })).size;simp [World.putObj];omega, ?_, ?_⟩, ?_⟩
   ·rw [World.putObj_heap_same hlt4,hrec];rfl
   ·exact (World.putObj_heap_other (by omega)).trans hk4
   ·exact ht2.walks.trans (hw3.trans (ht4.walks.trans (KeepsWalks.putObj _ hl4 rfl)))
  ·rintro e W2 ⟨⟨v,rfl⟩,ss,hS,hi,hsz,hl,hk⟩
   exact ⟨none,_,by have:=run_endLoop (P:=P) hl (by rw [hrec];simp);rw [hrec] at this;exact this,hdone _ _ _ hS (Nat.le_refl _) (hput _ _ _ _ hi hl) ((World.putObj_heap_other (by omega)).trans hk)⟩
end
end Ly
namespace Go.Proofs.YtppfalbnhnpbnaaGreatDoor
open Go Go.RowKit Ly
set_option maxRecDepth 100000
attribute [local go_sem] Oper.semAt_some
theorem info51 : (Tryz.prog.info? 51).map (fun i=>(i.zero,i.size,i.bytes)) = some (some (.agg #[.string ⟨#[]⟩,.int .i64 0]),2,24):=by kernel_rfl
def encL (s : Bs × Nat) : List Value:=[str s.1,.int .i64 s.2]
def gA (l : List (Bs × Nat)) : List Value:=l.flatMap encL
theorem kI (l : List (Bs × Nat)) : (gA l).length = l.length * 2:=by
 induction l with
 | nil=>rfl
 | cons x l ih=>simp only [gA,List.flatMap_cons,List.length_append,List.length_cons] at ih ⊢;rw [ih];simp [encL];omega
structure ApI (w : World) (bx : Nat) (ss : List (Bs × Nat)) (W : World) : Prop where
 box : ∃ v,W.heap[bx]? = some (.cells #[v] 155 (0,0)) ∧ W.ownsRow w.heap.size 51 2 v ss.length (gA ss)
 below : Below w.heap.size w W
theorem rM {W : World} {base : Nat} {e : TypeId} {size : Nat} {v : Value} {k : Nat} {xs : List Value} (h : W.ownsRow base e size v k xs) {j : Nat} {o : Obj} (hj : W.heap[j]? = some o) (hno : ∀ cur,o ≠ .cells cur e (0,0)) :
  v.ownBlock = none ∨ v.ownBlock ≠ some j:=by
 rcases h.2 with ⟨rfl,_⟩ | ⟨g,cap,cur,rfl,_,hgb,_⟩
 ·exact .inl rfl
 ·refine .inr fun e'=>?_
  have : g = j:=by simpa [Value.ownBlock] using e'
  subst this;rw [hgb] at hj;cases hj;exact hno cur rfl
theorem row_noWalk {W : World} {base : Nat} {e : TypeId} {size : Nat} {v : Value} {k : Nat} {xs : List Value} (h : W.ownsRow base e size v k xs) : ∀ (j : Nat) (o : Obj),v.ownBlock = some j → W.heap[j]? = some o → o.isWalk = false ∧ kQ o = false:=by
 intro j o hj ho
 rcases h.2 with ⟨rfl,_⟩ | ⟨g,cap,cur,rfl,_,hgb,_⟩
 ·simp [Value.ownBlock] at hj
 ·have : g = j:=by simpa [Value.ownBlock] using hj
  subst this;rw [hgb] at ho;cases ho;exact ⟨rfl,rfl⟩
theorem ApI.grown {w : World} {bx : Nat} {ss : List (Bs × Nat)} {A X : World} {row : Option Nat} (h : ApI w bx ss A) (hg : A.grownBy X row) (hr : ∀ r,row = some r → w.heap.size ≤ r ∧ ∃ o : Obj,A.heap[r]? = some o ∧ (o.isWalk = true ∨ kQ o = true)) : ApI w bx ss X:=by
 obtain ⟨⟨v,h1,h2⟩,h3⟩:=h
 have ne : ∀ (j : Nat) cs t s,A.heap[j]? = some (.cells cs t s) → some j ≠ row:=fun j cs t s hj e=>by
  obtain ⟨-,o,ho,hw⟩:=hr j e.symm
  rw [hj] at ho;cases ho
  rcases hw with hw | hw <;> cases hw
 refine ⟨⟨v,(hg.block bx (Array.getElem?_eq_some_iff.1 h1).1 (ne _ _ _ _ h1)).trans h1,h2.kept hg ?_⟩,h3.grown hg h3.size (fun k e=>(hr k e).1)⟩
 rcases h2.2 with ⟨rfl,_⟩ | ⟨g,cap,cur,rfl,_,hgb,_⟩
 ·exact .inl rfl
 ·exact .inr fun e=>ne _ _ _ _ hgb (by simpa [Value.ownBlock] using e)
theorem grownBy_setC (W : World) (b o : Nat) (v : Value) : W.grownBy (W.setCell ⟨b,o,none⟩ v) (some b) :=
 ⟨rfl,rfl,rfl,(KeepsWalks.setCell W _ v).size,fun k _ hk=>Below.heap_setCell _ _ _ k (fun e=>hk (by rw [e]))⟩
theorem row1' {w : World} {b : Nat} {x : Value} {t : TypeId} (h : w.heap[b]? = some (.cells #[x] t (0,0))) : w.cell? ⟨b,0,none⟩ = some x ∧ w.frozen? ⟨b,0,none⟩ = false :=
 ⟨(bE h 0).trans rfl,by simp [World.frozen?,h]⟩
theorem cells_new (W : World) {x y : Value} (t : TypeId) : ∀ j u,[x,y][j]? = some u → (W.alloc (.cells #[x,y] t)).cell? ((⟨W.heap.size,0,none⟩ : Addr).add j) = some u:=fun j u h=>by
 have e : (⟨W.heap.size,0,none⟩ : Addr).add j = ⟨W.heap.size,j,none⟩:=by cases j <;> simp [Addr.add]
 rw [e,bE (heap_alloc_new W (.cells #[x,y] t)) j]
 simpa using h
theorem eg235 : ∀ args w,(callFunc 235 args).run Tryz.prog w = .ok (.enter 235 args) w:=enters_of Tryz.func235 (by kernel_rfl) rfl
set_option maxHeartbeats 4000000 in
theorem appendSeqX_c (lb : Array Value) (S : List (Bs × Nat) → Prop) (N : Nat) (hN : N ≤ 100000) (w : World) (hseq : ∀ n,1 ≤ n → SeqGives Fence.wide n Tryz.prog 235 lb encX S N w) :
  Calls Tryz.prog 255 #[.slice none 0 0,.func (.func 235) #[] lb] w fun e w'=>∃ v ss,e = .returned v ∧ S ss ∧ w'.ownsRow w.heap.size 51 2 v ss.length (gA ss) ∧ Below w.heap.size w w':=by
 obtain ⟨i0,hi,hz0,hz1,hz2⟩:=info_parts info51
 obtain ⟨W0,hW0⟩ : ∃ W0,w.alloc (.cells #[.slice none 0 0] 155) = W0:=⟨_,rfl⟩
 have s0 : W0.heap.size = w.heap.size + 1:=by rw [← hW0];simp
 have b0 : Below w.heap.size w W0:=by rw [← hW0];exact (Below.refl _ w).alloc (Nat.le_refl _) _
 have r0 : W0.heap[w.heap.size]? = some (.cells #[.slice none 0 0] 155 (0,0)):=by rw [← hW0];exact heap_alloc_new w _
 have I0 : ApI w w.heap.size [] W0:=⟨⟨_,r0,rfl,.inl ⟨rfl,rfl⟩⟩,b0⟩
 have S0:=Lib.hid s0
 have HB:=Lib.hid b0
 have HQ:=Lib.hid hseq
 clear hseq s0 b0 r0
 refine (callsIn_wide (n:=6)).1 ?_
 refine callsIn_of_wp_marks Tryz.func255 rfl trivial ?_ rfl
 simp only [Tryz.ntmps255,List.size_toArray,List.length_cons,List.length_nil,Nat.reduceAdd,Nat.reduceSub,Array.replicate_succ,Array.replicate_zero,List.push_toArray,List.append_toArray,List.nil_append,List.cons_append]
 gi_wp2
 refine wp_rangeGives (w0:=w) rfl (by decide) (gf:=235) (lb:=lb) rfl trivial eg235 (HQ.out 5 (by decide)) HB.out rfl
  (ApI w w.heap.size) (fun s A X row h hg hr=>h.grown hg (fun r e=>by obtain ⟨h1,h2⟩:=hr r e;exact ⟨by have:=S0.out;omega,h2⟩)) I0
  (fun x ac W=>∃ g : Nat,W.heap[g]? = some (.cells #[str x.1,.int .i64 x.2] 51 (0,0)) ∧ w.heap.size < g ∧
   ac = ⟨#[.slice none 0 0,.func (.func 235) #[] lb,one w.heap.size,undef,.slice none 0 0,one g,.func (.func 235) #[] lb,encX x,undef,undef,undef,undef,undef],[]⟩)
  (fun x ac A X h hk=>by
   obtain ⟨g,h1,h2,h3⟩:=h
   exact ⟨g,hk _ _ h1 rfl,h2,h3⟩) ?assign ?body ?done
 case assign =>
  intro r pre x W K hsz hi hp hK
  obtain ⟨nm,ar⟩:=x
  have HK:=Lib.hid hK
  clear hK
  simp only [encX]
  gi_wp2
  have bb : Below W.heap.size W (W.alloc (.cells #[str nm,.int .i64 ar] 51)):=(Below.refl _ _).alloc (Nat.le_refl _) _
  exact HK.out _ _ (dY.of_below bb) (hi.grown (World.grownBy_alloc W _ none) (fun r e=>by cases e)) ⟨W.heap.size,heap_alloc_new W _,by have:=S0.out;omega,rfl⟩
 case body =>
  rintro r pre x W ac hsz hi ⟨g,hg,hlt,rfl⟩ hp
  obtain ⟨nm,ar⟩:=x
  obtain ⟨⟨v,hv,hrow⟩,hbl⟩:=hi
  obtain ⟨c0,f0⟩:=row1' hv
  obtain ⟨x0,x1,-,-⟩:=row2 hg
  have ltb:=(Array.getElem?_eq_some_iff.1 hv).1
  have ne155 : ∀ cur,(Obj.cells #[v] 155 (0,0)) ≠ .cells cur 51 (0,0):=fun cur e=>by cases e
  have HV:=Lib.hid hv
  have HR:=Lib.hid hrow
  have HL:=Lib.hid hbl
  have HPl : pre.length + 1 ≤ 100000:=by omega
  clear hg hv hrow hbl hp
  simp only [encX]
  gi_wp2_with (
         gi_at_builtin;refine wpListIn_append_own _ rfl _ _ 155 rfl w.heap.size 51 i0 (.agg #[.string ⟨#[]⟩,.int .i64 0]) 2 24 Tryz.underlying155 hi hz0 hz1 hz2 rfl (by decide) v pre.length (gA pre) rfl (HR.out.alloc _) ⟨W.heap.size,0,none⟩ 1 1 [str nm,.int .i64 ar] rfl rfl (cells_new W _) (by simp [Value.oneCell']) (by unfold maxLen;omega) (by omega) (by have:=HL.out.size;simp;omega) ?_;intro v' w3 hown' hg3 hnil3
         have hv3 : w3.heap[w.heap.size]? = some (.cells #[v] 155 (0,0)):=(hg3.block _ (by simp;omega) (fun e'=>by
          rcases rM HR.out HV.out ne155 with e | e
          ·rw [e] at e';cases e'
          ·exact e e'.symm)).trans ((Below.heap_alloc _ _ _ ltb).trans HV.out)
         obtain ⟨k0,l0⟩:=row1' hv3
         obtain ⟨g',cap',rfl⟩ : ∃ g' cap',v' = .slice (some ⟨g',0,none⟩) (pre.length + 1) cap':=by
          rcases hown'.2 with ⟨_,h0⟩ | ⟨g',cap',cur',e,-⟩
          ·omega
          ·exact ⟨g',cap',e⟩
         have HO:=Lib.hid (And.intro hown' (And.intro hg3 hv3))
         clear hown' hg3 hnil3 hv3)
  obtain ⟨hown',hg3,hv3⟩:=HO.out
  have b2 : Below w.heap.size w (W.alloc (.cells #[str nm,.int .i64 ar] 51)):=HL.out.alloc HL.out.size _
  have b3 : Below w.heap.size w w3:=b2.grown hg3 b2.size (fun k e=>by
   rcases (HR.out).2 with ⟨rfl,_⟩ | ⟨gg,cap,cur,rfl,h1,hgb,_⟩
   ·simp [Value.ownBlock] at e
   ·simp [Value.ownBlock] at e;omega)
  have g4:=grownBy_setC w3 w.heap.size 0 (.slice (some ⟨g',0,none⟩) (pre.length + 1) cap')
  refine ⟨?_,⟨⟨.slice (some ⟨g',0,none⟩) (pre.length + 1) cap', ?_, ?_⟩, ?_⟩⟩
  ·refine (dY.of_below ((Below.refl _ _).alloc (Nat.le_refl _) _)).trans ((dY.of_grownBy hg3 (row_noWalk (HR.out.alloc _))).trans (dY.of_grownBy g4 (fun j o e ho=>?_)))
   cases e;rw [hv3] at ho;cases ho;exact ⟨rfl,rfl⟩
  ·exact (aC hv3).trans rfl
  ·have:=hown'.kept g4 (rM hown' hv3 ne155)
   simpa [gA,encL] using this
  ·exact b3.grown g4 b3.size (fun k e=>by cases e;exact Nat.le_refl _)
 case done =>
  intro ss D W hS hD hi hK
  obtain ⟨⟨v,hv,hrow⟩,hbl⟩:=hi
  obtain ⟨c0,f0⟩:=row1' hv
  have HD:=Lib.hid hK
  have HR:=Lib.hid hrow
  have HL:=Lib.hid hbl
  have HV:=Lib.hid hv
  have ne155 : ∀ cur,(Obj.deferred (some [])) ≠ .cells cur 51 (0,0):=fun cur e=>by cases e
  clear hrow hbl hK hv
  gi_wp2
  refine ⟨by simp,.inl ⟨_,_,rfl,run_takeDeferred HD.out, ?_⟩⟩
  refine ⟨_,results_tmp rfl _ _ _,v,ss,rfl,hS, ?_, ?_⟩
  ·exact HR.out.kept (iZ _ _ _) (rM HR.out HD.out ne155)
  ·exact HL.out.trans (iG _ (by have:=S0.out;omega))
end Go.Proofs.YtppfalbnhnpbnaaGreatDoor
