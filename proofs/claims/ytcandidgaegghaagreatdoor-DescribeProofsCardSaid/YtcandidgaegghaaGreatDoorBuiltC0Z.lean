/- A range over an iterator that keeps its place in a cell of its own (strings.SplitSeq): the law of such a loop, outermost or within a round. Conditions: those of each statement. -/
import Derived.RangeFuncNested
import Derived.OrdersIn
import Derived.Deep.RegionHeld
import Derived.Test.YtcandidgaegghaaGreatDoorProg
import Derived.Test.YtcandidgaegghaaGreatDoorShelfZ
import Derived.Shelf.Strings.Builder1
import Derived.Shelf.Strings.Builder2
import Derived.Shelf.Strings.OnBuilder
import Derived.Shelf.Small.Strs
import Derived.Shelf.Small.Wraps
import Derived.Shelf.Strings.BuilderF
import Derived.Shelf.Strconv.Atoi
import Derived.Shelf.Strconv.Itoa0
import Derived.Shelf.Strconv.Itoa1
import Derived.Shelf.LaysM
import Derived.Shelf.Strconv.Itoa2
import Derived.Shelf.Strconv.Itoa3
import Derived.Shelf.Strconv.AtoiErrFast
import Derived.Shelf.Strconv.ParseIntEmpty
import Derived.Shelf.Strconv.AtoiFail
import Derived.Shelf.Strconv.Clone
import Derived.Shelf.Strconv.SyntaxError
import Derived.Shelf.LaysC
import Derived.Shelf.Strconv.ToError
import Derived.Shelf.Strconv.AtoiErr
import Derived.Shelf.Strconv.ErrVar
import Derived.Shelf.Strconv.Lower
import Derived.Shelf.Strconv.ParseUint10
import Derived.Shelf.Strconv.ParseUint10Empty
import Derived.Shelf.Strconv.ParseUint10Any
import Derived.Shelf.Strconv.ParseInt10
import Derived.Shelf.Strconv.AtoiLong
import Derived.Shelf.Strconv.AtoiInnerAll
import Derived.Shelf.Strconv.RangeError
import Derived.Shelf.Strconv.ToErrorRange
import Derived.Shelf.Strconv.AtoiAll
import Derived.Shelf.Strconv.ErrVarAll
import Derived.Shelf.Strings.Search1
import Derived.Shelf.Strings.Search2
import Derived.Shelf.Strings.Search3
import Derived.Shelf.Strings.Cut
import Derived.Shelf.Strings.Count
import Derived.Shelf.Strings.Shaped
import Derived.Shelf.Strings.Prefix
import Derived.Shelf.Strings.Split
import Derived.Shelf.Strings.SplitShaped
import Derived.Shelf.Bits.Mul64
import Derived.Shelf.Strings.Repeat
import Derived.Shelf.Unicode.DecodeSlow
import Derived.Shelf.Slices.Turned
import Derived.Shelf.Slices.Equal
import Derived.Shelf.Slices.Empties2
import Derived.Test.YtcandidgaegghaaGreatDoorPlCZ
import Derived.Lib.Atoi
import Derived.Lib.IndexMore
import Derived.Lib.Strings
import Derived.Test.YtcandidgaegghaaGreatDoorCpZ
import Derived.Test.YtcandidgaegghaaGreatDoorRdGZ
import Derived.Test.YtcandidgaegghaaGreatDoorProofBZ
import Derived.Lib.AtoiErrMem
import Derived.WalkSmall
import Derived.RangeFuncBound
import Derived.RangeFuncCalls
import Derived.RangeFuncLeaves
import Derived.Shelf.Abstract
import Derived.Shelf.RegionOpen
import Derived.WalkKit
import Derived.OwnWalkIn
import Derived.TacticsInMore
import Derived.LoopNIn
import Derived.LoopIn
import Derived.Test.YtcandidgaegghaaGreatDoorOvAZ
import Derived.Test.YtcandidgaegghaaGreatDoorModBZ
import Derived.Deep.RegionLawGrows
import Derived.Outline
import Derived.Deep.CutBlock
import Derived.IntWalk
import Derived.Deep.DrawnRows
import Derived.Test.YtcandidgaegghaaGreatDoorProofAZ
import Derived.Test.YtcandidgaegghaaGreatDoorAwakeZ
set_option maxRecDepth 10000
set_option linter.unusedSimpArgs false
set_option linter.unusedVariables false
namespace Go.Proofs.YtcandidgaegghaaGreatDoor
open Go Go.RowKit
def Lets {β : Type} (B c : Nat) (I : β → World → Prop) : Prop :=
 ∀ s A X row,I s A → A.grownBy X row → (∀ r,row = some r → r = c ∨ (B ≤ r ∧ ∃ o : Obj,A.heap[r]? = some o ∧ o.isCells = false)) → I s X
theorem Lets.put {β : Type} {B c : Nat} {I : β → World → Prop} (h : Lets B c I) {s : β} {W : World} {r : Nat} {o : Obj} (o' : Obj) (hs : I s W) (hB : B ≤ r) (hr : W.heap[r]? = some o) (ho : o.isCells = false) : I s (W.putObj r o') :=
 h s W _ (some r) hs (grownBy_putObj' W r o') (fun q e=>by cases e;exact .inr ⟨hB,o,hr,ho⟩)
theorem Lets.new {β : Type} {B c : Nat} {I : β → World → Prop} (h : Lets B c I) {s : β} {W : World} (o : Obj) (hs : I s W) : I s (W.alloc o) :=
 h s W _ none hs (World.grownBy_alloc W o none) (fun r e=>by cases e)
def CY {α : Type} (F : Fence) (n : Nat) (P : Program) (g : Nat) (lb : Array Value) (enc : α → Value) (c : Nat) (Kp : World → World → Prop) (l : List α) (w0 : World) : Prop :=
 ∀ (r : Nat) (J Jx : List α → World → Prop) (W : World),Below w0.heap.size w0 W → (∀ s A X,J s A → A.grownBy X (some c) → J s X) →
  (∀ pre x W1,J pre W1 → pre ++ [x] <+: l → YieldAt F (n - 1) P r #[enc x] W1 fun e W'=>(e = .returned (.bool true) ∧ J (pre ++ [x]) W' ∧ Kp W1 W') ∨ (e = .returned (.bool false) ∧ Jx (pre ++ [x]) W')) →
  J [] W → CallsIn F n P g (#[.func (.yield r) #[] #[]] ++ lb) W fun e W'=>(∃ v,e = .returned v) ∧ (J l W' ∨ ∃ pre,pre <+: l ∧ Jx pre W')
section
variable {F : Fence} {n : Nat} {P : Program} {w : World}
theorem wp_rangeCell {α : Type} {g : Operand} {ps : Array Tmp} {assign body : Code} {Q : Exit → Act → World → Prop} {a : Act}
  (hro : F.round = none) (h1 : 1 ≤ n) {gf : Nat} {lb : Array Value} (hg : a.eval g = .func (.func gf) #[] lb) (hFg : F.fn gf) (eg : ∀ args w,(callFunc gf args).run P w = .ok (.enter gf args) w)
  {enc : α → Value} {c : Nat} {Kp : World → World → Prop} {l : List α} {w0 : World} (hc : c < w.heap.size) (hseq : CY F (n - 1) P gf lb enc c Kp l w0)
  (hKt : ∀ {A B C : World},Kp A B → Kp B C → Kp A C) (hKb : ∀ (W : World) (r : Nat) (o' : Obj),w.heap.size ≤ r → Kp W (W.putObj r o')) (hb0 : Below w0.heap.size w0 w) (hps : ps.size = 1)
  (I : List α → World → Prop) (Ix : Code → List α → World → Prop) (hI : Lets w.heap.size c I) (hIx : ∀ j,Lets w.heap.size c (Ix j)) (h0 : I [] w) (a₁ : Act → α → Act)
  (hassign : ∀ (r : Nat) (x : α) (W : World) (K : Act → World → Prop),K (a₁ a x) W → assign.wpIn (F.inRound r) (n - 1 - 1) P (Exit.then K (fun _ _ _=>False)) { tmps:=(ps.zip #[enc x]).foldl (fun t (p,v)=>t.setIfInBounds p v) a.tmps,defers:=[] } W)
  (hbody : ∀ (r : Nat) (pre : List α) (x : α) (W : World),w.heap.size ≤ r → (∃ q,W.heap[r]? = some (.loop q)) → I pre W → pre ++ [x] <+: l → body.wpIn (F.inRound r) (n - 1 - 1) P (ownPostG w.heap.size Kp I Ix (pre ++ [x]) W) (a₁ a x) W)
  (hdone : ∀ (D : Nat) (W : World),w.heap.size ≤ D → I l W → W.heap[D]? = some (.deferred (some [])) → Q .normal { a with defers:={ target:=.collected D,args:=#[] } :: a.defers } W)
  (hstop : ∀ (D : Nat) (j : Code) (pre : List α) (W : World),w.heap.size ≤ D → pre <+: l → Ix j pre W → W.heap[D]? = some (.deferred (some [])) → j.wpIn F n P Q { a with defers:={ target:=.collected D,args:=#[] } :: a.defers } W) :
  (Code.rangeFunc g ps assign body).wpIn F n P Q a w:=by
 refine wpIn_rangeFunc fun fn hfn=>?_
 rw [hro]
 obtain ⟨rec,hrec⟩ : ∃ rec : LoopState → Option Code → Loop,rec = fun st pe=>{ state:=st,pending:=pe,fn,tmps:=a.tmps,params:=ps,assign,body,defers:=w.heap.size }:=⟨_,rfl⟩
 obtain ⟨W1,hW1⟩ : ∃ W1,(w.alloc (.deferred (some []))).alloc (.loop (rec .ready none)) = W1:=⟨_,rfl⟩
 have hL1 : W1.heap[w.heap.size + 1]? = some (.loop (rec .ready none)):=by
  rw [← hW1]
  have:=World.alloc_heap_new (w.alloc (.deferred (some []))) (.loop (rec .ready none))
  rwa [World.size_alloc] at this
 have hK1 : W1.heap[w.heap.size]? = some (.deferred (some [])):=by
  rw [← hW1]
  exact (Below.heap_alloc _ _ _ (by simp)).trans (World.alloc_heap_new w _)
 have hI1 : I [] W1:=by rw [← hW1];exact hI.new _ (hI.new _ h0)
 have hb1 : Below w0.heap.size w0 W1:=by
  rw [← hW1]
  exact hb0.trans ((((Below.refl _ w).alloc (Nat.le_refl _) _).alloc (by simp) _).mono hb0.size)
 refine ⟨w.heap.size + 1,[{ target:=.collected w.heap.size,args:=#[] }],W1,{ target:=.fn (.func gf) lb,args:=#[.func (.yield (w.heap.size + 1)) #[] #[]] },W1,gf,
  #[.func (.yield (w.heap.size + 1)) #[] #[]] ++ lb,W1, ?_, ?_, ?_, ?_,fun _=>h1, ?_⟩
 ·rw [← hW1,hrec];exact run_enterLoop_outer _ _ _ _ _
 ·simp only [resolve,hg];simp [go_sem]
 ·intro f' hf';simp [Target.leads] at hf';subst hf';exact hFg
 ·simp [invoke,go_sem,eg]
 ·have stays : ∀ {A X : World} {r : Nat} {o : Obj},A.grownBy X (some c) → c < w.heap.size → w.heap.size ≤ r → A.heap[r]? = some o → X.heap[r]? = some o:=fun hgr hc' hr ho =>
   (hgr.block _ (Array.getElem?_eq_some_iff.1 ho).1 (fun e=>by cases e;omega)).trans ho
  refine (hseq (w.heap.size + 1)
   (fun pre W=>I pre W ∧ W.heap[w.heap.size + 1]? = some (.loop (rec .ready none)) ∧ W.heap[w.heap.size]? = some (.deferred (some [])))
   (fun pre W=>∃ j,Ix j pre W ∧ W.heap[w.heap.size + 1]? = some (.loop (rec .done (some j))) ∧ W.heap[w.heap.size]? = some (.deferred (some [])))
   W1 hb1 (fun s A X hs hgr=>⟨hI s A X (some c) hs.1 hgr (fun r e=>by cases e;exact .inl rfl),stays hgr hc (by omega) hs.2.1,stays hgr hc (Nat.le_refl _) hs.2.2⟩) ?_ ⟨hI1,hL1,hK1⟩).mono ?_
  ·rintro pre x W ⟨hi,hl,hk⟩ hpre
   have hlt : w.heap.size + 1 < W.heap.size:=(Array.getElem?_eq_some_iff.1 hl).1
   have hy:=run_yield (P:=P) (args:=#[enc x]) hl (by rw [hrec];exact hps.symm)
   rw [hrec] at hy
   refine ⟨fn,_,assign,body,hy,roundIn_of_wpIn hfn (hassign _ x W _ ⟨_,run_beginRound hl (by rw [hrec]), ?_⟩)⟩
   have hl2 : (W.putObj (w.heap.size + 1) (.loop { rec .ready none with state:=.busy })).heap[w.heap.size + 1]? = some (.loop { rec .ready none with state:=.busy }):=World.putObj_heap_same hlt
   have hk2 : (W.putObj (w.heap.size + 1) (.loop { rec .ready none with state:=.busy })).heap[w.heap.size]? = some (.deferred (some [])):=(World.putObj_heap_other (by omega)).trans hk
   have hw2 : Kp W (W.putObj (w.heap.size + 1) (.loop { rec .ready none with state:=.busy })):=hKb _ _ _ (by omega)
   refine wpIn_mono (hbody _ pre x _ (by omega) ⟨_,hl2⟩ (hI.put _ hi (by omega) hl rfl) hpre) ?_
   have fin : ∀ (jump : Option Code) (W3 : World),KeepsFrom w.heap.size (W.putObj (w.heap.size + 1) (.loop { rec .ready none with state:=.busy })) W3 →
     (Instr.endRound (w.heap.size + 1) jump).run P W3 = .ok (.bool jump.isNone) (W3.putObj (w.heap.size + 1) (.loop (rec (if jump.isNone then .ready else .done) jump))) ∧
     W3.heap[w.heap.size + 1]? = some (.loop { rec .ready none with state:=.busy }) ∧
     (W3.putObj (w.heap.size + 1) (.loop (rec (if jump.isNone then .ready else .done) jump))).heap[w.heap.size + 1]? = some (.loop (rec (if jump.isNone then .ready else .done) jump)) ∧
     (W3.putObj (w.heap.size + 1) (.loop (rec (if jump.isNone then .ready else .done) jump))).heap[w.heap.size]? = some (.deferred (some [])):=fun jump W3 hk3=>by
    have hl3:=hk3.same _ _ (by omega) hl2 rfl
    have:=run_endRound (P:=P) jump hl3
    rw [hrec] at this ⊢
    exact ⟨this,by rw [hrec] at hl3;exact hl3,World.putObj_heap_same (Array.getElem?_eq_some_iff.1 hl3).1,(World.putObj_heap_other (by omega)).trans (hk3.same _ _ (Nat.le_refl _) hk2 rfl)⟩
   rintro e a3 W3 hp
   cases e with
   | normal =>
    obtain ⟨hk3,hkp3,hi3⟩:=hp
    obtain ⟨hr,hl3,hl4,hk4⟩:=fin none W3 hk3
    exact ⟨_,_,hr,.inl ⟨rfl,⟨hI.put _ hi3 (by omega) hl3 rfl,hl4,hk4⟩,hKt (hKt hw2 hkp3) (hKb _ _ _ (by omega))⟩⟩
   | ret =>
    obtain ⟨hk3,hi3⟩:=hp
    obtain ⟨hr,hl3,hl4,hk4⟩:=fin (some .ret) W3 hk3
    exact ⟨_,_,hr,.inr ⟨rfl,.ret,(hIx _).put _ hi3 (by omega) hl3 rfl,hl4,hk4⟩⟩
   | exit id =>
    obtain ⟨hk3,hi3⟩:=hp
    obtain ⟨hr,hl3,hl4,hk4⟩:=fin (some (.exit id)) W3 hk3
    exact ⟨_,_,hr,.inr ⟨rfl,.exit id,(hIx _).put _ hi3 (by omega) hl3 rfl,hl4,hk4⟩⟩
   | goto t =>
    obtain ⟨hk3,hi3⟩:=hp
    obtain ⟨hr,hl3,hl4,hk4⟩:=fin (some (.goto t)) W3 hk3
    exact ⟨_,_,hr,.inr ⟨rfl,.goto t,(hIx _).put _ hi3 (by omega) hl3 rfl,hl4,hk4⟩⟩
   | panic ch=>exact hp.elim
   | outgrown=>exact hp.elim
  ·rintro e W2 ⟨⟨v,rfl⟩,(⟨hi,hl,hk⟩ | ⟨pre,hpre,j,hi,hl,hk⟩)⟩
   ·exact ⟨none,_,by have:=run_endLoop (P:=P) hl (by rw [hrec];simp);rw [hrec] at this;exact this,hdone _ _ (Nat.le_refl _) (hI.put _ hi (by omega) hl rfl) ((World.putObj_heap_other (by omega)).trans hk)⟩
   ·exact ⟨some j,_,by have:=run_endLoop (P:=P) hl (by rw [hrec];simp);rw [hrec] at this;exact this,hstop _ j pre _ (Nat.le_refl _) hpre ((hIx j).put _ hi (by omega) hl rfl) ((World.putObj_heap_other (by omega)).trans hk)⟩
theorem wp_rangeCellIn {α : Type} {g : Operand} {ps : Array Tmp} {assign body : Code} {Q : Exit → Act → World → Prop} {a : Act}
  {l₀ : Nat} {r₀ : Loop} (hro : F.round = some l₀) (hl₀ : w.heap[l₀]? = some (.loop r₀)) (h1 : 1 ≤ n) {gf : Nat} {lb : Array Value} (hg : a.eval g = .func (.func gf) #[] lb) (hFg : F.fn gf) (eg : ∀ args w,(callFunc gf args).run P w = .ok (.enter gf args) w)
  {enc : α → Value} {c : Nat} {Kp : World → World → Prop} {l : List α} {w0 : World} (hc : c < w.heap.size) (hseq : CY F (n - 1) P gf lb enc c Kp l w0)
  (hKt : ∀ {A B C : World},Kp A B → Kp B C → Kp A C) (hKb : ∀ (W : World) (r : Nat) (o' : Obj),w.heap.size ≤ r → Kp W (W.putObj r o')) (hb0 : Below w0.heap.size w0 w) (hps : ps.size = 1)
  (I : List α → World → Prop) (Ix : Code → List α → World → Prop) (hI : Lets w.heap.size c I) (hIx : ∀ j,Lets w.heap.size c (Ix j)) (h0 : I [] w) (a₁ : Act → α → Act)
  (hassign : ∀ (r : Nat) (x : α) (W : World) (K : Act → World → Prop),K (a₁ a x) W → assign.wpIn (F.inRound r) (n - 1 - 1) P (Exit.then K (fun _ _ _=>False)) { tmps:=(ps.zip #[enc x]).foldl (fun t (p,v)=>t.setIfInBounds p v) a.tmps,defers:=[] } W)
  (hbody : ∀ (r : Nat) (pre : List α) (x : α) (W : World),w.heap.size ≤ r → (∃ q,W.heap[r]? = some (.loop q)) → I pre W → pre ++ [x] <+: l → body.wpIn (F.inRound r) (n - 1 - 1) P (ownPostG w.heap.size Kp I Ix (pre ++ [x]) W) (a₁ a x) W)
  (hdone : ∀ (W : World),I l W → Q .normal a W)
  (hstop : ∀ (j : Code) (pre : List α) (W : World),pre <+: l → Ix j pre W → j.wpIn F n P Q a W) :
  (Code.rangeFunc g ps assign body).wpIn F n P Q a w:=by
 refine wpIn_rangeFunc fun fn hfn=>?_
 rw [hro]
 obtain ⟨rec,hrec⟩ : ∃ rec : LoopState → Option Code → Loop,rec = fun st pe=>{ state:=st,pending:=pe,fn,tmps:=a.tmps,params:=ps,assign,body,defers:=r₀.defers }:=⟨_,rfl⟩
 obtain ⟨W1,hW1⟩ : ∃ W1,w.alloc (.loop (rec .ready none)) = W1:=⟨_,rfl⟩
 have hL1 : W1.heap[w.heap.size]? = some (.loop (rec .ready none)):=by rw [← hW1];exact World.alloc_heap_new w _
 have hI1 : I [] W1:=by rw [← hW1];exact hI.new _ h0
 have hb1 : Below w0.heap.size w0 W1:=by
  rw [← hW1]
  exact hb0.trans (((Below.refl _ w).alloc (Nat.le_refl _) _).mono hb0.size)
 refine ⟨w.heap.size,[],W1,{ target:=.fn (.func gf) lb,args:=#[.func (.yield w.heap.size) #[] #[]] },W1,gf,#[.func (.yield w.heap.size) #[] #[]] ++ lb,W1, ?_, ?_, ?_, ?_,fun _=>h1, ?_⟩
 ·rw [← hW1,hrec];exact run_enterLoop_inner hl₀ _ _ _ _ _
 ·simp only [resolve,hg];simp [go_sem]
 ·intro f' hf';simp [Target.leads] at hf';subst hf';exact hFg
 ·simp [invoke,go_sem,eg]
 ·have stays : ∀ {A X : World} {r : Nat} {o : Obj},A.grownBy X (some c) → c < w.heap.size → w.heap.size ≤ r → A.heap[r]? = some o → X.heap[r]? = some o:=fun hgr hc' hr ho =>
   (hgr.block _ (Array.getElem?_eq_some_iff.1 ho).1 (fun e=>by cases e;omega)).trans ho
  refine (hseq w.heap.size
   (fun pre W=>I pre W ∧ W.heap[w.heap.size]? = some (.loop (rec .ready none)))
   (fun pre W=>∃ j,Ix j pre W ∧ W.heap[w.heap.size]? = some (.loop (rec .done (some j))))
   W1 hb1 (fun s A X hs hgr=>⟨hI s A X (some c) hs.1 hgr (fun r e=>by cases e;exact .inl rfl),stays hgr hc (Nat.le_refl _) hs.2⟩) ?_ ⟨hI1,hL1⟩).mono ?_
  ·rintro pre x W ⟨hi,hl⟩ hpre
   have hlt : w.heap.size < W.heap.size:=(Array.getElem?_eq_some_iff.1 hl).1
   have hy:=run_yield (P:=P) (args:=#[enc x]) hl (by rw [hrec];exact hps.symm)
   rw [hrec] at hy
   refine ⟨fn,_,assign,body,hy,roundIn_of_wpIn hfn (hassign _ x W _ ⟨_,run_beginRound hl (by rw [hrec]), ?_⟩)⟩
   have hl2 : (W.putObj w.heap.size (.loop { rec .ready none with state:=.busy })).heap[w.heap.size]? = some (.loop { rec .ready none with state:=.busy }):=World.putObj_heap_same hlt
   have hw2 : Kp W (W.putObj w.heap.size (.loop { rec .ready none with state:=.busy })):=hKb _ _ _ (Nat.le_refl _)
   refine wpIn_mono (hbody _ pre x _ (Nat.le_refl _) ⟨_,hl2⟩ (hI.put _ hi (Nat.le_refl _) hl rfl) hpre) ?_
   have fin : ∀ (jump : Option Code) (W3 : World),KeepsFrom w.heap.size (W.putObj w.heap.size (.loop { rec .ready none with state:=.busy })) W3 →
     (Instr.endRound w.heap.size jump).run P W3 = .ok (.bool jump.isNone) (W3.putObj w.heap.size (.loop (rec (if jump.isNone then .ready else .done) jump))) ∧
     W3.heap[w.heap.size]? = some (.loop { rec .ready none with state:=.busy }) ∧
     (W3.putObj w.heap.size (.loop (rec (if jump.isNone then .ready else .done) jump))).heap[w.heap.size]? = some (.loop (rec (if jump.isNone then .ready else .done) jump)):=fun jump W3 hk3=>by
    have hl3:=hk3.same _ _ (Nat.le_refl _) hl2 rfl
    have:=run_endRound (P:=P) jump hl3
    rw [hrec] at this ⊢
    exact ⟨this,by rw [hrec] at hl3;exact hl3,World.putObj_heap_same (Array.getElem?_eq_some_iff.1 hl3).1⟩
   rintro e a3 W3 hp
   cases e with
   | normal =>
    obtain ⟨hk3,hkp3,hi3⟩:=hp
    obtain ⟨hr,hl3,hl4⟩:=fin none W3 hk3
    exact ⟨_,_,hr,.inl ⟨rfl,⟨hI.put _ hi3 (Nat.le_refl _) hl3 rfl,hl4⟩,hKt (hKt hw2 hkp3) (hKb _ _ _ (Nat.le_refl _))⟩⟩
   | ret =>
    obtain ⟨hk3,hi3⟩:=hp
    obtain ⟨hr,hl3,hl4⟩:=fin (some .ret) W3 hk3
    exact ⟨_,_,hr,.inr ⟨rfl,.ret,(hIx _).put _ hi3 (Nat.le_refl _) hl3 rfl,hl4⟩⟩
   | exit id =>
    obtain ⟨hk3,hi3⟩:=hp
    obtain ⟨hr,hl3,hl4⟩:=fin (some (.exit id)) W3 hk3
    exact ⟨_,_,hr,.inr ⟨rfl,.exit id,(hIx _).put _ hi3 (Nat.le_refl _) hl3 rfl,hl4⟩⟩
   | goto t =>
    obtain ⟨hk3,hi3⟩:=hp
    obtain ⟨hr,hl3,hl4⟩:=fin (some (.goto t)) W3 hk3
    exact ⟨_,_,hr,.inr ⟨rfl,.goto t,(hIx _).put _ hi3 (Nat.le_refl _) hl3 rfl,hl4⟩⟩
   | panic ch=>exact hp.elim
   | outgrown=>exact hp.elim
  ·rintro e W2 ⟨⟨v,rfl⟩,(⟨hi,hl⟩ | ⟨pre,hpre,j,hi,hl⟩)⟩
   ·exact ⟨none,_,by have:=run_endLoop (P:=P) hl (by rw [hrec];simp);rw [hrec] at this;exact this,hdone _ (hI.put _ hi (Nat.le_refl _) hl rfl)⟩
   ·exact ⟨some j,_,by have:=run_endLoop (P:=P) hl (by rw [hrec];simp);rw [hrec] at this;exact this,hstop j pre _ hpre ((hIx j).put _ hi (Nat.le_refl _) hl rfl)⟩
end
/- A REGION THAT DRAWS, WITHIN A ROUND (or in the wide fence): its walk outside every fence serves. -/
section
variable {P : Program} {ops : Array Oper} {Q : Exit → Act → World → Prop} {md : Region.Mode}
end
end Go.Proofs.YtcandidgaegghaaGreatDoor
namespace Go.Proofs
open Go.Shelf
def Tryz.lays103_ren : Go.Shelf.Ren:=⟨fun | 103=>39 | 210=>108 | 206=>104 | n=>n,fun | 9=>9 | 4=>4 | 24=>76 | 3=>3 | n=>n,fun | n=>n⟩
theorem Tryz.lays103 : Go.Proofs.Lays.n103 Tryz.prog Tryz.lays103_ren:={
 mixed:=by kernel_rfl
 f103:=Tryz.func39.trans (congrArg some (by kernel_rfl))
 f206:=Tryz.func104.trans (congrArg some (by kernel_rfl))
 f210:=Tryz.func108.trans (congrArg some (by kernel_rfl))
 t3:=Tryz.underlying3
 a3:=Tryz.isAgg3
 z3:=Tryz.sizeOf3
 v3:=Tryz.zeroValue3
 t4:=Tryz.underlying4
 a4:=Tryz.isAgg4
 z4:=Tryz.sizeOf4
 v4:=Tryz.zeroValue4
 t9:=Tryz.underlying9
 a9:=Tryz.isAgg9
 z9:=Tryz.sizeOf9
 v9:=Tryz.zeroValue9
 t24:=Tryz.underlying76
 a24:=Tryz.isAgg76
 z24:=Tryz.sizeOf76
 v24:=Tryz.zeroValue76 }
open Go.RowKit in
theorem Tryz.strings_CutPrefix (s p : ByteArray) (w : World) :
  Calls Tryz.prog 39 #[.string s,.string p] w fun e w'=>e = .returned (.tuple #[.string ⟨(Lib.trimPrefix s.data.toList p.data.toList).toArray⟩,.bool (Lib.hasPrefix s.data.toList p.data.toList)]) ∧ w' = w:=Any.strings_CutPrefix Tryz.lays103 s p w
def Tryz.lays143_ren : Go.Shelf.Ren:=⟨fun | 143=>109 | 219=>172 | 217=>247 | 225=>248 | 224=>249 | 267=>250 | 266=>289 | 314=>290 | n=>n,fun | 9=>9 | 3=>3 | 4=>4 | 5=>5 | 46=>169 | 146=>232 | 51=>108 | n=>n,fun | 1=>1 | n=>n⟩
theorem Tryz.lays143 : Go.Proofs.Lays.n143 Tryz.prog Tryz.lays143_ren:={
 mixed:=by kernel_rfl
 f143:=Tryz.func109.trans (congrArg some (by kernel_rfl))
 f217:=Tryz.func247.trans (congrArg some (by kernel_rfl))
 f219:=Tryz.func172.trans (congrArg some (by kernel_rfl))
 f224:=Tryz.func249.trans (congrArg some (by kernel_rfl))
 f225:=Tryz.func248.trans (congrArg some (by kernel_rfl))
 f266:=Tryz.func289.trans (congrArg some (by kernel_rfl))
 f267:=Tryz.func250.trans (congrArg some (by kernel_rfl))
 f314:=Tryz.func290.trans (congrArg some (by kernel_rfl))
 t3:=Tryz.underlying3
 a3:=Tryz.isAgg3
 z3:=Tryz.sizeOf3
 v3:=Tryz.zeroValue3
 t4:=Tryz.underlying4
 a4:=Tryz.isAgg4
 z4:=Tryz.sizeOf4
 v4:=Tryz.zeroValue4
 t5:=Tryz.underlying5
 a5:=Tryz.isAgg5
 z5:=Tryz.sizeOf5
 v5:=Tryz.zeroValue5
 t9:=Tryz.underlying9
 a9:=Tryz.isAgg9
 z9:=Tryz.sizeOf9
 v9:=Tryz.zeroValue9
 t46:=Tryz.underlying169
 a46:=Tryz.isAgg169
 z46:=Tryz.sizeOf169
 v46:=Tryz.zeroValue169
 t51:=Tryz.underlying108
 a51:=Tryz.isAgg108
 z51:=Tryz.sizeOf108
 v51:=Tryz.zeroValue108
 t146:=Tryz.underlying232
 a146:=Tryz.isAgg232
 z146:=Tryz.sizeOf232
 v146:=Tryz.zeroValue232
 g1:=by kernel_rfl }
open Go.RowKit Go.Lib in
theorem Tryz.strings_Index (s sub : ByteArray) (m : Int) (w : World) (hs : s.size < 4294967281) (hm : w.cell? ⟨1,0,none⟩ = some (.int .i64 m)) :
  Calls Tryz.prog 109 #[.string s,.string sub] w fun e w'=>e = .returned (.int .i64 (Lib.index s.data.toList sub.data.toList)) ∧ w' = w:=Any.strings_Index Tryz.lays143 s sub m w hs hm
def Tryz.lays145_ren : Go.Shelf.Ren:=⟨fun | 145=>32 | 220=>99 | 219=>172 | 217=>247 | 225=>248 | 224=>249 | 267=>250 | 266=>289 | 314=>290 | n=>n,fun | 9=>9 | 4=>4 | 59=>64 | 3=>3 | 5=>5 | 46=>169 | 146=>232 | 51=>108 | n=>n,fun | 1=>1 | n=>n⟩
theorem Tryz.lays145 : Go.Proofs.Lays.n145 Tryz.prog Tryz.lays145_ren:={
 mixed:=by kernel_rfl
 f145:=Tryz.func32.trans (congrArg some (by kernel_rfl))
 f217:=Tryz.func247.trans (congrArg some (by kernel_rfl))
 f219:=Tryz.func172.trans (congrArg some (by kernel_rfl))
 f220:=Tryz.func99.trans (congrArg some (by kernel_rfl))
 f224:=Tryz.func249.trans (congrArg some (by kernel_rfl))
 f225:=Tryz.func248.trans (congrArg some (by kernel_rfl))
 f266:=Tryz.func289.trans (congrArg some (by kernel_rfl))
 f267:=Tryz.func250.trans (congrArg some (by kernel_rfl))
 f314:=Tryz.func290.trans (congrArg some (by kernel_rfl))
 t3:=Tryz.underlying3
 a3:=Tryz.isAgg3
 z3:=Tryz.sizeOf3
 v3:=Tryz.zeroValue3
 t4:=Tryz.underlying4
 a4:=Tryz.isAgg4
 z4:=Tryz.sizeOf4
 v4:=Tryz.zeroValue4
 t5:=Tryz.underlying5
 a5:=Tryz.isAgg5
 z5:=Tryz.sizeOf5
 v5:=Tryz.zeroValue5
 t9:=Tryz.underlying9
 a9:=Tryz.isAgg9
 z9:=Tryz.sizeOf9
 v9:=Tryz.zeroValue9
 t46:=Tryz.underlying169
 a46:=Tryz.isAgg169
 z46:=Tryz.sizeOf169
 v46:=Tryz.zeroValue169
 t51:=Tryz.underlying108
 a51:=Tryz.isAgg108
 z51:=Tryz.sizeOf108
 v51:=Tryz.zeroValue108
 t59:=Tryz.underlying64
 a59:=Tryz.isAgg64
 z59:=Tryz.sizeOf64
 v59:=Tryz.zeroValue64
 t146:=Tryz.underlying232
 a146:=Tryz.isAgg232
 z146:=Tryz.sizeOf232
 v146:=Tryz.zeroValue232
 g1:=by kernel_rfl }
open Go.RowKit Go.Lib in
theorem Tryz.strings_Cut (s sep : ByteArray) (m : Int) (w : World) (hs : s.size < 4294967281) (hm : w.cell? ⟨1,0,none⟩ = some (.int .i64 m)) :
  Calls Tryz.prog 32 #[.string s,.string sep] w fun e w'=>e = .returned (.tuple #[.string ⟨(Lib.cut s.data.toList sep.data.toList).1.toArray⟩,.string ⟨(Lib.cut s.data.toList sep.data.toList).2.1.toArray⟩,.bool (Lib.cut s.data.toList sep.data.toList).2.2]) ∧ ∃ n,w' = w.drewN n:=Any.strings_Cut Tryz.lays145 s sep m w hs hm
end Go.Proofs
namespace Ly
open Go.Lib (decDigits itoa index cut atoi decFrom decNat digitVal hasPrefix trimPrefix contains split)
theorem oM : ∀ (a b : Bs) (n : Nat),decFrom n (a ++ b) = (decFrom n a).bind fun m=>decFrom m b
 | [],b,n=>rfl
 | c :: a,b,n=>by
  simp only [List.cons_append,decFrom]
  cases digitVal c with
  | none=>rfl
  | some d=>exact oM a b _
theorem oN {k : Nat} (h : k < 10) : digitVal (UInt8.ofNat (48 + k)) = some k:=by
 have e : (UInt8.ofNat (48 + k)).toNat = 48 + k:=by simp only [UInt8.toNat_ofNat'];omega
 unfold digitVal
 rw [e,if_pos (by omega)]
 congr 1;omega
theorem decFrom_digits (n : Nat) : decFrom 0 (decDigits n) = some n:=by
 induction n using Nat.strongRecOn with
 | _ n ih =>
  rw [decDigits]
  split
  ·rename_i h
   simp only [decFrom,oN h]
   simp
  ·rename_i h
   rw [oM,ih (n / 10) (by omega)]
   simp only [Option.bind_some,decFrom,oN (Nat.mod_lt n (by decide : 0 < 10))]
   congr 1;omega
theorem atoi_itoa (n : Nat) : atoi (itoa (n : Int)) = some (n : Int):=by
 have hne : itoa (n : Int) ≠ []:=itoa_ne
 have hd : ∀ c ∈ itoa (n : Int),48 ≤ c.toNat ∧ c.toNat ≤ 57:=xH (by omega)
 have hf:=decFrom_digits n
 rw [← sQ] at hf
 generalize itoa (n : Int) = l at *
 cases l with
 | nil=>exact absurd rfl hne
 | cons c r =>
  have hc:=hd c (by simp)
  have h45 : (c == 45) = false:=by
   cases e : c == 45 with
   | false=>rfl
   | true=>have:=beq_iff_eq.1 e;subst this;simp at hc
  have h43 : (c == 43) = false:=by
   cases e : c == 43 with
   | false=>rfl
   | true=>have:=beq_iff_eq.1 e;subst this;simp at hc
  have hdn : decNat (c :: r) = some n:=by unfold decNat;exact hf
  simp only [atoi,h45,h43,hdn,Bool.false_eq_true,if_false,Option.map_some]
theorem cut_of_index {s sep : Bs} {k : Nat} (h : index s sep = k) : cut s sep = (s.take k,s.drop (k + sep.length),true):=by
 unfold cut
 rw [h,if_pos (by omega)]
 simp
theorem EW {s sep : Bs} (h : index s sep = -1) : cut s sep = (s,[],false):=by
 unfold cut
 rw [h,if_neg (by omega)]
theorem cut_mid {a b sep : Bs} (h : index (a ++ sep ++ b) sep = a.length) : cut (a ++ sep ++ b) sep = (a,b,true):=by
 rw [cut_of_index h]
 have e1 : (a ++ sep ++ b).take a.length = a:=by rw [List.append_assoc,List.take_left]
 have e2 : (a ++ sep ++ b).drop (a.length + sep.length) = b:=by rw [← List.length_append,List.drop_left]
 rw [e1,e2]
theorem gX (a b : Bs) : hasPrefix (a ++ b) a = true:=by
 unfold hasPrefix
 rw [List.isPrefixOf_iff_prefix]
 exact ⟨b,rfl⟩
theorem iY (a b : Bs) : trimPrefix (a ++ b) a = b:=by
 unfold trimPrefix
 rw [gX,if_pos rfl,List.drop_left]
end Ly
namespace Go.Proofs.YtcandidgaegghaaGreatDoor
open Go Go.RowKit Ly
theorem oB (s sep a b : Bs) (t : Bool) (hs : s.length ≤ 1000000000) (h : Lib.cut s sep = (a,b,t)) (w : World) (hm : kL w) :
  Calls Tryz.prog 32 #[str s,str sep] w (Rt (.tuple #[str a,str b,.bool t]) w):=by
 obtain ⟨m,hm⟩:=hm
 refine (Tryz.strings_Cut ⟨s.toArray⟩ ⟨sep.toArray⟩ m w (by simp [ByteArray.size];omega) hm).mono fun e w' ⟨h1,n,h2⟩=>⟨?_, ?_⟩
 ·rw [h1]
  simp only [h]
 ·subst h2
  exact ⟨rfl,rfl,rfl,Nat.le_refl _,fun _ _=>rfl⟩
theorem mk_app (a b : Bs) : (⟨a.toArray⟩ ++ ⟨b.toArray⟩ : ByteArray) = ⟨(a ++ b).toArray⟩:=by
 apply ByteArray.ext
 simp
theorem splitB_sep (s sep : Bs) : (Lib.splitB ⟨sep.toArray⟩ 0 (Lib.countB ⟨s.toArray⟩ ⟨sep.toArray⟩) ⟨s.toArray⟩).map Value.string = (Lib.split s sep).map str:=by
 have h:=Lib.splitB_data ⟨sep.toArray⟩ 0 (Lib.countB ⟨s.toArray⟩ ⟨sep.toArray⟩) ⟨s.toArray⟩
 have e : Lib.split s sep = Lib.splitK sep 0 (Lib.countB ⟨s.toArray⟩ ⟨sep.toArray⟩) s:=by unfold Lib.split Lib.countB;simp
 rw [e]
 have h' : (Lib.splitB ⟨sep.toArray⟩ 0 (Lib.countB ⟨s.toArray⟩ ⟨sep.toArray⟩) ⟨s.toArray⟩).map (·.data.toList) = Lib.splitK sep 0 (Lib.countB ⟨s.toArray⟩ ⟨sep.toArray⟩) s:=by simpa using h
 rw [← h',List.map_map]
 refine List.map_congr_left fun b _=>?_
 simp [str]
open Go Go.RowKit Ly
attribute [local go_sem] Oper.semAt_some
inductive Cuts (sep : Bs) : Bs → List Bs → Prop where
 | last (r : Bs) (h : Lib.index r sep = -1) : Cuts sep r [r]
 | more (r : Bs) (i : Nat) (l : List Bs) (h : Lib.index r sep = i) (h' : Cuts sep (r.drop (i + sep.length)) l) : Cuts sep r (r.take i :: l)
theorem JC (sep : Bs) (hn : sep ≠ []) : ∀ (k : Nat) (s : Bs),Lib.count s sep = k → Cuts sep s (Lib.splitK sep 0 k s)
 | 0,s,h=>by
  have hi : Lib.index s sep = -1:=by
   have h1:=Lib.index_ge s sep
   rcases Int.lt_or_le (Lib.index s sep) 0 with h2 | h2
   ·omega
   ·have:=Lib.count_hit (s:=s) (i:=(Lib.index s sep).toNat) hn (by omega)
    omega
  exact .last s hi
 | k + 1,s,h=>by
  have h1:=Lib.index_ge s sep
  have hi : 0 ≤ Lib.index s sep:=by
   rcases Int.lt_or_le (Lib.index s sep) 0 with h2 | h2
   ·have e : Lib.index s sep = -1:=by omega
    rw [Lib.count_miss e] at h;cases h
   ·exact h2
  obtain ⟨i,e⟩ : ∃ i : Nat,Lib.index s sep = i:=⟨(Lib.index s sep).toNat,by omega⟩
  have hc:=Lib.count_hit hn e
  rw [Lib.splitK,e]
  have e1 : ((i : Int) == -1) = false:=by simp
  rw [e1]
  simp only [Bool.false_eq_true,if_false,Nat.add_zero,Int.toNat_natCast]
  exact .more s i _ e (JC sep hn k _ (by omega))
theorem cuts_split (s sep : Bs) (hn : sep ≠ []) : Cuts sep s (Lib.split s sep):=JC sep hn _ s rfl
def jX (sep : Bs) (b : Nat) (r : Bs) (w : World) : Prop :=
 w.heap[b]? = some (.cells #[str r] 9 (0,0)) ∧ w.heap[b + 1]? = some (.cells #[str sep] 9 (0,0)) ∧ w.heap[b + 2]? = some (.cells #[.int .i64 0] 3 (0,0)) ∧ kL w
def jY (b : Nat) (A X : World) : Prop:=∀ k,k = 1 ∨ k = b ∨ k = b + 1 ∨ k = b + 2 → X.heap[k]? = A.heap[k]?
theorem jY.trans {b : Nat} {A B C : World} (h : jY b A B) (k : jY b B C) : jY b A C:=fun i hi=>(k i hi).trans (h i hi)
theorem jX.kept {sep : Bs} {b : Nat} {r : Bs} {A X : World} (h : jX sep b r A) (k : jY b A X) : jX sep b r X:=by
 obtain ⟨h1,h2,h3,m,h4⟩:=h
 refine ⟨(k _ (.inr (.inl rfl))).trans h1,(k _ (.inr (.inr (.inl rfl)))).trans h2,(k _ (.inr (.inr (.inr rfl)))).trans h3,m, ?_⟩
 unfold World.cell? at h4 ⊢
 rw [show X.heap[(⟨1,0,none⟩ : Addr).block]? = A.heap[(⟨1,0,none⟩ : Addr).block]? from k 1 (.inl rfl)]
 exact h4
def IG (w : World) (b : Nat) : Nat:=match w.heap[b]? with
 | some (Obj.cells cs _ _)=>match cs[0]? with
  | some (Value.string x)=>x.size
  | _=>0
 | _=>0
theorem CD {sep : Bs} {b : Nat} {r : Bs} {w : World} (h : jX sep b r w) : IG w b = r.length:=by
 unfold IG
 rw [h.1]
 simp [ByteArray.size]
theorem JM (s sep : Bs) (hs : s.length ≤ 1000000000) (w : World) (hm : kL w) :
  Calls Tryz.prog 109 #[str s,str sep] w fun e w'=>e = .returned (.int .i64 (Lib.index s sep)) ∧ w' = w:=by
 obtain ⟨m,hm⟩:=hm
 exact Tryz.strings_Index ⟨s.toArray⟩ ⟨sep.toArray⟩ m w (by simp [ByteArray.size];omega) hm
theorem jX.next {sep : Bs} {b : Nat} {r : Bs} {w : World} (h : jX sep b r w) (hb : b ≠ 1) (r' : Bs) : jX sep b r' (w.setCell ⟨b,0,none⟩ (str r')):=by
 obtain ⟨h1,h2,h3,m,h4⟩:=h
 refine ⟨(aC (o:=0) (u:=str r') h1).trans rfl,by rw [Below.heap_setCell _ _ _ _ (by simp)];exact h2,by rw [Below.heap_setCell _ _ _ _ (by simp)];exact h3,m, ?_⟩
 unfold World.cell? at h4 ⊢
 rw [show (w.setCell ⟨b,0,none⟩ (str r')).heap[(⟨1,0,none⟩ : Addr).block]? = w.heap[(⟨1,0,none⟩ : Addr).block]? from Below.heap_setCell _ _ _ _ (fun e=>hb e.symm)]
 exact h4
theorem row9 {w : World} {b : Nat} {x : Value} {t : TypeId} (h : w.heap[b]? = some (.cells #[x] t (0,0))) : w.cell? ⟨b,0,none⟩ = some x ∧ w.frozen? ⟨b,0,none⟩ = false :=
 ⟨(box_cell h 0).trans rfl,by simp [World.frozen?,h]⟩
set_option maxHeartbeats 4000000 in
theorem splitSeq_in (n : Nat) (s sep : Bs) (hn : sep ≠ []) (hs : s.length ≤ 1000000000) (hsep : sep.length ≤ 100) (b : Nat) (hb : b ≠ 1) (l : List Bs) (hl : Cuts sep s l) (r : Nat) (J Jx : List Bs → World → Prop)
  (hJ : ∀ s A X,J s A → A.grownBy X (some b) → J s X)
  (hY : ∀ pre x W1,J pre W1 → pre ++ [x] <+: l → YieldAt Fence.wide (n - 1) Tryz.prog r #[str x] W1 fun e W'=>(e = .returned (.bool true) ∧ J (pre ++ [x]) W' ∧ jY b W1 W') ∨ (e = .returned (.bool false) ∧ Jx (pre ++ [x]) W'))
  (W : World) (hA : jX sep b s W) (h0 : J [] W) :
  CallsIn Fence.wide n Tryz.prog 272 #[.func (.yield r) #[] #[],one (b + 1),one b,one (b + 2)] W fun e W'=>(∃ v,e = .returned v) ∧ (J l W' ∨ ∃ pre,pre <+: l ∧ Jx pre W'):=by
 have HJ:=Hd hJ
 have HY:=Hd hY
 have HL:=Hd hl
 have HA:=Hd hA
 have H0:=Hd h0
 have HN:=Hd hn
 have HS:=Hd hs
 have HB:=Hd hb
 have sp : ((sep.length : Int) == 0) = false:=by
  cases sep with
  | nil=>exact absurd rfl hn
  | cons c t=>simp;omega
 clear hJ hY hl hA h0 hn hs hb
 obtain ⟨a0,-⟩:=row9 HA.out.1
 obtain ⟨a1,-⟩:=row9 HA.out.2.1
 refine callsIn_of_wp Tryz.func272 rfl trivial ?_ rfl
 simp only [Tryz.ntmps272,List.size_toArray,List.length_cons,List.length_nil,Nat.reduceAdd,Nat.reduceSub,Array.replicate_succ,Array.replicate_zero,List.push_toArray,List.append_toArray,List.nil_append,List.cons_append]
 gi_wp2
 gi_loopw [7] (fun i wr=>Hid (∃ pre rest q,l = pre ++ rest ∧ Cuts sep q rest ∧ q.length ≤ 1000000000 ∧ jX sep b q wr ∧ J pre wr)) (fun _ wr=>IG wr b)
 case atStart=>exact ⟨[],l,s,rfl,HL.out,HS.out,HA.out,H0.out⟩
 case round =>
  obtain ⟨pre,rest,q,hl,hq,hql,hA,hJ⟩:=hrel.out
  clear hrel
  have EL:=Hd hl
  have QL:=Hd hql
  have A:=Hd hA
  have JJ:=Hd hJ
  clear hl hA hJ
  clear a0 a1
  obtain ⟨a0,f0⟩:=row9 A.out.1
  obtain ⟨a1,-⟩:=row9 A.out.2.1
  obtain ⟨a2,-⟩:=row9 A.out.2.2.1
  rcases hq with ⟨_,hi⟩ | ⟨_,i,l',hi,hq'⟩
  ·have HI:=Hd hi
   clear hi
   obtain ⟨fn,tmps,assign,body,hy,hR⟩:=HY.out pre q wr JJ.out ⟨[],by rw [EL.out];simp⟩
   gi_wp2_with (refine ⟨trivial,fun h=>absurd h (by decide), ?_⟩;gi_at_call 109;refine (callsIn_wide.2 (JM q sep QL.out _ A.out.2.2.2)).mono ?_;rintro e w2 ⟨rfl,rfl⟩;rw [HI.out])
   refine ⟨fun h=>absurd h (by decide),hR.mono ?_⟩
   rintro e W3 (⟨rfl,hJ3,hk3⟩ | ⟨rfl,hJx3⟩)
   ·gi_wp2
    go_end0
    exact ⟨⟨_,rfl⟩,.inl (by rw [EL.out];exact hJ3)⟩
   ·gi_wp2
    go_end0
    exact ⟨⟨_,rfl⟩,.inr ⟨pre ++ [q],⟨[],by rw [EL.out];simp⟩,hJx3⟩⟩
  ·have HI:=Hd hi
   have HQ:=Hd hq'
   have IL : i + sep.length ≤ q.length:=by
    have:=Lib.index_room q sep (by rw [HI.out];omega)
    rw [HI.out] at this;omega
   clear hi hq'
   have s1 : i ≤ 1000000000:=by have:=QL.out;omega
   obtain ⟨x,hx⟩ : ∃ x,q.take i = x:=⟨_,rfl⟩
   obtain ⟨y,hy'⟩ : ∃ y,q.drop (i + sep.length) = y:=⟨_,rfl⟩
   have ex : (⟨q.toArray⟩ : ByteArray).extract 0 i = ⟨x.toArray⟩:=by rw [← hx];apply ByteArray.ext;simp
   have ey : (⟨q.toArray⟩ : ByteArray).extract (i + sep.length) q.length = ⟨y.toArray⟩:=by rw [← hy'];apply ByteArray.ext;simp;exact List.take_of_length_le (by simp)
   rw [hx] at EL
   rw [hy'] at HQ
   have HX:=Hd hx
   have HYY:=Hd hy'
   clear hx hy'
   obtain ⟨fn,tmps,assign,body,hy,hR⟩:=HY.out pre x wr JJ.out (by rw [EL.out];exact ⟨l',by simp⟩)
   gi_wp2_with (refine ⟨trivial,fun h=>absurd h (by decide), ?_⟩;gi_at_call 109;refine (callsIn_wide.2 (JM q sep QL.out _ A.out.2.2.2)).mono ?_;rintro e w2 ⟨rfl,rfl⟩;rw [HI.out])
   refine ⟨fun h=>absurd h (by decide),hR.mono ?_⟩
   rintro e W3 (⟨rfl,hJ3,hk3⟩ | ⟨rfl,hJx3⟩)
   ·have A3:=Hd (A.out.kept hk3)
    clear a0 a1 a2 f0
    obtain ⟨a0,f0⟩:=row9 A3.out.1
    obtain ⟨a1,-⟩:=row9 A3.out.2.1
    obtain ⟨a2,-⟩:=row9 A3.out.2.2.1
    have J3:=Hd hJ3
    clear hJ3 hk3
    have YL : y.length + sep.length ≤ q.length:=by rw [← HYY.out];simp;omega
    have N3:=Hd (A3.out.next HB.out y)
    have SL : 0 < sep.length:=List.length_pos_iff.2 HN.out
    gi_wp2
    go_roundw
    case rel=>exact ⟨pre ++ [x],l',y,by rw [EL.out];simp,HQ.out,by have:=QL.out;omega,N3.out,HJ.out _ _ _ J3.out (grownBy_setCell' _ _ _)⟩
    case measure =>
     rw [CD N3.out,CD A.out]
     omega
   ·gi_wp2
    refine bodyPost_ret (results_none rfl _ _ _) rfl ?_
    exact ⟨⟨_,rfl⟩,.inr ⟨pre ++ [x],⟨l',by rw [EL.out];simp⟩,hJx3⟩⟩
theorem jY.of_below {sep : Bs} {b : Nat} {r : Bs} {A X : World} (h : jX sep b r A) (k : Below A.heap.size A X) : jY b A X:=fun i hi=>by
 refine k.block i ?_
 rcases hi with rfl | rfl | rfl | rfl
 ·obtain ⟨m,hm⟩:=h.2.2.2;exact World.block_lt_of_cell? A _ hm
 ·exact (Array.getElem?_eq_some_iff.1 h.1).1
 ·exact (Array.getElem?_eq_some_iff.1 h.2.1).1
 ·exact (Array.getElem?_eq_some_iff.1 h.2.2.1).1
theorem jX.below {sep : Bs} {b : Nat} {r : Bs} {A X : World} (h : jX sep b r A) (k : Below A.heap.size A X) : jX sep b r X:=h.kept (jY.of_below h k)
theorem KA (n : Nat) (s sep : Bs) (hn : sep ≠ []) (hs : s.length ≤ 1000000000) (hsep : sep.length ≤ 100) (b : Nat) (hb : b ≠ 1) (l : List Bs) (hl : Lib.split s sep = l) (w0 : World) (hA : jX sep b s w0) :
  CY Fence.wide n Tryz.prog 272 #[one (b + 1),one b,one (b + 2)] str b (jY b) l w0:=fun r J Jx W hW hJ hY h0 =>
 splitSeq_in n s sep hn hs hsep b hb l (by rw [← hl];exact cuts_split s sep hn) r J Jx hJ hY W (hA.below hW) h0
theorem wQ (s sep : Bs) (w : World) : Calls Tryz.prog 119 #[str s,str sep] w fun e w' =>
  e = .returned (.func (.func 272) #[] #[one (w.heap.size + 1),one w.heap.size,one (w.heap.size + 2)]) ∧ w' = ((w.alloc (.cells #[str s] 9)).alloc (.cells #[str sep] 9)).alloc (.cells #[.int .i64 0] 3):=by
 go_enter Tryz.func119,Tryz.ntmps119
 go_wp2
 go_ret
 exact ⟨rfl,rfl⟩
theorem mS {w : World} {g : Nat} {o : Obj} (o' : Obj) (h : w.heap[g]? = some o) : (w.alloc o').heap[g]? = some o:=(Below.heap_alloc w o' g (Array.getElem?_eq_some_iff.1 h).1).trans h
theorem BZ {s sep : Bs} {w : World} (hm : kL w) : jX sep w.heap.size s (((w.alloc (.cells #[str s] 9)).alloc (.cells #[str sep] 9)).alloc (.cells #[.int .i64 0] 3)):=by
 refine ⟨mS _ (mS _ (heap_alloc_new w _)),mS _ ?_, ?_,hm.keep (aA (((Below.refl _ w).alloc (Nat.le_refl _) _).alloc (by simp) _ |>.alloc (by simp;omega) _))⟩
 ·have:=heap_alloc_new (w.alloc (.cells #[str s] 9)) (.cells #[str sep] 9)
  rwa [World.size_alloc] at this
 ·have:=heap_alloc_new ((w.alloc (.cells #[str s] 9)).alloc (.cells #[str sep] 9)) (.cells #[.int .i64 0] 3)
  rwa [World.size_alloc,World.size_alloc] at this
open Go Go.RowKit Ly
set_option maxHeartbeats 2000000
theorem LD (w : World) (a b c d : Value) (t : TypeId) : ∀ (j : Nat) (u : Value),[a,b,c,d][j]? = some u → (w.alloc (.cells #[a,b,c,d] t)).cell? ((⟨w.heap.size,0,none⟩ : Addr).add j) = some u:=by
 intro j u hu
 have hg:=heap_alloc_new w (.cells #[a,b,c,d] t)
 rw [show ((⟨w.heap.size,0,none⟩ : Addr).add j) = ⟨w.heap.size,j,none⟩ by simp [Addr.add];omega,box_cell hg]
 simpa using hu
open Go Go.RowKit Ly
attribute [local go_sem] Oper.semAt_some
/- The two lists of a claim, each of the call's own. -/
def pOf (B : Nat) (v : Value) : Nat → Bool:=fun k=>decide (k < B) || decide (v.ownBlock = some k)
structure CL (B : Nat) (X Y : List Fm) (vx vy : Value) (W : World) : Prop where
 ox : iP (pOf B vy) B W 25 4 X.length (cH X) vx
 oy : iP (pOf B vx) B W 25 4 Y.length (cH Y) vy
 ne : ∀ g,vx.ownBlock = some g → vy.ownBlock ≠ some g
theorem take_snoc {α : Type} {l : List α} {j : Nat} {x : α} (h : l[j]? = some x) : l.take (j + 1) = l.take j ++ [x]:=by rw [List.take_add_one,h];rfl
theorem yF {α : Type} {pre l : List α} {x : α} (h : pre ++ [x] <+: l) : l[pre.length]? = some x:=by
 obtain ⟨t,rfl⟩:=h
 simp
theorem split_le (s sep : Bs) (hn : sep ≠ []) : (Lib.split s sep).length ≤ s.length + 1:=by
 have h1 : 1 ≤ (⟨sep.toArray⟩ : ByteArray).size:=by
  cases sep with
  | nil=>exact absurd rfl hn
  | cons c t=>simp [ByteArray.size]
 have h:=congrArg List.length (splitB_sep s sep)
 simp only [List.length_map] at h
 rw [Lib.splitB_all _ h1 0 _ _ rfl] at h
 have:=Lib.countB_le ⟨sep.toArray⟩ h1 _ ⟨s.toArray⟩ (Nat.le_refl _)
 simp [ByteArray.size] at this
 omega
end Go.Proofs.YtcandidgaegghaaGreatDoor
namespace Ly
open Go.Lib (itoa index cut)
end Ly
namespace Ly
open Go.Lib
/- The parts of a line behind its number. -/
theorem cut_mid' {s a b sep : Bs} (e : s = a ++ sep ++ b) (h : index (a ++ sep ++ b) sep = a.length) : cut s sep = (a,b,true):=by rw [e];exact cut_mid h
theorem Fm.head_not_assume {f : Fm} (h : f.ok = true) : ∃ x r,f.headToks = x :: r ∧ x ≠ [97,115,115,117,109,101]:=by
 obtain ⟨op,n,az,sub⟩:=f
 have ho:=Fm.ok_op h
 simp only [Fm.ok,Bool.and_eq_true,decide_eq_true_eq] at h
 by_cases h1 : op = 1
 ·subst h1
  refine ⟨n,aQ true az ++ (if az.isEmpty then [] else [cB]),rfl, ?_⟩
  have hp : bN n = true:=by simp_all
  exact vO hp fun c r e=>by cases e;decide
 ·rcases ho with rfl | rfl | rfl | rfl | rfl | rfl | rfl | rfl | rfl | rfl | rfl | rfl | rfl | rfl
  ·exact absurd rfl h1
  all_goals exact ⟨_,_,rfl,by simp [aM,wNot,wNec,wPos,iZ,eO,nA,hH,wIf,wAs,jQ,wFor,cF]⟩
theorem Fm.no_assume {f : Fm} (h : f.ok = true) : hasPrefix f.text eC = false:=by
 cases e : hasPrefix f.text eC with
 | false=>rfl
 | true =>
  unfold hasPrefix at e
  rw [List.isPrefixOf_iff_prefix] at e
  obtain ⟨t,e⟩:=e
  obtain ⟨x,r,hx,hne⟩:=Fm.head_not_assume h
  have h1 : f.text ++ [32] = aW (x :: (r ++ dL f.op true f.sub)) ++ [32]:=by rw [Fm.text_eq,Fm.toks_head h,hx];rfl
  obtain ⟨t',h2⟩:=sp_head (x:=x) (r:=r ++ dL f.op true f.sub)
  rw [h2,← e] at h1
  have hn : (32 : UInt8) ∉ x:=(eR.1 (by have:=Fm.noSp_head h;rwa [hx] at this)).1
  have h3 : [97,115,115,117,109,101] ++ 32 :: (t ++ [32]) = x ++ 32 :: t':=by rw [← h1];simp [eC]
  exact absurd (tK (by decide) hn h3).1.symm hne
theorem body_assume {f : Fm} {l : Int} (hl : 0 ≤ l) (ps : List Bs) : cut (bS [] f l ps) cs = (eC ++ itoa l,f.text,true):=by
 refine cut_mid' (b:=f.text) (by simp [bS]) (kU (c:=44) (t:=[32]) _ _ fun hm=>?_)
 rcases List.mem_append.1 hm with h | h
 ·revert h;decide
 ·exact iU hl (by decide) h
def lC (r : Bs) (ps : List Bs) : Bs:=if r = hole then pR.drop 2 else wBy.drop 2 ++ (r ++ (if ps.isEmpty then [] else fJ ++ aT cs ps))
theorem zR {f : Fm} (h : f.ok = true) {r : Bs} (hr : r ≠ []) (l : Int) (ps : List Bs) : cut (bS r f l ps) cs = (f.text,lC r ps,true):=by
 refine cut_mid' ?_ (kU (c:=44) (t:=[32]) _ _ (Fm.text_not h (by decide) (by decide)))
 unfold bS lC
 rw [if_neg hr]
 by_cases h1 : r = hole
 ·rw [if_pos h1,if_pos h1];simp [pR,cs]
 ·rw [if_neg h1,if_neg h1];simp [wBy,cs]
theorem rest_hole (ps : List Bs) : lC hole ps = [115,116,105,108,108,32,116,111,32,115,104,111,119]:=rfl
theorem BS {r : Bs} (h : r ≠ hole) (ps : List Bs) : lC r ps = [98,121,32] ++ (r ++ (if ps.isEmpty then [] else fJ ++ aT cs ps)):=by
 unfold lC;rw [if_neg h];rfl
theorem rest_not_still {r : Bs} (h : r ≠ hole) (ps : List Bs) : lC r ps ≠ [115,116,105,108,108,32,116,111,32,115,104,111,119]:=by
 rw [BS h];simp
theorem cut_from {r : Bs} (h : bU r = true) (ps : List Bs) : cut (r ++ (if ps.isEmpty then [] else fJ ++ aT cs ps)) fJ = (r,aT cs ps,!ps.isEmpty):=by
 have hn : (32 : UInt8) ∉ r:=DB (vR h) (by decide)
 cases ps with
 | nil=>simp only [List.isEmpty_nil,if_pos,List.append_nil,Bool.not_true,aT];exact EW (index_none (c:=32) (t:=[102,114,111,109,32]) _ hn)
 | cons p ps=>exact cut_mid' (by simp) (kU (c:=32) (t:=[102,114,111,109,32]) _ _ hn)
theorem prem_cut (n : Nat) (m : List Int) : cut (dY n m) eD = (itoa (n : Int),(if m.isEmpty then [] else numbers m),!m.isEmpty):=by
 have hn : (32 : UInt8) ∉ itoa (n : Int):=iU (by omega) (by decide)
 cases m with
 | nil=>simp only [dY,List.isEmpty_nil,if_pos,List.append_nil,Bool.not_true];exact EW (index_none (c:=32) (t:=[101,110,100,105,110,103,32]) _ hn)
 | cons x m=>exact cut_mid' (by simp [dY]) (kU (c:=32) (t:=[101,110,100,105,110,103,32]) _ _ hn)
theorem numbers_split {m : List Int} (h : m ≠ []) (h0 : ∀ x ∈ m,0 ≤ x) : split (numbers m) eX = m.map itoa:=by
 unfold numbers
 rw [if_neg (by simpa using h)]
 refine rP (c:=32) (t:=[97,110,100,32]) _ (by simpa using h) fun x hx=>?_
 obtain ⟨y,hy,rfl⟩:=List.mem_map.1 hx
 exact iU (h0 y hy) (by decide)
theorem prems_split {ps : List Bs} (h : ps ≠ []) (h0 : ∀ x ∈ ps,(44 : UInt8) ∉ x) : split (aT cs ps) cs = ps:=rP (c:=44) (t:=[32]) _ h h0
theorem qU : ∀ (ps : List Pf) (k : Nat) (ms : List (List Int)) (j : Nat) (x : Bs) (m : List Int),(aO k ps ms)[j]? = some x → ms[j]? = some m → ∃ n,x = dY n m
 | [],k,ms,j,x,m,h,_=>by simp [aO] at h
 | p :: ps,k,ms,0,x,m,h,hm=>by
  simp only [aO,List.getElem?_cons_zero,Option.some.injEq] at h
  cases ms with
  | nil=>simp at hm
  | cons m' ms=>simp only [List.getElem?_cons_zero,Option.some.injEq] at hm;subst hm;exact ⟨_,h.symm⟩
 | p :: ps,k,ms,j + 1,x,m,h,hm=>by
  simp only [aO,List.getElem?_cons_succ] at h
  refine qU ps _ ms.tail j x m h ?_
  cases ms with
  | nil=>simp at hm
  | cons m' ms=>simpa using hm
/- The steps of a proof, with the number of lines ahead of each one's premises. -/
mutual
def Pf.post : Nat → Pf → List (Nat × Pf)
 | k,.mk r f l s m=>dQ k s ++ [(k,.mk r f l s m)]
def dQ : Nat → List Pf → List (Nat × Pf)
 | _,[]=>[]
 | k,p :: ps=>p.post k ++ dQ (k + p.steps) ps
end
def nP (x : Nat × Pf) : Bs:=itoa (x.1 + aE x.2.sub + 1 : Nat) ++ eE ++ bS x.2.rule x.2.form x.2.label (aO x.1 x.2.sub x.2.marks)
mutual
theorem Pf.lines_post : ∀ (p : Pf) (k : Nat),p.lines k = (p.post k).map nP
 | .mk r f l s m,k=>by simp only [Pf.lines,Pf.post,List.map_append,qR s k];rfl
theorem qR : ∀ (ps : List Pf) (k : Nat),cE k ps = (dQ k ps).map nP
 | [],k=>rfl
 | p :: ps,k=>by simp only [cE,dQ,List.map_append,Pf.lines_post p k,qR ps]
end
mutual
theorem Pf.post_length : ∀ (p : Pf) (k : Nat),(p.post k).length = p.steps
 | .mk r f l s m,k=>by simp [Pf.post,Pf.steps,lL s k]
theorem lL : ∀ (ps : List Pf) (k : Nat),(dQ k ps).length = aE ps
 | [],k=>rfl
 | p :: ps,k=>by simp [dQ,aE,Pf.post_length p k,lL ps]
end
mutual
theorem Pf.post_num : ∀ (p : Pf) (k i j : Nat) (q : Pf),(p.post k)[i]? = some (j,q) → j + aE q.sub = k + i
 | .mk r f l s m,k,i,j,q,h=>by
  simp only [Pf.post,List.getElem?_append,lL] at h
  split at h
  ·exact pK s k i j q h
  ·have : i - aE s = 0:=by
    have:=(List.getElem?_eq_some_iff.1 h).1
    simp at this;omega
   rw [this] at h
   simp only [List.getElem?_cons_zero,Option.some.injEq,Prod.mk.injEq] at h
   obtain ⟨rfl,rfl⟩:=h
   simp only [Pf.sub];omega
theorem pK : ∀ (ps : List Pf) (k i j : Nat) (q : Pf),(dQ k ps)[i]? = some (j,q) → j + aE q.sub = k + i
 | [],k,i,j,q,h=>by simp [dQ] at h
 | p :: ps,k,i,j,q,h=>by
  simp only [dQ,List.getElem?_append,Pf.post_length] at h
  split at h
  ·exact Pf.post_num p k i j q h
  ·have:=pK ps (k + p.steps) _ j q h;omega
end
mutual
theorem Pf.post_ok : ∀ (p : Pf) (k : Nat),p.ok = true → ∀ x ∈ p.post k,x.2.ok = true
 | .mk r f l s m,k,h,x,hx=>by
  simp only [Pf.post,List.mem_append,List.mem_singleton] at hx
  rcases hx with hx | rfl
  ·exact rK s k (by simp only [Pf.ok,Bool.and_eq_true] at h;exact h.2) x hx
  ·exact h
theorem rK : ∀ (ps : List Pf) (k : Nat),iX ps = true → ∀ x ∈ dQ k ps,x.2.ok = true
 | [],k,h,x,hx=>by simp [dQ] at hx
 | p :: ps,k,h,x,hx=>by
  simp only [iX,Bool.and_eq_true] at h
  simp only [dQ,List.mem_append] at hx
  rcases hx with hx | hx
  ·exact Pf.post_ok p k h.1 x hx
  ·exact rK ps _ h.2 x hx
end
inductive Runs : List Pf → List (Nat × Pf) → List Pf → Prop where
 | nil (S : List Pf) : Runs S [] S
 | cons (T : List Pf) (k : Nat) (q : Pf) (l : List (Nat × Pf)) (S : List Pf) (h : Runs (T ++ [q]) l S) : Runs (T ++ q.sub) ((k,q) :: l) S
theorem Runs.append {A B C : List Pf} {l m : List (Nat × Pf)} (h : Runs A l B) (h' : Runs B m C) : Runs A (l ++ m) C:=by
 induction h with
 | nil S=>exact h'
 | cons T k q l S _ ih=>exact .cons T k q _ _ (ih h')
mutual
theorem Pf.runs : ∀ (p : Pf) (k : Nat) (S : List Pf),Runs S (p.post k) (S ++ [p])
 | .mk r f l s m,k,S=>(yD s k S).append (.cons S k (.mk r f l s m) [] _ (.nil _))
theorem yD : ∀ (ps : List Pf) (k : Nat) (S : List Pf),Runs S (dQ k ps) (S ++ ps)
 | [],k,S=>by rw [List.append_nil];exact .nil S
 | p :: ps,k,S=>by
  have h:=(Pf.runs p k S).append (yD ps (k + p.steps) (S ++ [p]))
  rw [List.append_assoc] at h
  exact h
end
theorem Runs.next {A C : List Pf} {l : List (Nat × Pf)} {i : Nat} (h : Runs A (l.drop i) C) {j : Nat} {q : Pf} (hi : l[i]? = some (j,q)) : ∃ T,A = T ++ q.sub ∧ Runs (T ++ [q]) (l.drop (i + 1)) C:=by
 have e : l.drop i = (j,q) :: l.drop (i + 1):=by
  obtain ⟨hlt,e⟩:=List.getElem?_eq_some_iff.1 hi
  rw [← e];exact List.drop_eq_getElem_cons hlt
 rw [e] at h
 cases h with
 | cons T _ _ _ _ h=>exact ⟨T,rfl,h⟩
end Ly
namespace Go.Proofs.YtcandidgaegghaaGreatDoor
open Go Go.RowKit Ly
set_option maxHeartbeats 2000000
attribute [local go_sem ↓] Go.wp_at_zero Go.wp_at_succ
attribute [local go_sem ↓] Go.wp_at_zero Go.wp_at_succ
end Go.Proofs.YtcandidgaegghaaGreatDoor
