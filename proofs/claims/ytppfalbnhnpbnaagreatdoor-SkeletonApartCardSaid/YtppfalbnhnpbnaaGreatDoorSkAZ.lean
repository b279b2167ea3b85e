/- A range over an iterator that keeps maps and cells of its own, whose rounds write one map made ahead of the loop (and never leave): the law of such a loop. Conditions: those of each statement. -/
import Derived.Test.YtppfalbnhnpbnaaGreatDoorMakeZ
import Derived.RangeFuncNested
import Derived.OrdersIn
import Derived.Maps.OwnIn
import Derived.Maps.OwnSet
import Derived.Maps.Ext
import Derived.DeepKeys4
set_option linter.unusedSimpArgs false
set_option linter.unusedVariables false
namespace Ly
open Go Go.RowKit
def isRec : Obj → Bool
  | .loop _ => true
  | .deferred _ => true
  | _ => false
structure Moves (B : Nat) (A X : World) : Prop where
  os : X.os = A.os
  tape : X.tape = A.tape
  output : X.output = A.output
  size : A.heap.size ≤ X.heap.size
  block : ∀ i o, A.heap[i]? = some o → (i < B ∨ isRec o = true) → X.heap[i]? = some o
structure Turns (m : Nat) (A X : World) : Prop where
  os : X.os = A.os
  tape : X.tape = A.tape
  output : X.output = A.output
  size : A.heap.size ≤ X.heap.size
  block : ∀ i o, A.heap[i]? = some o → (i ≠ m ∨ o.isCells = true) → X.heap[i]? = some o
structure Rounds (m : Nat) (A X : World) : Prop where
  os : X.os = A.os
  tape : X.tape = A.tape
  output : X.output = A.output
  size : A.heap.size ≤ X.heap.size
  block : ∀ i o, A.heap[i]? = some o → (i ≠ m ∨ o.isCells = true) → isRec o = false → X.heap[i]? = some o
theorem Moves.of_below {B : Nat} {A X : World} (h : Below A.heap.size A X) : Moves B A X :=
  ⟨h.os, h.tape, h.output, h.size, fun i o ho _ => (h.block i (Array.getElem?_eq_some_iff.1 ho).1).trans ho⟩
theorem Moves.of_grownBy {B : Nat} {A X : World} {row : Option Nat} (h : A.grownBy X row) (hr : ∀ r, row = some r → B ≤ r ∧ ∀ o, A.heap[r]? = some o → isRec o = false) : Moves B A X :=
  ⟨h.os, h.tape, h.output, h.size, fun i o ho hi => (h.block i (Array.getElem?_eq_some_iff.1 ho).1 (fun e => by
    obtain ⟨h1, h2⟩ := hr i e.symm
    have := h2 o ho
    rcases hi with hi | hi
    · omega
    · rw [this] at hi; cases hi)).trans ho⟩
theorem Moves.below {B n : Nat} {A X : World} (h : Moves B A X) (hB : n ≤ B) (hA : n ≤ A.heap.size) : Below n A X :=
  ⟨h.os, h.tape, h.output, h.size, fun i hi => by
    have hlt : i < A.heap.size := by omega
    obtain ⟨o, ho⟩ : ∃ o, A.heap[i]? = some o := ⟨_, Array.getElem?_eq_getElem hlt⟩
    rw [ho]; exact h.block i o ho (.inl (by omega))⟩
theorem Turns.refl (m : Nat) (A : World) : Turns m A A := ⟨rfl, rfl, rfl, Nat.le_refl _, fun _ _ h _ => h⟩
theorem Turns.of_below {m : Nat} {A X : World} (h : Below A.heap.size A X) : Turns m A X :=
  ⟨h.os, h.tape, h.output, h.size, fun i o ho _ => (h.block i (Array.getElem?_eq_some_iff.1 ho).1).trans ho⟩
theorem Turns.of_grownBy {m : Nat} {A X : World} (h : A.grownBy X (some m)) (hm : ∃ es c, A.heap[m]? = some (.map es c)) : Turns m A X :=
  ⟨h.os, h.tape, h.output, h.size, fun i o ho hi => (h.block i (Array.getElem?_eq_some_iff.1 ho).1 (fun e => by
    cases e
    obtain ⟨es, c, hm⟩ := hm
    rw [hm] at ho; cases ho
    rcases hi with hi | hi
    · exact hi rfl
    · cases hi)).trans ho⟩
theorem Rounds.keeps {m : Nat} {A X : World} (h : Rounds m A X) {i : Nat} {xs : Array Value} {t : TypeId} {s : Nat × Nat} (hi : A.heap[i]? = some (.cells xs t s)) : X.heap[i]? = some (.cells xs t s) := h.block i _ hi (.inr rfl) rfl
theorem Turns.rounds {m : Nat} {A X : World} (h : Turns m A X) : Rounds m A X := ⟨h.os, h.tape, h.output, h.size, fun i o ho hi _ => h.block i o ho hi⟩
theorem Rounds.refl (m : Nat) (A : World) : Rounds m A A := (Turns.refl m A).rounds
theorem Rounds.trans {m : Nat} {A X Y : World} (h : Rounds m A X) (k : Rounds m X Y) : Rounds m A Y :=
  ⟨k.os.trans h.os, k.tape.trans h.tape, k.output.trans h.output, Nat.le_trans h.size k.size, fun i o ho hi hr => k.block i o (h.block i o ho hi hr) hi hr⟩
theorem Rounds.put {m r : Nat} {A : World} {o : Obj} (o' : Obj) (hr : A.heap[r]? = some o) (ho : isRec o = true) : Rounds m A (A.putObj r o') := by
  have g := grownBy_putObj' A r o'
  refine ⟨g.os, g.tape, g.output, g.size, fun i q hq _ hrec => (g.block i (Array.getElem?_eq_some_iff.1 hq).1 (fun e => ?_)).trans hq⟩
  cases e; rw [hr] at hq; cases hq; rw [ho] at hrec; cases hrec
theorem below_put {n r : Nat} {W : World} (o' : Obj) (hn : n ≤ r) : Below n W (W.putObj r o') := by
  have g := grownBy_putObj' W r o'
  refine ⟨g.os, g.tape, g.output, g.size, fun i hi => ?_⟩
  rcases Nat.lt_or_ge i W.heap.size with h | h
  · exact g.block i h (fun e => by cases e; omega)
  · rw [Array.getElem?_eq_none h, Array.getElem?_eq_none (by have := g.size; have e : (W.putObj r o').heap.size = W.heap.size := by simp [World.putObj]
                                                             omega)]
theorem Rounds.cells {m : Nat} {A X : World} (k : Rounds m A X) : Keeps A X := fun a v h => by
  unfold World.cell? at h ⊢
  cases ho : A.heap[a.block]? with
  | none => rw [ho] at h; cases h
  | some o =>
    cases o with
    | cells xs t s => rw [k.keeps ho]; rw [ho] at h; exact h
    | _ => rw [ho] at h; cases h
theorem rounds_alloc (m : Nat) (W : World) (o : Obj) : Rounds m W (W.alloc o) := (Turns.of_below ((Below.refl _ _).alloc (Nat.le_refl _) _)).rounds
theorem moves_alloc (B : Nat) (W : World) (o : Obj) : Moves B W (W.alloc o) := Moves.of_below ((Below.refl _ _).alloc (Nat.le_refl _) _)
structure Rounds2 (m m2 : Nat) (A X : World) : Prop where
  os : X.os = A.os
  tape : X.tape = A.tape
  output : X.output = A.output
  size : A.heap.size ≤ X.heap.size
  block : ∀ i o, A.heap[i]? = some o → (i ≠ m ∨ o.isCells = true) → (i ≠ m2 ∨ o.isCells = true) → isRec o = false → X.heap[i]? = some o
theorem Rounds2.trans {m m2 : Nat} {A X Y : World} (h : Rounds2 m m2 A X) (k : Rounds2 m m2 X Y) : Rounds2 m m2 A Y :=
  ⟨k.os.trans h.os, k.tape.trans h.tape, k.output.trans h.output, Nat.le_trans h.size k.size, fun i o ho h1 h2 hr => k.block i o (h.block i o ho h1 h2 hr) h1 h2 hr⟩
theorem Rounds.two {m : Nat} {A X : World} (h : Rounds m A X) (m2 : Nat) : Rounds2 m m2 A X := ⟨h.os, h.tape, h.output, h.size, fun i o ho h1 _ hr => h.block i o ho h1 hr⟩
theorem Rounds2.keeps {m m2 : Nat} {A X : World} (h : Rounds2 m m2 A X) {i : Nat} {xs : Array Value} {t : TypeId} {s : Nat × Nat} (hi : A.heap[i]? = some (.cells xs t s)) : X.heap[i]? = some (.cells xs t s) := h.block i _ hi (.inr rfl) (.inr rfl) rfl
theorem Rounds2.cells {m m2 : Nat} {A X : World} (k : Rounds2 m m2 A X) : Keeps A X := fun a v h => by
  unfold World.cell? at h ⊢
  cases ho : A.heap[a.block]? with
  | none => rw [ho] at h; cases h
  | some o =>
    cases o with
    | cells xs t s => rw [k.keeps ho]; rw [ho] at h; exact h
    | _ => rw [ho] at h; cases h
theorem Rounds2.of_grownBy {m m2 : Nat} {A X : World} (h : A.grownBy X (some m2)) (hm : ∃ es c, A.heap[m2]? = some (.map es c)) : Rounds2 m m2 A X :=
  ⟨h.os, h.tape, h.output, h.size, fun i o ho _ hi _ => (h.block i (Array.getElem?_eq_some_iff.1 ho).1 (fun e => by
    cases e
    obtain ⟨es, c, hm⟩ := hm
    rw [hm] at ho; cases ho
    rcases hi with hi | hi
    · exact hi rfl
    · cases hi)).trans ho⟩
theorem Rounds2.of_below {m m2 : Nat} {A X : World} (h : Below A.heap.size A X) : Rounds2 m m2 A X := (Turns.of_below h).rounds.two _
def SeqMap {α : Type} (F : Fence) (n : Nat) (P : Program) (g : Nat) (lb : Array Value) (enc : α → Value) (m : Nat) (l : List α) (w0 : World) : Prop :=
  ∀ (r : Nat) (J : List α → World → Prop) (W : World), Below w0.heap.size w0 W → (∀ s A X, J s A → Moves W.heap.size A X → J s X) →
    (∀ pre x W1, J pre W1 → pre ++ [x] <+: l → YieldAt F (n - 1) P r #[enc x] W1 fun e W' => e = .returned (.bool true) ∧ J (pre ++ [x]) W' ∧ Rounds m W1 W') →
    J [] W → CallsIn F n P g (#[.func (.yield r) #[] #[]] ++ lb) W fun e W' => (∃ v, e = .returned v) ∧ J l W'
section
variable {F : Fence} {n : Nat} {P : Program} {w : World}
theorem wp_rangeMap {α : Type} {g : Operand} {ps : Array Tmp} {assign body : Code} {Q : Exit → Act → World → Prop} {a : Act}
    (hro : F.round = none) (h1 : 1 ≤ n) {gf : Nat} {lb : Array Value} (hg : a.eval g = .func (.func gf) #[] lb) (hFg : F.fn gf) (eg : ∀ args w, (callFunc gf args).run P w = .ok (.enter gf args) w)
    {enc : α → Value} {m : Nat} {l : List α} {w0 : World} (hm : m < w.heap.size) (hseq : SeqMap F (n - 1) P gf lb enc m l w0) (hb0 : Below w0.heap.size w0 w) (hps : ps.size = 1)
    (I : List α → World → Prop) (hI : ∀ s A X, I s A → w.heap.size ≤ A.heap.size → Below w.heap.size A X → I s X) (h0 : I [] w)
    (Ax : α → Act → World → Prop) (hAx : ∀ (x : α) (a : Act) (A X : World), Ax x a A → (∀ (i : Nat) (o : Obj), A.heap[i]? = some o → isRec o = false → X.heap[i]? = some o) → Ax x a X)
    (hassign : ∀ (r : Nat) (pre : List α) (x : α) (W : World) (K : Act → World → Prop), w.heap.size ≤ W.heap.size → I pre W → pre ++ [x] <+: l → (∀ a1 W1, Turns m W W1 → I pre W1 → Ax x a1 W1 → K a1 W1) → assign.wpIn (F.inRound r) (n - 1 - 1) P (Exit.then K (fun _ _ _ => False)) { tmps := (ps.zip #[enc x]).foldl (fun t (p, v) => t.setIfInBounds p v) a.tmps, defers := [] } W)
    (hbody : ∀ (r : Nat) (pre : List α) (x : α) (W : World) (a1 : Act), w.heap.size ≤ W.heap.size → I pre W → Ax x a1 W → pre ++ [x] <+: l → body.wpIn (F.inRound r) (n - 1 - 1) P (fun e _ W' => e = .normal ∧ Turns m W W' ∧ I (pre ++ [x]) W') a1 W)
    (hdone : ∀ (D : Nat) (W : World), w.heap.size ≤ D → I l W → W.heap[D]? = some (.deferred (some [])) → Q .normal { a with defers := { target := .collected D, args := #[] } :: a.defers } W) :
    (Code.rangeFunc g ps assign body).wpIn F n P Q a w := by
  refine wpIn_rangeFunc fun fn hfn => ?_
  rw [hro]
  obtain ⟨rec, hrec⟩ : ∃ rec : LoopState → Option Code → Loop, rec = fun st pe => { state := st, pending := pe, fn, tmps := a.tmps, params := ps, assign, body, defers := w.heap.size } := ⟨_, rfl⟩
  obtain ⟨W1, hW1⟩ : ∃ W1, (w.alloc (.deferred (some []))).alloc (.loop (rec .ready none)) = W1 := ⟨_, rfl⟩
  have hs1 : W1.heap.size = w.heap.size + 2 := by rw [← hW1]; simp
  have hL1 : W1.heap[w.heap.size + 1]? = some (.loop (rec .ready none)) := by
    rw [← hW1]
    have := World.alloc_heap_new (w.alloc (.deferred (some []))) (.loop (rec .ready none))
    rwa [World.size_alloc] at this
  have hK1 : W1.heap[w.heap.size]? = some (.deferred (some [])) := by
    rw [← hW1]
    exact (Below.heap_alloc _ _ _ (by simp)).trans (World.alloc_heap_new w _)
  have hw1 : Below w.heap.size w W1 := by
    rw [← hW1]
    exact ((Below.refl _ w).alloc (Nat.le_refl _) _).alloc (by simp) _
  have hI1 : I [] W1 := hI _ _ _ h0 (Nat.le_refl _) hw1
  have hb1 : Below w0.heap.size w0 W1 := hb0.trans (hw1.mono hb0.size)
  refine ⟨w.heap.size + 1, [{ target := .collected w.heap.size, args := #[] }], W1, { target := .fn (.func gf) lb, args := #[.func (.yield (w.heap.size + 1)) #[] #[]] }, W1, gf,
    #[.func (.yield (w.heap.size + 1)) #[] #[]] ++ lb, W1, ?_, ?_, ?_, ?_, fun _ => h1, ?_⟩
  · rw [← hW1, hrec]; exact run_enterLoop_outer _ _ _ _ _
  · simp only [resolve, hg]; simp [go_sem]
  · intro f' hf'; simp [Target.leads] at hf'; subst hf'; exact hFg
  · simp [invoke, go_sem, eg]
  · refine (hseq (w.heap.size + 1)
      (fun pre W => I pre W ∧ w.heap.size ≤ W.heap.size ∧ W.heap[w.heap.size + 1]? = some (.loop (rec .ready none)) ∧ W.heap[w.heap.size]? = some (.deferred (some [])))
      W1 hb1 (fun s A X hs hgr => ⟨hI s A X hs.1 hs.2.1 (hgr.below (by omega) hs.2.1), Nat.le_trans hs.2.1 hgr.size, hgr.block _ _ hs.2.2.1 (.inr rfl), hgr.block _ _ hs.2.2.2 (.inr rfl)⟩) ?_ ⟨hI1, by omega, hL1, hK1⟩).mono ?_
    · rintro pre x W ⟨hi, hsz, hl, hk⟩ hpre
      have hlt : w.heap.size + 1 < W.heap.size := (Array.getElem?_eq_some_iff.1 hl).1
      have hy := run_yield (P := P) (args := #[enc x]) hl (by rw [hrec]; exact hps.symm)
      rw [hrec] at hy
      refine ⟨fn, _, assign, body, hy, roundIn_of_wpIn hfn (hassign _ pre x W _ hsz hi hpre fun a1 W2 ht2 hi2 hax2 => ?_)⟩
      have hl2 := ht2.block _ _ hl (.inl (by omega))
      have hk2 := ht2.block _ _ hk (.inl (by omega))
      have hsz2 : w.heap.size ≤ W2.heap.size := Nat.le_trans hsz ht2.size
      have hlt2 : w.heap.size + 1 < W2.heap.size := (Array.getElem?_eq_some_iff.1 hl2).1
      refine ⟨_, run_beginRound hl2 (by rw [hrec]), ?_⟩
      obtain ⟨W3, hW3⟩ : ∃ W3, W2.putObj (w.heap.size + 1) (.loop { rec .ready none with state := .busy }) = W3 := ⟨_, rfl⟩
      rw [hW3]
      have hl3 : W3.heap[w.heap.size + 1]? = some (.loop { rec .ready none with state := .busy }) := by rw [← hW3]; exact World.putObj_heap_same hlt2
      have hk3 : W3.heap[w.heap.size]? = some (.deferred (some [])) := by rw [← hW3]; exact (World.putObj_heap_other (by omega)).trans hk2
      have hr3 : ∀ q, Rounds q W2 W3 := fun q => by rw [← hW3]; exact Rounds.put _ hl2 rfl
      have hi3 : I pre W3 := hI _ _ _ hi2 hsz2 (by rw [← hW3]; exact below_put _ (by omega))
      have hax3 : Ax x a1 W3 := hAx _ _ _ _ hax2 fun i o ho hr => by
        rcases Nat.lt_or_ge i W2.heap.size with h | h
        · exact (hr3 (W2.heap.size)).block i o ho (.inl (by omega)) hr
        · rw [Array.getElem?_eq_none h] at ho; cases ho
      refine wpIn_mono (hbody _ pre x W3 a1 (Nat.le_trans hsz2 (hr3 0).size) hi3 hax3 hpre) ?_
      rintro e a4 W4 ⟨rfl, ht4, hi4⟩
      have hl4 := ht4.block _ _ hl3 (.inl (by omega))
      have hk4 := ht4.block _ _ hk3 (.inl (by omega))
      have hlt4 : w.heap.size + 1 < W4.heap.size := (Array.getElem?_eq_some_iff.1 hl4).1
      have hr := run_endRound (P := P) none hl4
      rw [hrec] at hr
      refine ⟨_, _, hr, rfl, ⟨hI _ _ _ hi4 (by omega) (below_put _ (by omega)), by have := (grownBy_putObj' W4 (w.heap.size + 1) (Obj.loop { rec .ready none with state := .ready })).size; simp [World.putObj]; omega, ?_, ?_⟩, ?_⟩
      · rw [World.putObj_heap_same hlt4, hrec]; rfl
      · exact (World.putObj_heap_other (by omega)).trans hk4
      · exact ht2.rounds.trans ((hr3 _).trans (ht4.rounds.trans (Rounds.put _ hl4 rfl)))
    · rintro e W2 ⟨⟨v, rfl⟩, hi, hsz, hl, hk⟩
      exact ⟨none, _, by have := run_endLoop (P := P) hl (by rw [hrec]; simp); rw [hrec] at this; exact this, hdone _ _ (Nat.le_refl _) (hI _ _ _ hi hsz (below_put _ (by omega))) ((World.putObj_heap_other (by omega)).trans hk)⟩
end
end Ly
namespace Ly
open Go Go.RowKit
def hR (v : Value) : Option (DataW Value × List MemPlace) := some (.held v, [])
structure KeyG {κ : Type} (P : Program) (k : TypeId) (enc : κ → Value) (ok : κ → Prop) (lit : κ → Lit) : Prop where
  keyed : Maps.Keyed P k
  key : ∀ s, ok s → keyOf P k (enc s) = some (lit s)
  inj : ∀ s t, enc s = enc t → s = t
section
variable {κ : Type} {P : Program} {k : TypeId} {enc : κ → Value} {ok : κ → Prop} {lit : κ → Lit}
theorem KeyG.ne (K : KeyG P k enc ok lit) {s t : κ} (hs : ok s) (ht : ok t) (h : t ≠ s) : lit t ≠ lit s := fun e =>
  h (K.inj _ _ (K.keyed.inj (K.key t ht) (by rw [e]; exact K.key s hs)))
theorem KeyG.isKey (K : KeyG P k enc ok lit) {s : κ} (hs : ok s) : WideAt.IsKeyLit (lit s) := K.keyed.key (K.key s hs)
def MapG (P : Program) (k : TypeId) (ok : κ → Prop) (lit : κ → Lit) (z : Value) (w : World) (M n : Nat) (S : κ → Bool) (T : κ → Value) : Prop :=
  ∃ D : DataW Value, w.ownsMap P k hR M n D ∧ (∀ s, ok s → Maps.has D (lit s) = S s) ∧ (∀ s, ok s → D.atKey (lit s) (.held z) = .held (T s)) ∧ (∀ kl, Maps.has D kl = true → ∃ s, ok s ∧ kl = lit s)
variable {z : Value} {w : World} {M n : Nat} {S : κ → Bool} {T : κ → Value}
theorem MapG.made (w : World) : MapG P k ok lit z (w.alloc (.map #[] 0)) w.heap.size 0 (fun _ => false) (fun _ => z) :=
  ⟨_, World.ownsMap_made _ _ _ _, fun _ _ => rfl, fun _ _ => rfl, fun _ h => by cases h⟩
theorem MapG.lt (h : MapG P k ok lit z w M n S T) : M < w.heap.size := by
  obtain ⟨D, h1, _⟩ := h
  exact h1.lt
theorem MapG.isMap (h : MapG P k ok lit z w M n S T) : ∃ es c, w.heap[M]? = some (.map es c) := by
  obtain ⟨D, ⟨es, c, hb, _⟩, _⟩ := h
  exact ⟨es, c, hb⟩
theorem MapG.heap {w' : World} (h : MapG P k ok lit z w M n S T) (e : w'.heap[M]? = w.heap[M]?) : MapG P k ok lit z w' M n S T := by
  obtain ⟨D, ⟨es, c, hb, r⟩, h2⟩ := h
  exact ⟨D, ⟨es, c, e.trans hb, r⟩, h2⟩
theorem MapG.grown {w' : World} {row : Option Nat} (h : MapG P k ok lit z w M n S T) (hg : w.grownBy w' row) (hne : some M ≠ row) : MapG P k ok lit z w' M n S T := h.heap (hg.block M h.lt hne)
theorem MapG.below {w' : World} (h : MapG P k ok lit z w M n S T) (hb : Below w.heap.size w w') : MapG P k ok lit z w' M n S T := h.heap (hb.block M h.lt)
theorem MapG.cong {S' : κ → Bool} {T' : κ → Value} (h : MapG P k ok lit z w M n S T) (hS : ∀ s, ok s → S s = S' s) (hT : ∀ s, ok s → T s = T' s) : MapG P k ok lit z w M n S' T' := by
  obtain ⟨D, h1, h2, h3, h4⟩ := h
  exact ⟨D, h1, fun s hs => (h2 s hs).trans (hS s hs), fun s hs => (h3 s hs).trans (by rw [hT s hs]), h4⟩
theorem MapG.look {t e : TypeId} (h : MapG P k ok lit z w M n S T) (K : KeyG P k enc ok lit) (ht : P.underlying t = some (.map k e)) (hz : (zeroValue e).run P w = .ok z w) {s : κ} (hs : ok s) :
    (Instr.lookup t (.map (some M)) (enc s) false).run P w = .ok (T s) w := by
  obtain ⟨D, h1, h2, h3, h4⟩ := h
  obtain ⟨v, ps, hrun, hv⟩ := h1.lookup K.keyed ht hz (R := hR) rfl (K.key s hs)
  rw [h3 s hs] at hv
  simp only [hR, Option.some.injEq, Prod.mk.injEq, DataW.held.injEq] at hv
  rw [hrun, hv.1]
theorem MapG.look2 {t e : TypeId} (h : MapG P k ok lit z w M n S T) (K : KeyG P k enc ok lit) (ht : P.underlying t = some (.map k e)) (hz : (zeroValue e).run P w = .ok z w) {s : κ} (hs : ok s) :
    (Instr.lookup t (.map (some M)) (enc s) true).run P w = .ok (.tuple #[T s, .bool (S s)]) w := by
  obtain ⟨D, h1, h2, h3, h4⟩ := h
  obtain ⟨v, ps, hrun, hv⟩ := h1.look_ok K.keyed ht hz (R := hR) rfl (K.key s hs)
  rw [h3 s hs] at hv
  simp only [hR, Option.some.injEq, Prod.mk.injEq, DataW.held.injEq] at hv
  rw [hrun, hv.1, h2 s hs]
theorem MapG.store [DecidableEq κ] {t e : TypeId} (h : MapG P k ok lit z w M n S T) (K : KeyG P k enc ok lit) (ht : P.underlying t = some (.map k e)) (hn : n < maxLen) {s : κ} (hs : ok s) (v : Value) :
    ∃ w', (Instr.mapUpdate t (.map (some M)) (enc s) v).run P w = .ok () w' ∧ MapG P k ok lit z w' M (n + 1) (fun u => if u = s then true else S u) (fun u => if u = s then v else T u) ∧ w.grownBy w' (some M) := by
  obtain ⟨D, h1, h2, h3, h4⟩ := h
  obtain ⟨w', hrun, ho, hg⟩ := h1.update K.keyed ht hn (val := v) (d := .held v) (ps := []) (K.key s hs) rfl
  have im : Maps.IsMap D := by
    obtain ⟨es, clock, _, _, _, e⟩ := h1
    exact ⟨_, e⟩
  refine ⟨w', hrun, ⟨_, ho, fun u hu => ?_, fun u hu => ?_, fun kl hk => ?_⟩, hg⟩
  · by_cases e : u = s
    · subst e; rw [Maps.has_put_same im (K.isKey hs)]; simp
    · rw [Maps.has_put_other (K.ne hs hu e), h2 u hu]; simp [e]
  · by_cases e : u = s
    · subst e; rw [Maps.atKey_put_same im (K.isKey hs)]; simp
    · rw [Maps.atKey_put_other (K.ne hs hu e), h3 u hu]; simp [e]
  · by_cases e : kl = lit s
    · exact ⟨s, hs, e⟩
    · rw [Maps.has_put_other e] at hk; exact h4 kl hk
end
section
variable {κ : Type} [DecidableEq κ] {P : Program} {k : TypeId} {enc : κ → Value} {ok : κ → Prop} {lit : κ → Lit} {z : Value} {w : World} {M n : Nat} {S : κ → Bool} {T : κ → Value} {ops : Array Oper} {rest : List Oper} {o : Oper} {a : Act} {Q : Exit → Act → World → Prop}
theorem wpList_store_G (hg : o.guard = none) (m x v : Operand) (t : TypeId) (hop : o.op = Op.mapUpdate t m x v) (e : TypeId) (K : KeyG P k enc ok lit) (ht : P.underlying t = some (.map k e)) (hm : a.eval m = .map (some M)) (h : MapG P k ok lit z w M n S T) (hn : n < maxLen)
    (s : κ) (hs : ok s) (hx : a.eval x = enc s) (hK : ∀ w', MapG P k ok lit z w' M (n + 1) (fun u => if u = s then true else S u) (fun u => if u = s then a.eval v else T u) → w.grownBy w' (some M) → wpList P ops Q rest (a.put o.dst undef) w') :
    wpList P ops Q (o :: rest) a w := by
  refine wpList_plain hg fun K' hK' => ?_
  obtain ⟨w', hrun, r1, r2⟩ := h.store K ht hn hs (a.eval v)
  unfold Oper.wp
  simp [execOp, hop, hm, hx, hrun, Result.andThen]
  exact hK' _ _ (hK w' r1 r2)
theorem wpListIn_store_G {F : Fence} {nF : Nat} (hg : o.guard = none) (m x v : Operand) (t : TypeId) (hop : o.op = Op.mapUpdate t m x v) (e : TypeId) (K : KeyG P k enc ok lit) (ht : P.underlying t = some (.map k e)) (hm : a.eval m = .map (some M)) (h : MapG P k ok lit z w M n S T) (hn : n < maxLen)
    (s : κ) (hs : ok s) (hx : a.eval x = enc s) (hK : ∀ w', MapG P k ok lit z w' M (n + 1) (fun u => if u = s then true else S u) (fun u => if u = s then a.eval v else T u) → w.grownBy w' (some M) → wpListIn F nF P ops Q rest (a.put o.dst undef) w') :
    wpListIn F nF P ops Q (o :: rest) a w := by
  refine wpListIn_plain hg fun K' hK' => ?_
  obtain ⟨w', hrun, r1, r2⟩ := h.store K ht hn hs (a.eval v)
  unfold Oper.wpIn
  refine ⟨by simp [Oper.about, hop], ?_⟩
  rw [Oper.semAt_plain F _ _ (by rw [hop]; intro c hc'; cases hc')]
  simp [execOp, hop, hm, hx, hrun, Result.andThen]
  exact hK' _ _ (hK w' r1 r2)
end
end Ly
namespace Ly
open Go.Lib (itoa decDigits)
def quant (op : Int) : Bool := decide (op = 8 ∨ op = 9)
mutual
def Tm.vars : Tm → List Bs
  | .mk v n ts => (if v then [n] else []) ++ tmsVars ts
def tmsVars : List Tm → List Bs
  | [] => []
  | t :: ts => t.vars ++ tmsVars ts
end
mutual
def Fm.free : List Bs → Fm → List Bs
  | b, .mk op n ts fs => (tmsVars ts).filter (fun x => decide (x ∉ b)) ++ fmsFree (if quant op then n :: b else b) fs
def fmsFree : List Bs → List Fm → List Bs
  | _, [] => []
  | b, f :: fs => f.free b ++ fmsFree b fs
end
mutual
def Fm.binds : Fm → List Bs
  | .mk op n ts fs => (if quant op then [n] else []) ++ fmsBinds fs
def fmsBinds : List Fm → List Bs
  | [] => []
  | f :: fs => f.binds ++ fmsBinds fs
end
def xN (n : Nat) : Bs := 120 :: itoa (n : Int)
def leastFrom (taken : List Bs) : Nat → Nat → Nat
  | 0, n => n
  | k + 1, n => if xN n ∈ taken then leastFrom taken k (n + 1) else n
def leastN (taken : List Bs) : Nat := leastFrom taken (taken.length + 1) 1
def least (taken : List Bs) : Bs := xN (leastN taken)
def arOf (ar : List (Bs × Bs)) (n : Bs) : Option Bs := (ar.find? (fun p => p.1 == n)).map (·.2)
mutual
def Tm.swap (g : Bs → Option Bs) : Tm → Tm
  | .mk v n ts => match (if v then g n else none) with
    | some m => .mk true m []
    | none => .mk v n (tmsSwap g ts)
def tmsSwap (g : Bs → Option Bs) : List Tm → List Tm
  | [] => []
  | t :: ts => t.swap g :: tmsSwap g ts
end
mutual
def Fm.norm (free : List Bs) : List (Bs × Bs) → Fm → Fm
  | ar, .mk op n ts fs =>
    if quant op then .mk op (least (free ++ ar.map (·.2))) (tmsSwap (arOf ar) ts) (fmsNorm free ((n, least (free ++ ar.map (·.2))) :: ar) fs)
    else .mk op n (tmsSwap (arOf ar) ts) (fmsNorm free ar fs)
def fmsNorm (free : List Bs) : List (Bs × Bs) → List Fm → List Fm
  | _, [] => []
  | ar, f :: fs => f.norm free ar :: fmsNorm free ar fs
end
def Fm.normal (f : Fm) : Fm := f.norm (f.free []) []
structure Sy where
  sort : UInt8
  name : Bs
  ar : Nat
deriving DecidableEq
def Sy.kind (s : Sy) : Bs := if s.sort = 117 then [117] else s.sort :: itoa (s.ar : Int)
def Sy.place (σ : List Sy) (s : Sy) : Nat := (σ.takeWhile (fun t => decide (t ≠ s))).countP (fun t => decide (t.kind = s.kind)) + 1
def Sy.told (σ : List Sy) (s : Sy) : Bs := s.kind ++ itoa (Sy.place σ s : Int)
def Sy.add (σ : List Sy) (s : Sy) : List Sy := if s ∈ σ then σ else σ ++ [s]
def nameT (b : List Bs) (σ : List Sy) (v : Bool) (n : Bs) (k : Nat) : Bs × List Sy :=
  if v then (if n ∈ b then (n, σ) else (Sy.told σ ⟨117, n, 0⟩, Sy.add σ ⟨117, n, 0⟩)) else (Sy.told σ ⟨97, n, k⟩, Sy.add σ ⟨97, n, k⟩)
mutual
def Tm.told (b : List Bs) : List Sy → Tm → Tm × List Sy
  | σ, .mk v n ts => (.mk v (nameT b σ v n ts.length).1 (tmsTold b (nameT b σ v n ts.length).2 ts).1, (tmsTold b (nameT b σ v n ts.length).2 ts).2)
def tmsTold (b : List Bs) : List Sy → List Tm → List Tm × List Sy
  | σ, [] => ([], σ)
  | σ, t :: ts => ((t.told b σ).1 :: (tmsTold b (t.told b σ).2 ts).1, (tmsTold b (t.told b σ).2 ts).2)
end
def nameF (σ : List Sy) (op : Int) (n : Bs) (k : Nat) : Bs × List Sy := if op = 1 then (Sy.told σ ⟨80, n, k⟩, Sy.add σ ⟨80, n, k⟩) else (n, σ)
mutual
def Fm.told (b : List Bs) : List Sy → Fm → Fm × List Sy
  | σ, .mk op n ts fs => (.mk op (nameF σ op n ts.length).1 (tmsTold b (nameF σ op n ts.length).2 ts).1 (fmsTold b (tmsTold b (nameF σ op n ts.length).2 ts).2 fs).1, (fmsTold b (tmsTold b (nameF σ op n ts.length).2 ts).2 fs).2)
def fmsTold (b : List Bs) : List Sy → List Fm → List Fm × List Sy
  | σ, [] => ([], σ)
  | σ, f :: fs => ((f.told b σ).1 :: (fmsTold b (f.told b σ).2 fs).1, (fmsTold b (f.told b σ).2 fs).2)
end
def Fm.sk (σ : List Sy) (f : Fm) : Fm × List Sy := ((f.normal.told f.normal.binds σ).1.normal, (f.normal.told f.normal.binds σ).2)
def fmsSk : List Sy → List Fm → List Fm × List Sy
  | σ, [] => ([], σ)
  | σ, f :: fs => ((f.sk σ).1 :: (fmsSk (f.sk σ).2 fs).1, (fmsSk (f.sk σ).2 fs).2)
def skOf (L R : List Fm) : List Fm × List Fm := ((fmsSk [] L).1, (fmsSk (fmsSk [] L).2 R).1)

/- Names. -/
theorem itoa_len16 {n : Nat} (h : n ≤ 10000000) : (itoa (n : Int)).length ≤ 8 := by
  rw [itoa_nat]
  have key : ∀ (k m : Nat), m < 10 ^ (k + 1) → (decDigits m).length ≤ k + 1 := by
    intro k
    induction k with
    | zero => intro m hm; rw [decDigits, dif_pos (by omega)]; simp
    | succ k ih =>
      intro m hm
      rw [decDigits]
      split
      · simp
      · have := ih (m / 10) (by rw [Nat.pow_succ] at hm; omega)
        simp; omega
  exact key 7 n (by omega)
theorem digit_of {c : UInt8} (h : 48 ≤ c.toNat ∧ c.toNat ≤ 57) : digit c = true := by
  simp [digit, UInt8.le_iff_toNat_le, h.1, h.2]
theorem itoa_all (n : Nat) : (itoa (n : Int)).all digit = true := by
  rw [List.all_eq_true]; exact fun c hc => digit_of (itoa_digit (by omega) c hc)
theorem not_reserved {c : UInt8} {d : Bs} (hd : d ≠ []) (h : d.all digit = true) : reserved (c :: d) = false := by
  match d, hd with
  | x :: r, _ =>
    have hx : digit x = true := by simp at h; exact h.1
    have hx2 : x.toNat ≤ 57 := by simp [digit, UInt8.le_iff_toNat_le] at hx; exact hx.2
    have : ∀ y : UInt8, 58 ≤ y.toNat → x ≠ y := fun y hy e => by subst e; omega
    simp [reserved, wAll, wSome, wFalse, wNext, wAlways, wUntil, this 108 (by decide), this 111 (by decide), this 97 (by decide), this 101 (by decide), this 110 (by decide)]
theorem checker_num {first other : UInt8 → Bool} {c : UInt8} {d : Bs} (hf : first c = true) (ho : ∀ x, digit x = true → other x = true) (hd : d ≠ []) (h : d.all digit = true) (hl : d.length ≤ 15) : checker first other (c :: d) = true := by
  show (decide (d.length + 1 ≤ 16) && !reserved (c :: d) && first c && d.all other) = true
  rw [not_reserved hd h, hf]
  have : d.all other = true := by rw [List.all_eq_true] at h ⊢; exact fun x hx => ho x (h x hx)
  simp [this]; omega
theorem alnum_digit (x : UInt8) (h : digit x = true) : alnum x = true := by simp [alnum, h]
theorem var_xN {n : Nat} (h : n ≤ 10000000) : varName (xN n) = true :=
  checker_num (by decide) (fun _ h => h) itoa_ne (itoa_all n) (by have := itoa_len16 h; omega)
theorem xN_inj {n m : Nat} (h : xN n = xN m) : n = m := by
  unfold xN at h
  have := itoa_inj (by omega) (by omega) (List.cons.inj h).2
  omega
theorem nodup_sub : ∀ (l t : List Bs), l.Nodup → (∀ x ∈ l, x ∈ t) → l.length ≤ t.length
  | [], _, _, _ => Nat.zero_le _
  | x :: l, t, hn, h => by
    obtain ⟨h1, h2⟩ := List.nodup_cons.1 hn
    have hx : x ∈ t := h x (by simp)
    have := nodup_sub l (t.erase x) h2 fun y hy => (List.mem_erase_of_ne (fun (e : y = x) => h1 (e ▸ hy))).2 (h y (by simp [hy]))
    rw [List.length_erase_of_mem hx] at this
    have := List.length_pos_of_mem hx
    simp; omega
theorem nodup_xN : ∀ (k n : Nat), ((List.range' n k).map xN).Nodup
  | 0, _ => by simp
  | k + 1, n => by
    rw [List.range'_succ, List.map_cons, List.nodup_cons]
    refine ⟨fun h => ?_, nodup_xN k (n + 1)⟩
    obtain ⟨i, hi, e⟩ := List.mem_map.1 h
    rw [List.mem_range'_1] at hi
    have := xN_inj e
    omega
theorem leastFrom_le (taken : List Bs) : ∀ (k n : Nat), n ≤ leastFrom taken k n ∧ leastFrom taken k n ≤ n + k
  | 0, n => ⟨Nat.le_refl _, Nat.le_refl _⟩
  | k + 1, n => by
    unfold leastFrom
    have := leastFrom_le taken k (n + 1)
    split <;> omega
theorem leastFrom_below (taken : List Bs) : ∀ (k n i : Nat), n ≤ i → i < leastFrom taken k n → xN i ∈ taken
  | 0, n, i, h, h1 => by unfold leastFrom at h1; omega
  | k + 1, n, i, h, h1 => by
    unfold leastFrom at h1
    split at h1
    · rename_i h2
      rcases Nat.lt_or_eq_of_le h with h3 | rfl
      · exact leastFrom_below taken k (n + 1) i h3 h1
      · exact h2
    · omega
theorem leastN_new (taken : List Bs) : xN (leastN taken) ∉ taken := by
  have key : ∀ (k n : Nat), xN (leastFrom taken k n) ∈ taken → leastFrom taken k n = n + k := by
    intro k
    induction k with
    | zero => intro n _; rfl
    | succ k ih =>
      intro n h
      unfold leastFrom at h ⊢
      split
      · rename_i h2
        rw [if_pos h2] at h
        rw [ih (n + 1) h]; omega
      · rename_i h2
        rw [if_neg h2] at h; exact absurd h h2
  intro h
  have e := key _ _ h
  have sub : ∀ x ∈ (List.range' 1 (taken.length + 1)).map xN, x ∈ taken := by
    intro x hx
    obtain ⟨i, hi, rfl⟩ := List.mem_map.1 hx
    rw [List.mem_range'_1] at hi
    exact leastFrom_below taken (taken.length + 1) 1 i hi.1 (by omega)
  have := nodup_sub _ _ (nodup_xN _ _) sub
  simp at this
  omega
theorem leastN_below (taken : List Bs) (i : Nat) (h : 1 ≤ i) (h1 : i < leastN taken) : xN i ∈ taken := leastFrom_below taken _ 1 i h h1
theorem leastN_pos (taken : List Bs) : 1 ≤ leastN taken := (leastFrom_le taken _ 1).1
theorem leastN_le (taken : List Bs) : leastN taken ≤ taken.length + 2 := by have := (leastFrom_le taken (taken.length + 1) 1).2; unfold leastN; omega
theorem var_least {taken : List Bs} (h : taken.length ≤ 1000000) : varName (least taken) = true := var_xN (by have := leastN_le taken; omega)
end Ly
