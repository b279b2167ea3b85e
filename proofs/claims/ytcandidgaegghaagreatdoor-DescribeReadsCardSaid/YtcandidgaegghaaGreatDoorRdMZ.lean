/- describe.readLine at the line of a step with premises: the rounds of its two loops. Conditions: none but those of each statement. -/
import Derived.Test.YtcandidgaegghaaGreatDoorRdLZ
import Derived.Sort.CutIn
import Derived.Test.YtcandidgaegghaaGreatDoorModBZ
namespace Go
theorem wpListIn_append_own_at {F : Fence} {n : Nat} {P : Program} (w : World) {ops : Array Oper} {rest : List Oper} {o : Oper} {a : Act} {Q : Exit → Act → World → Prop}
    (hg : o.guard = none) (s x : Operand) (t : TypeId) (hop : o.op = Op.call { callee := Callee.builtin Builtin.append, args := #[s, x], argTypes := #[t, t] })
    (base : Nat) (e : TypeId) (i : TypeInfo) (z : Value) (size bytes : Nat) (h1 : P.underlying t = some (.slice e)) (h2 : P.info? e = some i) (h3 : i.zero = some z) (h4 : i.size = size) (h5 : i.bytes = bytes) (h6 : z.cells.size = size) (h7 : 0 < size)
    (v : Value) (k : Nat) (xs : List Value) (hs : a.eval s = v) (hown : w.ownsRow base e size v k xs) (ad : Addr) (m c : Nat) (news : List Value) (hx : a.eval x = .slice (some ad) m c) (hn : news.length = m * size)
    (hc : ∀ j u, news[j]? = some u → w.cell? (ad.add j) = some u) (h1c : ∀ u ∈ news, u.oneCell' = true) (b1 : k + m ≤ maxLen) (b2 : (k + m) * bytes ≤ 140737488355328) (b3 : base ≤ w.heap.size)
    (hK : ∀ v' w', w'.ownsRow base e size v' (k + m) (xs ++ news) → w.grownBy w' v.ownBlock → (v'.ownBlock = v.ownBlock ∨ v'.ownBlock = some w.heap.size) → wpListIn F n P ops Q rest (a.put o.dst v') w') :
    wpListIn F n P ops Q (o :: rest) a w := by
  refine wpListIn_plain hg fun K hK' => ?_
  obtain ⟨v', w', hrun, r1, r2, r3, r4⟩ := run_append_own_at (P := P) w base t o.type e i z size bytes h1 h2 h3 h4 h5 h6 h7 v k xs hown ad m c news hn hc h1c b1 b2 b3
  unfold Oper.wpIn
  refine ⟨?_, ?_⟩
  · simp [Oper.about, hop, resolve, Target.leads, Sem.run_pure]
  · rw [Oper.semAt_plain F _ _ (by rw [hop]; intro c hc'; cases hc')]
    simp [execOp, hop, resolve, invoke, builtin, hs, hx, hrun, Result.andThen]
    exact hK' _ _ (hK v' w' r1 r2 r4)
end Go
namespace Go.Proofs.YtcandidgaegghaaGreatDoor
open Go Go.RowKit Ly
set_option maxRecDepth 10000
set_option linter.unusedSimpArgs false
set_option linter.unusedVariables false
theorem ownsRow_turned {A W : World} {B size n : Nat} {e : TypeId} {v : Value} {xs : List Value} (h : A.ownsRow B e size v n xs) (k : ∀ i o, B ≤ i → A.heap[i]? = some o → o.isCells = true → W.heap[i]? = some o) : W.ownsRow B e size v n xs := by
  refine ⟨h.1, ?_⟩
  rcases h.2 with h1 | ⟨g, cap, cur, h1, hb, hg, h2⟩
  · exact .inl h1
  · exact .inr ⟨g, cap, cur, h1, hb, k g _ hb hg rfl, h2⟩
theorem info3z' : (Tryz.prog.info? 3).map (fun i => (i.zero, i.size, i.bytes)) = some (some (.int .i64 0), 1, 8) := by kernel_rfl
/- The loop over a premise's marks. -/
structure LJ (A : World) (gl : Nat) (L : List Int) (la : Option Addr) (ln lc : Nat) (W : World) : Prop where
  os : W.os = A.os
  tape : W.tape = A.tape
  output : W.output = A.output
  sz : A.heap.size + 3 ≤ W.heap.size
  old : ∀ i, i < A.heap.size → i ≠ gl → W.heap[i]? = A.heap[i]?
  cell : W.heap[gl]? = some (.cells #[.slice la ln lc] 29 (0, 0))
  own : W.ownsRow (A.heap.size + 3) 3 1 (.slice la ln lc) L.length (L.map fun z => .int .i64 z)
theorem LJ.turned {A X W : World} {gl : Nat} {L : List Int} {la : Option Addr} {ln lc : Nat} (hgl : gl < A.heap.size) (h : LJ A gl L la ln lc X) (hs : X.heap.size ≤ W.heap.size) (ho : W.os = X.os) (ht : W.tape = X.tape) (hu : W.output = X.output)
    (k1 : ∀ i, i < A.heap.size → W.heap[i]? = X.heap[i]?) (k2 : ∀ i o, A.heap.size + 3 ≤ i → X.heap[i]? = some o → o.isCells = true → W.heap[i]? = some o) : LJ A gl L la ln lc W :=
  ⟨ho.trans h.os, ht.trans h.tape, hu.trans h.output, Nat.le_trans h.sz hs, fun i hi hn => (k1 i hi).trans (h.old i hi hn), (k1 gl hgl).trans h.cell, ownsRow_turned h.own k2⟩
theorem LJ.below {A X W : World} {gl : Nat} {L : List Int} {la : Option Addr} {ln lc : Nat} (hgl : gl < A.heap.size) (h : LJ A gl L la ln lc X) (b : Below X.heap.size X W) : LJ A gl L la ln lc W :=
  h.turned hgl b.size b.os b.tape b.output (fun i hi => b.block i (by have := h.sz; omega)) (fun i o _ hi _ => (b.block i (Array.getElem?_eq_some_iff.1 hi).1).trans hi)
theorem LJ.lets {A : World} {gl B c : Nat} {m : List Int} (hgl : gl < A.heap.size) (hB : B = A.heap.size + 3) (hc : c = A.heap.size) : Lets B c (fun (pre : List Bs) W => ∃ la ln lc, LJ A gl (m.take pre.length) la ln lc W) := by
  rintro s X W row ⟨la, ln, lc, h⟩ hg hr
  refine ⟨la, ln, lc, h.turned hgl hg.size hg.os hg.tape hg.output (fun i hi => hg.block i (by have := h.sz; omega) fun e => ?_) fun i o hi ho hcells => (hg.block i (Array.getElem?_eq_some_iff.1 ho).1 fun e => ?_).trans ho⟩
  · rcases hr i e.symm with h1 | ⟨h1, _⟩ <;> omega
  · rcases hr i e.symm with h1 | ⟨h1, o', h2, h3⟩
    · omega
    · rw [ho] at h2; cases h2; rw [hcells] at h3; cases h3
theorem LJ.new {A : World} {gl : Nat} (hgl : gl < A.heap.size) (h : A.heap[gl]? = some (.cells #[.slice none 0 0] 29 (0, 0))) {W : World} (b : Below A.heap.size A W) (hs : A.heap.size + 3 ≤ W.heap.size) : LJ A gl [] none 0 0 W :=
  ⟨b.os, b.tape, b.output, hs, fun i hi _ => b.block i hi, (b.block _ hgl).trans h, World.ownsRow_nil _ _ _ _⟩
/-- One mark more. -/
theorem LJ.step {A W w1 w5 : World} {gl c B : Nat} {L : List Int} {la : Option Addr} {ln lc : Nat} {z : Int} {v' : Value} {o : Obj} (hgl : gl < A.heap.size) (hB : B = A.heap.size + 3) (hcc : c = A.heap.size) (h1 : 1 < A.heap.size) (h1' : gl ≠ 1) (h : LJ A gl L la ln lc W) (b : Below W.heap.size W w1)
    (h5 : w5.ownsRow (A.heap.size + 3) 3 1 v' (L.length + 1) ((L.map fun z => Value.int .i64 z) ++ [.int .i64 z])) (hg : (w1.alloc o).grownBy w5 (Value.slice la ln lc).ownBlock) (hat : v'.ownBlock = (Value.slice la ln lc).ownBlock ∨ v'.ownBlock = some (w1.alloc o).heap.size) {W2 : World} (hW : W2 = w5.setCell ⟨gl, 0, none⟩ v') :
    KeepsFrom B W W2 ∧ SeqKp c W W2 ∧ ∃ la ln lc, LJ A gl (L ++ [z]) la ln lc W2 := by
  subst hB hcc
  have lt := h.own.lt
  have hsz := h.sz
  have bs := b.size
  have gs := hg.size
  simp only [World.size_alloc] at gs
  have ba := (Below.refl _ w1).alloc (Nat.le_refl _) o
  have low : ∀ i, i < W.heap.size → i ≠ gl → (Value.slice la ln lc).ownBlock ≠ some i → W2.heap[i]? = W.heap[i]? := fun i hi hn hv => by
    rw [hW, Below.heap_setCell _ _ _ _ hn, hg.block i (by simp; omega) (fun e => hv e.symm), ba.block i (by omega), b.block i hi]
  have lowA : ∀ i, i < A.heap.size + 3 → i ≠ gl → W2.heap[i]? = W.heap[i]? := fun i hi hn => low i (by omega) hn (fun e => by have := lt i e; omega)
  obtain ⟨va, vc, rfl⟩ := row_form h5
  have g5 : w5.heap[gl]? = some (.cells #[.slice la ln lc] 29 (0, 0)) := by
    rw [hg.block gl (by simp; omega) (fun e => by have := lt gl e.symm; omega), ba.block gl (by omega), b.block gl (by omega)]
    exact h.cell
  have s2 : W2.heap.size = w5.heap.size := by rw [hW]; simp
  have r2 : W2.os = w5.os ∧ W2.tape = w5.tape ∧ W2.output = w5.output := by rw [hW]; exact setCell_rest _ _ _
  refine ⟨⟨by omega, fun i ob hi ho hcells => ?_⟩, fun i hi => ?_, va, L.length + 1, vc, ?_⟩
  · rw [low i (Array.getElem?_eq_some_iff.1 ho).1 (by omega) (fun e => ?_)]
    · exact ho
    · rcases h.own.2 with ⟨h1, _⟩ | ⟨g, cap, cur, h1, _, h3, _⟩
      · rw [h1] at e; cases e
      · rw [h1] at e; cases e
        rw [ho] at h3; cases h3; cases hcells
  · exact lowA i (by omega) (by omega)
  · refine ⟨?_, ?_, ?_, by omega, fun i hi hn => (lowA i (by omega) hn).trans (h.old i hi hn), ?_, ?_⟩
    · rw [r2.1, hg.os]; exact b.os.trans h.os
    · rw [r2.2.1, hg.tape]; exact b.tape.trans h.tape
    · rw [r2.2.2, hg.output]; exact b.output.trans h.output
    · rw [hW]
      have k : ∀ W : World, W.heap[gl]? = some (.cells #[.slice la ln lc] 29 (0, 0)) → (W.setCell ⟨gl, 0, none⟩ (.slice va (L.length + 1) vc)).heap[gl]? = some (.cells #[.slice va (L.length + 1) vc] 29 (0, 0)) := fun W h => set_block h
      exact k _ g5
    · rw [List.length_append, List.map_append]
      exact ownsRow_turned h5 fun i ob hi ho _ => by rw [hW, Below.heap_setCell _ _ _ _ (by show i ≠ gl; omega)]; exact ho
theorem LJ.put {A W w1 : World} {gl c B : Nat} {L : List Int} {la : Option Addr} {ln lc : Nat} {z : Int} {o : Obj} (hgl : gl < A.heap.size) (hB : B = A.heap.size + 3) (hcc : c = A.heap.size) (h1 : 1 < A.heap.size) (h1' : gl ≠ 1) (h : LJ A gl L la ln lc W) (b : Below W.heap.size W w1) :
    (w1.alloc o).ownsRow (A.heap.size + 3) 3 1 (.slice la ln lc) L.length (L.map fun z => .int .i64 z) ∧ ∀ v' w5, w5.ownsRow (A.heap.size + 3) 3 1 v' (L.length + 1) ((L.map fun z => Value.int .i64 z) ++ [.int .i64 z]) → (w1.alloc o).grownBy w5 (Value.slice la ln lc).ownBlock →
      (v'.ownBlock = (Value.slice la ln lc).ownBlock ∨ v'.ownBlock = some (w1.alloc o).heap.size) →
      w5.cell? ⟨gl, 0, none⟩ = some (.slice la ln lc) ∧ w5.frozen? ⟨gl, 0, none⟩ = false ∧
      ∀ W2, W2 = w5.setCell ⟨gl, 0, none⟩ v' → KeepsFrom B W W2 ∧ SeqKp c W W2 ∧ ∃ la ln lc, LJ A gl (L ++ [z]) la ln lc W2 := by
  refine ⟨(h.below hgl b).own.alloc o, fun v' w5 h5 hg hat => ?_⟩
  have lt := h.own.lt
  have hsz := h.sz
  have bs := b.size
  have g5 : w5.heap[gl]? = some (.cells #[.slice la ln lc] 29 (0, 0)) := by
    rw [hg.block gl (by simp; omega) (fun e => by have := lt gl e.symm; omega), Below.heap_alloc w1 o gl (by omega), b.block gl (by omega)]
    exact h.cell
  exact ⟨(box_cell g5 0).trans rfl, by simp [World.frozen?, g5], fun W2 hW => h.step hgl hB hcc h1 h1' b h5 hg hat hW⟩
theorem LJ.bw {B A W : World} {gl : Nat} {L : List Int} {la : Option Addr} {ln lc : Nat} (h : LJ A gl L la ln lc W) (b : Below B.heap.size B A) (hgl : B.heap.size ≤ gl) : Below B.heap.size B W :=
  ⟨h.os.trans b.os, h.tape.trans b.tape, h.output.trans b.output, Nat.le_trans b.size (by have := h.sz; omega), fun i hi => (h.old i (by have := b.size; omega) (by omega)).trans (b.block i hi)⟩
theorem LJ.count {A W : World} {gl : Nat} {L : List Int} {la : Option Addr} {ln lc : Nat} (h : LJ A gl L la ln lc W) : ln = L.length := by
  obtain ⟨a, c, e⟩ := row_form h.own
  cases e; rfl
theorem LJ.marks {A W : World} {gl n : Nat} {L : List Int} {la : Option Addr} {ln lc : Nat} (h : LJ A gl L la ln lc W) (hn : n ≤ A.heap.size + 3) : At (hide (fun k => decide (k < n)) W) (marksD L) (.slice la ln lc) := by
  have lt := h.own.lt
  have O : OwnDs (fun k => decide (k < n)) (A.heap.size + 3) W 3 1 L.length (L.map intD) (.slice la ln lc) := by
    refine ⟨_, h.own, by simp, fun j d hd => ?_⟩
    rw [List.getElem?_map] at hd
    obtain ⟨z, hz, rfl⟩ := Option.map_eq_some_iff.1 hd
    exact ⟨.int .i64 z, by rw [List.getElem?_map, hz]; rfl, rfl⟩
  exact O.at (fun k hk => by simp; omega)
/- The loop over the premises. -/
structure LI (A : World) (g : Nat) (x0 x1 x2 x3 x4 x5 x6 : Value) (L : List (List Int)) (va : Option Addr) (vn vc : Nat) (W : World) : Prop where
  os : W.os = A.os
  tape : W.tape = A.tape
  output : W.output = A.output
  sz : A.heap.size + 3 ≤ W.heap.size
  old : ∀ i, i < A.heap.size → i ≠ g → W.heap[i]? = A.heap[i]?
  cell : W.heap[g]? = some (.cells #[x0, x1, x2, x3, x4, x5, x6, .slice va vn vc] 53 (0, 0))
  own : OwnDs (fun k => decide (k < A.heap.size + 3)) (A.heap.size + 3) W 29 1 L.length (L.map marksD) (.slice va vn vc)
section
variable {A X W : World} {g : Nat} {x0 x1 x2 x3 x4 x5 x6 : Value} {L : List (List Int)} {va : Option Addr} {vn vc : Nat}
theorem LI.turned (hg : g < A.heap.size) (h : LI A g x0 x1 x2 x3 x4 x5 x6 L va vn vc X) (hs : X.heap.size ≤ W.heap.size) (ho : W.os = X.os) (ht : W.tape = X.tape) (hu : W.output = X.output)
    (k1 : ∀ i, i < A.heap.size → W.heap[i]? = X.heap[i]?) (k2 : ∀ i o, A.heap.size + 3 ≤ i → X.heap[i]? = some o → o.isCells = true → W.heap[i]? = some o) : LI A g x0 x1 x2 x3 x4 x5 x6 L va vn vc W :=
  ⟨ho.trans h.os, ht.trans h.tape, hu.trans h.output, Nat.le_trans h.sz hs, fun i hi hn => (k1 i hi).trans (h.old i hi hn), (k1 g hg).trans h.cell, h.own.turned (fun k hk => by have := (own_lt h.own k hk).1; simp; omega) (fun i o hi ho hc => k2 i o (by simpa using hi) ho hc)⟩
theorem LI.below (hg : g < A.heap.size) (h : LI A g x0 x1 x2 x3 x4 x5 x6 L va vn vc X) (b : Below X.heap.size X W) : LI A g x0 x1 x2 x3 x4 x5 x6 L va vn vc W :=
  h.turned hg b.size b.os b.tape b.output (fun i hi => b.block i (by have := h.sz; omega)) (fun i o _ hi _ => (b.block i (Array.getElem?_eq_some_iff.1 hi).1).trans hi)
theorem LI.lets {B c : Nat} {ms : List (List Int)} (hgl : g < A.heap.size) (hB : B = A.heap.size + 3) (hc : c = A.heap.size) : Lets B c (fun (pre : List Bs) W => ∃ va vn vc, LI A g x0 x1 x2 x3 x4 x5 x6 (ms.take pre.length) va vn vc W) := by
  rintro s X W row ⟨la, ln, lc, h⟩ hg hr
  refine ⟨la, ln, lc, h.turned hgl hg.size hg.os hg.tape hg.output (fun i hi => hg.block i (by have := h.sz; omega) fun e => ?_) fun i o hi ho hcells => (hg.block i (Array.getElem?_eq_some_iff.1 ho).1 fun e => ?_).trans ho⟩
  · rcases hr i e.symm with h1 | ⟨h1, _⟩ <;> omega
  · rcases hr i e.symm with h1 | ⟨h1, o', h2, h3⟩
    · omega
    · rw [ho] at h2; cases h2; rw [hcells] at h3; cases h3
theorem LI.new (hgl : g < A.heap.size) (h : A.heap[g]? = some (.cells #[x0, x1, x2, x3, x4, x5, x6, .slice none 0 0] 53 (0, 0))) (b : Below A.heap.size A W) (hs : A.heap.size + 3 ≤ W.heap.size) : LI A g x0 x1 x2 x3 x4 x5 x6 [] none 0 0 W :=
  ⟨b.os, b.tape, b.output, hs, fun i hi _ => b.block i hi, (b.block _ hgl).trans h, OwnDs.nil _ _ _ _ _⟩
theorem row_fill7 {W : World} {g : Nat} {y z0 z1 z2 z3 z4 z5 z6 z7 : Value} (h : W.heap[g]? = some (.cells #[z0, z1, z2, z3, z4, z5, z6, z7] 53 (0, 0))) :
    (W.setCell ⟨g, 7, none⟩ y).heap[g]? = some (.cells #[z0, z1, z2, z3, z4, z5, z6, y] 53 (0, 0)) := by
  have h0 := set_block (o := 7) (u := y) h
  simp only [List.setIfInBounds_toArray, List.set_cons_zero, List.set_cons_succ] at h0
  exact h0
/-- One premise more: its marks are put at the end of the list. -/
theorem LI.step {w1 : World} {c B : Nat} {m : List Int} {la : Option Addr} {ln lc : Nat} (hgl : g < A.heap.size) (hB : B = A.heap.size + 3) (hcc : c = A.heap.size) (h1 : 1 < A.heap.size) (h1' : g ≠ 1) (h : LI A g x0 x1 x2 x3 x4 x5 x6 L va vn vc W) (b : Below W.heap.size W w1)
    (hm : At (hide (fun k => decide (k < W.heap.size)) w1) (marksD m) (.slice la ln lc)) :
    ∃ xs, (w1.alloc (.cells #[.slice la ln lc] 29)).ownsRow (A.heap.size + 3) 29 1 (.slice va vn vc) L.length xs ∧ ∀ v' w5, w5.ownsRow (A.heap.size + 3) 29 1 v' (L.length + 1) (xs ++ [.slice la ln lc]) → (w1.alloc (.cells #[.slice la ln lc] 29)).grownBy w5 (Value.slice va vn vc).ownBlock →
      (v'.ownBlock = (Value.slice va vn vc).ownBlock ∨ v'.ownBlock = some (w1.alloc (.cells #[.slice la ln lc] 29)).heap.size) →
      w5.cell? ⟨g, 7, none⟩ = some (.slice va vn vc) ∧ w5.frozen? ⟨g, 7, none⟩ = false ∧
      ∀ W2, W2 = w5.setCell ⟨g, 7, none⟩ v' → KeepsFrom B W W2 ∧ SeqKp c W W2 ∧ ∃ va vn vc, LI A g x0 x1 x2 x3 x4 x5 x6 (L ++ [m]) va vn vc W2 := by
  subst hB hcc
  have lt := own_lt h.own
  have hsz := h.sz
  have bs := b.size
  have K : Keeps (hide (fun k => decide (k < W.heap.size)) w1) (hide (fun k => decide (k < A.heap.size + 3) || decide ((Value.slice va vn vc).ownBlock = some k)) w1) := hide_keeps2 fun k _ h2 => ⟨by
    simp only [decide_eq_false_iff_not, Nat.not_lt, Bool.or_eq_false_iff] at h2 ⊢
    exact ⟨by omega, fun e => by have := lt k e; omega⟩, rfl⟩
  obtain ⟨xs, ho, hf⟩ := own_put (ty := 29) h.own (fun k hk => by simp; omega) b (CellsAt.cons (At.keep K _ _ hm) (CellsAt.nil _))
  refine ⟨xs, ho, fun v' w5 h5 hg hat => ?_⟩
  have gs := hg.size
  simp only [World.size_alloc] at gs
  have ba := (Below.refl _ w1).alloc (Nat.le_refl _) (.cells #[.slice la ln lc] 29)
  have g5 : w5.heap[g]? = some (.cells #[x0, x1, x2, x3, x4, x5, x6, .slice va vn vc] 53 (0, 0)) := by
    rw [hg.block g (by simp; omega) (fun e => by have := lt g e.symm; omega)]
    exact (ba.block g (by omega)).trans ((b.block g (by omega)).trans h.cell)
  refine ⟨(row53 g5).2.2.2.2.2.2.2, (row53f g5).2.2.2.2.2.2.2, fun W2 hW => ?_⟩
  have low : ∀ i, i < W.heap.size → i ≠ g → (Value.slice va vn vc).ownBlock ≠ some i → W2.heap[i]? = W.heap[i]? := fun i hi hn hv => by
    rw [hW, Below.heap_setCell _ _ _ _ hn, hg.block i (by simp; omega) (fun e => hv e.symm)]
    exact (ba.block i (by omega)).trans (b.block i hi)
  have lowA : ∀ i, i < A.heap.size + 3 → i ≠ g → W2.heap[i]? = W.heap[i]? := fun i hi hn => low i (by omega) hn (fun e => by have := lt i e; omega)
  have O5 := hf v' w5 h5 hg hat
  obtain ⟨qa, qc, rfl⟩ := row_form h5
  have s2 : W2.heap.size = w5.heap.size := by rw [hW]; simp
  have r2 : W2.os = w5.os ∧ W2.tape = w5.tape ∧ W2.output = w5.output := by rw [hW]; exact setCell_rest _ _ _
  refine ⟨⟨by omega, fun i ob hi ho' hcells => ?_⟩, fun i hi => lowA i (by omega) (by omega), qa, L.length + 1, qc, ?_, ?_, ?_, by omega, fun i hi hn => (lowA i (by omega) hn).trans (h.old i hi hn), ?_, ?_⟩
  · rw [low i (Array.getElem?_eq_some_iff.1 ho').1 (by omega) (fun e => ?_)]
    · exact ho'
    · obtain ⟨ys, hy, _⟩ := h.own
      rcases hy.2 with ⟨h1, _⟩ | ⟨g', cap, cur, h1, _, h3, _⟩
      · rw [h1] at e; cases e
      · rw [h1] at e; cases e
        rw [ho'] at h3; cases h3; cases hcells
  · rw [r2.1, hg.os]; exact b.os.trans h.os
  · rw [r2.2.1, hg.tape]; exact b.tape.trans h.tape
  · rw [r2.2.2, hg.output]; exact b.output.trans h.output
  · rw [hW]; exact row_fill7 g5
  · rw [List.length_append, List.map_append]
    have lt5 := own_lt O5
    exact O5.turned (fun k hk => by have := (lt5 k hk).1; simp; omega) (fun i o hi ho _ => by rw [hW, Below.heap_setCell _ _ _ _ (by simp at hi; show i ≠ g; omega)]; exact ho)
theorem LI.lv {w : World} (h : LI A g x0 x1 x2 x3 x4 x5 x6 L va vn vc W) (Z : LV w A) (hg : w.heap.size + 1 + 1 < g) : LV w W := by
  have lt := (Array.getElem?_eq_some_iff.1 Z.c4).1
  have sz := h.sz
  exact ⟨⟨h.os.trans Z.bw.os, h.tape.trans Z.bw.tape, h.output.trans Z.bw.output, Nat.le_trans Z.bw.size (by omega), fun i hi => (h.old i (by omega) (by omega)).trans (Z.bw.block i hi)⟩, (h.old _ (by omega) (by omega)).trans Z.c2, (h.old _ (by omega) (by omega)).trans Z.c3, (h.old _ (by omega) (by omega)).trans Z.c4⟩
theorem LI.count (h : LI A g x0 x1 x2 x3 x4 x5 x6 L va vn vc W) : vn = L.length := by
  obtain ⟨xs, ho, _⟩ := h.own
  obtain ⟨a, c, e⟩ := row_form ho
  cases e; rfl
theorem LI.marks {p : Nat → Bool} (h : LI A g x0 x1 x2 x3 x4 x5 x6 L va vn vc W) (hp : ∀ k, A.heap.size + 3 ≤ k → p k = false) : MarksAt (hide p W) L (.slice va vn vc) := by
  have h1 := h.own.at (fun k hk => by simp; omega)
  unfold MarksAt
  refine At.keep (hide_keeps2 fun k _ h2 => ⟨?_, rfl⟩) _ _ h1
  exact hp k (by simpa using h2)
theorem LI.form {p : Nat → Bool} (h : LI A g x0 x1 x2 x3 x4 x5 x6 L va vn vc W) (hp : p g = true) : Keeps (hide p A) (hide p W) := hide_keeps2 fun k h1 h2 => ⟨h2, h.old k h1 (fun e => by rw [e, hp] at h2; cases h2)⟩
theorem line_put {w U : World} {q : Pf} {n D : Nat} {e : Ending} (h : RetLine q n w e U) (hD : w.heap.size ≤ D) (hK : U.heap[D]? = some (.deferred (some []))) : RetLine q n w e (U.putObj D (.deferred none)) := by
  obtain ⟨v, e1, hv, b⟩ := h
  refine ⟨v, e1, PfVal.keep hv fun a u hu => ?_, ⟨b.os, b.tape, b.output, by simpa using b.size, fun i hi => ?_⟩⟩
  · have h1 := hide_none hu
    rw [hide_cell h1] at hu ⊢
    obtain ⟨o, h2, h3⟩ := cells_of_cell hu
    rw [← hu]
    exact World.cell?_of_block (World.putObj_heap_other fun e => by rw [e, hK] at h2; cases h2; cases h3)
  · rw [World.putObj_heap_other (by omega)]; exact b.block i hi
end
end Go.Proofs.YtcandidgaegghaaGreatDoor
