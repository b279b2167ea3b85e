/- describe.Read at the text of a right formula; describe.ReadClaim at the text of a claim of right formulas. Conditions: those of each statement; the program's tables (rows, MaxLen) lie as laid. -/
import Derived.Test.YtcandidgaegghaaGreatDoorBuiltBZ
import Derived.Test.YtcandidgaegghaaGreatDoorClaim
import Derived.Test.YtcandidgaegghaaGreatDoorAwakeZ
namespace Go.Proofs.YtcandidgaegghaaGreatDoor
open Go Go.RowKit Ly
set_option maxRecDepth 10000
set_option linter.unusedSimpArgs false
set_option linter.unusedVariables false
attribute [local go_sem] Oper.semAt_some
/- Plain: the text of a right formula is read as the formula. -/
theorem readPR_text {f : Fm} (h : f.right = true) : readPR f.text = .good f [] := by
  have ok := ok_of_right h
  have hs := split_text f ok
  have hp : pForm (3 * f.toks.length + 1) f.toks = .good f [] := by
    have := pForm_ok (3 * f.toks.length + 1) f [] ok notOf_nil (by simp)
    simpa using this
  have hne : f.text ≠ [] := fun e => by
    rw [e] at hs
    have h1 : f.toks = [[]] := hs.symm.trans (by decide +kernel)
    rw [h1] at hp
    have h2 : pForm (3 * [([] : Bs)].length + 1) [[]] = .bad [[]] := by kernel_rfl
    rw [h2] at hp
    cases hp
  unfold readPR wordsOf
  rw [if_neg hne, hs]
  exact hp
/-- What Read answers to the text of a right formula: the formula, in new memory. -/
def RetRead (f : Fm) (w : World) (e : Ending) (w' : World) : Prop := ∃ a n c b m d, e = .returned (.tuple #[.agg #[.int .u8 f.op, str f.name, .slice a n c, .slice b m d], .int .i64 0, .int .i64 0]) ∧ TmsAt (hide (lo w) w') f.args (.slice a n c) ∧ FmsAt (hide (lo w) w') f.sub (.slice b m d) ∧ Below w.heap.size w w'
theorem Read_yes (f : Fm) (h : f.right = true) (w : World) (hm : MaxAt w) (rows : RowsAt w) : Calls Tryz.prog 43 #[str f.text] w (RetRead f w) := by
  have hp := readPR_text h
  refine (Read_c f.text (by have := (right_len h).2; omega) (fun g e => by rw [hp] at e; cases e; exact h) w hm rows).mono fun e w' ⟨hb, ha⟩ => ?_
  rcases ha with ⟨g, v, e1, e2, a, n, c, b, m, d, e3, h1, h2⟩ | ⟨r, e1, _⟩
  · rw [hp] at e1
    cases e1
    subst e3
    exact ⟨a, n, c, b, m, d, e2, h1, h2, hb⟩
  · rcases e1 with e1 | ⟨g, e1, e2⟩
    · rw [hp] at e1; cases e1
    · rw [hp] at e1; cases e1; exact absurd rfl e2
/- The two lists of a claim, each of the call's own. -/
def pOf (B : Nat) (v : Value) : Nat → Bool := fun k => decide (k < B) || decide (v.ownBlock = some k)
structure CL (B : Nat) (X Y : List Fm) (vx vy : Value) (W : World) : Prop where
  ox : OwnDs (pOf B vy) B W 25 4 X.length (fmsDs X) vx
  oy : OwnDs (pOf B vx) B W 25 4 Y.length (fmsDs Y) vy
  ne : ∀ g, vx.ownBlock = some g → vy.ownBlock ≠ some g
theorem CL.nil (B : Nat) (W : World) : CL B [] [] (.slice none 0 0) (.slice none 0 0) W := ⟨OwnDs.nil _ _ _ _ _, OwnDs.nil _ _ _ _ _, fun g h => by cases h⟩
theorem OwnDs.turned {p : Nat → Bool} {B : Nat} {A W : World} {e : TypeId} {size n : Nat} {ds : List D} {v : Value} (h : OwnDs p B A e size n ds v) (hp : ∀ g, v.ownBlock = some g → p g = false)
    (k : ∀ i o, p i = false → A.heap[i]? = some o → o.isCells = true → W.heap[i]? = some o) : OwnDs p B W e size n ds v := by
  obtain ⟨xs, ho, hc⟩ := h
  refine ⟨xs, ⟨ho.1, ?_⟩, hc.keep fun a u hu => ?_⟩
  · rcases ho.2 with h1 | ⟨g, cap, cur, rfl, hb, hg, h1, h2, h3, h4⟩
    · exact .inl h1
    · exact .inr ⟨g, cap, cur, rfl, hb, k g _ (hp g rfl) hg rfl, h1, h2, h3, h4⟩
  · have h1 := hide_none hu
    rw [hide_cell h1] at hu ⊢
    obtain ⟨o, h2, h3⟩ := cells_of_cell hu
    have h4 := k a.block o (Bool.or_eq_false_iff.1 h1).1 h2 h3
    rw [← hu]
    exact World.cell?_of_block (h4.trans h2.symm)
theorem pOf_own {B : Nat} {A : World} {p : Nat → Bool} {e : TypeId} {size n : Nat} {ds : List D} {v u : Value} (h : OwnDs p B A e size n ds v) (ne : ∀ g, v.ownBlock = some g → u.ownBlock ≠ some g) : ∀ g, v.ownBlock = some g → pOf B u g = false := fun g hg => by
  have := own_lt h g hg
  unfold pOf
  rw [Bool.or_eq_false_iff, decide_eq_false_iff_not, decide_eq_false_iff_not]
  exact ⟨by omega, ne g hg⟩
theorem CL.turned {B : Nat} {X Y : List Fm} {vx vy : Value} {A W : World} (h : CL B X Y vx vy A) (k : ∀ i o, B ≤ i → A.heap[i]? = some o → o.isCells = true → W.heap[i]? = some o) : CL B X Y vx vy W :=
  ⟨h.ox.turned (pOf_own h.ox h.ne) fun i o hi => k i o (by simp only [pOf, Bool.or_eq_false_iff, decide_eq_false_iff_not] at hi; omega),
   h.oy.turned (pOf_own h.oy (fun g h1 h2 => h.ne g h2 h1)) fun i o hi => k i o (by simp only [pOf, Bool.or_eq_false_iff, decide_eq_false_iff_not] at hi; omega), h.ne⟩
theorem own_far2 {p p' : Nat → Bool} {base size n : Nat} {w w' : World} {e : TypeId} {ds : List D} {v : Value} (h : OwnDs p base w e size n ds v) (hb : ∀ g, v.ownBlock = some g → w'.heap[g]? = w.heap[g]?)
    (hk : ∀ k, k < w.heap.size → p k = false → v.ownBlock ≠ some k → p' k = false ∧ w'.heap[k]? = w.heap[k]?) : OwnDs p' base w' e size n ds v := by
  obtain ⟨xs, ho, hc⟩ := h
  refine ⟨xs, ⟨ho.1, ?_⟩, hc.keep (hide_keeps2 fun k h1 h2 => ?_)⟩
  · rcases ho.2 with h1 | ⟨g, cap, cur, rfl, h0, hg, h1, h2, h3, h4⟩
    · exact .inl h1
    · exact .inr ⟨g, cap, cur, rfl, h0, (hb g rfl).trans hg, h1, h2, h3, h4⟩
  · simp only [Bool.or_eq_false_iff, decide_eq_false_iff_not] at h2 ⊢
    have := hk k h1 h2.1 h2.2
    exact ⟨⟨this.1, h2.2⟩, this.2⟩
/-- One more formula on the first list. -/
theorem CL.put {B : Nat} {X Y : List Fm} {vx vy vx' : Value} {W1 W2 : World} {f : Fm} {a b : Option Addr} {n c m d : Nat} {xs : List Value} (h : CL B X Y vx vy W1)
    (hc : CellsAt (hide (fun k => pOf B vy k || decide (vx.ownBlock = some k)) W1) (fmsDs X) xs)
    (ht : TmsAt (hide (fun k => pOf B vy k || decide (vx.ownBlock = some k)) W1) f.args (.slice a n c)) (hs : FmsAt (hide (fun k => pOf B vy k || decide (vx.ownBlock = some k)) W1) f.sub (.slice b m d))
    (h2 : W2.ownsRow B 25 4 vx' (X.length + 1) (xs ++ [.int .u8 f.op, str f.name, .slice a n c, .slice b m d]))
    (hg : ∀ k, B ≤ k → k < W1.heap.size → vx.ownBlock ≠ some k → W2.heap[k]? = W1.heap[k]?) (hv : vx'.ownBlock = vx.ownBlock ∨ ∃ g, vx'.ownBlock = some g ∧ W1.heap.size ≤ g) : CL B (X ++ [f]) Y vx' vy W2 := by
  have hY := own_lt h.oy
  have ne' : ∀ g, vx'.ownBlock = some g → vy.ownBlock ≠ some g := fun g h1 h2 => by
    rcases hv with e | ⟨g', e, hl⟩
    · exact h.ne g (by rw [← e]; exact h1) h2
    · rw [e] at h1
      cases h1
      have := hY g h2
      omega
  have key : ∀ k, k < W1.heap.size → (pOf B vy k || decide (vx.ownBlock = some k)) = false → (pOf B vy k || decide (vx'.ownBlock = some k)) = false ∧ W2.heap[k]? = W1.heap[k]? := fun k hk hp => by
    simp only [pOf, Bool.or_eq_false_iff, decide_eq_false_iff_not] at hp ⊢
    refine ⟨⟨hp.1, fun e => ?_⟩, hg k (by omega) hk hp.2⟩
    rcases hv with e' | ⟨g', e', hl⟩
    · exact hp.2 (by rw [← e']; exact e)
    · rw [e'] at e; cases e; omega
  refine ⟨⟨_, by rw [List.length_append]; exact h2, ?_⟩, ?_, ne'⟩
  · have e : fmsDs (X ++ [f]) = fmsDs X ++ f.ds := by rw [fmsDs_append, show fmsDs [f] = f.ds by simp [fmsDs]]
    rw [e]
    exact (hc.append (fm_cells ht hs)).keep (hide_keeps2 key)
  · refine own_far2 h.oy (fun g hg' => hg g (hY g hg').1 (hY g hg').2 (fun e => h.ne g e hg')) fun k hk hp ho => ?_
    have := key k hk (by
      simp only [pOf, Bool.or_eq_false_iff, decide_eq_false_iff_not] at hp ⊢
      exact ⟨⟨hp.1, ho⟩, hp.2⟩)
    simp only [pOf, Bool.or_eq_false_iff, decide_eq_false_iff_not] at this ⊢
    exact ⟨⟨this.1.1.1, this.1.2⟩, this.2⟩
theorem cut_word (p t : Bs) (h : (32 : UInt8) ∉ p) : Lib.cut (p ++ [32] ++ t) [32] = (p, t, true) := cut_mid (index_sep (t := []) _ _ h)
theorem take_snoc {α : Type} {l : List α} {j : Nat} {x : α} (h : l[j]? = some x) : l.take (j + 1) = l.take j ++ [x] := by rw [List.take_add_one, h]; rfl
theorem row48' {w : World} {b : Nat} {x y : Value} (h : w.heap[b]? = some (.cells #[x, y] 48 (0, 0))) :
    w.cell? ⟨b, 0, none⟩ = some x ∧ w.cell? ⟨b, 1, none⟩ = some y ∧ w.frozen? ⟨b, 0, none⟩ = false ∧ w.frozen? ⟨b, 1, none⟩ = false :=
  ⟨(box_cell h 0).trans rfl, (box_cell h 1).trans rfl, by simp [World.frozen?, h], by simp [World.frozen?, h]⟩
theorem u48 : ∃ fs, Tryz.prog.underlying 48 = some (.struct fs) := ⟨_, Tryz.underlying48⟩
theorem i48 : (Tryz.prog.info? 48).map (·.size) = some 2 := by kernel_rfl
theorem res45 (tmps : Array Value) (w : World) (g h : Nat) (a b y : Value) (h2 : tmps.getD 2 undef = one g) (h3 : tmps.getD 3 undef = one h) (hg : w.heap[g]? = some (.cells #[a, b] 48 (0, 0))) (hh : w.heap[h]? = some (.cells #[y] 37 (0, 0))) :
    (results Tryz.f45 tmps).run Tryz.prog w = .ok (.tuple #[.agg #[a, b], y]) w := by
  obtain ⟨fs, h1⟩ := u48
  have e2 : tmps[2]?.getD undef = .pointer (some ⟨g, 0, none⟩) := by simpa using h2
  have e3 : tmps[3]?.getD undef = .pointer (some ⟨h, 0, none⟩) := by simpa using h3
  have c3 : w.cell? ⟨h, 0, none⟩ = some y := (row9 hh).1
  have l3 : (loadVar 37 ⟨h, 0, none⟩).run Tryz.prog w = .ok y w := by simp [loadVar, Tryz.isAgg37, go_sem, c3]
  simp [results, Tryz.results45, e2, e3, asAddr, run_loadVar_row w g 48 48 #[a, b] (0, 0) _ hg h1 rfl i48, l3]
/-- Between two rounds: k parts have been read. N0: the heap's end where the call began; its variables lie from there on. -/
structure CI (w : World) (G S : List Fm) (k : Nat) (va : Option Addr) (vn vc : Nat) (ua : Option Addr) (un uc : Nat) (W : World) : Prop where
  bw : Below w.heap.size w W
  c2 : W.heap[w.heap.size]? = some (.cells #[.slice none 0 0, .slice none 0 0] 48 (0, 0))
  c3 : W.heap[w.heap.size + 1]? = some (.cells #[.int .i64 0] 37 (0, 0))
  c4 : W.heap[w.heap.size + 1 + 1]? = some (.cells #[.slice va vn vc, .slice ua un uc] 48 (0, 0))
  cl : CL (w.heap.size + 6) (G.take k) (S.take (k - G.length)) (.slice va vn vc) (.slice ua un uc) W
  sz : w.heap.size + 6 ≤ W.heap.size
theorem CI.turned {w : World} {G S : List Fm} {k : Nat} {va : Option Addr} {vn vc : Nat} {ua : Option Addr} {un uc : Nat} {A W : World} (h : CI w G S k va vn vc ua un uc A) (hs : A.heap.size ≤ W.heap.size) (ho : W.os = A.os) (ht : W.tape = A.tape) (hu : W.output = A.output)
    (k1 : ∀ i, i < w.heap.size + 3 → W.heap[i]? = A.heap[i]?) (k2 : ∀ i o, w.heap.size + 6 ≤ i → A.heap[i]? = some o → o.isCells = true → W.heap[i]? = some o) : CI w G S k va vn vc ua un uc W :=
  ⟨⟨ho.trans h.bw.os, ht.trans h.bw.tape, hu.trans h.bw.output, Nat.le_trans h.bw.size hs, fun i hi => (k1 i (by omega)).trans (h.bw.block i hi)⟩, (k1 _ (by omega)).trans h.c2, (k1 _ (by omega)).trans h.c3, (k1 _ (by omega)).trans h.c4, h.cl.turned k2, Nat.le_trans h.sz hs⟩
theorem CI.below {w : World} {G S : List Fm} {k : Nat} {va : Option Addr} {vn vc : Nat} {ua : Option Addr} {un uc : Nat} {A W : World} (h : CI w G S k va vn vc ua un uc A) (b : Below A.heap.size A W) : CI w G S k va vn vc ua un uc W :=
  h.turned b.size b.os b.tape b.output (fun i hi => b.block i (by have := h.sz; omega)) (fun i o _ hi _ => (b.block i (Array.getElem?_eq_some_iff.1 hi).1).trans hi)
/-- Behind an append to one of the lists and the store of it into the claim: what is as it was. -/
structure Fin (n0 : Nat) (WA W2 : World) (vx vx' : Value) : Prop where
  os : W2.os = WA.os
  tape : W2.tape = WA.tape
  output : W2.output = WA.output
  size : WA.heap.size ≤ W2.heap.size
  same : ∀ i, i < WA.heap.size → vx.ownBlock ≠ some i → i ≠ n0 + 1 + 1 → W2.heap[i]? = WA.heap[i]?
  own : vx'.ownBlock = vx.ownBlock ∨ ∃ g, vx'.ownBlock = some g ∧ WA.heap.size ≤ g
theorem prefix_get {α : Type} {pre l : List α} {x : α} (h : pre ++ [x] <+: l) : l[pre.length]? = some x := by
  obtain ⟨t, rfl⟩ := h
  simp
theorem CI.lets {w : World} {G S : List Fm} {B c : Nat} (hB : B = w.heap.size + 6) (hc : c = w.heap.size + 3) : Lets B c (fun (pre : List Bs) W => ∃ va vn vc ua un uc, CI w G S pre.length va vn vc ua un uc W) := by
  rintro s A X row ⟨va, vn, vc, ua, un, uc, h⟩ hg hr
  refine ⟨va, vn, vc, ua, un, uc, h.turned hg.size hg.os hg.tape hg.output (fun i hi => hg.block i (by have := h.sz; omega) fun e => ?_) fun i o hi ho hcells => (hg.block i (Array.getElem?_eq_some_iff.1 ho).1 fun e => ?_).trans ho⟩
  · rcases hr i e.symm with h1 | ⟨h1, _⟩ <;> omega
  · rcases hr i e.symm with h1 | ⟨h1, o', h2, h3⟩
    · omega
    · rw [ho] at h2; cases h2; rw [hcells] at h3; cases h3
theorem split_le (s sep : Bs) (hn : sep ≠ []) : (Lib.split s sep).length ≤ s.length + 1 := by
  have h1 : 1 ≤ (⟨sep.toArray⟩ : ByteArray).size := by
    cases sep with
    | nil => exact absurd rfl hn
    | cons c t => simp [ByteArray.size]
  have h := congrArg List.length (splitB_sep s sep)
  simp only [List.length_map] at h
  rw [Lib.splitB_all _ h1 0 _ _ rfl] at h
  have := Lib.countB_le ⟨sep.toArray⟩ h1 _ ⟨s.toArray⟩ (Nat.le_refl _)
  simp [ByteArray.size] at this
  omega
theorem keeps_done {B : Nat} {W W' : World} (h : ∀ i o, B ≤ i → W.heap[i]? = some o → o.isCells = true → W'.heap[i]? = some o) : Keeps (hide (fun k => decide (k < B)) W) W' := fun a u hu => by
  have h1 := hide_none hu
  rw [hide_cell h1] at hu
  simp only [decide_eq_false_iff_not, Nat.not_lt] at h1
  obtain ⟨o, h2, h3⟩ := cells_of_cell hu
  rw [← hu]
  exact World.cell?_of_block ((h a.block o h1 h2 h3).trans h2.symm)
theorem OwnDs.whole {B : Nat} {W W' : World} {e : TypeId} {size n : Nat} {ds : List D} {v u : Value} (h : OwnDs (pOf B u) B W e size n ds v) (k : ∀ i o, B ≤ i → W.heap[i]? = some o → o.isCells = true → W'.heap[i]? = some o) : At W' (.sl size n ds) v := by
  have h1 : OwnDs (fun k => decide (k < B)) B W e size n ds v := own_far2 h (fun _ _ => rfl) fun i _ hp _ => ⟨by simp only [pOf, Bool.or_eq_false_iff] at hp; exact hp.1, rfl⟩
  exact At.keep (keeps_done k) _ _ (h1.at (fun i hi => by simp; omega))
end Go.Proofs.YtcandidgaegghaaGreatDoor
