/- describe.Read at the text of a right formula; describe.ReadClaim at the text of a claim of right formulas. Conditions: those of each statement; the program's tables (rows, MaxLen) lie as laid. -/
import Derived.Test.YtcandidgaegghaaGreatDoorBuiltBZ
import Derived.Test.YtcandidgaegghaaGreatDoorClaim
import Derived.Test.YtcandidgaegghaaGreatDoorAwakeZ
namespace Go.Proofs.YtcandidgaegghaaGreatDoor
open Go Go.RowKit Ly
set_option maxRecDepth 10000
set_option linter.unusedSimpArgs false
set_option linter.unusedVariables false
attribute [local go_sem] Oper.semAt_some
/- Plain: the text of a right formula is read as the formula. -/
theorem readPR_text {f : Fm} (h : f.right = true) : readPR f.text = .good f [] := by
  have ok := ok_of_right h
  have hs := split_text f ok
  have hp : pForm (3 * f.toks.length + 1) f.toks = .good f [] := by
    have := pForm_ok (3 * f.toks.length + 1) f [] ok notOf_nil (by simp)
    simpa using this
  have hne : f.text ≠ [] := fun e => by
    rw [e] at hs
    have h1 : f.toks = [[]] := hs.symm.trans (by decide +kernel)
    rw [h1] at hp
    have h2 : pForm (3 * [([] : Bs)].length + 1) [[]] = .bad [[]] := by kernel_rfl
    rw [h2] at hp
    cases hp
  unfold readPR wordsOf
  rw [if_neg hne, hs]
  exact hp
/-- What Read answers to the text of a right formula: the formula, in new memory. -/
def RetRead (f : Fm) (w : World) (e : Ending) (w' : World) : Prop := ∃ a n c b m d, e = .returned (.tuple #[.agg #[.int .u8 f.op, str f.name, .slice a n c, .slice b m d], .int .i64 0, .int .i64 0]) ∧ TmsAt (hide (lo w) w') f.args (.slice a n c) ∧ FmsAt (hide (lo w) w') f.sub (.slice b m d) ∧ Below w.heap.size w w'
theorem Read_yes (f : Fm) (h : f.right = true) (w : World) (hm : MaxAt w) (rows : RowsAt w) : Calls Tryz.prog 43 #[str f.text] w (RetRead f w) := by
  have hp := readPR_text h
  refine (Read_c f.text (by have := (right_len h).2; omega) (fun g e => by rw [hp] at e; cases e; exact h) w hm rows).mono fun e w' ⟨hb, ha⟩ => ?_
  rcases ha with ⟨g, v, e1, e2, a, n, c, b, m, d, e3, h1, h2⟩ | ⟨r, e1, _⟩
  · rw [hp] at e1
    cases e1
    subst e3
    exact ⟨a, n, c, b, m, d, e2, h1, h2, hb⟩
  · rcases e1 with e1 | ⟨g, e1, e2⟩
    · rw [hp] at e1; cases e1
    · rw [hp] at e1; cases e1; exact absurd rfl e2
/- The two lists of a claim, each of the call's own. -/
def pOf (B : Nat) (v : Value) : Nat → Bool := fun k => decide (k < B) || decide (v.ownBlock = some k)
structure CL (B : Nat) (X Y : List Fm) (vx vy : Value) (W : World) : Prop where
  ox : OwnDs (pOf B vy) B W 25 4 X.length (fmsDs X) vx
  oy : OwnDs (pOf B vx) B W 25 4 Y.length (fmsDs Y) vy
  ne : ∀ g, vx.ownBlock = some g → vy.ownBlock ≠ some g
theorem CL.swap {B : Nat} {X Y : List Fm} {vx vy : Value} {W : World} (h : CL B X Y vx vy W) : CL B Y X vy vx W := ⟨h.oy, h.ox, fun g h1 h2 => h.ne g h2 h1⟩
theorem CL.nil (B : Nat) (W : World) : CL B [] [] (.slice none 0 0) (.slice none 0 0) W := ⟨OwnDs.nil _ _ _ _ _, OwnDs.nil _ _ _ _ _, fun g h => by cases h⟩
theorem OwnDs.turned {p : Nat → Bool} {B : Nat} {A W : World} {e : TypeId} {size n : Nat} {ds : List D} {v : Value} (h : OwnDs p B A e size n ds v) (hp : ∀ g, v.ownBlock = some g → p g = false)
    (k : ∀ i o, p i = false → A.heap[i]? = some o → o.isCells = true → W.heap[i]? = some o) : OwnDs p B W e size n ds v := by
  obtain ⟨xs, ho, hc⟩ := h
  refine ⟨xs, ⟨ho.1, ?_⟩, hc.keep fun a u hu => ?_⟩
  · rcases ho.2 with h1 | ⟨g, cap, cur, rfl, hb, hg, h1, h2, h3, h4⟩
    · exact .inl h1
    · exact .inr ⟨g, cap, cur, rfl, hb, k g _ (hp g rfl) hg rfl, h1, h2, h3, h4⟩
  · have h1 := hide_none hu
    rw [hide_cell h1] at hu ⊢
    obtain ⟨o, h2, h3⟩ := cells_of_cell hu
    have h4 := k a.block o (Bool.or_eq_false_iff.1 h1).1 h2 h3
    rw [← hu]
    exact World.cell?_of_block (h4.trans h2.symm)
theorem pOf_own {B : Nat} {A : World} {p : Nat → Bool} {e : TypeId} {size n : Nat} {ds : List D} {v u : Value} (h : OwnDs p B A e size n ds v) (ne : ∀ g, v.ownBlock = some g → u.ownBlock ≠ some g) : ∀ g, v.ownBlock = some g → pOf B u g = false := fun g hg => by
  have := own_lt h g hg
  unfold pOf
  rw [Bool.or_eq_false_iff, decide_eq_false_iff_not, decide_eq_false_iff_not]
  exact ⟨by omega, ne g hg⟩
theorem CL.turned {B : Nat} {X Y : List Fm} {vx vy : Value} {A W : World} (h : CL B X Y vx vy A) (k : ∀ i o, B ≤ i → A.heap[i]? = some o → o.isCells = true → W.heap[i]? = some o) : CL B X Y vx vy W :=
  ⟨h.ox.turned (pOf_own h.ox h.ne) fun i o hi => k i o (by simp only [pOf, Bool.or_eq_false_iff, decide_eq_false_iff_not] at hi; omega),
   h.oy.turned (pOf_own h.oy (fun g h1 h2 => h.ne g h2 h1)) fun i o hi => k i o (by simp only [pOf, Bool.or_eq_false_iff, decide_eq_false_iff_not] at hi; omega), h.ne⟩
theorem own_far2 {p p' : Nat → Bool} {base size n : Nat} {w w' : World} {e : TypeId} {ds : List D} {v : Value} (h : OwnDs p base w e size n ds v) (hb : ∀ g, v.ownBlock = some g → w'.heap[g]? = w.heap[g]?)
    (hk : ∀ k, k < w.heap.size → p k = false → v.ownBlock ≠ some k → p' k = false ∧ w'.heap[k]? = w.heap[k]?) : OwnDs p' base w' e size n ds v := by
  obtain ⟨xs, ho, hc⟩ := h
  refine ⟨xs, ⟨ho.1, ?_⟩, hc.keep (hide_keeps2 fun k h1 h2 => ?_)⟩
  · rcases ho.2 with h1 | ⟨g, cap, cur, rfl, h0, hg, h1, h2, h3, h4⟩
    · exact .inl h1
    · exact .inr ⟨g, cap, cur, rfl, h0, (hb g rfl).trans hg, h1, h2, h3, h4⟩
  · simp only [Bool.or_eq_false_iff, decide_eq_false_iff_not] at h2 ⊢
    have := hk k h1 h2.1 h2.2
    exact ⟨⟨this.1, h2.2⟩, this.2⟩
/-- One more formula on the first list. -/
theorem CL.put {B : Nat} {X Y : List Fm} {vx vy vx' : Value} {W1 W2 : World} {f : Fm} {a b : Option Addr} {n c m d : Nat} {xs : List Value} (h : CL B X Y vx vy W1)
    (hc : CellsAt (hide (fun k => pOf B vy k || decide (vx.ownBlock = some k)) W1) (fmsDs X) xs)
    (ht : TmsAt (hide (fun k => pOf B vy k || decide (vx.ownBlock = some k)) W1) f.args (.slice a n c)) (hs : FmsAt (hide (fun k => pOf B vy k || decide (vx.ownBlock = some k)) W1) f.sub (.slice b m d))
    (h2 : W2.ownsRow B 25 4 vx' (X.length + 1) (xs ++ [.int .u8 f.op, str f.name, .slice a n c, .slice b m d]))
    (hg : ∀ k, B ≤ k → k < W1.heap.size → vx.ownBlock ≠ some k → W2.heap[k]? = W1.heap[k]?) (hv : vx'.ownBlock = vx.ownBlock ∨ ∃ g, vx'.ownBlock = some g ∧ W1.heap.size ≤ g) : CL B (X ++ [f]) Y vx' vy W2 := by
  have hY := own_lt h.oy
  have ne' : ∀ g, vx'.ownBlock = some g → vy.ownBlock ≠ some g := fun g h1 h2 => by
    rcases hv with e | ⟨g', e, hl⟩
    · exact h.ne g (by rw [← e]; exact h1) h2
    · rw [e] at h1
      cases h1
      have := hY g h2
      omega
  have key : ∀ k, k < W1.heap.size → (pOf B vy k || decide (vx.ownBlock = some k)) = false → (pOf B vy k || decide (vx'.ownBlock = some k)) = false ∧ W2.heap[k]? = W1.heap[k]? := fun k hk hp => by
    simp only [pOf, Bool.or_eq_false_iff, decide_eq_false_iff_not] at hp ⊢
    refine ⟨⟨hp.1, fun e => ?_⟩, hg k (by omega) hk hp.2⟩
    rcases hv with e' | ⟨g', e', hl⟩
    · exact hp.2 (by rw [← e']; exact e)
    · rw [e'] at e; cases e; omega
  refine ⟨⟨_, by rw [List.length_append]; exact h2, ?_⟩, ?_, ne'⟩
  · have e : fmsDs (X ++ [f]) = fmsDs X ++ f.ds := by rw [fmsDs_append, show fmsDs [f] = f.ds by simp [fmsDs]]
    rw [e]
    exact (hc.append (fm_cells ht hs)).keep (hide_keeps2 key)
  · refine own_far2 h.oy (fun g hg' => hg g (hY g hg').1 (hY g hg').2 (fun e => h.ne g e hg')) fun k hk hp ho => ?_
    have := key k hk (by
      simp only [pOf, Bool.or_eq_false_iff, decide_eq_false_iff_not] at hp ⊢
      exact ⟨⟨hp.1, ho⟩, hp.2⟩)
    simp only [pOf, Bool.or_eq_false_iff, decide_eq_false_iff_not] at this ⊢
    exact ⟨⟨this.1.1.1, this.1.2⟩, this.2⟩
/-- The element that an append laid is filled. -/
theorem own_fill {B g n cap : Nat} {w : World} {xs : List Value} {z0 z1 z2 z3 a b c d : Value} (h : w.ownsRow B 25 4 (.slice (some ⟨g, 0, none⟩) (n + 1) cap) (n + 1) (xs ++ [z0, z1, z2, z3])) (hx : xs.length = n * 4) :
    ((((w.setCell ⟨g, n * 4, none⟩ a).setCell ⟨g, n * 4 + 1, none⟩ b).setCell ⟨g, n * 4 + 2, none⟩ c).setCell ⟨g, n * 4 + 3, none⟩ d).ownsRow B 25 4 (.slice (some ⟨g, 0, none⟩) (n + 1) cap) (n + 1) (xs ++ [a, b, c, d]) := by
  have h1 := ((((h.stored (n * 4) a).1.stored (n * 4 + 1) b).1.stored (n * 4 + 2) c).1.stored (n * 4 + 3) d).1
  have e : ((((xs ++ [z0, z1, z2, z3]).set (n * 4) a).set (n * 4 + 1) b).set (n * 4 + 2) c).set (n * 4 + 3) d = xs ++ [a, b, c, d] := by
    rw [← hx]
    simp [List.set_append]
  rw [e] at h1
  exact h1
theorem row_thaw {w : World} {B g n cap size : Nat} {e : TypeId} {xs : List Value} (h : w.ownsRow B e size (.slice (some ⟨g, 0, none⟩) n cap) n xs) (j : Nat) : w.frozen? ⟨g, j, none⟩ = false := by
  rcases h.2 with ⟨h1, _⟩ | ⟨g', cap', cur, h1, _, h3, _⟩
  · cases h1
  · simp only [Value.slice.injEq, Option.some.injEq, Addr.mk.injEq, and_true, true_and] at h1
    obtain ⟨rfl, rfl⟩ := h1
    simp [World.frozen?, h3]
theorem row_last {w : World} {B g n cap : Nat} {xs : List Value} {z0 z1 z2 z3 : Value} (h : w.ownsRow B 25 4 (.slice (some ⟨g, 0, none⟩) (n + 1) cap) (n + 1) (xs ++ [z0, z1, z2, z3])) (hx : xs.length = n * 4) :
    w.cell? ⟨g, n * 4, none⟩ = some z0 ∧ w.cell? ⟨g, n * 4 + 1, none⟩ = some z1 ∧ w.cell? ⟨g, n * 4 + 2, none⟩ = some z2 ∧ w.cell? ⟨g, n * 4 + 3, none⟩ = some z3 := by
  have key : ∀ (i : Nat) (z : Value), [z0, z1, z2, z3][i]? = some z → w.cell? ⟨g, n * 4 + i, none⟩ = some z := fun i z hz => by
    have := h.cells (g := g) rfl (n * 4 + i) z (by rw [← hx, List.getElem?_append_right (by omega)]; simpa using hz)
    rw [show ((⟨g, 0, none⟩ : Addr).add (n * 4 + i)) = ⟨g, n * 4 + i, none⟩ by simp [Addr.add]; omega] at this
    exact this
  exact ⟨key 0 _ rfl, key 1 _ rfl, key 2 _ rfl, key 3 _ rfl⟩
theorem cut_word (p t : Bs) (h : (32 : UInt8) ∉ p) : Lib.cut (p ++ [32] ++ t) [32] = (p, t, true) := cut_mid (index_sep (t := []) _ _ h)
theorem claimParts_ne {G S : List Fm} {x : Bs} {r : List Bs} (h : claimParts G S = x :: r) : claimText G S ≠ [] := by
  have hx : x ∈ claimParts G S := by rw [h]; simp
  have hn : x ≠ [] := by
    unfold claimParts at hx
    rcases List.mem_append.1 hx with h | h
    · obtain ⟨g, _, rfl⟩ := List.mem_map.1 h; simp [wGiven]
    · obtain ⟨g, _, rfl⟩ := List.mem_map.1 h; simp [wShow]
  unfold claimText
  rw [h]
  cases r with
  | nil => exact hn
  | cons y r => simp [joinBy, hn]
/-- The k-th part of a claim's text. -/
theorem part_at {G S : List Fm} {k : Nat} {x : Bs} (h : (claimParts G S)[k]? = some x) :
    (∃ f, k < G.length ∧ G[k]? = some f ∧ f ∈ G ∧ x = [103, 105, 118, 101, 110] ++ [32] ++ f.text) ∨ (∃ f, G.length ≤ k ∧ S[k - G.length]? = some f ∧ f ∈ S ∧ x = [115, 104, 111, 119] ++ [32] ++ f.text) := by
  unfold claimParts at h
  by_cases hk : k < G.length
  · rw [List.getElem?_append_left (by simpa using hk), List.getElem?_map] at h
    obtain ⟨f, h1, rfl⟩ := Option.map_eq_some_iff.1 h
    exact .inl ⟨f, hk, h1, List.mem_of_getElem? h1, by simp [wGiven]⟩
  · rw [List.getElem?_append_right (by simp; omega), List.getElem?_map, List.length_map] at h
    obtain ⟨f, h1, rfl⟩ := Option.map_eq_some_iff.1 h
    exact .inr ⟨f, by omega, h1, List.mem_of_getElem? h1, by simp [wShow]⟩
theorem take_snoc {α : Type} {l : List α} {j : Nat} {x : α} (h : l[j]? = some x) : l.take (j + 1) = l.take j ++ [x] := by rw [List.take_add_one, h]; rfl
theorem row48' {w : World} {b : Nat} {x y : Value} (h : w.heap[b]? = some (.cells #[x, y] 48 (0, 0))) :
    w.cell? ⟨b, 0, none⟩ = some x ∧ w.cell? ⟨b, 1, none⟩ = some y ∧ w.frozen? ⟨b, 0, none⟩ = false ∧ w.frozen? ⟨b, 1, none⟩ = false :=
  ⟨(box_cell h 0).trans rfl, (box_cell h 1).trans rfl, by simp [World.frozen?, h], by simp [World.frozen?, h]⟩
theorem u48 : ∃ fs, Tryz.prog.underlying 48 = some (.struct fs) := ⟨_, Tryz.underlying48⟩
theorem i48 : (Tryz.prog.info? 48).map (·.size) = some 2 := by kernel_rfl
theorem res45 (tmps : Array Value) (w : World) (g h : Nat) (a b y : Value) (h2 : tmps.getD 2 undef = one g) (h3 : tmps.getD 3 undef = one h) (hg : w.heap[g]? = some (.cells #[a, b] 48 (0, 0))) (hh : w.heap[h]? = some (.cells #[y] 37 (0, 0))) :
    (results Tryz.f45 tmps).run Tryz.prog w = .ok (.tuple #[.agg #[a, b], y]) w := by
  obtain ⟨fs, h1⟩ := u48
  have e2 : tmps[2]?.getD undef = .pointer (some ⟨g, 0, none⟩) := by simpa using h2
  have e3 : tmps[3]?.getD undef = .pointer (some ⟨h, 0, none⟩) := by simpa using h3
  have c3 : w.cell? ⟨h, 0, none⟩ = some y := (row9 hh).1
  have l3 : (loadVar 37 ⟨h, 0, none⟩).run Tryz.prog w = .ok y w := by simp [loadVar, Tryz.isAgg37, go_sem, c3]
  simp [results, Tryz.results45, e2, e3, asAddr, run_loadVar_row w g 48 48 #[a, b] (0, 0) _ hg h1 rfl i48, l3]
/-- Between two rounds: k parts have been read. N0: the heap's end where the call began; its variables lie from there on. -/
structure CI (w : World) (G S : List Fm) (k : Nat) (va : Option Addr) (vn vc : Nat) (ua : Option Addr) (un uc : Nat) (W : World) : Prop where
  bw : Below w.heap.size w W
  c2 : W.heap[w.heap.size]? = some (.cells #[.slice none 0 0, .slice none 0 0] 48 (0, 0))
  c3 : W.heap[w.heap.size + 1]? = some (.cells #[.int .i64 0] 37 (0, 0))
  c4 : W.heap[w.heap.size + 1 + 1]? = some (.cells #[.slice va vn vc, .slice ua un uc] 48 (0, 0))
  cl : CL (w.heap.size + 6) (G.take k) (S.take (k - G.length)) (.slice va vn vc) (.slice ua un uc) W
  sz : w.heap.size + 6 ≤ W.heap.size
theorem CI.turned {w : World} {G S : List Fm} {k : Nat} {va : Option Addr} {vn vc : Nat} {ua : Option Addr} {un uc : Nat} {A W : World} (h : CI w G S k va vn vc ua un uc A) (hs : A.heap.size ≤ W.heap.size) (ho : W.os = A.os) (ht : W.tape = A.tape) (hu : W.output = A.output)
    (k1 : ∀ i, i < w.heap.size + 3 → W.heap[i]? = A.heap[i]?) (k2 : ∀ i o, w.heap.size + 6 ≤ i → A.heap[i]? = some o → o.isCells = true → W.heap[i]? = some o) : CI w G S k va vn vc ua un uc W :=
  ⟨⟨ho.trans h.bw.os, ht.trans h.bw.tape, hu.trans h.bw.output, Nat.le_trans h.bw.size hs, fun i hi => (k1 i (by omega)).trans (h.bw.block i hi)⟩, (k1 _ (by omega)).trans h.c2, (k1 _ (by omega)).trans h.c3, (k1 _ (by omega)).trans h.c4, h.cl.turned k2, Nat.le_trans h.sz hs⟩
theorem CI.below {w : World} {G S : List Fm} {k : Nat} {va : Option Addr} {vn vc : Nat} {ua : Option Addr} {un uc : Nat} {A W : World} (h : CI w G S k va vn vc ua un uc A) (b : Below A.heap.size A W) : CI w G S k va vn vc ua un uc W :=
  h.turned b.size b.os b.tape b.output (fun i hi => b.block i (by have := h.sz; omega)) (fun i o _ hi _ => (b.block i (Array.getElem?_eq_some_iff.1 hi).1).trans hi)
/-- Behind an append to one of the lists and the store of it into the claim: what is as it was. -/
structure Fin (n0 : Nat) (WA W2 : World) (vx vx' : Value) : Prop where
  os : W2.os = WA.os
  tape : W2.tape = WA.tape
  output : W2.output = WA.output
  size : WA.heap.size ≤ W2.heap.size
  same : ∀ i, i < WA.heap.size → vx.ownBlock ≠ some i → i ≠ n0 + 1 + 1 → W2.heap[i]? = WA.heap[i]?
  own : vx'.ownBlock = vx.ownBlock ∨ ∃ g, vx'.ownBlock = some g ∧ WA.heap.size ≤ g
theorem fin_of {n0 : Nat} {WA w5 W2 : World} {o : Obj} {vx : Value} {g m c : Nat} (hg : (WA.alloc o).grownBy w5 vx.ownBlock) (hat : (Value.slice (some ⟨g, 0, none⟩) m c).ownBlock = vx.ownBlock ∨ (Value.slice (some ⟨g, 0, none⟩) m c).ownBlock = some (WA.alloc o).heap.size)
    (h1 : ∀ i, i ≠ g → i ≠ n0 + 1 + 1 → W2.heap[i]? = w5.heap[i]?) (hs : W2.heap.size = w5.heap.size) (ho : W2.os = w5.os) (ht : W2.tape = w5.tape) (hu : W2.output = w5.output) : Fin n0 WA W2 vx (.slice (some ⟨g, 0, none⟩) m c) := by
  refine ⟨ho.trans hg.os, ht.trans hg.tape, hu.trans hg.output, ?_, fun i hi hv hn => ?_, ?_⟩
  · have := hg.size
    rw [World.size_alloc] at this
    omega
  · have hne : i ≠ g := fun e => by
      rcases hat with e' | e'
      · exact hv (by rw [← e', e]; rfl)
      · simp only [Value.ownBlock, Option.some.injEq, World.size_alloc] at e'
        omega
    rw [h1 i hne hn, hg.block i (by simp; omega) (fun e => hv e.symm)]
    exact Below.heap_alloc WA o i hi
  · rcases hat with e' | e'
    · exact .inl e'
    · refine .inr ⟨g, rfl, ?_⟩
      simp only [Value.ownBlock, Option.some.injEq, World.size_alloc] at e'
      omega
/-- The two orders of the last two stores. -/
theorem fin_A {n0 g n cap fo : Nat} {w5 : World} {xs : List Value} {a b c d z0 z1 z2 z3 y0 y1 : Value} {v' : Value} (h : w5.ownsRow (n0 + 6) 25 4 (.slice (some ⟨g, 0, none⟩) (n + 1) cap) (n + 1) (xs ++ [z0, z1, z2, z3])) (hx : xs.length = n * 4) (hg : n0 + 6 ≤ g)
    (h4 : w5.heap[n0 + 1 + 1]? = some (.cells #[y0, y1] 48 (0, 0))) {W2 : World}
    (e : W2 = ((((w5.setCell ⟨g, n * 4, none⟩ a).setCell ⟨g, n * 4 + 1, none⟩ b).setCell ⟨g, n * 4 + 2, none⟩ c).setCell ⟨g, n * 4 + 3, none⟩ d).setCell ⟨n0 + 1 + 1, fo, none⟩ v') :
    W2.ownsRow (n0 + 6) 25 4 (.slice (some ⟨g, 0, none⟩) (n + 1) cap) (n + 1) (xs ++ [a, b, c, d]) ∧ W2.heap[n0 + 1 + 1]? = some (.cells (#[y0, y1].setIfInBounds fo v') 48 (0, 0)) ∧ (∀ i, i ≠ g → i ≠ n0 + 1 + 1 → W2.heap[i]? = w5.heap[i]?) ∧ W2.heap.size = w5.heap.size := by
  subst e
  have hn : n0 + 1 + 1 ≠ g := by omega
  refine ⟨(own_fill h hx).kept (row := some (n0 + 1 + 1)) ⟨rfl, rfl, rfl, by simp, fun k _ hk => Below.heap_setCell _ _ _ _ (fun e => hk (by rw [e]))⟩ (.inr (by simp only [Value.ownBlock]; intro e; cases e; omega)), ?_, fun i h1 h2 => ?_, by simp⟩
  · refine set_block ?_
    rw [Below.heap_setCell _ _ _ _ hn, Below.heap_setCell _ _ _ _ hn, Below.heap_setCell _ _ _ _ hn, Below.heap_setCell _ _ _ _ hn]
    exact h4
  · rw [Below.heap_setCell _ _ _ _ h2, Below.heap_setCell _ _ _ _ h1, Below.heap_setCell _ _ _ _ h1, Below.heap_setCell _ _ _ _ h1, Below.heap_setCell _ _ _ _ h1]
theorem fin_B {n0 g n cap fo : Nat} {w5 : World} {xs : List Value} {a b c d z0 z1 z2 z3 y0 y1 : Value} {v' : Value} (h : w5.ownsRow (n0 + 6) 25 4 (.slice (some ⟨g, 0, none⟩) (n + 1) cap) (n + 1) (xs ++ [z0, z1, z2, z3])) (hx : xs.length = n * 4) (hg : n0 + 6 ≤ g)
    (h4 : w5.heap[n0 + 1 + 1]? = some (.cells #[y0, y1] 48 (0, 0))) {W2 : World}
    (e : W2 = ((((w5.setCell ⟨n0 + 1 + 1, fo, none⟩ v').setCell ⟨g, n * 4, none⟩ a).setCell ⟨g, n * 4 + 1, none⟩ b).setCell ⟨g, n * 4 + 2, none⟩ c).setCell ⟨g, n * 4 + 3, none⟩ d) :
    W2.ownsRow (n0 + 6) 25 4 (.slice (some ⟨g, 0, none⟩) (n + 1) cap) (n + 1) (xs ++ [a, b, c, d]) ∧ W2.heap[n0 + 1 + 1]? = some (.cells (#[y0, y1].setIfInBounds fo v') 48 (0, 0)) ∧ (∀ i, i ≠ g → i ≠ n0 + 1 + 1 → W2.heap[i]? = w5.heap[i]?) ∧ W2.heap.size = w5.heap.size := by
  subst e
  have hn : n0 + 1 + 1 ≠ g := by omega
  refine ⟨own_fill (h.kept (row := some (n0 + 1 + 1)) ⟨rfl, rfl, rfl, by simp, fun k _ hk => Below.heap_setCell _ _ _ _ (fun e => hk (by rw [e]))⟩ (.inr (by simp only [Value.ownBlock]; intro e; cases e; omega))) hx, ?_, fun i h1 h2 => ?_, by simp⟩
  · rw [Below.heap_setCell _ _ _ _ hn, Below.heap_setCell _ _ _ _ hn, Below.heap_setCell _ _ _ _ hn, Below.heap_setCell _ _ _ _ hn]
    exact set_block h4
  · rw [Below.heap_setCell _ _ _ _ h1, Below.heap_setCell _ _ _ _ h1, Below.heap_setCell _ _ _ _ h1, Below.heap_setCell _ _ _ _ h1, Below.heap_setCell _ _ _ _ h2]
/-- A round that read one more formula. -/
theorem claim_round {w W WA W2 : World} {X Y : List Fm} {f : Fm} {B : Nat} {vx vx' vy : Value} {fa fb : Option Addr} {fn fc fm fd : Nat} {xs : List Value} (hB : B = w.heap.size + 6) (bw : Below w.heap.size w WA) (b : Below W.heap.size W WA) (zW : w.heap.size + 6 ≤ W.heap.size)
    (cl : CL (w.heap.size + 6) X Y vx vy WA) (hc : CellsAt (hide (fun k => pOf (w.heap.size + 6) vy k || decide (vx.ownBlock = some k)) WA) (fmsDs X) xs)
    (ht : TmsAt (hide (fun k => pOf (w.heap.size + 6) vy k || decide (vx.ownBlock = some k)) WA) f.args (.slice fa fn fc)) (hs : FmsAt (hide (fun k => pOf (w.heap.size + 6) vy k || decide (vx.ownBlock = some k)) WA) f.sub (.slice fb fm fd))
    (F : Fin w.heap.size WA W2 vx vx') (h2 : W2.ownsRow (w.heap.size + 6) 25 4 vx' (X.length + 1) (xs ++ [.int .u8 f.op, str f.name, .slice fa fn fc, .slice fb fm fd])) :
    KeepsFrom B W W2 ∧ SeqKp (w.heap.size + 1 + 1 + 1) W W2 ∧ CL (w.heap.size + 6) (X ++ [f]) Y vx' vy W2 ∧ Below w.heap.size w W2 ∧ (∀ i, i < w.heap.size + 2 → W2.heap[i]? = WA.heap[i]?) := by
  subst hB
  have hx := own_lt cl.ox
  have low : ∀ i, i < w.heap.size + 6 → i ≠ w.heap.size + 1 + 1 → W2.heap[i]? = WA.heap[i]? := fun i hi hn => F.same i (by have := b.size; omega) (fun e => by have := hx i e; omega) hn
  refine ⟨⟨Nat.le_trans b.size F.size, fun i o hi ho hcells => ?_⟩, fun i hi => ?_, ?_, ?_, fun i hi => low i (by omega) (by omega)⟩
  · have hlt := (Array.getElem?_eq_some_iff.1 ho).1
    have hWA := (b.block i hlt).trans ho
    rw [F.same i (by have := b.size; omega) (fun e => ?_) (by omega)]
    · exact hWA
    · obtain ⟨ys, how, _⟩ := cl.ox
      rcases how.2 with ⟨h1, _⟩ | ⟨g, cap, cur, h1, _, h3, _⟩
      · rw [h1] at e; cases e
      · rw [h1] at e; cases e
        rw [hWA] at h3; cases h3; cases hcells
  · rw [low i (by omega) (by omega)]
    exact b.block i (by omega)
  · exact cl.put hc ht hs h2 (fun i hi hlt hv => F.same i hlt hv (by omega)) F.own
  · exact ⟨F.os.trans bw.os, F.tape.trans bw.tape, F.output.trans bw.output, Nat.le_trans bw.size F.size, fun i hi => (low i (by omega) (by omega)).trans (bw.block i hi)⟩
theorem ne_new {WA : World} {o : Obj} {vx : Value} {g5 g9 n c : Nat} (hat : (Value.slice (some ⟨g5, 0, none⟩) n c).ownBlock = vx.ownBlock ∨ (Value.slice (some ⟨g5, 0, none⟩) n c).ownBlock = some (WA.alloc o).drew.heap.size) (G9 : vx.ownBlock ≠ some g9) (z9 : g9 < WA.heap.size) : g5 ≠ g9 := fun e => by
  subst e
  rcases hat with e | e
  · exact G9 (by rw [← e]; rfl)
  · simp only [Value.ownBlock, Option.some.injEq] at e
    have : (WA.alloc o).drew.heap.size = WA.heap.size + 1 := World.size_alloc _ _
    omega
theorem keep_part {w w7 WA : World} {vx vy : Value} {B : Nat} (hB : B ≤ w7.heap.size) (ox : ∀ g, vx.ownBlock = some g → B ≤ g ∧ g < w7.heap.size) (oy : ∀ g, vy.ownBlock = some g → B ≤ g ∧ g < w7.heap.size) : Keeps (hide (lo w7) WA) (hide (fun k => pOf B vy k || decide (vx.ownBlock = some k)) WA) :=
  hide_keeps2 fun k _ h2 => by
    simp only [lo, decide_eq_false_iff_not, Nat.not_lt] at h2
    simp only [pOf, Bool.or_eq_false_iff, decide_eq_false_iff_not]
    exact ⟨⟨⟨by omega, fun e => by have := oy k e; omega⟩, fun e => by have := ox k e; omega⟩, trivial⟩
theorem claim_step0 {w W w7 WA w5 W2 : World} {G S : List Fm} {f : Fm} {pre : List Bs} {x : Bs} {B : Nat} {va ua fa fb : Option Addr} {vn vc un uc fn fc fm fd g5 c5 : Nat} {xs : List Value} {o : Obj} (hB : B = w.heap.size + 6)
    (ci : CI w G S pre.length va vn vc ua un uc WA) (b : Below W.heap.size W WA) (zW : w.heap.size + 6 ≤ W.heap.size) (hk : pre.length < G.length) (hf : G[pre.length]? = some f)
    (ox : ∀ g, (Value.slice va vn vc).ownBlock = some g → w.heap.size + 6 ≤ g ∧ g < w7.heap.size) (oy : ∀ g, (Value.slice ua un uc).ownBlock = some g → w.heap.size + 6 ≤ g ∧ g < w7.heap.size) (h7 : w.heap.size + 6 ≤ w7.heap.size)
    (ht : TmsAt (hide (lo w7) WA) f.args (.slice fa fn fc)) (hs : FmsAt (hide (lo w7) WA) f.sub (.slice fb fm fd))
    (hc : CellsAt (hide (fun k => pOf (w.heap.size + 6) (.slice ua un uc) k || decide ((Value.slice va vn vc).ownBlock = some k)) WA) (fmsDs (G.take pre.length)) xs) (xl : xs.length = (G.take pre.length).length * 4) (xn : vn = (G.take pre.length).length)
    (hg5 : (WA.alloc o).drew.grownBy w5 (Value.slice va vn vc).ownBlock) (hat : (Value.slice (some ⟨g5, 0, none⟩) (vn + 1) c5).ownBlock = (Value.slice va vn vc).ownBlock ∨ (Value.slice (some ⟨g5, 0, none⟩) (vn + 1) c5).ownBlock = some (WA.alloc o).drew.heap.size)
    (E : W2.ownsRow (w.heap.size + 6) 25 4 (.slice (some ⟨g5, 0, none⟩) (vn + 1) c5) (vn + 1) (xs ++ [.int .u8 f.op, str f.name, .slice fa fn fc, .slice fb fm fd]) ∧ W2.heap[w.heap.size + 1 + 1]? = some (.cells (#[.slice va vn vc, .slice ua un uc].setIfInBounds 0 (.slice (some ⟨g5, 0, none⟩) (vn + 1) c5)) 48 (0, 0)) ∧ (∀ i, i ≠ g5 → i ≠ w.heap.size + 1 + 1 → W2.heap[i]? = w5.heap[i]?) ∧ W2.heap.size = w5.heap.size)
    (hos : W2.os = w5.os) (hta : W2.tape = w5.tape) (hou : W2.output = w5.output) :
    KeepsFrom B W W2 ∧ SeqKp (w.heap.size + 1 + 1 + 1) W W2 ∧ ∃ va vn vc ua un uc, CI w G S (pre ++ [x]).length va vn vc ua un uc W2 := by
  have F : Fin w.heap.size WA W2 (.slice va vn vc) (.slice (some ⟨g5, 0, none⟩) (vn + 1) c5) := fin_of (o := o) ⟨hg5.os, hg5.tape, hg5.output, hg5.size, hg5.block⟩ hat E.2.2.1 E.2.2.2 hos hta hou
  have h2 := E.1
  rw [xn] at h2
  have K := keep_part (w := w) (WA := WA) h7 ox oy
  obtain ⟨r1, r2, r3, r4, r5⟩ := claim_round (vx' := .slice (some ⟨g5, 0, none⟩) (vn + 1) c5) hB ci.bw b zW ci.cl hc (ht.keep K) (hs.keep K) F (by rw [xn]; exact h2)
  refine ⟨r1, r2, some ⟨g5, 0, none⟩, vn + 1, c5, ua, un, uc, r4, (r5 _ (by omega)).trans ci.c2, (r5 _ (by omega)).trans ci.c3, E.2.1, ?_, Nat.le_trans zW (Nat.le_trans b.size F.size)⟩
  have e1 : (pre ++ [x]).length = pre.length + 1 := by simp
  rw [e1, take_snoc hf, show pre.length + 1 - G.length = 0 by omega]
  have : pre.length - G.length = 0 := by omega
  rw [this] at r3
  exact r3
theorem claim_step1 {w W w7 WA w5 W2 : World} {G S : List Fm} {f : Fm} {pre : List Bs} {x : Bs} {B : Nat} {va ua fa fb : Option Addr} {vn vc un uc fn fc fm fd g5 c5 : Nat} {xs : List Value} {o : Obj} (hB : B = w.heap.size + 6)
    (ci : CI w G S pre.length va vn vc ua un uc WA) (b : Below W.heap.size W WA) (zW : w.heap.size + 6 ≤ W.heap.size) (hk : G.length ≤ pre.length) (hf : S[pre.length - G.length]? = some f)
    (ox : ∀ g, (Value.slice va vn vc).ownBlock = some g → w.heap.size + 6 ≤ g ∧ g < w7.heap.size) (oy : ∀ g, (Value.slice ua un uc).ownBlock = some g → w.heap.size + 6 ≤ g ∧ g < w7.heap.size) (h7 : w.heap.size + 6 ≤ w7.heap.size)
    (ht : TmsAt (hide (lo w7) WA) f.args (.slice fa fn fc)) (hs : FmsAt (hide (lo w7) WA) f.sub (.slice fb fm fd))
    (hc : CellsAt (hide (fun k => pOf (w.heap.size + 6) (.slice va vn vc) k || decide ((Value.slice ua un uc).ownBlock = some k)) WA) (fmsDs (S.take (pre.length - G.length))) xs) (xl : xs.length = (S.take (pre.length - G.length)).length * 4) (xn : un = (S.take (pre.length - G.length)).length)
    (hg5 : (WA.alloc o).drew.grownBy w5 (Value.slice ua un uc).ownBlock) (hat : (Value.slice (some ⟨g5, 0, none⟩) (un + 1) c5).ownBlock = (Value.slice ua un uc).ownBlock ∨ (Value.slice (some ⟨g5, 0, none⟩) (un + 1) c5).ownBlock = some (WA.alloc o).drew.heap.size)
    (E : W2.ownsRow (w.heap.size + 6) 25 4 (.slice (some ⟨g5, 0, none⟩) (un + 1) c5) (un + 1) (xs ++ [.int .u8 f.op, str f.name, .slice fa fn fc, .slice fb fm fd]) ∧ W2.heap[w.heap.size + 1 + 1]? = some (.cells (#[.slice va vn vc, .slice ua un uc].setIfInBounds 1 (.slice (some ⟨g5, 0, none⟩) (un + 1) c5)) 48 (0, 0)) ∧ (∀ i, i ≠ g5 → i ≠ w.heap.size + 1 + 1 → W2.heap[i]? = w5.heap[i]?) ∧ W2.heap.size = w5.heap.size)
    (hos : W2.os = w5.os) (hta : W2.tape = w5.tape) (hou : W2.output = w5.output) :
    KeepsFrom B W W2 ∧ SeqKp (w.heap.size + 1 + 1 + 1) W W2 ∧ ∃ va vn vc ua un uc, CI w G S (pre ++ [x]).length va vn vc ua un uc W2 := by
  have F : Fin w.heap.size WA W2 (.slice ua un uc) (.slice (some ⟨g5, 0, none⟩) (un + 1) c5) := fin_of (o := o) ⟨hg5.os, hg5.tape, hg5.output, hg5.size, hg5.block⟩ hat E.2.2.1 E.2.2.2 hos hta hou
  have h2 := E.1
  rw [xn] at h2
  have K := keep_part (w := w) (WA := WA) h7 oy ox
  obtain ⟨r1, r2, r3, r4, r5⟩ := claim_round (vx' := .slice (some ⟨g5, 0, none⟩) (un + 1) c5) hB ci.bw b zW ci.cl.swap hc (ht.keep K) (hs.keep K) F (by rw [xn]; exact h2)
  refine ⟨r1, r2, va, vn, vc, some ⟨g5, 0, none⟩, un + 1, c5, r4, (r5 _ (by omega)).trans ci.c2, (r5 _ (by omega)).trans ci.c3, E.2.1, ?_, Nat.le_trans zW (Nat.le_trans b.size F.size)⟩
  have e1 : (pre ++ [x]).length = pre.length + 1 := by simp
  have r3 := r3.swap
  rw [e1, show pre.length + 1 - G.length = pre.length - G.length + 1 by omega, take_snoc hf, List.take_of_length_le (by omega)]
  rw [List.take_of_length_le hk] at r3
  exact r3
theorem prefix_get {α : Type} {pre l : List α} {x : α} (h : pre ++ [x] <+: l) : l[pre.length]? = some x := by
  obtain ⟨t, rfl⟩ := h
  simp
theorem CI.lets {w : World} {G S : List Fm} {B c : Nat} (hB : B = w.heap.size + 6) (hc : c = w.heap.size + 3) : Lets B c (fun (pre : List Bs) W => ∃ va vn vc ua un uc, CI w G S pre.length va vn vc ua un uc W) := by
  rintro s A X row ⟨va, vn, vc, ua, un, uc, h⟩ hg hr
  refine ⟨va, vn, vc, ua, un, uc, h.turned hg.size hg.os hg.tape hg.output (fun i hi => hg.block i (by have := h.sz; omega) fun e => ?_) fun i o hi ho hcells => (hg.block i (Array.getElem?_eq_some_iff.1 ho).1 fun e => ?_).trans ho⟩
  · rcases hr i e.symm with h1 | ⟨h1, _⟩ <;> omega
  · rcases hr i e.symm with h1 | ⟨h1, o', h2, h3⟩
    · omega
    · rw [ho] at h2; cases h2; rw [hcells] at h3; cases h3
theorem split_le (s sep : Bs) (hn : sep ≠ []) : (Lib.split s sep).length ≤ s.length + 1 := by
  have h1 : 1 ≤ (⟨sep.toArray⟩ : ByteArray).size := by
    cases sep with
    | nil => exact absurd rfl hn
    | cons c t => simp [ByteArray.size]
  have h := congrArg List.length (splitB_sep s sep)
  simp only [List.length_map] at h
  rw [Lib.splitB_all _ h1 0 _ _ rfl] at h
  have := Lib.countB_le ⟨sep.toArray⟩ h1 _ ⟨s.toArray⟩ (Nat.le_refl _)
  simp [ByteArray.size] at this
  omega
theorem keeps_done {B : Nat} {W W' : World} (h : ∀ i o, B ≤ i → W.heap[i]? = some o → o.isCells = true → W'.heap[i]? = some o) : Keeps (hide (fun k => decide (k < B)) W) W' := fun a u hu => by
  have h1 := hide_none hu
  rw [hide_cell h1] at hu
  simp only [decide_eq_false_iff_not, Nat.not_lt] at h1
  obtain ⟨o, h2, h3⟩ := cells_of_cell hu
  rw [← hu]
  exact World.cell?_of_block ((h a.block o h1 h2 h3).trans h2.symm)
theorem OwnDs.whole {B : Nat} {W W' : World} {e : TypeId} {size n : Nat} {ds : List D} {v u : Value} (h : OwnDs (pOf B u) B W e size n ds v) (k : ∀ i o, B ≤ i → W.heap[i]? = some o → o.isCells = true → W'.heap[i]? = some o) : At W' (.sl size n ds) v := by
  have h1 : OwnDs (fun k => decide (k < B)) B W e size n ds v := own_far2 h (fun _ _ => rfl) fun i _ hp _ => ⟨by simp only [pOf, Bool.or_eq_false_iff] at hp; exact hp.1, rfl⟩
  exact At.keep (keeps_done k) _ _ (h1.at (fun i hi => by simp; omega))
theorem claim_done {w W : World} {G S : List Fm} {k : Nat} {va ua : Option Addr} {vn vc un uc D : Nat} (ci : CI w G S k va vn vc ua un uc W) (cl : CL (w.heap.size + 6) G S (.slice va vn vc) (.slice ua un uc) W) (hD : w.heap.size + 6 ≤ D)
    (hK : W.heap[D]? = some (.deferred (some []))) {U V : World}
    (hU : U = ((W.setCell ⟨w.heap.size, 0, none⟩ (.slice va vn vc)).setCell ⟨w.heap.size, 1, none⟩ (.slice ua un uc)).setCell ⟨w.heap.size + 1, 0, none⟩ (.int .i64 0)) (hV : V = U.putObj D (.deferred none)) :
    U.heap[D]? = some (.deferred (some [])) ∧ V.heap[w.heap.size]? = some (.cells #[.slice va vn vc, .slice ua un uc] 48 (0, 0)) ∧ V.heap[w.heap.size + 1]? = some (.cells #[.int .i64 0] 37 (0, 0)) ∧ FmsAt V G (.slice va vn vc) ∧ FmsAt V S (.slice ua un uc) ∧ Below w.heap.size w V := by
  have low : ∀ i, i ≠ w.heap.size → i ≠ w.heap.size + 1 → U.heap[i]? = W.heap[i]? := fun i h0 h1 => by
    rw [hU, Below.heap_setCell _ _ _ _ h1, Below.heap_setCell _ _ _ _ h0, Below.heap_setCell _ _ _ _ h0]
  have e0 : V.heap[w.heap.size]? = some (.cells #[.slice va vn vc, .slice ua un uc] 48 (0, 0)) := by
    rw [hV, World.putObj_heap_other (by omega), hU, Below.heap_setCell _ _ _ _ (by show w.heap.size ≠ w.heap.size + 1; omega)]
    exact set_block (set_block ci.c2)
  have e1 : V.heap[w.heap.size + 1]? = some (.cells #[.int .i64 0] 37 (0, 0)) := by
    have h : ((W.setCell ⟨w.heap.size, 0, none⟩ (.slice va vn vc)).setCell ⟨w.heap.size, 1, none⟩ (.slice ua un uc)).heap[w.heap.size + 1]? = some (.cells #[.int .i64 0] 37 (0, 0)) := by
      rw [Below.heap_setCell _ _ _ _ (by show w.heap.size + 1 ≠ w.heap.size; omega), Below.heap_setCell _ _ _ _ (by show w.heap.size + 1 ≠ w.heap.size; omega)]
      exact ci.c3
    rw [hV, World.putObj_heap_other (by omega), hU]
    exact set_block h
  have e2 : ∀ i, i ≠ w.heap.size → i ≠ w.heap.size + 1 → i ≠ D → V.heap[i]? = W.heap[i]? := fun i h0 h1 hd => by
    rw [hV, World.putObj_heap_other hd]; exact low i h0 h1
  have kf : ∀ i o, w.heap.size + 6 ≤ i → W.heap[i]? = some o → o.isCells = true → V.heap[i]? = some o := fun i o hi ho hc => by
    rw [e2 i (by omega) (by omega) (fun e => by subst e; rw [hK] at ho; cases ho; cases hc)]; exact ho
  have bw := ci.bw
  have sz := ci.sz
  refine ⟨(low D (by omega) (by omega)).trans hK, e0, e1, cl.ox.whole kf, cl.oy.whole kf, ?_⟩
  subst hU hV
  exact ⟨bw.os, bw.tape, bw.output, by simpa using bw.size, fun i hi => (e2 i (by omega) (by omega) (by omega)).trans (bw.block i hi)⟩
end Go.Proofs.YtcandidgaegghaaGreatDoor
