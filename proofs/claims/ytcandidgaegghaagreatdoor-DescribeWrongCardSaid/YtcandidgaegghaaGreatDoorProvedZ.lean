/- What lyceumlaw41.Proved's loop does to memory: the premises and the marks of a step. Conditions: none but those of each statement. lyceumlaw41.Proved returns the proof of its bytes. Conditions: a slice of bytes that lies in memory. -/
import Derived.Test.YtcandidgaegghaaGreatDoorBuiltAZ
import Derived.Test.YtcandidgaegghaaGreatDoorBuiltZ
import Derived.Deep.RegionHeld3
import Derived.Deep.RegionLawGrows
import Derived.Outline
import Derived.Deep.CutBlock
import Derived.IntWalk
import Derived.Deep.DrawnRows
section
namespace Go.Proofs.YtcandidgaegghaaGreatDoor
open Go Go.RowKit Ly
set_option maxRecDepth 10000
set_option linter.unusedSimpArgs false
set_option linter.unusedVariables false
set_option maxHeartbeats 2000000
theorem pfsDs_append (a b : List Pf) : pfsDs (a ++ b) = pfsDs a ++ pfsDs b := by
  induction a with
  | nil => rfl
  | cons t a ih => simp [pfsDs, ih]
theorem pfsDs_length (a : List Pf) : (pfsDs a).length = a.length * 8 := by
  induction a with
  | nil => rfl
  | cons t a ih => simp [pfsDs, ih, Pf.ds_length, Nat.succ_mul]; omega
theorem pfsDs_take (a : List Pf) : ∀ j, pfsDs (a.take j) = (pfsDs a).take (j * 8) := by
  induction a with
  | nil => intro j; simp [pfsDs]
  | cons t a ih =>
    intro j
    cases j with
    | zero => simp [pfsDs]
    | succ j =>
      simp only [List.take_succ_cons, pfsDs, ih]
      rw [List.take_append, Pf.ds_length, Nat.succ_mul, List.take_of_length_le (l := t.ds) (by rw [Pf.ds_length]; omega), show j * 8 + 8 - 8 = j * 8 by omega]
/-- One more element at the end of a list of the call's own: whatever the elements are. -/
theorem own_put {p : Nat → Bool} {base size n : Nat} {wx w1 : World} {e ty : TypeId} {ds es : List D} {v : Value} {ys : List Value} (H : OwnDs p base wx e size n ds v) (hp : ∀ k, base ≤ k → p k = false) (b1 : Below wx.heap.size wx w1)
    (he : CellsAt (hide (fun k => p k || decide (v.ownBlock = some k)) w1) es ys) :
    ∃ xs, (w1.alloc (.cells ys.toArray ty)).ownsRow base e size v n xs ∧ ∀ v' w5, w5.ownsRow base e size v' (n + 1) (xs ++ ys) → (w1.alloc (.cells ys.toArray ty)).grownBy w5 v.ownBlock →
      (v'.ownBlock = v.ownBlock ∨ v'.ownBlock = some (w1.alloc (.cells ys.toArray ty)).heap.size) → OwnDs p base w5 e size (n + 1) (ds ++ es) v' := by
  have B1 : Below wx.heap.size wx (w1.alloc (.cells ys.toArray ty)) := belowThen b1 ((Below.refl _ _).alloc (Nat.le_refl _) _)
  obtain ⟨xs, ho, hc⟩ := H.moved (w' := w1.alloc (.cells ys.toArray ty)) hp (fun k h1 _ => B1.block k h1)
  exact ⟨xs, ho, fun v' w5 h5 hg hat => OwnDs.appended hc (he.keep (hide_keeps2 fun k h1 h2 => ⟨h2, heap_alloc_old _ _ h1⟩)) h5 hg hat⟩
/-- An element behind the first j of a list of the call's own, in a new block. -/
theorem own_cut {p : Nat → Bool} {base size n j sc : Nat} {sa : Option Addr} {wx w1 : World} {e ty : TypeId} {ds es : List D} {ys : List Value} (H : OwnDs p base wx e size n ds (.slice sa n sc)) (hp : ∀ k, base ≤ k → p k = false) (hb : base ≤ wx.heap.size) (b1 : Below wx.heap.size wx w1) (hj : j ≤ n)
    (he : CellsAt (hide (fun k => p k || decide ((Value.slice sa n sc).ownBlock = some k)) w1) es ys) :
    ∃ olds, olds.length = j * size ∧ (∀ q, sa = some q → ∀ i u, olds[i]? = some u → (w1.alloc (.cells ys.toArray ty)).cell? (q.add i) = some u) ∧
      ∀ v' w5, w5.ownsRow (w1.alloc (.cells ys.toArray ty)).heap.size e size v' (j + 1) (olds ++ ys) → (w1.alloc (.cells ys.toArray ty)).grownBy w5 none → OwnDs p base w5 e size (j + 1) (ds.take (j * size) ++ es) v' := by
  have B1 : Below wx.heap.size wx (w1.alloc (.cells ys.toArray ty)) := belowThen b1 ((Below.refl _ _).alloc (Nat.le_refl _) _)
  obtain ⟨xs, ho, hc⟩ := H.moved (w' := w1.alloc (.cells ys.toArray ty)) hp (fun k h1 _ => B1.block k h1)
  have hxl : xs.length = n * size := ho.1
  have hjs : j * size ≤ n * size := Nat.mul_le_mul_right _ hj
  refine ⟨xs.take (j * size), by rw [List.length_take, hxl]; omega, ?_, fun v' w5 h5 hg => ?_⟩
  · rintro q rfl i u hu
    rcases ho.2 with ⟨e, _⟩ | ⟨g, cap, cur, e, _, hg, _⟩
    · cases e
    · cases e
      refine ho.cells (g := g) rfl i u ?_
      rw [List.getElem?_take] at hu
      split at hu
      · exact hu
      · cases hu
  have gb : ∀ i, i < (w1.alloc (.cells ys.toArray ty)).heap.size → w5.heap[i]? = (w1.alloc (.cells ys.toArray ty)).heap[i]? := fun i hi => hg.block i hi (by simp)
  have K1 : Keeps (hide (fun k => p k || decide ((Value.slice sa n sc).ownBlock = some k)) w1) (hide (fun k => p k || decide ((Value.slice sa n sc).ownBlock = some k)) (w1.alloc (.cells ys.toArray ty))) := hide_keeps2 fun k h1 h2 => ⟨h2, heap_alloc_old _ _ h1⟩
  have hsz := B1.size
  have K2 : Keeps (hide (fun k => p k || decide ((Value.slice sa n sc).ownBlock = some k)) (w1.alloc (.cells ys.toArray ty))) (hide (fun k => p k || decide (v'.ownBlock = some k)) w5) := hide_keeps2 fun i h1 h2 => by
    simp only [Bool.or_eq_false_iff, decide_eq_false_iff_not] at h2 ⊢
    exact ⟨⟨h2.1, fun e => by have := (h5.lt i e).1; omega⟩, gb i h1⟩
  refine ⟨_, ⟨h5.1, ?_⟩, ((hc.take (j * size)).append (he.keep K1)).keep K2⟩
  rcases h5.2 with h | ⟨g, cap, cur, e1, e2, e3⟩
  · exact .inl h
  · exact .inr ⟨g, cap, cur, e1, by omega, e3⟩
theorem info53 : (Tryz.prog.info? 53).map (fun i => (i.zero, i.size, i.bytes)) = some (some (.agg #[.string ⟨#[]⟩, .int .u8 0, .string ⟨#[]⟩, .slice none 0 0, .slice none 0 0, .int .i64 0, .slice none 0 0, .slice none 0 0]), 8, 144) := by kernel_rfl
theorem info29 : (Tryz.prog.info? 29).map (fun i => (i.zero, i.size, i.bytes)) = some (some (.slice none 0 0), 1, 24) := by kernel_rfl
/-- What holds at the head of Proved's loop. -/
structure PRel (w : World) (l : Bs) (k : Nat) (v : Value) (wr : World) : Prop where
  own : OwnDs (lo1 w) (w.heap.size + 1) wr 53 8 (pFold l k).length (pfsDs (pFold l k)) v
  bw : Below w.heap.size w wr
  res : wr.heap[w.heap.size]? = some (.cells #[str [], .int .u8 0, str [], .slice none 0 0, .slice none 0 0, .int .i64 0, .slice none 0 0, .slice none 0 0] 53 (0, 0))
theorem PRel.drewN {w : World} {l : Bs} {k : Nat} {v : Value} {wr : World} (h : PRel w l k v wr) (m : Nat) : PRel w l k v (wr.drewN m) :=
  ⟨h.own.moved (fun k hk => by simp [lo1]; omega) (fun k _ _ => rfl), ⟨h.bw.os, h.bw.tape, h.bw.output, h.bw.size, h.bw.block⟩, h.res⟩
theorem lo1_off {w : World} : ∀ k, w.heap.size + 1 ≤ k → lo1 w k = false := fun k hk => by simp [lo1]; omega
theorem PRel.base {w : World} {l : Bs} {k : Nat} {v : Value} {wx : World} (H : PRel w l k v wx) : w.heap.size + 1 ≤ wx.heap.size := (Array.getElem?_eq_some_iff.1 H.res).1
/-- The next step: the list is one of the call's own again. -/
theorem PRel.next {w : World} {l : Bs} {k : Nat} {v v' : Value} {wx W1 w5 : World} {S : List Pf} {o : Option Nat} (H : PRel w l k v wx) (B1 : Below wx.heap.size wx W1) (hg : W1.grownBy w5 o) (ho : ∀ g, o = some g → w.heap.size + 1 ≤ g)
    (hS : pFold l (k + 1) = S) (hown : OwnDs (lo1 w) (w.heap.size + 1) w5 53 8 S.length (pfsDs S) v') : PRel w l (k + 1) v' w5 := by
  have zw := H.base
  have hs := B1.size
  have gb : ∀ j, j < w.heap.size + 1 → w5.heap[j]? = wx.heap[j]? := fun j hj => by
    rw [hg.block j (by omega) (fun e => by have := ho j e.symm; omega)]
    exact B1.block j (by omega)
  refine ⟨by rw [hS]; exact hown, ⟨?_, ?_, ?_, ?_, fun j hj => ?_⟩, ?_⟩
  · exact hg.os.trans (B1.os.trans H.bw.os)
  · exact hg.tape.trans (B1.tape.trans H.bw.tape)
  · exact hg.output.trans (B1.output.trans H.bw.output)
  · exact Nat.le_trans H.bw.size (Nat.le_trans B1.size hg.size)
  · rw [gb j (by omega)]; exact H.bw.block j hj
  · rw [gb _ (by omega)]; exact H.res
theorem PRel.same {w : World} {l : Bs} {k : Nat} {v : Value} {wx W1 : World} (H : PRel w l k v wx) (B1 : Below wx.heap.size wx W1) (hS : pFold l (k + 1) = pFold l k) : PRel w l (k + 1) v W1 := by
  have zw := H.base
  refine ⟨by rw [hS]; exact H.own.moved lo1_off (fun k h1 _ => B1.block k h1), belowThen H.bw B1, (B1.block _ (by omega)).trans H.res⟩
/-- A proof of one step (a leaf, or a hole) is put. -/
theorem put_pf {w : World} {l : Bs} {k : Nat} {v : Value} {wx w1 : World} {q : Pf} {a b : Option Addr} {n c m d : Nat} (H : PRel w l k v wx) (b1 : Below wx.heap.size wx w1) (hst : pFold l (k + 1) = pFold l k ++ [q]) (hq : q.sub = [] ∧ q.marks = [])
    (ht : TmsAt (hide (lo wx) w1) q.form.args (.slice a n c)) (hs : FmsAt (hide (lo wx) w1) q.form.sub (.slice b m d)) :
    ∃ xs, (w1.alloc (.cells #[str q.rule, .int .u8 q.form.op, str q.form.name, .slice a n c, .slice b m d, .int .i64 q.label, .slice none 0 0, .slice none 0 0] 53)).ownsRow (w.heap.size + 1) 53 8 v (pFold l k).length xs ∧
      ∀ v' w5, w5.ownsRow (w.heap.size + 1) 53 8 v' ((pFold l k).length + 1) (xs ++ [str q.rule, .int .u8 q.form.op, str q.form.name, .slice a n c, .slice b m d, .int .i64 q.label, .slice none 0 0, .slice none 0 0]) →
        (w1.alloc (.cells #[str q.rule, .int .u8 q.form.op, str q.form.name, .slice a n c, .slice b m d, .int .i64 q.label, .slice none 0 0, .slice none 0 0] 53)).grownBy w5 v.ownBlock →
        (v'.ownBlock = v.ownBlock ∨ v'.ownBlock = some (w1.alloc (.cells #[str q.rule, .int .u8 q.form.op, str q.form.name, .slice a n c, .slice b m d, .int .i64 q.label, .slice none 0 0, .slice none 0 0] 53)).heap.size) → PRel w l (k + 1) v' w5 := by
  have zw := H.base
  have hv := own_lt H.own
  have K : Keeps (hide (lo wx) w1) (hide (fun k => lo1 w k || decide (v.ownBlock = some k)) w1) := hide_keeps2 fun k h1 h2 => ⟨by
    simp only [lo, lo1, decide_eq_false_iff_not, Nat.not_lt, Bool.or_eq_false_iff] at h2 ⊢
    exact ⟨by omega, fun e => by have := hv k e; omega⟩, rfl⟩
  have he : CellsAt (hide (fun k => lo1 w k || decide (v.ownBlock = some k)) w1) q.ds [str q.rule, .int .u8 q.form.op, str q.form.name, .slice a n c, .slice b m d, .int .i64 q.label, .slice none 0 0, .slice none 0 0] :=
    pf_cells (ht.keep K) (hs.keep K) (by rw [hq.1]; exact nilP _) (by rw [hq.2]; exact nilM _)
  obtain ⟨xs, ho, hf⟩ := own_put (ty := 53) H.own lo1_off b1 he
  refine ⟨xs, ho, fun v' w5 h5 hg hat => ?_⟩
  refine H.next (belowThen b1 ((Below.refl _ _).alloc (Nat.le_refl _) _)) hg (fun g e => (hv g e).1) hst ?_
  have := hf v' w5 h5 hg hat
  rwa [List.length_append, List.length_singleton, pfsDs_append, show pfsDs [q] = q.ds by simp [pfsDs]]
end Go.Proofs.YtcandidgaegghaaGreatDoor
namespace Go.Proofs.YtcandidgaegghaaGreatDoor
open Go Go.RowKit Ly
set_option maxRecDepth 10000
set_option linter.unusedSimpArgs false
set_option linter.unusedVariables false
set_option maxHeartbeats 2000000
theorem held_mono' {P : Program} {md : Region.Mode} {ops : Array Oper} {Q : Exit → Act → World → Prop} {S S' : World → Prop} (h : ∀ w, S' w → S w) : ∀ (fuel : Nat) (listed : Array Bool) (a : Act) (w : World), wpAnyH P md ops Q S' fuel listed a w → wpAnyH P md ops Q S fuel listed a w
  | 0, _, _, _, hk => hk
  | fuel + 1, _, _, _, hk => ⟨hk.1, fun i hi => wpOp_mono (fun a' w' q => ⟨h w' q.1, held_mono' h fuel _ a' w' q.2⟩) (hk.2 i hi)⟩
theorem held_now' {P : Program} {md : Region.Mode} {ops : Array Oper} {Q : Exit → Act → World → Prop} {wc w : World} {fuel : Nat} {listed : Array Bool} {a : Act} (h : Keeps wc w) (hk : Keeps w w → wpAnyH P md ops Q (fun w' => Keeps w w') fuel listed a w) : wpAnyH P md ops Q (fun w' => Keeps wc w') fuel listed a w :=
  held_mono' (fun _ k => h.trans k) _ _ _ _ (hk (Keeps.refl w))
theorem news8 (w : World) (a b c d e f g h : Value) (t : TypeId) : ∀ (j : Nat) (u : Value), [a, b, c, d, e, f, g, h][j]? = some u → (w.alloc (.cells #[a, b, c, d, e, f, g, h] t)).cell? ((⟨w.heap.size, 0, none⟩ : Addr).add j) = some u := by
  intro j u hu
  have hg := heap_alloc_new w (.cells #[a, b, c, d, e, f, g, h] t)
  rw [show ((⟨w.heap.size, 0, none⟩ : Addr).add j) = ⟨w.heap.size, j, none⟩ by simp [Addr.add]; omega, box_cell hg]
  simpa using hu
theorem oneCells8 {r nm : Bs} {op lb : Int} {a b s q : Option Addr} {n c m d sn sc qn qc : Nat} : ∀ u ∈ [str r, Value.int .u8 op, str nm, .slice a n c, .slice b m d, .int .i64 lb, .slice s sn sc, .slice q qn qc], u.oneCell' = true := by
  intro u hu
  simp at hu
  rcases hu with rfl | rfl | rfl | rfl | rfl | rfl | rfl | rfl <;> rfl
/-- Part of a list of bytes, as Go cuts it. -/
theorem BtsAt.sub {w : World} {l : Bs} {b off n c i m : Nat} (h : BtsAt w l (.slice (some ⟨b, off, none⟩) n c)) (hm : i + m ≤ n) : BtsAt w ((l.drop i).take m) (.slice (some ⟨b, off + i, none⟩) m (c - i)) := by
  obtain ⟨hn, hc, hx⟩ := h.len
  have hl : ((l.drop i).take m).length = m := by simp; omega
  unfold BtsAt
  rw [hl]
  rcases Nat.eq_zero_or_pos m with rfl | hp
  · rw [List.take_zero]; exact At.sl_nil (by omega)
  · have hne : l ≠ [] := by intro e; subst e; simp at hn; omega
    obtain ⟨b', off', e, hcell⟩ := h.get hne
    cases e
    refine At.sl_mk (by rw [List.length_map]; omega) (by omega) (by omega) fun j d hd => ?_
    rw [List.getElem?_map] at hd
    obtain ⟨x, hx2, rfl⟩ := Option.map_eq_some_iff.1 hd
    rw [List.getElem?_take] at hx2
    split at hx2
    · rw [List.getElem?_drop] at hx2
      refine ⟨_, ?_, rfl⟩
      rw [Nat.add_assoc]; exact hcell _ _ hx2
    · cases hx2
/-- The formula of a round, in its variable. -/
structure FP (wb : World) (F : Fm) (a : Option Addr) (n c : Nat) (b : Option Addr) (m d : Nat) (g : Nat) (wx : World) : Prop where
  bw : Below wb.heap.size wb wx
  cell : wx.heap[g]? = some (.cells #[.int .u8 F.op, str F.name, .slice a n c, .slice b m d] 25 (0, 0))
  ht : TmsAt (hide (lo wb) wx) F.args (.slice a n c)
  hs : FmsAt (hide (lo wb) wx) F.sub (.slice b m d)
theorem FP.moved {wb wx wy : World} {F : Fm} {a : Option Addr} {n c : Nat} {b : Option Addr} {m d g : Nat} (h : FP wb F a n c b m d g wx) (k : Below wx.heap.size wx wy) : FP wb F a n c b m d g wy :=
  have K : Keeps (hide (lo wb) wx) (hide (lo wb) wy) := hide_keeps2 fun i h1 h2 => ⟨h2, k.block i h1⟩
  ⟨belowThen h.bw k, kc k h.cell, h.ht.keep K, h.hs.keep K⟩
/-- The blocks that are not this round's: those ahead of Proved, its result, and the list's own. -/
def qh (w : World) (sa : Option Addr) (N sc : Nat) : Nat → Bool := fun k => lo1 w k || decide ((Value.slice sa N sc).ownBlock = some k)
def p7 (wF : World) (pb : Nat) (v6 : Value) : Nat → Bool := fun j => lo wF j || (decide (j = pb) || decide (v6.ownBlock = some j))
theorem OwnDs.far {p p' : Nat → Bool} {base size n : Nat} {w w' : World} {e : TypeId} {ds : List D} {v : Value} (h : OwnDs p base w e size n ds v) (hb : ∀ g, v.ownBlock = some g → w'.heap[g]? = w.heap[g]?)
    (hk : ∀ k, k < w.heap.size → p k = false → v.ownBlock ≠ some k → p' k = false ∧ w'.heap[k]? = w.heap[k]?) : OwnDs p' base w' e size n ds v := by
  obtain ⟨xs, ho, hc⟩ := h
  refine ⟨xs, ⟨ho.1, ?_⟩, hc.keep (hide_keeps2 fun k h1 h2 => ?_)⟩
  · rcases ho.2 with h1 | ⟨g, cap, cur, rfl, hb1, hg, h1, h2, h3, h4⟩
    · exact .inl h1
    · exact .inr ⟨g, cap, cur, rfl, hb1, (hb g rfl).trans hg, h1, h2, h3, h4⟩
  · simp only [Bool.or_eq_false_iff, decide_eq_false_iff_not] at h2
    obtain ⟨a, b⟩ := hk k h1 h2.1 h2.2
    exact ⟨by simp only [Bool.or_eq_false_iff, decide_eq_false_iff_not]; exact ⟨a, h2.2⟩, b⟩
theorem row_far {base size n : Nat} {w w' : World} {e : TypeId} {v : Value} {xs : List Value} (ho : w.ownsRow base e size v n xs) (hb : ∀ g, v.ownBlock = some g → w'.heap[g]? = w.heap[g]?) : w'.ownsRow base e size v n xs := by
  refine ⟨ho.1, ?_⟩
  rcases ho.2 with h1 | ⟨g, cap, cur, rfl, hb1, hg, h1, h2, h3, h4⟩
  · exact .inl h1
  · exact .inr ⟨g, cap, cur, rfl, hb1, (hb g rfl).trans hg, h1, h2, h3, h4⟩
/-- What holds while a step's premises (i6 of them) and marks (i7) are put. -/
structure IR (w wb wF : World) (l : Bs) (k : Nat) (sa : Option Addr) (N sc M b pb : Nat) (rn : Bs) (F : Fm) (fa : Option Addr) (fn fc : Nat) (fb : Option Addr) (fm fd : Nat) (i6 i7 : Nat) (v6 v7 : Value) (wr : World) : Prop where
  bw : Below wF.heap.size wF wr
  hp : wF.heap.size ≤ pb
  cell : wr.heap[pb]? = some (.cells #[str rn, .int .u8 F.op, str F.name, .slice fa fn fc, .slice fb fm fd, .int .i64 0, v6, v7] 53 (0, 0))
  o6 : ∃ xs, wr.ownsRow (pb + 1) 53 8 v6 i6 xs ∧ CellsAt (hide (qh w sa N sc) wb) ((pfsDs ((pFold l k).drop (N - M))).take (i6 * 8)) xs
  o7 : OwnDs (p7 wF pb v6) (pb + 1) wr 29 1 i7 (((List.range i7).map (marksOf b)).map marksD) v7
  ne : ∀ g, v6.ownBlock = some g → v7.ownBlock ≠ some g
section
variable {w wb wF wr : World} {l : Bs} {k : Nat} {sa : Option Addr} {N sc M b pb : Nat} {rn : Bs} {F : Fm} {fa : Option Addr} {fn fc : Nat} {fb : Option Addr} {fm fd : Nat} {i6 i7 : Nat} {v6 v7 : Value}
theorem IR.first (bw : Below wF.heap.size wF wr) (hp : wF.heap.size ≤ pb) (cell : wr.heap[pb]? = some (.cells #[str rn, .int .u8 F.op, str F.name, .slice fa fn fc, .slice fb fm fd, .int .i64 0, .slice none 0 0, .slice none 0 0] 53 (0, 0))) :
    IR w wb wF l k sa N sc M b pb rn F fa fn fc fb fm fd 0 0 (.slice none 0 0) (.slice none 0 0) wr :=
  ⟨bw, hp, cell, ⟨[], World.ownsRow_nil _ _ _ _, by simpa using CellsAt.nil _⟩, OwnDs.nil _ _ _ _ _, fun g h => by cases h⟩
theorem IR.lt6 (I : IR w wb wF l k sa N sc M b pb rn F fa fn fc fb fm fd i6 i7 v6 v7 wr) : ∀ g, v6.ownBlock = some g → pb + 1 ≤ g ∧ g < wr.heap.size := by
  obtain ⟨xs, ho, _⟩ := I.o6; exact ho.lt
theorem IR.lt7 (I : IR w wb wF l k sa N sc M b pb rn F fa fn fc fb fm fd i6 i7 v6 v7 wr) : ∀ g, v7.ownBlock = some g → pb + 1 ≤ g ∧ g < wr.heap.size := by
  obtain ⟨xs, ho, _⟩ := I.o7; exact ho.lt
theorem IR.ltp (I : IR w wb wF l k sa N sc M b pb rn F fa fn fc fb fm fd i6 i7 v6 v7 wr) : pb < wr.heap.size := (Array.getElem?_eq_some_iff.1 I.cell).1
theorem IR.below {wy : World} (I : IR w wb wF l k sa N sc M b pb rn F fa fn fc fb fm fd i6 i7 v6 v7 wr) (h : Below wr.heap.size wr wy) : IR w wb wF l k sa N sc M b pb rn F fa fn fc fb fm fd i6 i7 v6 v7 wy := by
  obtain ⟨xs, ho, hc⟩ := I.o6
  exact ⟨belowThen I.bw h, I.hp, kc h I.cell, ⟨xs, row_far ho (fun g hg => h.block g (I.lt6 g hg).2), hc⟩, I.o7.far (fun g hg => h.block g (I.lt7 g hg).2) (fun k h1 h2 _ => ⟨h2, h.block k h1⟩), I.ne⟩
/-- A premise is put. -/
theorem IR.sub {i : Nat} {W1 w5 : World} {es : List Value} {v6' : Value} {ds : List D} (I : IR w wb wF l k sa N sc M b pb rn F fa fn fc fb fm fd i i7 v6 v7 wr) (B1 : Below wr.heap.size wr W1)
    (hc : ∀ xs, CellsAt (hide (qh w sa N sc) wb) ((pfsDs ((pFold l k).drop (N - M))).take (i * 8)) xs → CellsAt (hide (qh w sa N sc) wb) ((pfsDs ((pFold l k).drop (N - M))).take ((i + 1) * 8)) (xs ++ es)) :
    ∃ xs, W1.ownsRow (pb + 1) 53 8 v6 i xs ∧ W1.cell? ⟨pb, 6, none⟩ = some v6 ∧ ∀ v6' w5, w5.ownsRow (pb + 1) 53 8 v6' (i + 1) (xs ++ es) → W1.grownBy w5 v6.ownBlock → (v6'.ownBlock = v6.ownBlock ∨ v6'.ownBlock = some W1.heap.size) →
      (w5.cell? ⟨pb, 6, none⟩ = some v6 ∧ w5.frozen? ⟨pb, 6, none⟩ = false) ∧ IR w wb wF l k sa N sc M b pb rn F fa fn fc fb fm fd (i + 1) i7 v6' v7 (w5.setCell ⟨pb, 6, none⟩ v6') := by
  have J := I.below B1
  obtain ⟨xs, ho, hx⟩ := J.o6
  refine ⟨xs, ho, (box_cell J.cell 6).trans rfl, fun v6' w5 h5 hg hat => ?_⟩
  have hpb : w5.heap[pb]? = W1.heap[pb]? := hg.block pb J.ltp (fun e => by have := (J.lt6 pb e.symm).1; omega)
  have c5 := hpb.trans J.cell
  refine ⟨⟨(box_cell c5 6).trans rfl, by simp [World.frozen?, c5]⟩, ?_⟩
  have off : ∀ j, j ≠ pb → (w5.setCell ⟨pb, 6, none⟩ v6').heap[j]? = w5.heap[j]? := fun j hj => Below.heap_setCell _ _ _ _ hj
  have hsz := hg.size
  refine ⟨?_, I.hp, (set_block c5).trans rfl, ⟨xs ++ es, row_far h5 (fun g e => off g (fun e2 => by have := (h5.lt g e).1; omega)), hc xs hx⟩, ?_, fun g e e7 => ?_⟩
  · have hB : Below wF.heap.size wF w5 := by
      refine ⟨hg.os.trans J.bw.os, hg.tape.trans J.bw.tape, hg.output.trans J.bw.output, Nat.le_trans J.bw.size hsz, fun j hj => ?_⟩
      rw [hg.block j (Nat.lt_of_lt_of_le hj J.bw.size) (fun e => by have := (J.lt6 j e.symm).1; have := I.hp; omega)]
      exact J.bw.block j hj
    exact hB.setCell I.hp _
  · refine J.o7.far (fun g e => ?_) (fun j h1 h2 h3 => ?_)
    · rw [off g (fun e2 => by have := (J.lt7 g e).1; omega)]
      exact hg.block g (J.lt7 g e).2 (fun e2 => J.ne g e2.symm e)
    · simp only [p7, Bool.or_eq_false_iff, decide_eq_false_iff_not] at h2 ⊢
      refine ⟨⟨h2.1, h2.2.1, fun e => ?_⟩, (off j h2.2.1).trans (hg.block j h1 (fun e => h2.2.2 e.symm))⟩
      rcases hat with e2 | e2
      · exact h2.2.2 (e2.symm.trans e)
      · rw [e2] at e; cases e; omega
  · rcases hat with e2 | e2
    · exact J.ne g (e2.symm.trans e) e7
    · rw [e2] at e; cases e
      have := (J.lt7 _ e7).2; omega
/-- The marks of a premise are put. -/
theorem IR.mark {i : Nat} {W1 : World} {vm : Value} (I : IR w wb wF l k sa N sc M b pb rn F fa fn fc fb fm fd i6 i v6 v7 wr) (B1 : Below wr.heap.size wr W1)
    (hm : At (hide (fun j => lo wr j) W1) (marksD (marksOf b i)) vm) :
    ∃ xs, W1.ownsRow (pb + 1) 29 1 v7 i xs ∧ W1.cell? ⟨pb, 7, none⟩ = some v7 ∧ ∀ v7' w5, w5.ownsRow (pb + 1) 29 1 v7' (i + 1) (xs ++ [vm]) → W1.grownBy w5 v7.ownBlock → (v7'.ownBlock = v7.ownBlock ∨ v7'.ownBlock = some W1.heap.size) →
      (w5.cell? ⟨pb, 7, none⟩ = some v7 ∧ w5.frozen? ⟨pb, 7, none⟩ = false) ∧ IR w wb wF l k sa N sc M b pb rn F fa fn fc fb fm fd i6 (i + 1) v6 v7' (w5.setCell ⟨pb, 7, none⟩ v7') := by
  have J := I.below B1
  have hb1 := B1.size
  obtain ⟨xs, ho, hx⟩ := J.o7
  refine ⟨xs, ho, (box_cell J.cell 7).trans rfl, fun v7' w5 h5 hg hat => ?_⟩
  have hpb : w5.heap[pb]? = W1.heap[pb]? := hg.block pb J.ltp (fun e => by have := (J.lt7 pb e.symm).1; omega)
  have c5 := hpb.trans J.cell
  refine ⟨⟨(box_cell c5 7).trans rfl, by simp [World.frozen?, c5]⟩, ?_⟩
  have off : ∀ j, j ≠ pb → (w5.setCell ⟨pb, 7, none⟩ v7').heap[j]? = w5.heap[j]? := fun j hj => Below.heap_setCell _ _ _ _ hj
  have hsz := hg.size
  have Km : Keeps (hide (fun j => lo wr j) W1) (hide (fun j => p7 wF pb v6 j || decide (v7.ownBlock = some j)) W1) := hide_keeps2 fun j h1 h2 => ⟨by
    simp only [lo, p7, decide_eq_false_iff_not, Nat.not_lt, Bool.or_eq_false_iff] at h2 ⊢
    have a1 := I.bw.size
    have a2 := I.ltp
    exact ⟨⟨by omega, by omega, fun e => by have := (I.lt6 j e).2; omega⟩, fun e => by have := (I.lt7 j e).2; omega⟩, rfl⟩
  obtain ⟨ys, hys, hcs⟩ := J.o6
  have O : OwnDs (p7 wF pb v6) (pb + 1) w5 29 1 (i + 1) (((List.range (i + 1)).map (marksOf b)).map marksD) v7' := by
    rw [List.range_succ, List.map_append, List.map_append]
    refine OwnDs.appended hx ?_ h5 hg hat
    exact CellsAt.cons (At.keep Km _ _ hm) (CellsAt.nil _)
  refine ⟨?_, I.hp, (set_block c5).trans rfl, ⟨ys, row_far hys (fun g e => ?_), hcs⟩, ?_, fun g e e7 => ?_⟩
  · have hB : Below wF.heap.size wF w5 := by
      refine ⟨hg.os.trans J.bw.os, hg.tape.trans J.bw.tape, hg.output.trans J.bw.output, Nat.le_trans J.bw.size hsz, fun j hj => ?_⟩
      rw [hg.block j (Nat.lt_of_lt_of_le hj J.bw.size) (fun e => by have := (J.lt7 j e.symm).1; have := I.hp; omega)]
      exact J.bw.block j hj
    exact hB.setCell I.hp _
  · rw [off g (fun e2 => by have := (J.lt6 g e).1; omega)]
    exact hg.block g (J.lt6 g e).2 (fun e2 => J.ne g e e2.symm)
  · refine O.far (fun g e => off g (fun e2 => by have := (h5.lt g e).1; omega)) (fun j h1 h2 h3 => ⟨h2, off j ?_⟩)
    simp only [p7, Bool.or_eq_false_iff, decide_eq_false_iff_not] at h2
    exact h2.2.1
  · rcases hat with e2 | e2
    · exact J.ne g e (e2.symm.trans e7)
    · rw [e2] at e7; cases e7
      have := (J.lt6 _ e).2; omega
/-- The step is whole: it is put behind what is left of the list. -/
theorem IR.done {g7 : Nat} (I : IR w wb wF l k sa N sc M b pb rn F fa fn fc fb fm fd M M v6 v7 wr) (H : PRel w l k (.slice sa N sc) wb) (P : FP wb F fa fn fc fb fm fd g7 wF) (hN : (pFold l k).length = N) (hM : M ≤ N)
    (hst : pFold l (k + 1) = (pFold l k).take (N - M) ++ [.mk rn F 0 ((pFold l k).drop (N - M)) ((List.range M).map (marksOf b))]) :
    ∃ olds, olds.length = (N - M) * 8 ∧ (∀ q, sa = some q → ∀ i u, olds[i]? = some u → (wr.alloc (.cells #[str rn, .int .u8 F.op, str F.name, .slice fa fn fc, .slice fb fm fd, .int .i64 0, v6, v7] 53)).cell? (q.add i) = some u) ∧
      ∀ v' w5, w5.ownsRow (wr.alloc (.cells #[str rn, .int .u8 F.op, str F.name, .slice fa fn fc, .slice fb fm fd, .int .i64 0, v6, v7] 53)).heap.size 53 8 v' (N - M + 1) (olds ++ [str rn, .int .u8 F.op, str F.name, .slice fa fn fc, .slice fb fm fd, .int .i64 0, v6, v7]) → (wr.alloc (.cells #[str rn, .int .u8 F.op, str F.name, .slice fa fn fc, .slice fb fm fd, .int .i64 0, v6, v7] 53)).grownBy w5 none → PRel w l (k + 1) v' w5 := by
  have zw := H.base
  have hv := own_lt H.own
  have B1 : Below wb.heap.size wb wr := belowThen P.bw I.bw
  have s1 := P.bw.size
  have KF : Keeps (hide (lo wb) wF) (hide (qh w sa N sc) wr) := hide_keeps2 fun j h1 h2 => ⟨by
    simp only [lo, qh, lo1, decide_eq_false_iff_not, Nat.not_lt, Bool.or_eq_false_iff] at h2 ⊢
    exact ⟨by omega, fun e => by have := hv j e; omega⟩, I.bw.block j h1⟩
  have off : ∀ j, pb + 1 ≤ j → qh w sa N sc j = false := fun j hj => by
    have := I.hp
    simp only [qh, lo1, decide_eq_false_iff_not, Nat.not_lt, Bool.or_eq_false_iff]
    exact ⟨by omega, fun e => by have := hv j e; omega⟩
  obtain ⟨xs, ho, hx⟩ := I.o6
  have hl : (pfsDs ((pFold l k).drop (N - M))).length = M * 8 := by rw [pfsDs_length, List.length_drop, hN]; congr 1; omega
  rw [List.take_of_length_le (by omega)] at hx
  have hsub : PfsAt (hide (qh w sa N sc) wr) ((pFold l k).drop (N - M)) v6 := by
    have O : OwnDs (qh w sa N sc) (pb + 1) wr 53 8 M (pfsDs ((pFold l k).drop (N - M))) v6 := by
      refine ⟨xs, ho, hx.keep (hide_keeps2 fun j h1 h2 => ⟨?_, B1.block j h1⟩)⟩
      simp only [Bool.or_eq_false_iff, decide_eq_false_iff_not]
      exact ⟨h2, fun e => by have := (I.lt6 j e).1; have := I.hp; omega⟩
    have := O.at off
    unfold PfsAt
    rwa [show ((pFold l k).drop (N - M)).length = M by rw [List.length_drop, hN]; omega]
  have hmk : MarksAt (hide (qh w sa N sc) wr) ((List.range M).map (marksOf b)) v7 := by
    have O : OwnDs (qh w sa N sc) (pb + 1) wr 29 1 M (((List.range M).map (marksOf b)).map marksD) v7 := I.o7.far (fun _ _ => rfl) (fun j h1 h2 _ => ⟨by
      simp only [p7, lo, qh, lo1, decide_eq_false_iff_not, Nat.not_lt, Bool.or_eq_false_iff] at h2 ⊢
      exact ⟨by omega, fun e => by have := hv j e; omega⟩, rfl⟩)
    have := O.at off
    unfold MarksAt
    rwa [show ((List.range M).map (marksOf b)).length = M by simp]
  obtain ⟨a6, n6, c6, rfl⟩ := PfsAt.slice hsub
  obtain ⟨a7, n7, c7, rfl⟩ := MarksAt.slice hmk
  have he := pf_cells (p := .mk rn F 0 ((pFold l k).drop (N - M)) ((List.range M).map (marksOf b))) (P.ht.keep KF) (P.hs.keep KF) hsub hmk
  have own := H.own
  rw [hN] at own
  obtain ⟨olds, h1, h2, h3⟩ := own_cut (ty := 53) (j := N - M) own lo1_off zw B1 (by omega) he
  refine ⟨olds, h1, h2, fun v' w5 h5 hg => ?_⟩
  refine H.next (belowThen B1 ((Below.refl _ _).alloc (Nat.le_refl _) _)) hg (fun g e => by cases e) hst ?_
  have := h3 v' w5 h5 hg
  rw [List.length_append, List.length_singleton, pfsDs_append, pfsDs_take, List.length_take, hN, show min (N - M) N = N - M by omega]
  rwa [show pfsDs [Pf.mk rn F 0 ((pFold l k).drop (N - M)) ((List.range M).map (marksOf b))] = (Pf.mk rn F 0 ((pFold l k).drop (N - M)) ((List.range M).map (marksOf b))).ds by simp [pfsDs]]
end
end Go.Proofs.YtcandidgaegghaaGreatDoor
end
section
namespace Go.Proofs.YtcandidgaegghaaGreatDoor
open Go Go.RowKit Ly
set_option maxRecDepth 10000
set_option linter.unusedSimpArgs false
set_option linter.unusedVariables false
set_option maxHeartbeats 2000000
theorem row53 {w : World} {b : Nat} {x0 x1 x2 x3 x4 x5 x6 x7 : Value} (h : w.heap[b]? = some (.cells #[x0, x1, x2, x3, x4, x5, x6, x7] 53 (0, 0))) :
    w.cell? ⟨b, 0, none⟩ = some x0 ∧ w.cell? ⟨b, 1, none⟩ = some x1 ∧ w.cell? ⟨b, 2, none⟩ = some x2 ∧ w.cell? ⟨b, 3, none⟩ = some x3 ∧ w.cell? ⟨b, 4, none⟩ = some x4 ∧ w.cell? ⟨b, 5, none⟩ = some x5 ∧ w.cell? ⟨b, 6, none⟩ = some x6 ∧ w.cell? ⟨b, 7, none⟩ = some x7 :=
  ⟨(box_cell h 0).trans rfl, (box_cell h 1).trans rfl, (box_cell h 2).trans rfl, (box_cell h 3).trans rfl, (box_cell h 4).trans rfl, (box_cell h 5).trans rfl, (box_cell h 6).trans rfl, (box_cell h 7).trans rfl⟩
theorem row_form {base size n : Nat} {w : World} {e : TypeId} {v : Value} {xs : List Value} (ho : w.ownsRow base e size v n xs) : ∃ a c, v = .slice a n c := by
  rcases ho.2 with ⟨rfl, rfl⟩ | ⟨g, cap, cur, rfl, hb, hg, h1, h2, h3, h4⟩
  · exact ⟨none, 0, rfl⟩
  · exact ⟨_, _, rfl⟩
/-- An element of the list of proofs. -/
structure PElem (w wb : World) (sa : Option Addr) (N sc g j : Nat) (p : Pf) (a : Option Addr) (n c : Nat) (b : Option Addr) (m d : Nat) (s : Option Addr) (sn sc' : Nat) (q : Option Addr) (qn qc : Nat) : Prop where
  c0 : wb.cell? ⟨g, j * 8, none⟩ = some (str p.rule)
  c1 : wb.cell? ⟨g, j * 8 + 1, none⟩ = some (.int .u8 p.form.op)
  c2 : wb.cell? ⟨g, j * 8 + 2, none⟩ = some (str p.form.name)
  c3 : wb.cell? ⟨g, j * 8 + 3, none⟩ = some (.slice a n c)
  c4 : wb.cell? ⟨g, j * 8 + 4, none⟩ = some (.slice b m d)
  c5 : wb.cell? ⟨g, j * 8 + 5, none⟩ = some (.int .i64 p.label)
  c6 : wb.cell? ⟨g, j * 8 + 6, none⟩ = some (.slice s sn sc')
  c7 : wb.cell? ⟨g, j * 8 + 7, none⟩ = some (.slice q qn qc)
  h3 : TmsAt (hide (qh w sa N sc) wb) p.form.args (.slice a n c)
  h4 : FmsAt (hide (qh w sa N sc) wb) p.form.sub (.slice b m d)
  h6 : PfsAt (hide (qh w sa N sc) wb) p.sub (.slice s sn sc')
  h7 : MarksAt (hide (qh w sa N sc) wb) p.marks (.slice q qn qc)
  all : CellsAt (hide (qh w sa N sc) wb) p.ds [str p.rule, .int .u8 p.form.op, str p.form.name, .slice a n c, .slice b m d, .int .i64 p.label, .slice s sn sc', .slice q qn qc]
theorem p_elem {w wb : World} {l : Bs} {k N sc : Nat} {sa : Option Addr} (H : PRel w l k (.slice sa N sc) wb) {j : Nat} {p : Pf} (hp : (pFold l k)[j]? = some p) :
    ∃ g a n c b m d s sn sc' q qn qc, sa = some ⟨g, 0, none⟩ ∧ g < wb.heap.size ∧ PElem w wb sa N sc g j p a n c b m d s sn sc' q qn qc := by
  obtain ⟨xs, ho, hc⟩ := H.own
  have hj := (List.getElem?_eq_some_iff.1 hp).1
  rcases ho.2 with ⟨e, h0⟩ | ⟨g, cap, cur, e, hb, hg, _⟩
  · omega
  · obtain rfl : sa = some ⟨g, 0, none⟩ := by cases e; rfl
    have hx := fun j u h => ho.cells (g := g) rfl j u h
    obtain ⟨r, ⟨op, nm, ta, sub⟩, lb, ps, ms⟩ := p
    have cell : ∀ t d, (pfsDs (pFold l k))[j * 8 + t]? = some d → ∃ u, wb.cell? ⟨g, j * 8 + t, none⟩ = some u ∧ At (hide (qh w (some ⟨g, 0, none⟩) N sc) wb) d u := by
      intro t d hd
      obtain ⟨u, h1, h2⟩ := hc.2 _ d hd
      have := hx _ u h1
      rw [show ((⟨g, 0, none⟩ : Addr).add (j * 8 + t)) = ⟨g, j * 8 + t, none⟩ by simp [Addr.add]; omega] at this
      exact ⟨u, this, h2⟩
    obtain ⟨u0, k0, p0⟩ := cell 0 (.val (str r)) (pfsDs_get _ j _ hp 0 (by omega))
    obtain ⟨u1, k1, p1⟩ := cell 1 (.val (.int .u8 op)) (pfsDs_get _ j _ hp 1 (by omega))
    obtain ⟨u2, k2, p2⟩ := cell 2 (.val (str nm)) (pfsDs_get _ j _ hp 2 (by omega))
    obtain ⟨u3, k3, p3⟩ := cell 3 (.sl 3 ta.length (tmsDs ta)) (pfsDs_get _ j _ hp 3 (by omega))
    obtain ⟨u4, k4, p4⟩ := cell 4 (.sl 4 sub.length (fmsDs sub)) (pfsDs_get _ j _ hp 4 (by omega))
    obtain ⟨u5, k5, p5⟩ := cell 5 (.val (.int .i64 lb)) (pfsDs_get _ j _ hp 5 (by omega))
    obtain ⟨u6, k6, p6⟩ := cell 6 (.sl 8 ps.length (pfsDs ps)) (pfsDs_get _ j _ hp 6 (by omega))
    obtain ⟨u7, k7, p7⟩ := cell 7 (.sl 1 ms.length (ms.map marksD)) (pfsDs_get _ j _ hp 7 (by omega))
    obtain ⟨x, xk, xe, rfl⟩ := TmsAt.slice (l := ta) p3
    obtain ⟨y, m, d, rfl⟩ := FmsAt.slice (l := sub) p4
    obtain ⟨s, sn, sc', rfl⟩ := PfsAt.slice (l := ps) p6
    obtain ⟨q, qn, qc, rfl⟩ := MarksAt.slice (l := ms) p7
    have e0 : u0 = _ := p0
    have e1 : u1 = _ := p1
    have e2 : u2 = _ := p2
    have e5 : u5 = _ := p5
    subst e0 e1 e2 e5
    exact ⟨g, x, xk, xe, y, m, d, s, sn, sc', q, qn, qc, rfl, (Array.getElem?_eq_some_iff.1 hg).1, k0, k1, k2, k3, k4, k5, k6, k7, p3, p4, p6, p7, pf_cells (p := .mk r (.mk op nm ta sub) lb ps ms) p3 p4 p6 p7⟩
theorem pfsDs_next {S : List Pf} {D i : Nat} {p : Pf} (h : S[D + i]? = some p) : (pfsDs (S.drop D)).take ((i + 1) * 8) = (pfsDs (S.drop D)).take (i * 8) ++ p.ds := by
  rw [← pfsDs_take, ← pfsDs_take, List.take_add_one, List.getElem?_drop, h, pfsDs_append]
  simp [pfsDs]
/-- The marks of a premise so far. -/
def MR (w6 : World) (b i j : Nat) (u : Value) (wq : World) : Prop := Below w6.heap.size w6 wq ∧ wq.ownsRow w6.heap.size 3 1 u j (((List.range j).map fun j => (((b * j * 7 + i) % 1000 : Nat) : Int)).map fun z => Value.int .i64 z)
theorem MR.marks {w6 wq W1 : World} {b i : Nat} {u : Value} (h : MR w6 b i ((b + i) % 4) u wq) (B : Below wq.heap.size wq W1) : At (hide (fun j => lo w6 j) W1) (marksD (marksOf b i)) u := by
  have O : OwnDs (lo w6) w6.heap.size wq 3 1 ((b + i) % 4) ((marksOf b i).map intD) u := by
    refine ⟨_, h.2, by simp [marksOf], fun j d hd => ?_⟩
    rw [List.getElem?_map] at hd
    obtain ⟨z, hz, rfl⟩ := Option.map_eq_some_iff.1 hd
    exact ⟨.int .i64 z, by rw [List.getElem?_map]; unfold marksOf at hz; rw [hz]; rfl, rfl⟩
  have := (O.moved (w' := W1) (fun k hk => by simp [lo]; omega) (fun k h1 _ => B.block k h1)).at (fun k hk => by simp [lo]; omega)
  unfold marksD
  rwa [show (marksOf b i).length = (b + i) % 4 by simp [marksOf]]
theorem MR.next {w6 wq w5 : World} {b i j : Nat} {u v5 : Value} {o : Obj} (h : MR w6 b i j u wq) (h5 : w5.ownsRow w6.heap.size 3 1 v5 (j + 1) ((((List.range j).map fun j => (((b * j * 7 + i) % 1000 : Nat) : Int)).map fun z => Value.int .i64 z) ++ [.int .i64 (((b * j * 7 + i) % 1000 : Nat) : Int)])) (hg : (wq.alloc o).grownBy w5 u.ownBlock) : MR w6 b i (j + 1) v5 w5 := by
  refine ⟨?_, ?_⟩
  · exact (h.1.alloc h.1.size _).grown hg (by have := h.1.size; simp; omega) (fun kk hkk => (h.2.lt kk hkk).1)
  · rw [List.range_succ, List.map_append, List.map_append]; exact h5
theorem u53 : ∃ fs, Tryz.prog.underlying 53 = some (.struct fs) := ⟨_, Tryz.underlying53⟩
theorem i53 : (Tryz.prog.info? 53).map (·.size) = some 8 := by kernel_rfl
theorem res53 {fn : Func} {p : Tmp} (h : fn.results = #[.cell p 53]) (tmps : Array Value) (w : World) (g : Nat) (a b c d e f x y : Value) (fr : Nat × Nat)
    (hp : tmps.getD p undef = one g) (hg : w.heap[g]? = some (.cells #[a, b, c, d, e, f, x, y] 53 fr)) : (results fn tmps).run Tryz.prog w = .ok (.agg #[a, b, c, d, e, f, x, y]) w := by
  obtain ⟨fs, h1⟩ := u53
  exact results_cell_row h tmps w g 53 #[a, b, c, d, e, f, x, y] fr _ hp hg h1 rfl i53
theorem own_cap {w wb : World} {l : Bs} {k N sc : Nat} {sa : Option Addr} (H : PRel w l k (.slice sa N sc) wb) : N ≤ sc ∧ (sa = none → N = 0) := by
  obtain ⟨xs, ho, hc⟩ := H.own
  rcases ho.2 with ⟨e, h0⟩ | ⟨g, cap, cur, e, hb, hg, h1, _⟩
  · cases e; exact ⟨Nat.zero_le _, fun _ => rfl⟩
  · cases e; exact ⟨h1, fun e => by cases e⟩
def W8 (w3 : World) (g : Nat) (r : Bs) (op : Int) (nm : Bs) (a : Option Addr) (n c : Nat) (b : Option Addr) (m d : Nat) (lb : Int) (s : Option Addr) (sn sc : Nat) (q : Option Addr) (qn qc : Nat) : World :=
  (((((((w3.setCell ⟨g, 0, none⟩ (str r)).setCell ⟨g, 1, none⟩ (.int .u8 op)).setCell ⟨g, 2, none⟩ (str nm)).setCell ⟨g, 3, none⟩ (.slice a n c)).setCell ⟨g, 4, none⟩ (.slice b m d)).setCell ⟨g, 5, none⟩ (.int .i64 lb)).setCell ⟨g, 6, none⟩ (.slice s sn sc)).setCell ⟨g, 7, none⟩ (.slice q qn qc)
theorem proved_end {w w3 : World} {p r : Pf} {a b s q : Option Addr} {n c m d sn sc qn qc : Nat} {tmps : Array Value} (B : Below w.heap.size w w3)
    (hg : w3.heap[w.heap.size]? = some (.cells #[str [], .int .u8 0, str [], .slice none 0 0, .slice none 0 0, .int .i64 0, .slice none 0 0, .slice none 0 0] 53 (0, 0)))
    (h3 : TmsAt (hide (lo1 w) w3) p.form.args (.slice a n c)) (h4 : FmsAt (hide (lo1 w) w3) p.form.sub (.slice b m d)) (h6 : PfsAt (hide (lo1 w) w3) p.sub (.slice s sn sc)) (h7 : MarksAt (hide (lo1 w) w3) p.marks (.slice q qn qc)) (hr : r = p) (h2 : tmps.getD 2 undef = one w.heap.size) :
    bodyPost Tryz.prog Tryz.f23 (Ret PfVal r w) .ret ⟨tmps, []⟩ (W8 w3 w.heap.size p.rule p.form.op p.form.name a n c b m d p.label s sn sc q qn qc) := by
  subst hr
  have g1 := set_block (o := 0) (u := str r.rule) hg
  have g2 := set_block (o := 1) (u := .int .u8 r.form.op) g1
  have g3 := set_block (o := 2) (u := str r.form.name) g2
  have g4 := set_block (o := 3) (u := .slice a n c) g3
  have g5 := set_block (o := 4) (u := .slice b m d) g4
  have g6 := set_block (o := 5) (u := .int .i64 r.label) g5
  have g7 := set_block (o := 6) (u := .slice s sn sc) g6
  have g8 := set_block (o := 7) (u := .slice q qn qc) g7
  have K0 : Keeps (hide (lo1 w) w3) (hide (lo w) (W8 w3 w.heap.size r.rule r.form.op r.form.name a n c b m d r.label s sn sc q qn qc)) := lo1_lo fun k _ hne => by
    unfold W8
    rw [Below.heap_setCell _ _ _ _ hne, Below.heap_setCell _ _ _ _ hne, Below.heap_setCell _ _ _ _ hne, Below.heap_setCell _ _ _ _ hne, Below.heap_setCell _ _ _ _ hne, Below.heap_setCell _ _ _ _ hne, Below.heap_setCell _ _ _ _ hne, Below.heap_setCell _ _ _ _ hne]
  have K := K0.trans (hide_keeps _ _)
  have B8 : Below w.heap.size w (W8 w3 w.heap.size r.rule r.form.op r.form.name a n c b m d r.label s sn sc q qn qc) := (((((((B.setCell (by simp) _).setCell (by simp) _).setCell (by simp) _).setCell (by simp) _).setCell (by simp) _).setCell (by simp) _).setCell (by simp) _).setCell (by simp) _
  refine bodyPost_ret (res53 rfl _ (W8 w3 w.heap.size r.rule r.form.op r.form.name a n c b m d r.label s sn sc q qn qc) w.heap.size _ _ _ _ _ _ _ _ (0, 0) h2 g8) rfl ?_
  exact ⟨_, rfl, ⟨_, _, _, _, _, _, _, _, _, _, _, _, rfl, h3.keep K, h4.keep K, h6.keep K, h7.keep K⟩, B8⟩
theorem row53f {w : World} {b : Nat} {x0 x1 x2 x3 x4 x5 x6 x7 : Value} (h : w.heap[b]? = some (.cells #[x0, x1, x2, x3, x4, x5, x6, x7] 53 (0, 0))) :
    w.frozen? ⟨b, 0, none⟩ = false ∧ w.frozen? ⟨b, 1, none⟩ = false ∧ w.frozen? ⟨b, 2, none⟩ = false ∧ w.frozen? ⟨b, 3, none⟩ = false ∧ w.frozen? ⟨b, 4, none⟩ = false ∧ w.frozen? ⟨b, 5, none⟩ = false ∧ w.frozen? ⟨b, 6, none⟩ = false ∧ w.frozen? ⟨b, 7, none⟩ = false := by
  refine ⟨?_, ?_, ?_, ?_, ?_, ?_, ?_, ?_⟩ <;> simp [World.frozen?, h]
theorem qh_lo1 {w wb w3 : World} {sa : Option Addr} {N sc : Nat} (h : ∀ k, k < wb.heap.size → w3.heap[k]? = wb.heap[k]?) : Keeps (hide (qh w sa N sc) wb) (hide (lo1 w) w3) := hide_keeps2 fun k h1 h2 => ⟨(Bool.or_eq_false_iff.1 h2).1, h k h1⟩
theorem proved_at (l : Bs) (n k : Nat) (hn : n = l.length) (h1 : k ≤ n) (h2 : k ≤ 30) (h3 : ¬ (k < n ∧ k < 30)) : proved l = (pFold l k).getLastD dummyPf := by
  unfold proved
  rw [show min l.length 30 = k by omega]
theorem last_get {s : List Pf} {N : Nat} (h : s.length = N) (hp : 0 < N) : ∃ p, s[N - 1]? = some p ∧ s.getLastD dummyPf = p := by
  subst h
  refine ⟨s[s.length - 1], List.getElem?_eq_getElem (by omega), ?_⟩
  rw [List.getLastD_eq_getLast?, List.getLast?_eq_getElem?, List.getElem?_eq_getElem (by omega)]; rfl
set_option maxHeartbeats 16000000 in
theorem proved_c (l : Bs) (a : Option Addr) (n c : Nat) (w : World) (h : BtsAt w l (.slice a n c)) : Calls Tryz.prog 23 #[.slice a n c] w (Ret PfVal (proved l) w) := by
  obtain ⟨hn, hc, hm⟩ := h.len
  have hlen : n ≤ 9223372036854775807 := by have := le63 hm; omega
  have hcl : c ≤ 9223372036854775807 := le63 hm
  have HN := Lib.hid hn
  have HL := Lib.hid h
  have HC := Lib.hid hc
  clear hn hm h hc
  obtain ⟨i0, hi0, hz0, hs0, hb0⟩ := info_parts info53
  obtain ⟨j0, hj0, hzj, hsj, hbj⟩ := info_parts info29
  obtain ⟨m0, hm0, hzm, hsm, hbm⟩ := info_parts info3
  go_enter Tryz.func23, Tryz.ntmps23
  go_wp2_with fail
  go_loopw [3, 4] (fun v i wr => ∃ k : Nat, k ≤ n ∧ k ≤ 30 ∧ i = .int .i64 k ∧ Hid (PRel w l k v wr)) (fun _ i _ => 30 - (intOf i).toNat)
  case atStart => exact ⟨0, by omega, by omega, rfl, ⟨OwnDs.nil _ _ _ _ _, (Below.refl _ _).alloc (Nat.le_refl _) _, heap_alloc_new _ _⟩⟩
  case round =>
    obtain ⟨k, hk, hk2, rfl, hs⟩ := hrel
    by_cases hlt : k < n ∧ k < 30
    · obtain ⟨hk3, hk4⟩ := hlt
      obtain ⟨x, hx⟩ := get_of_lt (l := l) (j := k) (by rw [← HN.out]; exact hk3)
      obtain ⟨b, off, rfl, hcell⟩ := HL.out.get (ne_of_get hx)
      have c0 := keeps_of_below hs.out.bw _ _ (hcell k x hx)
      have HCELL := Lib.hid hcell
      clear hcell
      obtain ⟨sa, sc, rfl, hsc⟩ := hs.out.own.form
      have hN : (pFold l k).length ≤ k := (pFold_inv l k).1
      generalize hNN : (pFold l k).length = N at hN hs ⊢
      have HNN := Lib.hid hNN
      generalize hxx : x.toNat = xx at c0
      have HXX := Lib.hid (And.intro hx hxx)
      have x1 : xx < 256 := by rw [← hxx]; exact x.toNat_lt
      have x0 : (0 : Int) ≤ xx := by omega
      have x2 : (xx : Int) < 256 := by omega
      have k0 : (0 : Int) ≤ k := by omega
      have k1 : (k : Int) < n := by omega
      have k2 : (k : Int) < 30 := by omega
      have k3 : decide ((k : Int) < 30) = true := by simp; omega
      have HSC := Lib.hid hsc
      have N30 : N ≤ 30 := by omega
      clear hNN hxx hx hsc
      go_upto_block 1 with fail
      go_cut [3] from 5 to 134 (fun u3 wx => Hid (PRel w l (k + 1) u3 wx))
      case rest =>
        go_wp2_with fail
        go_roundw
        case rel => exact ⟨k + 1, by omega, by omega, by go_num, hcut.out⟩
        case measure => simp [intOf]; omega
      case first =>
      go_upto_region 5 with fail
      go_cut [5, 6] from 23 to 28 (fun u5 u6 wx => u5 = .int .i64 N ∧ u6 = .int .u8 xx ∧ Hid (PRel w l k (.slice sa N sc) wx))
      case first =>
        go_quiet (fail)
        go_wp2_with fail
        go_meet
        exact ⟨rfl, rfl, hs.out.drewN _⟩
      case rest =>
      obtain ⟨rfl, rfl, HS⟩ := hcut
      obtain ⟨wb, hwb⟩ : ∃ wb, wb = wc := ⟨_, rfl⟩
      subst hwb
      clear hs c0
      obtain ⟨q, hq⟩ : ∃ q, k / 2 = q := ⟨_, rfl⟩
      obtain ⟨e, he⟩ : ∃ e, min (q + xx % 4) n = e := ⟨_, rfl⟩
      have qz : (k : Int) / 2 = q := by omega
      have ez : min ((q : Int) + (xx : Int) % 4) n = e := by omega
      have q0 : (0 : Int) ≤ q := by omega
      have q1 : (q : Int) ≤ e := by omega
      have q2 : (e : Int) ≤ c := by have := HC.out; omega
      have HB := Lib.hid (show margin l k xx = (l.drop q).take (e - q) by unfold margin; rw [hq, ← HN.out, he])
      have HE := Lib.hid (show q + (e - q) ≤ n by omega)
      have q3 : ¬ c = q := by have := HC.out; omega
      have q4 : ¬ c - q = 0 := by omega
      have q5 : ¬ c ≤ q := by omega
      clear hq he
      go_upto_region 6 with fail
      go_cut [7] from 29 to 42 (fun u7 wx => ∃ fa fn fc fb fm fd g7, u7 = one g7 ∧ Hid (FP wb (built (margin l k xx)) fa fn fc fb fm fd g7 wx))
      case first =>
        go_wp2_with (go_at_call 20; refine (built_c (margin l k xx) _ _ _ _ (by rw [HB.out]; exact (HL.out.sub HE.out).keep (keeps_of_below HS.out.bw))).mono ?_; rintro e w1 ⟨fa, fn, fc, fb, fm, fd, rfl, ht, hs, b1⟩; have H1 := Lib.hid (And.intro ht (And.intro hs b1)); clear ht hs b1)
        go_meet
        obtain ⟨ht, hs, b1⟩ := H1.out
        have K : Keeps (hide (lo wb) w1) (hide (lo wb) (w1.alloc (.cells #[.int .u8 (built (margin l k xx)).op, str (built (margin l k xx)).name, .slice fa fn fc, .slice fb fm fd] 25))) := hide_keeps2 fun i h1 h2 => ⟨h2, heap_alloc_old _ _ h1⟩
        exact ⟨_, _, _, _, _, _, _, rfl, b1.alloc b1.size _, heap_alloc_new _ _, ht.keep K, hs.keep K⟩
      case rest =>
      obtain ⟨fa, fn, fc, fb, fm, fd, g7, rfl, HF⟩ := hcut
      clear qz ez q0 q1 q2 q3 q4 q5 HB HE
      obtain ⟨F, hF⟩ : ∃ F, built (margin l k xx) = F := ⟨_, rfl⟩
      rw [hF] at HF
      have HFE := Lib.hid hF
      have HST : Hid (pFold l (k + 1) = pStep l (pFold l k) k xx) := by
        have e : l.getD k 0 = x := by rw [List.getD_eq_getElem?_getD, HXX.out.1]; rfl
        show pStep l (pFold l k) k (l.getD k 0).toNat = _
        rw [e, HXX.out.2]
      obtain ⟨M, hMM⟩ : ∃ M, xx / 4 % 5 = M := ⟨_, rfl⟩
      have M5 : M ≤ 4 := by omega
      have mz : (xx : Int) / 4 % 5 = M := by omega
      clear hF
      go_upto_region 7 with fail
      go_cut [8] from 43 to 46 (fun u8 wx => u8 = .int .i64 M ∧ Hid (FP wb F fa fn fc fb fm fd g7 wx))
      case first =>
        go_wp2_with fail
        go_meet
        exact ⟨congrArg (Value.int .i64) mz, HF.out⟩
      case rest =>
      obtain ⟨rfl, HF⟩ := hcut
      obtain ⟨f0, f1, f2, f3, -, -, -, -⟩ := row25' HF.out.cell
      clear mz
      rcases (show xx % 4 = 0 ∨ xx % 4 = 1 ∨ (¬ xx % 4 = 0 ∧ ¬ xx % 4 = 1) by omega) with hm | hm | ⟨hm, hm'⟩
      ·
        have hi : (xx : Int) % 4 = 0 := by omega
        clear hMM
        have hst : pFold l (k + 1) = pFold l k ++ [.mk [] F (1 + xx * 3) [] []] := by rw [HST.out, ← HFE.out]; unfold pStep; rw [if_pos hm]
        have HHST := Lib.hid hst
        have HM := Lib.hid hm
        clear hst hm
        go_wp2_with (first
          | (go_at_call 60; refine (leaf41_x _ _ _ _ _ _ _ _ _ _).mono ?_; rintro e w1 ⟨rfl, b1⟩; have Fp := HF.out.moved b1; have hst := HHST.out; obtain ⟨xs, ow, fin⟩ := put_pf (q := .mk [] F (1 + xx * 3) [] []) HS.out (Fp).bw hst ⟨rfl, rfl⟩ (Fp).ht (Fp).hs; rw [HNN.out] at ow fin; have OW := Lib.hid ow; have FIN := Lib.hid fin; clear ow fin; have SZ : Hid (w.heap.size + 1 ≤ w1.heap.size) := Nat.le_trans HS.out.base (Fp).bw.size; clear hst b1 Fp)
          | (at_builtin; refine wpList_append_own_at _ rfl _ _ 50 rfl (w.heap.size + 1) 53 i0 (.agg #[.string ⟨#[]⟩, .int .u8 0, .string ⟨#[]⟩, .slice none 0 0, .slice none 0 0, .int .i64 0, .slice none 0 0, .slice none 0 0]) 8 144 Tryz.underlying50 hi0 hz0 hs0 hb0 rfl (by decide) _ N xs rfl OW.out ⟨w1.heap.size, 0, none⟩ 1 1 [str [], .int .u8 F.op, str F.name, .slice fa fn fc, .slice fb fm fd, .int .i64 (1 + (xx : Int) * 3), .slice none 0 0, .slice none 0 0] rfl rfl (news8 _ _ _ _ _ _ _ _ _ _) oneCells8 (by unfold maxLen; omega) (by omega) (by have := SZ.out; simp; omega) ?_; intro v5 w5 hown5 hg5 _ hat5; have F5 := Lib.hid (FIN.out v5 w5 hown5 hg5 hat5); clear hown5 hg5 hat5))
        go_meet
        exact F5.out
      ·
        have hi : (xx : Int) % 4 = 1 := by omega
        clear hMM
        have hst : pFold l (k + 1) = pFold l k ++ [.mk hole F 0 [] []] := by rw [HST.out, ← HFE.out]; unfold pStep; rw [if_neg (by omega), if_pos hm]
        obtain ⟨xs, ow, fin⟩ := put_pf (q := .mk hole F 0 [] []) HS.out (HF.out).bw hst ⟨rfl, rfl⟩ (HF.out).ht (HF.out).hs; rw [HNN.out] at ow fin; have OW := Lib.hid ow; have FIN := Lib.hid fin; clear ow fin; have SZ : Hid (w.heap.size + 1 ≤ wc.heap.size) := Nat.le_trans HS.out.base (HF.out).bw.size
        clear hst hm
        go_wp2_with (at_builtin; refine wpList_append_own_at _ rfl _ _ 50 rfl (w.heap.size + 1) 53 i0 (.agg #[.string ⟨#[]⟩, .int .u8 0, .string ⟨#[]⟩, .slice none 0 0, .slice none 0 0, .int .i64 0, .slice none 0 0, .slice none 0 0]) 8 144 Tryz.underlying50 hi0 hz0 hs0 hb0 rfl (by decide) _ N xs rfl OW.out ⟨wc.heap.size, 0, none⟩ 1 1 [str hole, .int .u8 F.op, str F.name, .slice fa fn fc, .slice fb fm fd, .int .i64 0, .slice none 0 0, .slice none 0 0] rfl rfl (news8 _ _ _ _ _ _ _ _ _ _) oneCells8 (by unfold maxLen; omega) (by omega) (by have := SZ.out; simp; omega) ?_; intro v5 w5 hown5 hg5 _ hat5; have F5 := Lib.hid (FIN.out v5 w5 hown5 hg5 hat5); clear hown5 hg5 hat5)
        go_meet
        exact F5.out
      · have hi : ((xx : Int) % 4 == 0) = false := beq_eq_false_iff_ne.2 (by omega)
        have hi' : ((xx : Int) % 4 == 1) = false := beq_eq_false_iff_ne.2 (by omega)
        have HM := Lib.hid (And.intro hm hm')
        clear hm hm'
        by_cases hM : M ≤ N
        · have hM1 : (M : Int) ≤ N := by omega
          obtain ⟨jj, hjj⟩ : ∃ jj, xx % 3 = jj := ⟨_, rfl⟩
          have jz : (xx : Int) % 3 = jj := by omega
          have jz2 : (xx : Int).tmod 3 = jj := by rw [Int.tmod_eq_emod_of_nonneg x0]; exact jz
          have jz3 : (jj : Int) < 3 := by omega
          have jz4 : (0 : Int) ≤ jj := by omega
          obtain ⟨rn, hrn⟩ : ∃ rn, ruleOf jj = rn := ⟨_, rfl⟩
          have hsel : ([.string ⟨#[97, 110, 100, 73]⟩, .string ⟨#[114, 50]⟩, .string ⟨#[81]⟩] : List Value)[jj]? = some (str rn) := by
            rw [← hrn]; rcases (show jj = 0 ∨ jj = 1 ∨ jj = 2 by omega) with rfl | rfl | rfl <;> rfl
          have HJ := Lib.hid (And.intro hjj (And.intro hrn hMM))
          clear hjj hrn hMM
          go_upto_region 13 with fail
          obtain ⟨wF, hwF⟩ : ∃ wF, wF = wc := ⟨_, rfl⟩
          subst hwF
          go_cut [9] from 73 to 79 (fun u9 wx => ∃ pb, u9 = one pb ∧ Hid (Below wF.heap.size wF wx ∧ wF.heap.size ≤ pb ∧ wx.heap[pb]? = some (.cells #[str rn, .int .u8 F.op, str F.name, .slice fa fn fc, .slice fb fm fd, .int .i64 0, .slice none 0 0, .slice none 0 0] 53 (0, 0))))
          case first =>
            refine wp_region_held_drew (S := fun w' => Keeps wF w') (by kernel_rfl) (keeps_drewn wF) (fun hHeld => ?_)
            refine wpAnyH_take (i := 1) (v := ?_) rfl (by kernel_rfl) (by kernel_rfl) (by kernel_rfl) (fun _ _ _ h => h) (Or.inl ⟨by rfl, ?_⟩) (by assumption) ?_
            rotate_left
            · (intro w hSw; go_simp; (try with_reducible rfl))
            try simp only [Act.put, List.getElem_toArray, List.getElem_cons_succ, List.getElem_cons_zero, List.setIfInBounds_toArray, List.set_cons_zero, List.set_cons_succ]
            refine wpAnyH_take (i := 2) (v := ?_) rfl (by kernel_rfl) (by kernel_rfl) (by kernel_rfl) (fun _ _ _ h => h) (Or.inl ⟨by rfl, ?_⟩) (by assumption) ?_
            rotate_left
            · (intro w hSw; go_simp; (try with_reducible rfl))
            try simp only [Act.put, List.getElem_toArray, List.getElem_cons_succ, List.getElem_cons_zero, List.setIfInBounds_toArray, List.set_cons_zero, List.set_cons_succ]
            refine wpAnyH_take (i := 5) (v := ?_) rfl (by kernel_rfl) (by kernel_rfl) (by kernel_rfl) (fun _ _ _ h => h) (Or.inl ⟨by rfl, ?_⟩) (by assumption) ?_
            rotate_left
            · (intro w hSw; have := hSw _ _ f0; have := hSw _ _ f1; have := hSw _ _ f2; have := hSw _ _ f3; go_simp; (try with_reducible rfl))
            try simp only [Act.put, List.getElem_toArray, List.getElem_cons_succ, List.getElem_cons_zero, List.setIfInBounds_toArray, List.set_cons_zero, List.set_cons_succ]
            refine wpAnyH_ready (rs := [0, 7]) (by kernel_rfl) (by simp) ?_
            refine AllReadyH.cons rfl (fun K hK => ?_) ?_
            · go_simp
              refine hK.out _ _ (keeps_of_below (((Below.refl _ _).alloc (Nat.le_refl _) _).drew)) (fun hHeld1 => ?_)
              clear hK K
              try simp only [Act.put, List.setIfInBounds_toArray, List.set_cons_zero, List.set_cons_succ]
              refine held_now' hHeld1 (fun hHeld2 => ?_)
              refine wpAnyH_take (i := 3) (v := ?_) rfl (by kernel_rfl) (by kernel_rfl) (by kernel_rfl) (fun _ _ _ h => h) (Or.inl ⟨by rfl, ?_⟩) (by assumption) ?_
              rotate_left
              · (intro w hSw; go_simp; (try with_reducible rfl))
              try simp only [Act.put, List.getElem_toArray, List.getElem_cons_succ, List.getElem_cons_zero, List.setIfInBounds_toArray, List.set_cons_zero, List.set_cons_succ]
              refine wpAnyH_take (i := 4) (v := ?_) rfl (by kernel_rfl) (by kernel_rfl) (by kernel_rfl) (fun _ _ _ h => h) (Or.inl ⟨by rfl, ?_⟩) (by assumption) ?_
              rotate_left
              · (intro w hSw; have hl := hSw ⟨wF.heap.size, jj, none⟩ (str rn) ((box_cell (heap_alloc_new wF _) jj).trans (by simpa using hsel)); go_simp; (try with_reducible rfl))
              try simp only [Act.put, List.getElem_toArray, List.getElem_cons_succ, List.getElem_cons_zero, List.setIfInBounds_toArray, List.set_cons_zero, List.set_cons_succ]
              refine wpAnyH_take (i := 6) (v := ?_) rfl (by kernel_rfl) (by kernel_rfl) (by kernel_rfl) (fun _ _ _ h => h) (Or.inl ⟨by rfl, ?_⟩) (by assumption) ?_
              rotate_left
              · (intro w hSw; go_simp; (try with_reducible rfl))
              try simp only [Act.put, List.getElem_toArray, List.getElem_cons_succ, List.getElem_cons_zero, List.setIfInBounds_toArray, List.set_cons_zero, List.set_cons_succ]
              refine wpAnyH_ready (rs := [7]) (by kernel_rfl) (by simp) ?_
              refine AllReadyH.cons rfl (fun K hK => ?_) AllReadyH.nil
              go_simp
              refine hK.out _ _ (by exact keeps_of_below ((Below.refl _ _).alloc (Nat.le_refl _) _)) (fun hHeld3 => ?_)
              clear hK K
              try simp only [Act.put, List.setIfInBounds_toArray, List.set_cons_zero, List.set_cons_succ]
              refine wpAnyH_ready (rs := [8]) (by kernel_rfl) (by simp) ?_
              refine AllReadyH.cons rfl (fun K hK => ?_) AllReadyH.nil
              go_simp
              refine hK.out _ _ (by first | exact keeps_of_below ((Below.refl _ _).alloc (Nat.le_refl _) _) | exact keeps_of_below (((Below.refl _ _).alloc (Nat.le_refl _) _).drew) | exact Keeps.refl _) (fun hHeld4 => ?_)
              clear hK K
              try simp only [Act.put, List.setIfInBounds_toArray, List.set_cons_zero, List.set_cons_succ]
              refine wpAnyH_done (by kernel_rfl) ?_ _
              go_wp2_with fail
              go_meet
              exact ⟨_, rfl, (((Below.refl _ _).alloc (Nat.le_refl _) _).alloc (by simp) _).drew, by omega, kd (heap_alloc2_new _ _ _)⟩
            · refine AllReadyH.cons rfl (fun K hK => ?_) AllReadyH.nil
              go_simp
              refine hK.out _ _ (keeps_of_below (((Below.refl _ _).alloc (Nat.le_refl _) _).drew)) (fun hHeld1 => ?_)
              clear hK K
              try simp only [Act.put, List.setIfInBounds_toArray, List.set_cons_zero, List.set_cons_succ]
              refine wpAnyH_ready (rs := [0]) (by kernel_rfl) (by simp) ?_
              refine AllReadyH.cons rfl (fun K hK => ?_) AllReadyH.nil
              go_simp
              refine hK.out _ _ (keeps_of_below ((((Below.refl _ _).alloc (Nat.le_refl _) _).alloc (by simp) _).drew)) (fun hHeld3 => ?_)
              clear hK K
              try simp only [Act.put, List.setIfInBounds_toArray, List.set_cons_zero, List.set_cons_succ]
              have hS2 : (fun w' => Keeps wF w' ∧ w'.heap[wF.heap.size + 1]? = some (.cells #[.string ⟨#[97, 110, 100, 73]⟩, .string ⟨#[114, 50]⟩, .string ⟨#[81]⟩] 9 (0, 0))) ((wF.alloc (.cells #[.string ⟨#[]⟩, .int .u8 0, .string ⟨#[]⟩, .slice none 0 0, .slice none 0 0, .int .i64 0, .slice none 0 0, .slice none 0 0] 53)).alloc (.cells #[.string ⟨#[97, 110, 100, 73]⟩, .string ⟨#[114, 50]⟩, .string ⟨#[81]⟩] 9)).drew := ⟨hHeld3, kd (heap_alloc2_new _ _ _)⟩
              refine held_mono' (S' := (fun w' => Keeps wF w' ∧ w'.heap[wF.heap.size + 1]? = some (.cells #[.string ⟨#[97, 110, 100, 73]⟩, .string ⟨#[114, 50]⟩, .string ⟨#[81]⟩] 9 (0, 0)))) (fun _ k => k.1) _ _ _ _ ?_
              refine wpAnyH_take (i := 3) (v := ?_) rfl (by kernel_rfl) (by kernel_rfl) (by kernel_rfl) (fun _ _ _ h => h) (Or.inl ⟨by rfl, ?_⟩) (by assumption) ?_
              rotate_left
              · (intro w hSw; go_simp; (try with_reducible rfl))
              try simp only [Act.put, List.getElem_toArray, List.getElem_cons_succ, List.getElem_cons_zero, List.setIfInBounds_toArray, List.set_cons_zero, List.set_cons_succ]
              refine wpAnyH_take (i := 4) (v := ?_) rfl (by kernel_rfl) (by kernel_rfl) (by kernel_rfl) (fun _ _ _ h => h) (Or.inl ⟨by rfl, ?_⟩) (by assumption) ?_
              rotate_left
              · (intro w hSw; have hl := (box_cell hSw.2 jj).trans (show _ = some (str rn) by simpa using hsel); go_simp; (try with_reducible rfl))
              try simp only [Act.put, List.getElem_toArray, List.getElem_cons_succ, List.getElem_cons_zero, List.setIfInBounds_toArray, List.set_cons_zero, List.set_cons_succ]
              refine wpAnyH_take (i := 6) (v := ?_) rfl (by kernel_rfl) (by kernel_rfl) (by kernel_rfl) (fun _ _ _ h => h) (Or.inl ⟨by rfl, ?_⟩) (by assumption) ?_
              rotate_left
              · (intro w hSw; go_simp; (try with_reducible rfl))
              try simp only [Act.put, List.getElem_toArray, List.getElem_cons_succ, List.getElem_cons_zero, List.setIfInBounds_toArray, List.set_cons_zero, List.set_cons_succ]
              refine wpAnyH_ready (rs := [8]) (by kernel_rfl) (by simp) ?_
              refine AllReadyH.cons rfl (fun K hK => ?_) AllReadyH.nil
              go_simp
              refine hK.out _ _ ⟨keeps_of_below ((((Below.refl _ _).alloc (Nat.le_refl _) _).alloc (by simp) _).drew), kd (heap_alloc2_new _ _ _)⟩ (fun hHeld4 => ?_)
              clear hK K
              try simp only [Act.put, List.setIfInBounds_toArray, List.set_cons_zero, List.set_cons_succ]
              refine wpAnyH_done (by kernel_rfl) ?_ _
              go_wp2_with fail
              go_meet
              exact ⟨_, rfl, (((Below.refl _ _).alloc (Nat.le_refl _) _).alloc (by simp) _).drew, by omega, kd (heap_alloc2_old _ _ _)⟩
          case rest =>
          obtain ⟨pb, rfl, HI⟩ := hcut
          have HI0 : Hid (IR w wb wF l k sa N sc M xx pb rn F fa fn fc fb fm fd 0 0 (.slice none 0 0) (.slice none 0 0) wc) := IR.first HI.out.1 HI.out.2.1 HI.out.2.2
          clear HI f0 f1 f2 f3 hsel jz jz2 jz3 jz4 hi hi'
          obtain ⟨D, hD⟩ : ∃ D, N - M = D := ⟨_, rfl⟩
          have HD := Lib.hid hD
          have dz : (N : Int) - M = D := by omega
          have dw : IntKind.i64.wrap (D : Int) = D := IntWalk.i64_in _ (by omega)
          have hst : Hid (pFold l (k + 1) = (pFold l k).take (N - M) ++ [.mk rn F 0 ((pFold l k).drop (N - M)) ((List.range M).map (marksOf xx))]) := by
            obtain ⟨j1, j2, j3⟩ := HJ.out
            rw [Hid, HST.out]; unfold pStep
            rw [if_neg HM.out.1, if_neg HM.out.2, j3, if_pos (by rw [HNN.out]; exact hM), HNN.out, HFE.out, j1, j2]
          clear hD
          go_wp2_with fail
          go_loopw [10] (fun u10 wq => ∃ i : Nat, i ≤ M ∧ u10 = .int .i64 (i : Int) ∧ Hid (∃ v6 v7, IR w wb wF l k sa N sc M xx pb rn F fa fn fc fb fm fd i i v6 v7 wq)) (fun u10 _ => M - (intOf u10).toNat)
          case atStart => exact ⟨0, by omega, rfl, ⟨_, _, HI0.out⟩⟩
          case round =>
            obtain ⟨i, hi, rfl, HI⟩ := hrel
            obtain ⟨v6, v7, I0⟩ := HI.out
            obtain ⟨xs6, ho6, -⟩ := I0.o6
            obtain ⟨a6, c6, rfl⟩ := row_form ho6
            obtain ⟨a7, c7, rfl, -⟩ := I0.o7.form
            have I := Lib.hid I0
            clear HI ho6 I0
            obtain ⟨x0', x1', x2', x3', x4', x5', x6', x7'⟩ := row53 I.out.cell
            have zp := I.out.ltp
            by_cases hlt : i < M
            · obtain ⟨p, hp⟩ := get_of_lt (l := pFold l k) (j := D + i) (by have := HNN.out; have := HD.out; omega)
              obtain ⟨g, ea, en, ec, eb, em, ed, es, esn, esc, eq, eqn, eqc, hsg, hg, E⟩ := p_elem HS.out hp
              obtain ⟨j, hj⟩ : ∃ j, D + i = j := ⟨_, rfl⟩
              rw [hj] at E
              have HP := Lib.hid hp
              have HE := Lib.hid E
              have HJD := Lib.hid hj
              have BW : Below wb.heap.size wb wr := belowThen HF.out.bw I.out.bw
              have KW := keeps_of_below BW
              have e0 := KW _ _ E.c0
              have e1 := KW _ _ E.c1
              have e2 := KW _ _ E.c2
              have e3 := KW _ _ E.c3
              have e4 := KW _ _ E.c4
              have e5 := KW _ _ E.c5
              have e6 := KW _ _ E.c6
              have e7 := KW _ _ E.c7
              have zg : g < wr.heap.size := Nat.lt_of_lt_of_le hg BW.size
              have gb : ∀ b', (Value.slice a6 i c6).ownBlock = some b' → g ≠ b' := fun b' e => by have := (I.out.lt6 b' e).1; have := I.out.hp; have := HF.out.bw.size; omega
              have GB := Lib.hid gb
              have jz : (D : Int) + i = j := by omega
              have jw : IntKind.i64.wrap (j : Int) = j := IntWalk.i64_in _ (by omega)
              have j0' : (0 : Int) ≤ j := by omega
              have j1' : (j : Int) < N := by have := HD.out; omega
              have i1' : (i : Int) < M := by omega
              obtain rfl := hsg
              clear gb hp E hj KW BW
              go_upto_region 17 with fail
              go_cut [] from 85 to 97 (fun wx => Hid (∃ v6', IR w wb wF l k (some ⟨g, 0, none⟩) N sc M xx pb rn F fa fn fc fb fm fd (i + 1) i v6' (.slice a7 i c7) wx))
              case rest =>
                obtain ⟨v6', I6⟩ := hcut.out
                obtain ⟨xs6', ho6', -⟩ := I6.o6
                obtain ⟨a6', c6', rfl⟩ := row_form ho6'
                have HI6 := Lib.hid I6
                obtain ⟨w6, hw6⟩ : ∃ w6, w6 = wc := ⟨_, rfl⟩
                subst hw6
                clear ho6' I6 x0' x1' x2' x3' x4' x5' x6' x7' zp e0 e1 e2 e3 e4 e5 e6 e7 zg jz jw j0' j1' HP HE GB HJD
                obtain ⟨J, hJ⟩ : ∃ J, (xx + i) % 4 = J := ⟨_, rfl⟩
                have HJJ := Lib.hid hJ
                have Jz : ((xx : Int) + i) % 4 = J := by omega
                have J4 : J ≤ 3 := by omega
                have i0' : (0 : Int) ≤ i := by omega
                clear hJ
                go_wp2_with fail
                go_loopw [11, 12] (fun u11 u12 wq => ∃ jx : Nat, jx ≤ J ∧ u12 = .int .i64 (jx : Int) ∧ Hid (MR w6 xx i jx u11 wq)) (fun _ u12 _ => J - (intOf u12).toNat)
                case atStart => exact ⟨0, by omega, rfl, ⟨Below.refl _ _, World.ownsRow_nil _ _ _ _⟩⟩
                case round =>
                  obtain ⟨jx, hjx, rfl, R⟩ := hrel
                  obtain ⟨am, cm, rfl⟩ := row_form R.out.2
                  by_cases hlt2 : jx < J
                  · obtain ⟨pq, hpq⟩ : ∃ pq, xx * jx = pq := ⟨_, rfl⟩
                    have pz : (xx : Int) * jx = pq := by rw [← hpq]; simp
                    have pb0 : pq ≤ 768 := by rw [← hpq]; calc xx * jx ≤ 256 * 3 := Nat.mul_le_mul (by omega) (by omega)
                      _ = 768 := rfl
                    have pb1 : (0 : Int) ≤ pq := by omega
                    have pb2 : (pq : Int) ≤ 768 := by omega
                    have jx0 : (0 : Int) ≤ jx := by omega
                    have jx1 : (jx : Int) < J := by omega
                    have zz : ((pq : Int) * 7 + i) % 1000 = (((xx * jx * 7 + i) % 1000 : Nat) : Int) := by rw [hpq]; omega
                    have HPQ := Lib.hid hpq
                    have HBM : Hid (w6.heap.size ≤ wr.heap.size) := R.out.1.size
                    generalize hzv : (((xx * jx * 7 + i) % 1000 : Nat) : Int) = zv at zz
                    have HZV := Lib.hid hzv
                    clear hpq hzv
                    go_wp2_with (at_builtin; refine wpList_append_own_at _ rfl _ _ 29 rfl w6.heap.size 3 m0 (.int .i64 0) 1 8 Tryz.underlying29 hm0 hzm hsm hbm rfl (by decide) _ jx _ rfl (R.out.2.alloc _) ⟨wr.heap.size, 0, none⟩ 1 1 [.int .i64 zv] rfl rfl (cell_one_new _ _ _) (by intro u hu; simp at hu; subst hu; rfl) (by unfold maxLen; omega) (by omega) (by have := HBM.out; simp; omega) ?_; intro v5 w5 h5 hg5 _ _; rw [← HZV.out] at h5; have R5 := Lib.hid (MR.next R.out h5 hg5); clear h5 hg5)
                    go_roundw
                    case rel => exact ⟨jx + 1, by omega, by go_num, R5.out⟩
                    case measure => simp [intOf]; omega
                  · have hjJ : jx = (xx + i) % 4 := by rw [HJJ.out]; omega
                    have B1 : Below w6.heap.size w6 (wr.alloc (.cells #[.slice am jx cm] 29)) := (R.out.1.alloc R.out.1.size _)
                    have hmk := IR.mark (W1 := wr.alloc (.cells #[.slice am jx cm] 29)) (vm := .slice am jx cm) HI6.out B1 (MR.marks (by rw [← hjJ]; exact R.out) ((Below.refl _ _).alloc (Nat.le_refl _) _))
                    obtain ⟨xs7, ow, cw, fin⟩ := hmk
                    have OW := Lib.hid ow
                    have FIN := Lib.hid fin
                    have zp6 : Hid (pb + 1 ≤ wr.heap.size) := Nat.le_trans HI6.out.ltp R.out.1.size
                    obtain ⟨y0', y1', y2', y3', y4', y5', y6', y7'⟩ := row53 (HI6.out.below R.out.1).cell
                    clear ow cw fin hjJ B1
                    go_wp2_with (at_builtin; refine wpList_append_own_at _ rfl _ _ 51 rfl (pb + 1) 29 j0 (.slice none 0 0) 1 24 Tryz.underlying51 hj0 hzj hsj hbj rfl (by decide) _ i xs7 rfl OW.out ⟨wr.heap.size, 0, none⟩ 1 1 [.slice am jx cm] rfl rfl (cell_one_new _ _ _) (by intro u hu; simp at hu; subst hu; rfl) (by unfold maxLen; omega) (by omega) (by have := zp6.out; simp; omega) ?_; intro v5 w5 h5 hg5 _ hat5; obtain ⟨a5, c5, rfl⟩ := row_form h5; obtain ⟨⟨s7, t7⟩, I7⟩ := FIN.out _ _ h5 hg5 hat5; have HI7 := Lib.hid I7; clear I7 h5 hg5 hat5)
                    go_roundw
                    case rel => exact ⟨i + 1, by omega, by go_num, ⟨_, _, HI7.out⟩⟩
                    case measure => simp [intOf]; omega
              case first =>
              refine wp_region_held_drew (S := fun w' => w'.heap[g]? = wr.heap[g]?) (by kernel_rfl) rfl (fun hHeld => ?_)
              refine wpAnyH_take (i := 0) (v := ?_) rfl (by kernel_rfl) (by kernel_rfl) (by kernel_rfl) (fun _ _ _ h => h) (Or.inl ⟨by rfl, ?_⟩) (by assumption) ?_
              rotate_left
              · (intro w hSw; go_simp; (try with_reducible rfl))
              try simp only [Act.put, List.getElem_toArray, List.getElem_cons_succ, List.getElem_cons_zero, List.setIfInBounds_toArray, List.set_cons_zero, List.set_cons_succ]
              refine wpAnyH_take (i := 2) (v := ?_) rfl (by kernel_rfl) (by kernel_rfl) (by kernel_rfl) (fun _ _ _ h => h) (Or.inl ⟨by rfl, ?_⟩) (by assumption) ?_
              rotate_left
              · (intro w hSw; go_simp; (try with_reducible rfl))
              try simp only [Act.put, List.getElem_toArray, List.getElem_cons_succ, List.getElem_cons_zero, List.setIfInBounds_toArray, List.set_cons_zero, List.set_cons_succ]
              refine wpAnyH_take (i := 3) (v := ?_) rfl (by kernel_rfl) (by kernel_rfl) (by kernel_rfl) (fun _ _ _ h => h) (Or.inl ⟨by rfl, ?_⟩) (by assumption) ?_
              rotate_left
              · (intro w hSw; go_simp; (try with_reducible rfl))
              try simp only [Act.put, List.getElem_toArray, List.getElem_cons_succ, List.getElem_cons_zero, List.setIfInBounds_toArray, List.set_cons_zero, List.set_cons_succ]
              refine wpAnyH_take (i := 4) (v := ?_) rfl (by kernel_rfl) (by kernel_rfl) (by kernel_rfl) (fun _ _ _ h => h) (Or.inl ⟨by rfl, ?_⟩) (by assumption) ?_
              rotate_left
              · (intro w hSw; go_simp; (try with_reducible rfl))
              try simp only [Act.put, List.getElem_toArray, List.getElem_cons_succ, List.getElem_cons_zero, List.setIfInBounds_toArray, List.set_cons_zero, List.set_cons_succ]
              refine wpAnyH_take (i := 5) (v := ?_) rfl (by kernel_rfl) (by kernel_rfl) (by kernel_rfl) (fun _ _ _ h => h) (Or.inl ⟨by rfl, ?_⟩) (by assumption) ?_
              rotate_left
              · (intro w hSw; go_simp; (try with_reducible rfl))
              try simp only [Act.put, List.getElem_toArray, List.getElem_cons_succ, List.getElem_cons_zero, List.setIfInBounds_toArray, List.set_cons_zero, List.set_cons_succ]
              refine wpAnyH_take (i := 6) (v := ?_) rfl (by kernel_rfl) (by kernel_rfl) (by kernel_rfl) (fun _ _ _ h => h) (Or.inl ⟨by rfl, ?_⟩) (by assumption) ?_
              rotate_left
              · (intro w hSw; go_simp; (try with_reducible rfl))
              try simp only [Act.put, List.getElem_toArray, List.getElem_cons_succ, List.getElem_cons_zero, List.setIfInBounds_toArray, List.set_cons_zero, List.set_cons_succ]
              refine wpAnyH_take (i := 7) (v := ?_) rfl (by kernel_rfl) (by kernel_rfl) (by kernel_rfl) (fun _ _ _ h => h) (Or.inl ⟨by rfl, ?_⟩) (by assumption) ?_
              rotate_left
              · (intro w hSw; go_simp; (try with_reducible rfl))
              try simp only [Act.put, List.getElem_toArray, List.getElem_cons_succ, List.getElem_cons_zero, List.setIfInBounds_toArray, List.set_cons_zero, List.set_cons_succ]
              refine wpAnyH_take (i := 8) (v := ?_) rfl (by kernel_rfl) (by kernel_rfl) (by kernel_rfl) (fun _ _ _ h => h) (Or.inl ⟨by rfl, ?_⟩) (by assumption) ?_
              rotate_left
              · (intro w hSw; go_simp; (try with_reducible rfl))
              try simp only [Act.put, List.getElem_toArray, List.getElem_cons_succ, List.getElem_cons_zero, List.setIfInBounds_toArray, List.set_cons_zero, List.set_cons_succ]
              refine wpAnyH_take (i := 9) (v := ?_) rfl (by kernel_rfl) (by kernel_rfl) (by kernel_rfl) (fun _ _ _ h => h) (Or.inl ⟨by rfl, ?_⟩) (by assumption) ?_
              rotate_left
              · (intro w hSw; have := (World.cell?_of_block (a := ⟨g, j * 8, none⟩) hSw).trans e0; have := (World.cell?_of_block (a := ⟨g, j * 8 + 1, none⟩) hSw).trans e1; have := (World.cell?_of_block (a := ⟨g, j * 8 + 2, none⟩) hSw).trans e2; have := (World.cell?_of_block (a := ⟨g, j * 8 + 3, none⟩) hSw).trans e3; have := (World.cell?_of_block (a := ⟨g, j * 8 + 4, none⟩) hSw).trans e4; have := (World.cell?_of_block (a := ⟨g, j * 8 + 5, none⟩) hSw).trans e5; have := (World.cell?_of_block (a := ⟨g, j * 8 + 6, none⟩) hSw).trans e6; have := (World.cell?_of_block (a := ⟨g, j * 8 + 7, none⟩) hSw).trans e7; go_simp; (try with_reducible rfl))
              try simp only [Act.put, List.getElem_toArray, List.getElem_cons_succ, List.getElem_cons_zero, List.setIfInBounds_toArray, List.set_cons_zero, List.set_cons_succ]
              have hsub := IR.sub (W1 := (wr.alloc (.cells ([str p.rule, .int .u8 p.form.op, str p.form.name, .slice ea en ec, .slice eb em ed, .int .i64 p.label, .slice es esn esc, .slice eq eqn eqc]).toArray 53)).drew) (es := [str p.rule, .int .u8 p.form.op, str p.form.name, .slice ea en ec, .slice eb em ed, .int .i64 p.label, .slice es esn esc, .slice eq eqn eqc]) (v6' := .slice none 0 0) (w5 := wr) (ds := []) I.out (((Below.refl _ _).alloc (Nat.le_refl _) _).drew) (fun xs hx => by
                rw [pfsDs_next (p := p) (by rw [HD.out]; exact HP.out)]; exact hx.append HE.out.all)
              obtain ⟨xs, ow, cw, fin⟩ := hsub
              have OW := Lib.hid ow
              have CW := Lib.hid cw
              have FIN := Lib.hid fin
              have E8 : Hid (xs.length = i * 8) := ow.1
              clear ow cw fin
              refine wpAnyH_ready (rs := [1, 10]) (by kernel_rfl) (by simp) ?_
              refine AllReadyH.cons rfl (fun K hK => ?_) ?_
              · go_simp
                refine hK.out _ _ (hHeld) (fun hHeld1 => ?_)
                clear hK K
                try simp only [Act.put, List.getElem_toArray, List.getElem_cons_succ, List.getElem_cons_zero, List.setIfInBounds_toArray, List.set_cons_zero, List.set_cons_succ]
                refine wpAnyH_ready (rs := [10]) (by kernel_rfl) (by simp) ?_
                refine AllReadyH.cons rfl (fun K hK => ?_) AllReadyH.nil
                go_simp
                refine hK.out _ _ (heap_alloc_old _ _ zg) (fun hHeld2 => ?_)
                clear hK K
                try simp only [Act.put, List.getElem_toArray, List.getElem_cons_succ, List.getElem_cons_zero, List.setIfInBounds_toArray, List.set_cons_zero, List.set_cons_succ]
                refine wpAnyH_ready (rs := [11]) (by kernel_rfl) (by simp) ?_
                refine AllReadyH.cons rfl (fun K hK => ?_) AllReadyH.nil
                refine step_append_own rfl _ _ 50 rfl (pb + 1) 53 i0 (.agg #[.string ⟨#[]⟩, .int .u8 0, .string ⟨#[]⟩, .slice none 0 0, .slice none 0 0, .int .i64 0, .slice none 0 0, .slice none 0 0]) 8 144 Tryz.underlying50 hi0 hz0 hs0 hb0 rfl (by decide) _ i xs (by rfl) OW.out ⟨wr.heap.size, 0, none⟩ 1 1 [str p.rule, .int .u8 p.form.op, str p.form.name, .slice ea en ec, .slice eb em ed, .int .i64 p.label, .slice es esn esc, .slice eq eqn eqc] (by rfl) rfl (news8 _ _ _ _ _ _ _ _ _ _) oneCells8 (by unfold maxLen; omega) (by omega) (by simp; omega) ?_
                intro v5 w5 h5 hg5 hat5
                obtain ⟨a5, c5, rfl⟩ := row_form h5
                obtain ⟨⟨s6, t6⟩, I5⟩ := FIN.out _ _ h5 hg5 hat5
                have HI5 := Lib.hid I5
                have hk5 : w5.heap[g]? = wr.heap[g]? := (hg5.block g (by simp; omega) (fun e => GB.out g e.symm rfl)).trans (heap_alloc_old _ _ zg)
                clear I5 h5 hg5 hat5
                refine hK.out _ _ (hk5) (fun hHeld3 => ?_)
                clear hK K
                try simp only [Act.put, List.getElem_toArray, List.getElem_cons_succ, List.getElem_cons_zero, List.setIfInBounds_toArray, List.set_cons_zero, List.set_cons_succ]
                refine wpAnyH_take (i := 12) (v := ?_) rfl (by kernel_rfl) (by kernel_rfl) (by kernel_rfl) (fun _ _ _ h => h) (Or.inl ⟨by rfl, ?_⟩) (by assumption) ?_
                rotate_left
                · (intro w hSw; go_simp; (try with_reducible rfl))
                try simp only [Act.put, List.getElem_toArray, List.getElem_cons_succ, List.getElem_cons_zero, List.setIfInBounds_toArray, List.set_cons_zero, List.set_cons_succ]
                refine wpAnyH_ready (rs := [13]) (by kernel_rfl) (by simp) ?_
                refine AllReadyH.cons rfl (fun K hK => ?_) AllReadyH.nil
                go_simp
                refine hK.out _ _ ((Below.heap_setCell _ _ _ _ (fun e => by have := I.out.hp; have := HF.out.bw.size; have := hg; simp at e; omega)).trans hk5) (fun hHeld4 => ?_)
                clear hK K
                try simp only [Act.put, List.getElem_toArray, List.getElem_cons_succ, List.getElem_cons_zero, List.setIfInBounds_toArray, List.set_cons_zero, List.set_cons_succ]
                refine wpAnyH_done (by kernel_rfl) ?_ _
                go_wp2_with fail
                go_meet
                exact ⟨_, HI5.out⟩
              · refine AllReadyH.cons rfl (fun K hK => ?_) AllReadyH.nil
                go_simp
                refine hK.out _ _ (heap_alloc_old _ _ zg) (fun hHeld1 => ?_)
                clear hK K
                try simp only [Act.put, List.getElem_toArray, List.getElem_cons_succ, List.getElem_cons_zero, List.setIfInBounds_toArray, List.set_cons_zero, List.set_cons_succ]
                refine wpAnyH_ready (rs := [1]) (by kernel_rfl) (by simp) ?_
                refine AllReadyH.cons rfl (fun K hK => ?_) AllReadyH.nil
                go_simp
                refine hK.out _ _ (heap_alloc_old _ _ zg) (fun hHeld2 => ?_)
                clear hK K
                try simp only [Act.put, List.getElem_toArray, List.getElem_cons_succ, List.getElem_cons_zero, List.setIfInBounds_toArray, List.set_cons_zero, List.set_cons_succ]
                refine wpAnyH_ready (rs := [11]) (by kernel_rfl) (by simp) ?_
                refine AllReadyH.cons rfl (fun K hK => ?_) AllReadyH.nil
                refine step_append_own rfl _ _ 50 rfl (pb + 1) 53 i0 (.agg #[.string ⟨#[]⟩, .int .u8 0, .string ⟨#[]⟩, .slice none 0 0, .slice none 0 0, .int .i64 0, .slice none 0 0, .slice none 0 0]) 8 144 Tryz.underlying50 hi0 hz0 hs0 hb0 rfl (by decide) _ i xs (by rfl) OW.out ⟨wr.heap.size, 0, none⟩ 1 1 [str p.rule, .int .u8 p.form.op, str p.form.name, .slice ea en ec, .slice eb em ed, .int .i64 p.label, .slice es esn esc, .slice eq eqn eqc] (by rfl) rfl (news8 _ _ _ _ _ _ _ _ _ _) oneCells8 (by unfold maxLen; omega) (by omega) (by simp; omega) ?_
                intro v5 w5 h5 hg5 hat5
                obtain ⟨a5, c5, rfl⟩ := row_form h5
                obtain ⟨⟨s6, t6⟩, I5⟩ := FIN.out _ _ h5 hg5 hat5
                have HI5 := Lib.hid I5
                have hk5 : w5.heap[g]? = wr.heap[g]? := (hg5.block g (by simp; omega) (fun e => GB.out g e.symm rfl)).trans (heap_alloc_old _ _ zg)
                clear I5 h5 hg5 hat5
                refine hK.out _ _ (hk5) (fun hHeld3 => ?_)
                clear hK K
                try simp only [Act.put, List.getElem_toArray, List.getElem_cons_succ, List.getElem_cons_zero, List.setIfInBounds_toArray, List.set_cons_zero, List.set_cons_succ]
                refine wpAnyH_take (i := 12) (v := ?_) rfl (by kernel_rfl) (by kernel_rfl) (by kernel_rfl) (fun _ _ _ h => h) (Or.inl ⟨by rfl, ?_⟩) (by assumption) ?_
                rotate_left
                · (intro w hSw; go_simp; (try with_reducible rfl))
                try simp only [Act.put, List.getElem_toArray, List.getElem_cons_succ, List.getElem_cons_zero, List.setIfInBounds_toArray, List.set_cons_zero, List.set_cons_succ]
                refine wpAnyH_ready (rs := [13]) (by kernel_rfl) (by simp) ?_
                refine AllReadyH.cons rfl (fun K hK => ?_) AllReadyH.nil
                go_simp
                refine hK.out _ _ ((Below.heap_setCell _ _ _ _ (fun e => by have := I.out.hp; have := HF.out.bw.size; have := hg; simp at e; omega)).trans hk5) (fun hHeld4 => ?_)
                clear hK K
                try simp only [Act.put, List.getElem_toArray, List.getElem_cons_succ, List.getElem_cons_zero, List.setIfInBounds_toArray, List.set_cons_zero, List.set_cons_succ]
                refine wpAnyH_done (by kernel_rfl) ?_ _
                go_wp2_with fail
                go_meet
                exact ⟨_, HI5.out⟩
            · have hiM : i = M := by omega
              obtain ⟨hcap, hnone⟩ := own_cap HS.out
              have d1 : (0 : Int) ≤ D := by omega
              have d2 : (D : Int) ≤ sc := by omega
              have d3 : D ≤ sc := by omega
              have hdone := IR.done (M := M) (by rw [← hiM]; rw [← hiM] at I; exact I.out) HS.out HF.out HNN.out hM hst.out
              rw [HD.out] at hdone
              obtain ⟨olds, o1, o2, o3⟩ := hdone
              have OL := Lib.hid (And.intro o1 o2)
              have FIN := Lib.hid o3
              have HNO : Hid (sa = none → D = 0 ∧ D = 0) := fun e => by have := hnone e; omega
              have zpp := I.out.ltp
              clear o1 o2 o3 hnone hiM
              go_upto_region 24 with fail
              refine wp_region_held_drew (S := fun w' => w'.heap[pb]? = wr.heap[pb]?) (by kernel_rfl) rfl (fun hHeld => ?_)
              refine wpAnyH_take (i := 0) (v := ?_) rfl (by kernel_rfl) (by kernel_rfl) (by kernel_rfl) (fun _ _ _ h => h) (Or.inl ⟨by rfl, ?_⟩) (by assumption) ?_
              rotate_left
              · (intro w hSw; go_simp; (try with_reducible rfl))
              try simp only [Act.put, List.getElem_toArray, List.getElem_cons_succ, List.getElem_cons_zero, List.setIfInBounds_toArray, List.set_cons_zero, List.set_cons_succ]
              refine wpAnyH_take (i := 1) (v := ?_) rfl (by kernel_rfl) (by kernel_rfl) (by kernel_rfl) (fun _ _ _ h => h) (Or.inl ⟨by rfl, ?_⟩) (by assumption) ?_
              rotate_left
              · (intro w hSw; go_simp; (try with_reducible rfl))
              try simp only [Act.put, List.getElem_toArray, List.getElem_cons_succ, List.getElem_cons_zero, List.setIfInBounds_toArray, List.set_cons_zero, List.set_cons_succ]
              refine wpAnyH_take (i := 2) (v := ?_) rfl (by kernel_rfl) (by kernel_rfl) (by kernel_rfl) (fun _ _ _ h => h) (Or.inl ⟨by rfl, ?_⟩) (by assumption) ?_
              rotate_left
              · (intro w hSw; go_simp; (try with_reducible rfl))
              try simp only [Act.put, List.getElem_toArray, List.getElem_cons_succ, List.getElem_cons_zero, List.setIfInBounds_toArray, List.set_cons_zero, List.set_cons_succ]
              refine wpAnyH_take (i := 3) (v := ?_) rfl (by kernel_rfl) (by kernel_rfl) (by kernel_rfl) (fun _ _ _ h => h) (Or.inl ⟨by rfl, ?_⟩) (by assumption) ?_
              rotate_left
              · (intro w hSw; go_simp; (try with_reducible rfl))
              try simp only [Act.put, List.getElem_toArray, List.getElem_cons_succ, List.getElem_cons_zero, List.setIfInBounds_toArray, List.set_cons_zero, List.set_cons_succ]
              refine wpAnyH_take (i := 4) (v := ?_) rfl (by kernel_rfl) (by kernel_rfl) (by kernel_rfl) (fun _ _ _ h => h) (Or.inl ⟨by rfl, ?_⟩) (by assumption) ?_
              rotate_left
              · (intro w hSw; go_simp; (try with_reducible rfl))
              try simp only [Act.put, List.getElem_toArray, List.getElem_cons_succ, List.getElem_cons_zero, List.setIfInBounds_toArray, List.set_cons_zero, List.set_cons_succ]
              refine wpAnyH_take (i := 5) (v := ?_) rfl (by kernel_rfl) (by kernel_rfl) (by kernel_rfl) (fun _ _ _ h => h) (Or.inl ⟨by rfl, ?_⟩) (by assumption) ?_
              rotate_left
              · (intro w hSw; go_simp; (try with_reducible rfl))
              try simp only [Act.put, List.getElem_toArray, List.getElem_cons_succ, List.getElem_cons_zero, List.setIfInBounds_toArray, List.set_cons_zero, List.set_cons_succ]
              refine wpAnyH_take (i := 6) (v := ?_) rfl (by kernel_rfl) (by kernel_rfl) (by kernel_rfl) (fun _ _ _ h => h) (Or.inl ⟨by rfl, ?_⟩) (by assumption) ?_
              rotate_left
              · (intro w hSw; go_simp; (try with_reducible rfl))
              try simp only [Act.put, List.getElem_toArray, List.getElem_cons_succ, List.getElem_cons_zero, List.setIfInBounds_toArray, List.set_cons_zero, List.set_cons_succ]
              refine wpAnyH_take (i := 7) (v := ?_) rfl (by kernel_rfl) (by kernel_rfl) (by kernel_rfl) (fun _ _ _ h => h) (Or.inl ⟨by rfl, ?_⟩) (by assumption) ?_
              rotate_left
              · (intro w hSw; go_simp; (try with_reducible rfl))
              try simp only [Act.put, List.getElem_toArray, List.getElem_cons_succ, List.getElem_cons_zero, List.setIfInBounds_toArray, List.set_cons_zero, List.set_cons_succ]
              refine wpAnyH_take (i := 8) (v := ?_) rfl (by kernel_rfl) (by kernel_rfl) (by kernel_rfl) (fun _ _ _ h => h) (Or.inl ⟨by rfl, ?_⟩) (by assumption) ?_
              rotate_left
              · (intro w hSw; have := (World.cell?_of_block (a := ⟨pb, 0, none⟩) hSw).trans x0'; have := (World.cell?_of_block (a := ⟨pb, 1, none⟩) hSw).trans x1'; have := (World.cell?_of_block (a := ⟨pb, 2, none⟩) hSw).trans x2'; have := (World.cell?_of_block (a := ⟨pb, 3, none⟩) hSw).trans x3'; have := (World.cell?_of_block (a := ⟨pb, 4, none⟩) hSw).trans x4'; have := (World.cell?_of_block (a := ⟨pb, 5, none⟩) hSw).trans x5'; have := (World.cell?_of_block (a := ⟨pb, 6, none⟩) hSw).trans x6'; have := (World.cell?_of_block (a := ⟨pb, 7, none⟩) hSw).trans x7'; go_simp; (try with_reducible rfl))
              try simp only [Act.put, List.getElem_toArray, List.getElem_cons_succ, List.getElem_cons_zero, List.setIfInBounds_toArray, List.set_cons_zero, List.set_cons_succ]
              refine wpAnyH_ready (rs := [9]) (by kernel_rfl) (by simp) ?_
              refine AllReadyH.cons rfl (fun K hK => ?_) AllReadyH.nil
              go_simp
              refine hK.out _ _ (heap_alloc_old _ _ zpp) (fun hHeld2 => ?_)
              clear hK K
              try simp only [Act.put, List.getElem_toArray, List.getElem_cons_succ, List.getElem_cons_zero, List.setIfInBounds_toArray, List.set_cons_zero, List.set_cons_succ]
              refine wpAnyH_ready (rs := [10]) (by kernel_rfl) (by simp) ?_
              refine AllReadyH.cons rfl (fun K hK => ?_) AllReadyH.nil
              refine step_append_grows rfl _ _ 50 rfl 53 i0 (.agg #[.string ⟨#[]⟩, .int .u8 0, .string ⟨#[]⟩, .slice none 0 0, .slice none 0 0, .int .i64 0, .slice none 0 0, .slice none 0 0]) 8 144 Tryz.underlying50 hi0 hz0 hs0 hb0 rfl (by decide) sa D D olds (by rfl) HNO.out OL.out.1 OL.out.2 ⟨wr.heap.size, 0, none⟩ 1 1 [str rn, .int .u8 F.op, str F.name, .slice fa fn fc, .slice fb fm fd, .int .i64 0, .slice a6 i c6, .slice a7 i c7] (by rfl) rfl (news8 _ _ _ _ _ _ _ _ _ _) oneCells8 (by omega) (by unfold maxLen; omega) (by omega) ?_
              intro v5 w5 h5 hg5
              have F5 := Lib.hid (FIN.out v5 w5 h5 ⟨hg5.os, hg5.tape, hg5.output, hg5.size, hg5.block⟩)
              refine hK.out _ _ ((hg5.block pb (by simp; omega) (by simp)).trans (heap_alloc_old _ _ zpp)) (fun hHeld3 => ?_)
              clear hK K h5 hg5
              try simp only [Act.put, List.getElem_toArray, List.getElem_cons_succ, List.getElem_cons_zero, List.setIfInBounds_toArray, List.set_cons_zero, List.set_cons_succ]
              refine wpAnyH_take (i := 11) (v := ?_) rfl (by kernel_rfl) (by kernel_rfl) (by kernel_rfl) (fun _ _ _ h => h) (Or.inl ⟨by rfl, ?_⟩) (by assumption) ?_
              rotate_left
              · (intro w hSw; go_simp; (try with_reducible rfl))
              try simp only [Act.put, List.getElem_toArray, List.getElem_cons_succ, List.getElem_cons_zero, List.setIfInBounds_toArray, List.set_cons_zero, List.set_cons_succ]
              refine wpAnyH_done (by kernel_rfl) ?_ _
              go_wp2_with fail
              go_meet
              exact F5.out
        · have hM1 : decide ((M : Int) ≤ N) = false := by simp; omega
          have hM2 : ¬ (M : Int) ≤ N := by omega
          have hsame : Hid (pFold l (k + 1) = pFold l k) := by
            rw [Hid, HST.out]; unfold pStep
            rw [if_neg HM.out.1, if_neg HM.out.2, hMM, if_neg (by rw [HNN.out]; exact hM)]
          have F5 := Lib.hid (PRel.same HS.out HF.out.bw hsame.out)
          clear hMM
          go_wp2_with fail
          go_meet
          exact F5.out
    · obtain ⟨w9, hw9⟩ : ∃ w9, w9 = wr := ⟨_, rfl⟩
      subst hw9
      have HB := Lib.hid (proved_at l n k HN.out hk hk2 hlt)
      obtain ⟨sa, sc, rfl, hsc⟩ := hs.out.own.form
      have hN : (pFold l k).length ≤ k := (pFold_inv l k).1
      generalize hNN : (pFold l k).length = N at hN hs ⊢
      have HNN := Lib.hid hNN
      have N30 : N ≤ 30 := by omega
      have k0 : (0 : Int) ≤ k := by omega
      clear hNN
      have HR := Lib.hid hs.out.res
      have HS := Lib.hid hs.out
      have zw : w.heap.size < w9.heap.size := (Array.getElem?_eq_some_iff.1 hs.out.res).1
      clear hs
      rcases Nat.eq_zero_or_pos N with hz | hz
      · subst hz
        have HQ : Hid (proved l = dummyPf) := by rw [Hid, HB.out, List.eq_nil_of_length_eq_zero HNN.out]; rfl
        rcases (show ¬ k < n ∨ (k < n ∧ ¬ k < 30) by omega) with h20 | ⟨h20, h21⟩
        all_goals
          go_wp2_with (first
            | (go_at_call 47; refine (join41_x _ _ _ _ _).mono ?_; rintro e w1 ⟨rfl, b1⟩)
            | (go_at_call 60; refine (leaf41_x _ _ _ _ _ _ _ _ _ _).mono ?_; rintro e w2 ⟨rfl, b2⟩; have B2 := Lib.hid (belowThen b1 b2); obtain ⟨q0, q1, q2, q3, q4, q5, q6, q7⟩ := row53 (kc B2.out HR.out); obtain ⟨l0, l1, l2, l3, l4, l5, l6, l7⟩ := row53f (kc B2.out HR.out); clear b1 b2))
          exact proved_end (p := dummyPf) (belowThen HS.out.bw B2.out) (kc B2.out HR.out) (At.sl_nil (Nat.zero_le _)) (At.sl_nil (Nat.zero_le _)) (At.sl_nil (Nat.zero_le _)) (At.sl_nil (Nat.zero_le _)) HQ.out rfl
      · obtain ⟨p, hp, hlast⟩ := last_get HNN.out hz
        obtain ⟨g, ea, en, ec, eb, em, ed, es, esn, esc, eq, eqn, eqc, hsg, hg, E⟩ := p_elem HS.out hp
        obtain ⟨j, hj⟩ : ∃ j, N - 1 = j := ⟨_, rfl⟩
        rw [hj] at E
        obtain rfl := hsg
        have HQ : Hid (proved l = p) := by rw [Hid, HB.out, hlast]
        have HE := Lib.hid E
        have e0 := E.c0
        have e1 := E.c1
        have e2 := E.c2
        have e3 := E.c3
        have e4 := E.c4
        have e5 := E.c5
        have e6 := E.c6
        have e7 := E.c7
        have jz : (N : Int) - 1 = j := by omega
        have jw : IntKind.i64.wrap (j : Int) = j := IntWalk.i64_in _ (by omega)
        have j0 : (0 : Int) ≤ j := by omega
        have j1 : (j : Int) < N := by omega
        have hz2 : ((N : Int) == 0) = false := beq_eq_false_iff_ne.2 (by omega)
        have hz3 : ¬ N = 0 := by omega
        obtain ⟨q0, q1, q2, q3, q4, q5, q6, q7⟩ := row53 HR.out
        obtain ⟨l0, l1, l2, l3, l4, l5, l6, l7⟩ := row53f HR.out
        have K : Keeps (hide (qh w (some ⟨g, 0, none⟩) N sc) w9) (hide (lo1 w) w9) := qh_lo1 fun _ _ => rfl
        have HK := Lib.hid K
        clear hj E hp hlast K
        rcases (show ¬ k < n ∨ (k < n ∧ ¬ k < 30) by omega) with h20 | ⟨h20, h21⟩
        all_goals
          go_wp2_with fail
          exact proved_end (p := p) HS.out.bw HR.out (HE.out.h3.keep HK.out) (HE.out.h4.keep HK.out) (HE.out.h6.keep HK.out) (HE.out.h7.keep HK.out) HQ.out rfl
end Go.Proofs.YtcandidgaegghaaGreatDoor
end
