/- What lyceumlaw41.Proved's loop does to memory: the premises and the marks of a step. Conditions: none but those of each statement. -/
import Derived.Test.YtcandidgaegghaaGreatDoorBuiltAZ
import Derived.Test.YtcandidgaegghaaGreatDoorBuiltZ
import Derived.Deep.RegionHeld3
namespace Go.Proofs.YtcandidgaegghaaGreatDoor
open Go Go.RowKit Ly
set_option maxRecDepth 10000
set_option linter.unusedSimpArgs false
set_option linter.unusedVariables false
set_option maxHeartbeats 2000000
theorem pfsDs_append (a b : List Pf) : pfsDs (a ++ b) = pfsDs a ++ pfsDs b := by
  induction a with
  | nil => rfl
  | cons t a ih => simp [pfsDs, ih]
theorem pfsDs_length (a : List Pf) : (pfsDs a).length = a.length * 8 := by
  induction a with
  | nil => rfl
  | cons t a ih => simp [pfsDs, ih, Pf.ds_length, Nat.succ_mul]; omega
theorem pfsDs_take (a : List Pf) : ∀ j, pfsDs (a.take j) = (pfsDs a).take (j * 8) := by
  induction a with
  | nil => intro j; simp [pfsDs]
  | cons t a ih =>
    intro j
    cases j with
    | zero => simp [pfsDs]
    | succ j =>
      simp only [List.take_succ_cons, pfsDs, ih]
      rw [List.take_append, Pf.ds_length, Nat.succ_mul, List.take_of_length_le (l := t.ds) (by rw [Pf.ds_length]; omega), show j * 8 + 8 - 8 = j * 8 by omega]
/-- One more element at the end of a list of the call's own: whatever the elements are. -/
theorem own_put {p : Nat → Bool} {base size n : Nat} {wx w1 : World} {e ty : TypeId} {ds es : List D} {v : Value} {ys : List Value} (H : OwnDs p base wx e size n ds v) (hp : ∀ k, base ≤ k → p k = false) (b1 : Below wx.heap.size wx w1)
    (he : CellsAt (hide (fun k => p k || decide (v.ownBlock = some k)) w1) es ys) :
    ∃ xs, (w1.alloc (.cells ys.toArray ty)).ownsRow base e size v n xs ∧ ∀ v' w5, w5.ownsRow base e size v' (n + 1) (xs ++ ys) → (w1.alloc (.cells ys.toArray ty)).grownBy w5 v.ownBlock →
      (v'.ownBlock = v.ownBlock ∨ v'.ownBlock = some (w1.alloc (.cells ys.toArray ty)).heap.size) → OwnDs p base w5 e size (n + 1) (ds ++ es) v' := by
  have B1 : Below wx.heap.size wx (w1.alloc (.cells ys.toArray ty)) := belowThen b1 ((Below.refl _ _).alloc (Nat.le_refl _) _)
  obtain ⟨xs, ho, hc⟩ := H.moved (w' := w1.alloc (.cells ys.toArray ty)) hp (fun k h1 _ => B1.block k h1)
  exact ⟨xs, ho, fun v' w5 h5 hg hat => OwnDs.appended hc (he.keep (hide_keeps2 fun k h1 h2 => ⟨h2, heap_alloc_old _ _ h1⟩)) h5 hg hat⟩
/-- An element behind the first j of a list of the call's own, in a new block. -/
theorem own_cut {p : Nat → Bool} {base size n j sc : Nat} {sa : Option Addr} {wx w1 : World} {e ty : TypeId} {ds es : List D} {ys : List Value} (H : OwnDs p base wx e size n ds (.slice sa n sc)) (hp : ∀ k, base ≤ k → p k = false) (hb : base ≤ wx.heap.size) (b1 : Below wx.heap.size wx w1) (hj : j ≤ n)
    (he : CellsAt (hide (fun k => p k || decide ((Value.slice sa n sc).ownBlock = some k)) w1) es ys) :
    ∃ olds, olds.length = j * size ∧ (∀ q, sa = some q → ∀ i u, olds[i]? = some u → (w1.alloc (.cells ys.toArray ty)).cell? (q.add i) = some u) ∧
      ∀ v' w5, w5.ownsRow (w1.alloc (.cells ys.toArray ty)).heap.size e size v' (j + 1) (olds ++ ys) → (w1.alloc (.cells ys.toArray ty)).grownBy w5 none → OwnDs p base w5 e size (j + 1) (ds.take (j * size) ++ es) v' := by
  have B1 : Below wx.heap.size wx (w1.alloc (.cells ys.toArray ty)) := belowThen b1 ((Below.refl _ _).alloc (Nat.le_refl _) _)
  obtain ⟨xs, ho, hc⟩ := H.moved (w' := w1.alloc (.cells ys.toArray ty)) hp (fun k h1 _ => B1.block k h1)
  have hxl : xs.length = n * size := ho.1
  have hjs : j * size ≤ n * size := Nat.mul_le_mul_right _ hj
  refine ⟨xs.take (j * size), by rw [List.length_take, hxl]; omega, ?_, fun v' w5 h5 hg => ?_⟩
  · rintro q rfl i u hu
    rcases ho.2 with ⟨e, _⟩ | ⟨g, cap, cur, e, _, hg, _⟩
    · cases e
    · cases e
      refine ho.cells (g := g) rfl i u ?_
      rw [List.getElem?_take] at hu
      split at hu
      · exact hu
      · cases hu
  have gb : ∀ i, i < (w1.alloc (.cells ys.toArray ty)).heap.size → w5.heap[i]? = (w1.alloc (.cells ys.toArray ty)).heap[i]? := fun i hi => hg.block i hi (by simp)
  have K1 : Keeps (hide (fun k => p k || decide ((Value.slice sa n sc).ownBlock = some k)) w1) (hide (fun k => p k || decide ((Value.slice sa n sc).ownBlock = some k)) (w1.alloc (.cells ys.toArray ty))) := hide_keeps2 fun k h1 h2 => ⟨h2, heap_alloc_old _ _ h1⟩
  have hsz := B1.size
  have K2 : Keeps (hide (fun k => p k || decide ((Value.slice sa n sc).ownBlock = some k)) (w1.alloc (.cells ys.toArray ty))) (hide (fun k => p k || decide (v'.ownBlock = some k)) w5) := hide_keeps2 fun i h1 h2 => by
    simp only [Bool.or_eq_false_iff, decide_eq_false_iff_not] at h2 ⊢
    exact ⟨⟨h2.1, fun e => by have := (h5.lt i e).1; omega⟩, gb i h1⟩
  refine ⟨_, ⟨h5.1, ?_⟩, ((hc.take (j * size)).append (he.keep K1)).keep K2⟩
  rcases h5.2 with h | ⟨g, cap, cur, e1, e2, e3⟩
  · exact .inl h
  · exact .inr ⟨g, cap, cur, e1, by omega, e3⟩
theorem info53 : (Tryz.prog.info? 53).map (fun i => (i.zero, i.size, i.bytes)) = some (some (.agg #[.string ⟨#[]⟩, .int .u8 0, .string ⟨#[]⟩, .slice none 0 0, .slice none 0 0, .int .i64 0, .slice none 0 0, .slice none 0 0]), 8, 144) := by kernel_rfl
theorem info29 : (Tryz.prog.info? 29).map (fun i => (i.zero, i.size, i.bytes)) = some (some (.slice none 0 0), 1, 24) := by kernel_rfl
/-- What holds at the head of Proved's loop. -/
structure PRel (w : World) (l : Bs) (k : Nat) (v : Value) (wr : World) : Prop where
  own : OwnDs (lo1 w) (w.heap.size + 1) wr 53 8 (pFold l k).length (pfsDs (pFold l k)) v
  bw : Below w.heap.size w wr
  res : wr.heap[w.heap.size]? = some (.cells #[str [], .int .u8 0, str [], .slice none 0 0, .slice none 0 0, .int .i64 0, .slice none 0 0, .slice none 0 0] 53 (0, 0))
theorem PRel.drewN {w : World} {l : Bs} {k : Nat} {v : Value} {wr : World} (h : PRel w l k v wr) (m : Nat) : PRel w l k v (wr.drewN m) :=
  ⟨h.own.moved (fun k hk => by simp [lo1]; omega) (fun k _ _ => rfl), ⟨h.bw.os, h.bw.tape, h.bw.output, h.bw.size, h.bw.block⟩, h.res⟩
theorem lo1_off {w : World} : ∀ k, w.heap.size + 1 ≤ k → lo1 w k = false := fun k hk => by simp [lo1]; omega
theorem PRel.base {w : World} {l : Bs} {k : Nat} {v : Value} {wx : World} (H : PRel w l k v wx) : w.heap.size + 1 ≤ wx.heap.size := (Array.getElem?_eq_some_iff.1 H.res).1
/-- The next step: the list is one of the call's own again. -/
theorem PRel.next {w : World} {l : Bs} {k : Nat} {v v' : Value} {wx W1 w5 : World} {S : List Pf} {o : Option Nat} (H : PRel w l k v wx) (B1 : Below wx.heap.size wx W1) (hg : W1.grownBy w5 o) (ho : ∀ g, o = some g → w.heap.size + 1 ≤ g)
    (hS : pFold l (k + 1) = S) (hown : OwnDs (lo1 w) (w.heap.size + 1) w5 53 8 S.length (pfsDs S) v') : PRel w l (k + 1) v' w5 := by
  have zw := H.base
  have hs := B1.size
  have gb : ∀ j, j < w.heap.size + 1 → w5.heap[j]? = wx.heap[j]? := fun j hj => by
    rw [hg.block j (by omega) (fun e => by have := ho j e.symm; omega)]
    exact B1.block j (by omega)
  refine ⟨by rw [hS]; exact hown, ⟨?_, ?_, ?_, ?_, fun j hj => ?_⟩, ?_⟩
  · exact hg.os.trans (B1.os.trans H.bw.os)
  · exact hg.tape.trans (B1.tape.trans H.bw.tape)
  · exact hg.output.trans (B1.output.trans H.bw.output)
  · exact Nat.le_trans H.bw.size (Nat.le_trans B1.size hg.size)
  · rw [gb j (by omega)]; exact H.bw.block j hj
  · rw [gb _ (by omega)]; exact H.res
theorem PRel.same {w : World} {l : Bs} {k : Nat} {v : Value} {wx W1 : World} (H : PRel w l k v wx) (B1 : Below wx.heap.size wx W1) (hS : pFold l (k + 1) = pFold l k) : PRel w l (k + 1) v W1 := by
  have zw := H.base
  refine ⟨by rw [hS]; exact H.own.moved lo1_off (fun k h1 _ => B1.block k h1), belowThen H.bw B1, (B1.block _ (by omega)).trans H.res⟩
/-- A proof of one step (a leaf, or a hole) is put. -/
theorem put_pf {w : World} {l : Bs} {k : Nat} {v : Value} {wx w1 : World} {q : Pf} {a b : Option Addr} {n c m d : Nat} (H : PRel w l k v wx) (b1 : Below wx.heap.size wx w1) (hst : pFold l (k + 1) = pFold l k ++ [q]) (hq : q.sub = [] ∧ q.marks = [])
    (ht : TmsAt (hide (lo wx) w1) q.form.args (.slice a n c)) (hs : FmsAt (hide (lo wx) w1) q.form.sub (.slice b m d)) :
    ∃ xs, (w1.alloc (.cells #[str q.rule, .int .u8 q.form.op, str q.form.name, .slice a n c, .slice b m d, .int .i64 q.label, .slice none 0 0, .slice none 0 0] 53)).ownsRow (w.heap.size + 1) 53 8 v (pFold l k).length xs ∧
      ∀ v' w5, w5.ownsRow (w.heap.size + 1) 53 8 v' ((pFold l k).length + 1) (xs ++ [str q.rule, .int .u8 q.form.op, str q.form.name, .slice a n c, .slice b m d, .int .i64 q.label, .slice none 0 0, .slice none 0 0]) →
        (w1.alloc (.cells #[str q.rule, .int .u8 q.form.op, str q.form.name, .slice a n c, .slice b m d, .int .i64 q.label, .slice none 0 0, .slice none 0 0] 53)).grownBy w5 v.ownBlock →
        (v'.ownBlock = v.ownBlock ∨ v'.ownBlock = some (w1.alloc (.cells #[str q.rule, .int .u8 q.form.op, str q.form.name, .slice a n c, .slice b m d, .int .i64 q.label, .slice none 0 0, .slice none 0 0] 53)).heap.size) → PRel w l (k + 1) v' w5 := by
  have zw := H.base
  have hv := own_lt H.own
  have K : Keeps (hide (lo wx) w1) (hide (fun k => lo1 w k || decide (v.ownBlock = some k)) w1) := hide_keeps2 fun k h1 h2 => ⟨by
    simp only [lo, lo1, decide_eq_false_iff_not, Nat.not_lt, Bool.or_eq_false_iff] at h2 ⊢
    exact ⟨by omega, fun e => by have := hv k e; omega⟩, rfl⟩
  have he : CellsAt (hide (fun k => lo1 w k || decide (v.ownBlock = some k)) w1) q.ds [str q.rule, .int .u8 q.form.op, str q.form.name, .slice a n c, .slice b m d, .int .i64 q.label, .slice none 0 0, .slice none 0 0] :=
    pf_cells (ht.keep K) (hs.keep K) (by rw [hq.1]; exact nilP _) (by rw [hq.2]; exact nilM _)
  obtain ⟨xs, ho, hf⟩ := own_put (ty := 53) H.own lo1_off b1 he
  refine ⟨xs, ho, fun v' w5 h5 hg hat => ?_⟩
  refine H.next (belowThen b1 ((Below.refl _ _).alloc (Nat.le_refl _) _)) hg (fun g e => (hv g e).1) hst ?_
  have := hf v' w5 h5 hg hat
  rwa [List.length_append, List.length_singleton, pfsDs_append, show pfsDs [q] = q.ds by simp [pfsDs]]
end Go.Proofs.YtcandidgaegghaaGreatDoor
namespace Go.Proofs.YtcandidgaegghaaGreatDoor
open Go Go.RowKit Ly
set_option maxRecDepth 10000
set_option linter.unusedSimpArgs false
set_option linter.unusedVariables false
set_option maxHeartbeats 2000000
theorem held_mono' {P : Program} {md : Region.Mode} {ops : Array Oper} {Q : Exit → Act → World → Prop} {S S' : World → Prop} (h : ∀ w, S' w → S w) : ∀ (fuel : Nat) (listed : Array Bool) (a : Act) (w : World), wpAnyH P md ops Q S' fuel listed a w → wpAnyH P md ops Q S fuel listed a w
  | 0, _, _, _, hk => hk
  | fuel + 1, _, _, _, hk => ⟨hk.1, fun i hi => wpOp_mono (fun a' w' q => ⟨h w' q.1, held_mono' h fuel _ a' w' q.2⟩) (hk.2 i hi)⟩
theorem held_now' {P : Program} {md : Region.Mode} {ops : Array Oper} {Q : Exit → Act → World → Prop} {wc w : World} {fuel : Nat} {listed : Array Bool} {a : Act} (h : Keeps wc w) (hk : Keeps w w → wpAnyH P md ops Q (fun w' => Keeps w w') fuel listed a w) : wpAnyH P md ops Q (fun w' => Keeps wc w') fuel listed a w :=
  held_mono' (fun _ k => h.trans k) _ _ _ _ (hk (Keeps.refl w))
theorem leaf41_y (l o : Int) (n : Bs) (a : Option Addr) (k c : Nat) (b : Option Addr) (m d : Nat) (w : World) :
    Calls Tryz.prog 60 #[.int .i64 l, .agg #[.int .u8 o, str n, .slice a k c, .slice b m d]] w fun e w' => e = .returned (.agg #[str [], .int .u8 o, str n, .slice a k c, .slice b m d, .int .i64 l, .slice none 0 0, .slice none 0 0]) ∧ Below w.heap.size w w' := leaf41_x l o n a k c b m d w
theorem news8 (w : World) (a b c d e f g h : Value) (t : TypeId) : ∀ (j : Nat) (u : Value), [a, b, c, d, e, f, g, h][j]? = some u → (w.alloc (.cells #[a, b, c, d, e, f, g, h] t)).cell? ((⟨w.heap.size, 0, none⟩ : Addr).add j) = some u := by
  intro j u hu
  have hg := heap_alloc_new w (.cells #[a, b, c, d, e, f, g, h] t)
  rw [show ((⟨w.heap.size, 0, none⟩ : Addr).add j) = ⟨w.heap.size, j, none⟩ by simp [Addr.add]; omega, box_cell hg]
  simpa using hu
theorem oneCells8 {r nm : Bs} {op lb : Int} {a b s q : Option Addr} {n c m d sn sc qn qc : Nat} : ∀ u ∈ [str r, Value.int .u8 op, str nm, .slice a n c, .slice b m d, .int .i64 lb, .slice s sn sc, .slice q qn qc], u.oneCell' = true := by
  intro u hu
  simp at hu
  rcases hu with rfl | rfl | rfl | rfl | rfl | rfl | rfl | rfl <;> rfl
/-- Part of a list of bytes, as Go cuts it. -/
theorem BtsAt.sub {w : World} {l : Bs} {b off n c i m : Nat} (h : BtsAt w l (.slice (some ⟨b, off, none⟩) n c)) (hm : i + m ≤ n) : BtsAt w ((l.drop i).take m) (.slice (some ⟨b, off + i, none⟩) m (c - i)) := by
  obtain ⟨hn, hc, hx⟩ := h.len
  have hl : ((l.drop i).take m).length = m := by simp; omega
  unfold BtsAt
  rw [hl]
  rcases Nat.eq_zero_or_pos m with rfl | hp
  · rw [List.take_zero]; exact At.sl_nil (by omega)
  · have hne : l ≠ [] := by intro e; subst e; simp at hn; omega
    obtain ⟨b', off', e, hcell⟩ := h.get hne
    cases e
    refine At.sl_mk (by rw [List.length_map]; omega) (by omega) (by omega) fun j d hd => ?_
    rw [List.getElem?_map] at hd
    obtain ⟨x, hx2, rfl⟩ := Option.map_eq_some_iff.1 hd
    rw [List.getElem?_take] at hx2
    split at hx2
    · rw [List.getElem?_drop] at hx2
      refine ⟨_, ?_, rfl⟩
      rw [Nat.add_assoc]; exact hcell _ _ hx2
    · cases hx2
/-- The formula of a round, in its variable. -/
structure FP (wb : World) (F : Fm) (a : Option Addr) (n c : Nat) (b : Option Addr) (m d : Nat) (g : Nat) (wx : World) : Prop where
  bw : Below wb.heap.size wb wx
  cell : wx.heap[g]? = some (.cells #[.int .u8 F.op, str F.name, .slice a n c, .slice b m d] 25 (0, 0))
  ht : TmsAt (hide (lo wb) wx) F.args (.slice a n c)
  hs : FmsAt (hide (lo wb) wx) F.sub (.slice b m d)
theorem FP.moved {wb wx wy : World} {F : Fm} {a : Option Addr} {n c : Nat} {b : Option Addr} {m d g : Nat} (h : FP wb F a n c b m d g wx) (k : Below wx.heap.size wx wy) : FP wb F a n c b m d g wy :=
  have K : Keeps (hide (lo wb) wx) (hide (lo wb) wy) := hide_keeps2 fun i h1 h2 => ⟨h2, k.block i h1⟩
  ⟨belowThen h.bw k, kc k h.cell, h.ht.keep K, h.hs.keep K⟩
/-- The blocks that are not this round's: those ahead of Proved, its result, and the list's own. -/
def qh (w : World) (sa : Option Addr) (N sc : Nat) : Nat → Bool := fun k => lo1 w k || decide ((Value.slice sa N sc).ownBlock = some k)
def p7 (wF : World) (pb : Nat) (v6 : Value) : Nat → Bool := fun j => lo wF j || (decide (j = pb) || decide (v6.ownBlock = some j))
theorem OwnDs.far {p p' : Nat → Bool} {base size n : Nat} {w w' : World} {e : TypeId} {ds : List D} {v : Value} (h : OwnDs p base w e size n ds v) (hb : ∀ g, v.ownBlock = some g → w'.heap[g]? = w.heap[g]?)
    (hk : ∀ k, k < w.heap.size → p k = false → v.ownBlock ≠ some k → p' k = false ∧ w'.heap[k]? = w.heap[k]?) : OwnDs p' base w' e size n ds v := by
  obtain ⟨xs, ho, hc⟩ := h
  refine ⟨xs, ⟨ho.1, ?_⟩, hc.keep (hide_keeps2 fun k h1 h2 => ?_)⟩
  · rcases ho.2 with h1 | ⟨g, cap, cur, rfl, hb1, hg, h1, h2, h3, h4⟩
    · exact .inl h1
    · exact .inr ⟨g, cap, cur, rfl, hb1, (hb g rfl).trans hg, h1, h2, h3, h4⟩
  · simp only [Bool.or_eq_false_iff, decide_eq_false_iff_not] at h2
    obtain ⟨a, b⟩ := hk k h1 h2.1 h2.2
    exact ⟨by simp only [Bool.or_eq_false_iff, decide_eq_false_iff_not]; exact ⟨a, h2.2⟩, b⟩
theorem row_far {base size n : Nat} {w w' : World} {e : TypeId} {v : Value} {xs : List Value} (ho : w.ownsRow base e size v n xs) (hb : ∀ g, v.ownBlock = some g → w'.heap[g]? = w.heap[g]?) : w'.ownsRow base e size v n xs := by
  refine ⟨ho.1, ?_⟩
  rcases ho.2 with h1 | ⟨g, cap, cur, rfl, hb1, hg, h1, h2, h3, h4⟩
  · exact .inl h1
  · exact .inr ⟨g, cap, cur, rfl, hb1, (hb g rfl).trans hg, h1, h2, h3, h4⟩
/-- What holds while a step's premises (i6 of them) and marks (i7) are put. -/
structure IR (w wb wF : World) (l : Bs) (k : Nat) (sa : Option Addr) (N sc M b pb : Nat) (rn : Bs) (F : Fm) (fa : Option Addr) (fn fc : Nat) (fb : Option Addr) (fm fd : Nat) (i6 i7 : Nat) (v6 v7 : Value) (wr : World) : Prop where
  bw : Below wF.heap.size wF wr
  hp : wF.heap.size ≤ pb
  cell : wr.heap[pb]? = some (.cells #[str rn, .int .u8 F.op, str F.name, .slice fa fn fc, .slice fb fm fd, .int .i64 0, v6, v7] 53 (0, 0))
  o6 : ∃ xs, wr.ownsRow (pb + 1) 53 8 v6 i6 xs ∧ CellsAt (hide (qh w sa N sc) wb) ((pfsDs ((pFold l k).drop (N - M))).take (i6 * 8)) xs
  o7 : OwnDs (p7 wF pb v6) (pb + 1) wr 29 1 i7 (((List.range i7).map (marksOf b)).map marksD) v7
  ne : ∀ g, v6.ownBlock = some g → v7.ownBlock ≠ some g
section
variable {w wb wF wr : World} {l : Bs} {k : Nat} {sa : Option Addr} {N sc M b pb : Nat} {rn : Bs} {F : Fm} {fa : Option Addr} {fn fc : Nat} {fb : Option Addr} {fm fd : Nat} {i6 i7 : Nat} {v6 v7 : Value}
theorem IR.first (bw : Below wF.heap.size wF wr) (hp : wF.heap.size ≤ pb) (cell : wr.heap[pb]? = some (.cells #[str rn, .int .u8 F.op, str F.name, .slice fa fn fc, .slice fb fm fd, .int .i64 0, .slice none 0 0, .slice none 0 0] 53 (0, 0))) :
    IR w wb wF l k sa N sc M b pb rn F fa fn fc fb fm fd 0 0 (.slice none 0 0) (.slice none 0 0) wr :=
  ⟨bw, hp, cell, ⟨[], World.ownsRow_nil _ _ _ _, by simpa using CellsAt.nil _⟩, OwnDs.nil _ _ _ _ _, fun g h => by cases h⟩
theorem IR.lt6 (I : IR w wb wF l k sa N sc M b pb rn F fa fn fc fb fm fd i6 i7 v6 v7 wr) : ∀ g, v6.ownBlock = some g → pb + 1 ≤ g ∧ g < wr.heap.size := by
  obtain ⟨xs, ho, _⟩ := I.o6; exact ho.lt
theorem IR.lt7 (I : IR w wb wF l k sa N sc M b pb rn F fa fn fc fb fm fd i6 i7 v6 v7 wr) : ∀ g, v7.ownBlock = some g → pb + 1 ≤ g ∧ g < wr.heap.size := by
  obtain ⟨xs, ho, _⟩ := I.o7; exact ho.lt
theorem IR.ltp (I : IR w wb wF l k sa N sc M b pb rn F fa fn fc fb fm fd i6 i7 v6 v7 wr) : pb < wr.heap.size := (Array.getElem?_eq_some_iff.1 I.cell).1
theorem IR.below {wy : World} (I : IR w wb wF l k sa N sc M b pb rn F fa fn fc fb fm fd i6 i7 v6 v7 wr) (h : Below wr.heap.size wr wy) : IR w wb wF l k sa N sc M b pb rn F fa fn fc fb fm fd i6 i7 v6 v7 wy := by
  obtain ⟨xs, ho, hc⟩ := I.o6
  exact ⟨belowThen I.bw h, I.hp, kc h I.cell, ⟨xs, row_far ho (fun g hg => h.block g (I.lt6 g hg).2), hc⟩, I.o7.far (fun g hg => h.block g (I.lt7 g hg).2) (fun k h1 h2 _ => ⟨h2, h.block k h1⟩), I.ne⟩
/-- A premise is put. -/
theorem IR.sub {i : Nat} {W1 w5 : World} {es : List Value} {v6' : Value} {ds : List D} (I : IR w wb wF l k sa N sc M b pb rn F fa fn fc fb fm fd i i7 v6 v7 wr) (B1 : Below wr.heap.size wr W1)
    (hc : ∀ xs, CellsAt (hide (qh w sa N sc) wb) ((pfsDs ((pFold l k).drop (N - M))).take (i * 8)) xs → CellsAt (hide (qh w sa N sc) wb) ((pfsDs ((pFold l k).drop (N - M))).take ((i + 1) * 8)) (xs ++ es)) :
    ∃ xs, W1.ownsRow (pb + 1) 53 8 v6 i xs ∧ W1.cell? ⟨pb, 6, none⟩ = some v6 ∧ ∀ v6' w5, w5.ownsRow (pb + 1) 53 8 v6' (i + 1) (xs ++ es) → W1.grownBy w5 v6.ownBlock → (v6'.ownBlock = v6.ownBlock ∨ v6'.ownBlock = some W1.heap.size) →
      (w5.cell? ⟨pb, 6, none⟩ = some v6 ∧ w5.frozen? ⟨pb, 6, none⟩ = false) ∧ IR w wb wF l k sa N sc M b pb rn F fa fn fc fb fm fd (i + 1) i7 v6' v7 (w5.setCell ⟨pb, 6, none⟩ v6') := by
  have J := I.below B1
  obtain ⟨xs, ho, hx⟩ := J.o6
  refine ⟨xs, ho, (box_cell J.cell 6).trans rfl, fun v6' w5 h5 hg hat => ?_⟩
  have hpb : w5.heap[pb]? = W1.heap[pb]? := hg.block pb J.ltp (fun e => by have := (J.lt6 pb e.symm).1; omega)
  have c5 := hpb.trans J.cell
  refine ⟨⟨(box_cell c5 6).trans rfl, by simp [World.frozen?, c5]⟩, ?_⟩
  have off : ∀ j, j ≠ pb → (w5.setCell ⟨pb, 6, none⟩ v6').heap[j]? = w5.heap[j]? := fun j hj => Below.heap_setCell _ _ _ _ hj
  have hsz := hg.size
  refine ⟨?_, I.hp, (set_block c5).trans rfl, ⟨xs ++ es, row_far h5 (fun g e => off g (fun e2 => by have := (h5.lt g e).1; omega)), hc xs hx⟩, ?_, fun g e e7 => ?_⟩
  · have hB : Below wF.heap.size wF w5 := by
      refine ⟨hg.os.trans J.bw.os, hg.tape.trans J.bw.tape, hg.output.trans J.bw.output, Nat.le_trans J.bw.size hsz, fun j hj => ?_⟩
      rw [hg.block j (Nat.lt_of_lt_of_le hj J.bw.size) (fun e => by have := (J.lt6 j e.symm).1; have := I.hp; omega)]
      exact J.bw.block j hj
    exact hB.setCell I.hp _
  · refine J.o7.far (fun g e => ?_) (fun j h1 h2 h3 => ?_)
    · rw [off g (fun e2 => by have := (J.lt7 g e).1; omega)]
      exact hg.block g (J.lt7 g e).2 (fun e2 => J.ne g e2.symm e)
    · simp only [p7, Bool.or_eq_false_iff, decide_eq_false_iff_not] at h2 ⊢
      refine ⟨⟨h2.1, h2.2.1, fun e => ?_⟩, (off j h2.2.1).trans (hg.block j h1 (fun e => h2.2.2 e.symm))⟩
      rcases hat with e2 | e2
      · exact h2.2.2 (e2.symm.trans e)
      · rw [e2] at e; cases e; omega
  · rcases hat with e2 | e2
    · exact J.ne g (e2.symm.trans e) e7
    · rw [e2] at e; cases e
      have := (J.lt7 _ e7).2; omega
/-- The marks of a premise are put. -/
theorem IR.mark {i : Nat} {W1 : World} {vm : Value} (I : IR w wb wF l k sa N sc M b pb rn F fa fn fc fb fm fd i6 i v6 v7 wr) (B1 : Below wr.heap.size wr W1)
    (hm : At (hide (fun j => lo wr j) W1) (marksD (marksOf b i)) vm) :
    ∃ xs, W1.ownsRow (pb + 1) 29 1 v7 i xs ∧ W1.cell? ⟨pb, 7, none⟩ = some v7 ∧ ∀ v7' w5, w5.ownsRow (pb + 1) 29 1 v7' (i + 1) (xs ++ [vm]) → W1.grownBy w5 v7.ownBlock → (v7'.ownBlock = v7.ownBlock ∨ v7'.ownBlock = some W1.heap.size) →
      (w5.cell? ⟨pb, 7, none⟩ = some v7 ∧ w5.frozen? ⟨pb, 7, none⟩ = false) ∧ IR w wb wF l k sa N sc M b pb rn F fa fn fc fb fm fd i6 (i + 1) v6 v7' (w5.setCell ⟨pb, 7, none⟩ v7') := by
  have J := I.below B1
  have hb1 := B1.size
  obtain ⟨xs, ho, hx⟩ := J.o7
  refine ⟨xs, ho, (box_cell J.cell 7).trans rfl, fun v7' w5 h5 hg hat => ?_⟩
  have hpb : w5.heap[pb]? = W1.heap[pb]? := hg.block pb J.ltp (fun e => by have := (J.lt7 pb e.symm).1; omega)
  have c5 := hpb.trans J.cell
  refine ⟨⟨(box_cell c5 7).trans rfl, by simp [World.frozen?, c5]⟩, ?_⟩
  have off : ∀ j, j ≠ pb → (w5.setCell ⟨pb, 7, none⟩ v7').heap[j]? = w5.heap[j]? := fun j hj => Below.heap_setCell _ _ _ _ hj
  have hsz := hg.size
  have Km : Keeps (hide (fun j => lo wr j) W1) (hide (fun j => p7 wF pb v6 j || decide (v7.ownBlock = some j)) W1) := hide_keeps2 fun j h1 h2 => ⟨by
    simp only [lo, p7, decide_eq_false_iff_not, Nat.not_lt, Bool.or_eq_false_iff] at h2 ⊢
    have a1 := I.bw.size
    have a2 := I.ltp
    exact ⟨⟨by omega, by omega, fun e => by have := (I.lt6 j e).2; omega⟩, fun e => by have := (I.lt7 j e).2; omega⟩, rfl⟩
  obtain ⟨ys, hys, hcs⟩ := J.o6
  have O : OwnDs (p7 wF pb v6) (pb + 1) w5 29 1 (i + 1) (((List.range (i + 1)).map (marksOf b)).map marksD) v7' := by
    rw [List.range_succ, List.map_append, List.map_append]
    refine OwnDs.appended hx ?_ h5 hg hat
    exact CellsAt.cons (At.keep Km _ _ hm) (CellsAt.nil _)
  refine ⟨?_, I.hp, (set_block c5).trans rfl, ⟨ys, row_far hys (fun g e => ?_), hcs⟩, ?_, fun g e e7 => ?_⟩
  · have hB : Below wF.heap.size wF w5 := by
      refine ⟨hg.os.trans J.bw.os, hg.tape.trans J.bw.tape, hg.output.trans J.bw.output, Nat.le_trans J.bw.size hsz, fun j hj => ?_⟩
      rw [hg.block j (Nat.lt_of_lt_of_le hj J.bw.size) (fun e => by have := (J.lt7 j e.symm).1; have := I.hp; omega)]
      exact J.bw.block j hj
    exact hB.setCell I.hp _
  · rw [off g (fun e2 => by have := (J.lt6 g e).1; omega)]
    exact hg.block g (J.lt6 g e).2 (fun e2 => J.ne g e e2.symm)
  · refine O.far (fun g e => off g (fun e2 => by have := (h5.lt g e).1; omega)) (fun j h1 h2 h3 => ⟨h2, off j ?_⟩)
    simp only [p7, Bool.or_eq_false_iff, decide_eq_false_iff_not] at h2
    exact h2.2.1
  · rcases hat with e2 | e2
    · exact J.ne g e (e2.symm.trans e7)
    · rw [e2] at e7; cases e7
      have := (J.lt6 _ e).2; omega
/-- The step is whole: it is put behind what is left of the list. -/
theorem IR.done {g7 : Nat} (I : IR w wb wF l k sa N sc M b pb rn F fa fn fc fb fm fd M M v6 v7 wr) (H : PRel w l k (.slice sa N sc) wb) (P : FP wb F fa fn fc fb fm fd g7 wF) (hN : (pFold l k).length = N) (hM : M ≤ N)
    (hst : pFold l (k + 1) = (pFold l k).take (N - M) ++ [.mk rn F 0 ((pFold l k).drop (N - M)) ((List.range M).map (marksOf b))]) :
    ∃ olds, olds.length = (N - M) * 8 ∧ (∀ q, sa = some q → ∀ i u, olds[i]? = some u → (wr.alloc (.cells #[str rn, .int .u8 F.op, str F.name, .slice fa fn fc, .slice fb fm fd, .int .i64 0, v6, v7] 53)).cell? (q.add i) = some u) ∧
      ∀ v' w5, w5.ownsRow (wr.alloc (.cells #[str rn, .int .u8 F.op, str F.name, .slice fa fn fc, .slice fb fm fd, .int .i64 0, v6, v7] 53)).heap.size 53 8 v' (N - M + 1) (olds ++ [str rn, .int .u8 F.op, str F.name, .slice fa fn fc, .slice fb fm fd, .int .i64 0, v6, v7]) → (wr.alloc (.cells #[str rn, .int .u8 F.op, str F.name, .slice fa fn fc, .slice fb fm fd, .int .i64 0, v6, v7] 53)).grownBy w5 none → PRel w l (k + 1) v' w5 := by
  have zw := H.base
  have hv := own_lt H.own
  have B1 : Below wb.heap.size wb wr := belowThen P.bw I.bw
  have s1 := P.bw.size
  have KF : Keeps (hide (lo wb) wF) (hide (qh w sa N sc) wr) := hide_keeps2 fun j h1 h2 => ⟨by
    simp only [lo, qh, lo1, decide_eq_false_iff_not, Nat.not_lt, Bool.or_eq_false_iff] at h2 ⊢
    exact ⟨by omega, fun e => by have := hv j e; omega⟩, I.bw.block j h1⟩
  have off : ∀ j, pb + 1 ≤ j → qh w sa N sc j = false := fun j hj => by
    have := I.hp
    simp only [qh, lo1, decide_eq_false_iff_not, Nat.not_lt, Bool.or_eq_false_iff]
    exact ⟨by omega, fun e => by have := hv j e; omega⟩
  obtain ⟨xs, ho, hx⟩ := I.o6
  have hl : (pfsDs ((pFold l k).drop (N - M))).length = M * 8 := by rw [pfsDs_length, List.length_drop, hN]; congr 1; omega
  rw [List.take_of_length_le (by omega)] at hx
  have hsub : PfsAt (hide (qh w sa N sc) wr) ((pFold l k).drop (N - M)) v6 := by
    have O : OwnDs (qh w sa N sc) (pb + 1) wr 53 8 M (pfsDs ((pFold l k).drop (N - M))) v6 := by
      refine ⟨xs, ho, hx.keep (hide_keeps2 fun j h1 h2 => ⟨?_, B1.block j h1⟩)⟩
      simp only [Bool.or_eq_false_iff, decide_eq_false_iff_not]
      exact ⟨h2, fun e => by have := (I.lt6 j e).1; have := I.hp; omega⟩
    have := O.at off
    unfold PfsAt
    rwa [show ((pFold l k).drop (N - M)).length = M by rw [List.length_drop, hN]; omega]
  have hmk : MarksAt (hide (qh w sa N sc) wr) ((List.range M).map (marksOf b)) v7 := by
    have O : OwnDs (qh w sa N sc) (pb + 1) wr 29 1 M (((List.range M).map (marksOf b)).map marksD) v7 := I.o7.far (fun _ _ => rfl) (fun j h1 h2 _ => ⟨by
      simp only [p7, lo, qh, lo1, decide_eq_false_iff_not, Nat.not_lt, Bool.or_eq_false_iff] at h2 ⊢
      exact ⟨by omega, fun e => by have := hv j e; omega⟩, rfl⟩)
    have := O.at off
    unfold MarksAt
    rwa [show ((List.range M).map (marksOf b)).length = M by simp]
  obtain ⟨a6, n6, c6, rfl⟩ := PfsAt.slice hsub
  obtain ⟨a7, n7, c7, rfl⟩ := MarksAt.slice hmk
  have he := pf_cells (p := .mk rn F 0 ((pFold l k).drop (N - M)) ((List.range M).map (marksOf b))) (P.ht.keep KF) (P.hs.keep KF) hsub hmk
  have own := H.own
  rw [hN] at own
  obtain ⟨olds, h1, h2, h3⟩ := own_cut (ty := 53) (j := N - M) own lo1_off zw B1 (by omega) he
  refine ⟨olds, h1, h2, fun v' w5 h5 hg => ?_⟩
  refine H.next (belowThen B1 ((Below.refl _ _).alloc (Nat.le_refl _) _)) hg (fun g e => by cases e) hst ?_
  have := h3 v' w5 h5 hg
  rw [List.length_append, List.length_singleton, pfsDs_append, pfsDs_take, List.length_take, hN, show min (N - M) N = N - M by omega]
  rwa [show pfsDs [Pf.mk rn F 0 ((pFold l k).drop (N - M)) ((List.range M).map (marksOf b))] = (Pf.mk rn F 0 ((pFold l k).drop (N - M)) ((List.range M).map (marksOf b))).ds by simp [pfsDs]]
end
end Go.Proofs.YtcandidgaegghaaGreatDoor
