/- lyceumref41.readForm: what is read of right words. Conditions: words fit into memory, at most a million. -/
import Derived.Test.YtcandidgaegghaaGreatDoorRfBZ
import Derived.Test.YtcandidgaegghaaGreatDoorLnCZ
import Derived.Test.YtcandidgaegghaaGreatDoorPlL
namespace Go.Proofs.YtcandidgaegghaaGreatDoor
open Go Go.RowKit Ly
set_option maxRecDepth 10000
set_option linter.unusedSimpArgs false
set_option linter.unusedVariables false
set_option maxHeartbeats 16000000
theorem res134 (tmps : Array Value) (w : World) (g : Nat) (a b c d y : Value) (fr : Nat × Nat) (h2 : tmps.getD 2 undef = one g) (h3 : tmps.getD 3 undef = y) (hg : w.heap[g]? = some (.cells #[a, b, c, d] 25 fr)) :
    (results Tryz.f134 tmps).run Tryz.prog w = .ok (.tuple #[.agg #[a, b, c, d], y]) w := by
  obtain ⟨fs, h1⟩ := u25
  have e2 : tmps[2]?.getD undef = .pointer (some ⟨g, 0, none⟩) := by simpa using h2
  have e3 : tmps[3]?.getD undef = y := by simpa using h3
  simp [results, Tryz.results134, e2, e3, asAddr, run_loadVar_row w g 25 25 #[a, b, c, d] fr _ hg h1 rfl i25]
/-- What lies there behind the first statements: the result's cell, the operators, the formula's variable. -/
structure RfS (w : World) (o : Int) (W : World) : Prop where
  r0 : W.heap[w.heap.size]? = some (.cells #[.int .u8 0, str [], .slice none 0 0, .slice none 0 0] 25 (0, 0))
  r1 : W.heap[w.heap.size + 1]? = some (.cells (opsL.map str).toArray 9 (0, 0))
  r2 : W.heap[w.heap.size + 1 + 1]? = some (.cells #[.int .u8 o, str [], .slice none 0 0, .slice none 0 0] 25 (0, 0))
  bw : Below w.heap.size w W
theorem rfs_new (w : World) : RfS w 0 (((w.alloc (.cells #[.int .u8 0, .string ⟨#[]⟩, .slice none 0 0, .slice none 0 0] 25)).alloc (.cells (opsL.map str).toArray 9)).alloc (.cells #[.int .u8 0, .string ⟨#[]⟩, .slice none 0 0, .slice none 0 0] 25)) := by
  refine ⟨?_, ?_, ?_, ((((Below.refl _ _).alloc (Nat.le_refl _) _).alloc (by simp) _).alloc (by simp; omega) _)⟩
  · exact kc ((Below.refl _ _).alloc (Nat.le_refl _) _) (kc ((Below.refl _ _).alloc (Nat.le_refl _) _) (heap_alloc_new w _))
  · have := heap_alloc_new (w.alloc (.cells #[.int .u8 0, .string ⟨#[]⟩, .slice none 0 0, .slice none 0 0] 25)) (.cells (opsL.map str).toArray 9)
    rw [World.size_alloc] at this
    exact kc ((Below.refl _ _).alloc (Nat.le_refl _) _) this
  · have := heap_alloc_new ((w.alloc (.cells #[.int .u8 0, .string ⟨#[]⟩, .slice none 0 0, .slice none 0 0] 25)).alloc (.cells (opsL.map str).toArray 9)) (.cells #[.int .u8 0, .string ⟨#[]⟩, .slice none 0 0, .slice none 0 0] 25)
    rw [World.size_alloc, World.size_alloc] at this
    exact this
def RfAns (ws : List Bs) (v : Value) (f : Fm) (r : List Bs) (w : World) (e : Ending) (w' : World) : Prop :=
  ∃ ga gn gc ha hn hc ra rn rc, e = .returned (.tuple #[.agg #[.int .u8 f.op, str f.name, .slice ga gn gc, .slice ha hn hc], .slice ra rn rc]) ∧ TmsAt (hide (lo w) w') f.args (.slice ga gn gc) ∧ FmsAt (hide (lo w) w') f.sub (.slice ha hn hc) ∧ SubAt ws r v (.slice ra rn rc) ∧ Below w.heap.size w w'
theorem rf_end {w W : World} {ws : List Bs} {v : Value} {f : Fm} {r : List Bs} {ga : Option Addr} {gn gc : Nat} {ha : Option Addr} {hn hc : Nat} {ra : Option Addr} {rn rc : Nat} {tmps : Array Value} (r0 : W.heap[w.heap.size]? = some (.cells #[.int .u8 0, str [], .slice none 0 0, .slice none 0 0] 25 (0, 0))) (hB : Below w.heap.size w W) (hA : TmsAt (hide (fun i => decide (i < w.heap.size + 1)) W) f.args (.slice ga gn gc)) (hS : FmsAt (hide (fun i => decide (i < w.heap.size + 1)) W) f.sub (.slice ha hn hc)) (hR : SubAt ws r v (.slice ra rn rc))
    (h2 : tmps.getD 2 undef = one w.heap.size) (h3 : tmps.getD 3 undef = .slice ra rn rc) :
    bodyPost Tryz.prog Tryz.f134 (RfAns ws v f r w) .ret ⟨tmps, []⟩
      ((((W.setCell ⟨w.heap.size, 0, none⟩ (.int .u8 f.op)).setCell ⟨w.heap.size, 1, none⟩ (str f.name)).setCell ⟨w.heap.size, 2, none⟩ (.slice ga gn gc)).setCell ⟨w.heap.size, 3, none⟩ (.slice ha hn hc)) := by
  have g1 := set_block (o := 0) (u := .int .u8 f.op) r0
  have g2 := set_block (o := 1) (u := str f.name) g1
  have g3 := set_block (o := 2) (u := .slice ga gn gc) g2
  have g4 := set_block (o := 3) (u := .slice ha hn hc) g3
  have B3 : Below w.heap.size w ((((W.setCell ⟨w.heap.size, 0, none⟩ (.int .u8 f.op)).setCell ⟨w.heap.size, 1, none⟩ (str f.name)).setCell ⟨w.heap.size, 2, none⟩ (.slice ga gn gc)).setCell ⟨w.heap.size, 3, none⟩ (.slice ha hn hc)) := (((hB.setCell (by simp) _).setCell (by simp) _).setCell (by simp) _).setCell (by simp) _
  have K : Keeps (hide (fun i => decide (i < w.heap.size + 1)) W) (hide (lo w) ((((W.setCell ⟨w.heap.size, 0, none⟩ (.int .u8 f.op)).setCell ⟨w.heap.size, 1, none⟩ (str f.name)).setCell ⟨w.heap.size, 2, none⟩ (.slice ga gn gc)).setCell ⟨w.heap.size, 3, none⟩ (.slice ha hn hc))) := hide_keeps2 fun i h1 h4 => by
    simp only [decide_eq_false_iff_not, Nat.not_lt, lo] at h4 ⊢
    have hne : i ≠ w.heap.size := by omega
    exact ⟨by omega, by rw [Below.heap_setCell _ _ _ _ hne, Below.heap_setCell _ _ _ _ hne, Below.heap_setCell _ _ _ _ hne, Below.heap_setCell _ _ _ _ hne]⟩
  refine bodyPost_ret (res134 _ _ w.heap.size _ _ _ _ _ (0, 0) h2 h3 g4) rfl ?_
  exact ⟨ga, gn, gc, ha, hn, hc, ra, rn, rc, rfl, hA.keep K, hS.keep K, hR, B3⟩
theorem fms1_at {p : Nat → Bool} {W : World} {bk : Nat} {g : Fm} {A S : Value} {fr : Nat × Nat} (h : W.heap[bk]? = some (.cells #[.int .u8 g.op, str g.name, A, S] 25 fr)) (hp : p bk = false) (hA : TmsAt (hide p W) g.args A) (hS : FmsAt (hide p W) g.sub S) : FmsAt (hide p W) [g] (.slice (some ⟨bk, 0, none⟩) 1 1) := by
  have e : fmsDs [g] = [.val (.int .u8 g.op), .val (str g.name), .sl 3 g.args.length (tmsDs g.args), .sl 4 g.sub.length (fmsDs g.sub)] := by cases g; simp [fmsDs, Fm.ds, Fm.op, Fm.name, Fm.args, Fm.sub]
  refine At.sl_mk (by rw [e]; rfl) (Nat.le_refl _) (by unfold maxLen; omega) fun j d hd => ?_
  rw [e] at hd
  have hc : ∀ (u : Value), (#[Value.int .u8 g.op, str g.name, A, S] : Array Value)[j]? = some u → (hide p W).cell? ⟨bk, 0 + j, none⟩ = some u := fun u hu => by
    rw [hide_cell hp, Nat.zero_add, box_cell h]; exact hu
  rcases j with _ | _ | _ | _ | j
  · cases hd; exact ⟨_, hc _ rfl, rfl⟩
  · cases hd; exact ⟨_, hc _ rfl, rfl⟩
  · cases hd; exact ⟨_, hc _ rfl, hA⟩
  · cases hd; exact ⟨_, hc _ rfl, hS⟩
  · simp at hd
/-- A call of the same function behind the first words. -/
def RfCall (ws : List Bs) (f : Fm) (r : List Bs) : Prop := ∀ (a : Option Addr) (k c : Nat) (w : World), StrsAt w ws (.slice a k c) → Calls Tryz.prog 134 #[.slice a k c] w (RfAns ws (.slice a k c) f r w)
def RaCall (ws : List Bs) (l : List Tm) (r : List Bs) : Prop := ∀ (a : Option Addr) (k c : Nat) (w : World), StrsAt w ws (.slice a k c) → Calls Tryz.prog 217 #[.slice a k c] w (RaAns ws (.slice a k c) l r w)
/-- What the first word tells. -/
def RfKind (x : Bs) (ws : List Bs) (f : Fm) (r : List Bs) : Prop :=
  (opIdx x = 2 ∧ x ≠ wFor ∧ f = .mk 2 [] [] [] ∧ r = ws) ∨
  ((opIdx x = 3 ∨ 10 ≤ opIdx x ∧ opIdx x ≤ 13) ∧ x ≠ wFor ∧ ∃ g, f = .mk (opIdx x) [] [] [g] ∧ RfCall ws g r) ∨
  ((4 ≤ opIdx x ∧ opIdx x ≤ 7 ∨ opIdx x = 14) ∧ x ≠ wFor ∧ ∃ g y ws1 h, f = .mk (opIdx x) [] [] [g, h] ∧ ws1 ≠ [] ∧ RfCall ws g (y :: ws1) ∧ RfCall ws1 h r) ∨
  (opIdx x = 0 ∧ x = wFor ∧ ∃ q v ws1 g, ws = q :: v :: ws1 ∧ ws1 ≠ [] ∧ (q = wAll ∨ q = wSome) ∧ f = .mk (if q = wSome then 9 else 8) v [] [g] ∧ RfCall ws1 g r) ∨
  (opIdx x = 0 ∧ x ≠ wFor ∧ ∃ l, f = .mk 1 x l [] ∧ ((l = [] ∧ r = ws ∧ NotOf ws) ∨ ∃ ws1, ws = wOf :: ws1 ∧ RaCall ws l r))
theorem rfs_set {w W : World} {o o' : Int} (h : RfS w o W) : RfS w o' (W.setCell ⟨w.heap.size + 1 + 1, 0, none⟩ (.int .u8 o')) :=
  ⟨(Below.heap_setCell _ _ _ _ (by simp; omega)).trans h.r0, (Below.heap_setCell _ _ _ _ (by simp)).trans h.r1, set_block h.r2, h.bw.setCell (by simp; omega) _⟩
theorem rf_ne {w w3 : World} (h : w.heap.size + 1 + 1 < w3.heap.size) : w.heap.size + 1 + 1 < w3.heap.size + 1 ∧ ¬ w.heap.size + 1 + 1 = w3.heap.size ∧ ¬ w.heap.size + 1 + 1 = w3.heap.size + 1 ∧ w.heap.size < w3.heap.size ∧ w.heap.size < w3.heap.size + 1 ∧ ¬ w.heap.size = w3.heap.size ∧ ¬ w.heap.size = w3.heap.size + 1 := by omega
theorem rf_fin {w W : World} {ws : List Bs} {v : Value} {f : Fm} {r : List Bs} {ga : Option Addr} {gn gc : Nat} {ha : Option Addr} {hn hc : Nat} {ra : Option Addr} {rn rc : Nat} {tmps : Array Value} (g4 : W.heap[w.heap.size]? = some (.cells #[.int .u8 f.op, str f.name, .slice ga gn gc, .slice ha hn hc] 25 (0, 0))) (hB : Below w.heap.size w W) (hA : TmsAt (hide (lo w) W) f.args (.slice ga gn gc)) (hS : FmsAt (hide (lo w) W) f.sub (.slice ha hn hc)) (hR : SubAt ws r v (.slice ra rn rc))
    (h2 : tmps.getD 2 undef = one w.heap.size) (h3 : tmps.getD 3 undef = .slice ra rn rc) : bodyPost Tryz.prog Tryz.f134 (RfAns ws v f r w) .ret ⟨tmps, []⟩ W :=
  bodyPost_ret (res134 _ _ w.heap.size _ _ _ _ _ (0, 0) h2 h3 g4) rfl ⟨ga, gn, gc, ha, hn, hc, ra, rn, rc, rfl, hA, hS, hR, hB⟩
/-- The result's cell is laid, in a world V. -/
def laid4 (V : World) (g : Nat) (a b c d : Value) : World := (((V.setCell ⟨g, 0, none⟩ a).setCell ⟨g, 1, none⟩ b).setCell ⟨g, 2, none⟩ c).setCell ⟨g, 3, none⟩ d
theorem laid4_at {V : World} {g : Nat} {a b c d x0 x1 x2 x3 : Value} (h : V.heap[g]? = some (.cells #[x0, x1, x2, x3] 25 (0, 0))) : (laid4 V g a b c d).heap[g]? = some (.cells #[a, b, c, d] 25 (0, 0)) := by
  have g1 := set_block (o := 0) (u := a) h
  have g2 := set_block (o := 1) (u := b) g1
  have g3 := set_block (o := 2) (u := c) g2
  exact set_block (o := 3) (u := d) g3
theorem laid4_other {V : World} {g i : Nat} {a b c d : Value} (h : i ≠ g) : (laid4 V g a b c d).heap[i]? = V.heap[i]? := by
  unfold laid4
  rw [Below.heap_setCell _ _ _ _ h, Below.heap_setCell _ _ _ _ h, Below.heap_setCell _ _ _ _ h, Below.heap_setCell _ _ _ _ h]
theorem laid4_size {V : World} {g : Nat} {a b c d : Value} : (laid4 V g a b c d).heap.size = V.heap.size := by simp [laid4, World.setCell]
theorem laid4_below {w V : World} {g : Nat} {a b c d : Value} (h : Below w.heap.size w V) (hg : w.heap.size ≤ g) : Below w.heap.size w (laid4 V g a b c d) := (((h.setCell hg _).setCell hg _).setCell hg _).setCell hg _
theorem rf_one_fin {w wr w3 : World} {o' : Int} {ws : List Bs} {v : Value} {g : Fm} {A S : Value} {r : List Bs} {ra : Option Addr} {rn rc : Nat} {tmps : Array Value} (r0 : wr.heap[w.heap.size]? = some (.cells #[.int .u8 0, str [], .slice none 0 0, .slice none 0 0] 25 (0, 0))) (zr : w.heap.size + 1 + 1 < wr.heap.size) (hA : TmsAt (hide (lo wr) w3) g.args A) (hS : FmsAt (hide (lo wr) w3) g.sub S) (b3 : Below wr.heap.size wr w3) (nm : Bs) (V : World) (hV : ∀ i, i ≠ w.heap.size + 1 + 1 → V.heap[i]? = w3.heap[i]?) (hVz : V.heap.size = w3.heap.size) (hVb : Below w.heap.size w V) (hR : SubAt ws r v (.slice ra rn rc)) (h2 : tmps.getD 2 undef = one w.heap.size) (h3 : tmps.getD 3 undef = .slice ra rn rc) :
    bodyPost Tryz.prog Tryz.f134 (RfAns ws v (.mk o' nm [] [g]) r w) .ret ⟨tmps, []⟩ (((laid4 V w.heap.size (.int .u8 o') (str nm) (.slice none 0 0) (.slice (some ⟨w3.heap.size + 1, 0, none⟩) 1 1)).alloc (.cells #[.int .u8 g.op, str g.name, A, S] 25)).alloc (.cells #[.int .u8 g.op, str g.name, A, S] 25)) := by
  have z := b3.size
  generalize hL : laid4 V w.heap.size (.int .u8 o') (str nm) (.slice none 0 0) (.slice (some ⟨w3.heap.size + 1, 0, none⟩) 1 1) = L
  have Lsz : L.heap.size = w3.heap.size := by rw [← hL, laid4_size, hVz]
  have Lat : L.heap[w.heap.size]? = some (.cells #[.int .u8 o', str nm, .slice none 0 0, .slice (some ⟨w3.heap.size + 1, 0, none⟩) 1 1] 25 (0, 0)) := by
    rw [← hL]; exact laid4_at ((hV _ (by omega)).trans (kc b3 r0))
  have Lot : ∀ i, wr.heap.size ≤ i → L.heap[i]? = w3.heap[i]? := fun i hi => by rw [← hL, laid4_other (by omega), hV i (by omega)]
  have LB : Below w.heap.size w L := by rw [← hL]; exact laid4_below hVb (Nat.le_refl _)
  clear hL
  have ba : Below L.heap.size L ((L.alloc (.cells #[.int .u8 g.op, str g.name, A, S] 25)).alloc (.cells #[.int .u8 g.op, str g.name, A, S] 25)) := ((Below.refl _ _).alloc (Nat.le_refl _) _).alloc (by simp) _
  have K : Keeps (hide (lo wr) w3) (hide (lo w) ((L.alloc (.cells #[.int .u8 g.op, str g.name, A, S] 25)).alloc (.cells #[.int .u8 g.op, str g.name, A, S] 25))) := hide_keeps2 fun i h1 h2 => by
    simp only [lo, decide_eq_false_iff_not, Nat.not_lt] at h2 ⊢
    exact ⟨by omega, (ba.block i (by omega)).trans (Lot i h2)⟩
  refine rf_fin (f := .mk o' nm [] [g]) (kc ba Lat) (belowThen LB ba) (At.sl_nil (Nat.zero_le _)) (fms1_at (fr := (0, 0)) ?_ (by simp [lo]; omega) (hA.keep K) (hS.keep K)) hR h2 h3
  have := heap_alloc_new (L.alloc (.cells #[.int .u8 g.op, str g.name, A, S] 25)) (.cells #[.int .u8 g.op, str g.name, A, S] 25)
  rwa [World.size_alloc, Lsz] at this
theorem own_cells {W : World} {k B : Nat} {e : TypeId} {size n : Nat} {cs : Array Value} (h : W.heap[k]? = some (.cells cs e (0, 0))) (hB : B ≤ k) (hn : n ≤ maxLen) (hs : cs.size = n * size) : W.ownsRow B e size (.slice (some ⟨k, 0, none⟩) n n) n cs.toList :=
  ⟨by simpa using hs, .inr ⟨k, n, cs, rfl, hB, h, Nat.le_refl _, hn, hs, List.take_of_length_le (by rw [Array.length_toList, hs]; exact Nat.le_refl _)⟩⟩
/-- Behind the first part of two: a world with the part's rows. -/
structure RfT (w w3 : World) (o : Int) (R : Array Value) (u : Value) (W : World) : Prop where
  r0 : W.heap[w.heap.size]? = some (.cells #[.int .u8 0, str [], .slice none 0 0, .slice none 0 0] 25 (0, 0))
  r2 : W.heap[w.heap.size + 1 + 1]? = some (.cells #[.int .u8 o, str [], .slice none 0 0, u] 25 (0, 0))
  rg : W.heap[w3.heap.size + 1]? = some (.cells R 25 (0, 0))
  bw : Below w.heap.size w W
  sz : W.heap.size = w3.heap.size + 2
  ot : ∀ i, i < w3.heap.size → i ≠ w.heap.size + 1 + 1 → W.heap[i]? = w3.heap[i]?
theorem rft_new {w wr w3 : World} {o : Int} (hs : RfS w o wr) (b3 : Below wr.heap.size wr w3) (u : Value) (O1 : Obj) (R : Array Value) : RfT w w3 o R u (((w3.setCell ⟨w.heap.size + 1 + 1, 3, none⟩ u).alloc O1).alloc (.cells R 25)) := by
  have z := (Array.getElem?_eq_some_iff.1 (kc b3 hs.r2)).1
  have ba : Below (w3.setCell ⟨w.heap.size + 1 + 1, 3, none⟩ u).heap.size (w3.setCell ⟨w.heap.size + 1 + 1, 3, none⟩ u) (((w3.setCell ⟨w.heap.size + 1 + 1, 3, none⟩ u).alloc O1).alloc (.cells R 25)) := ((Below.refl _ _).alloc (Nat.le_refl _) _).alloc (by simp) _
  have zs : (w3.setCell ⟨w.heap.size + 1 + 1, 3, none⟩ u).heap.size = w3.heap.size := by simp [World.setCell]
  refine ⟨kc ba ((Below.heap_setCell _ _ _ _ (by simp; omega)).trans (kc b3 hs.r0)), kc ba (set_block (kc b3 hs.r2)), ?_, belowThen ((belowThen hs.bw b3).setCell (by simp; omega) _) ba, by simp [zs], fun i h1 h2 => (ba.block i (by rw [zs]; exact h1)).trans (Below.heap_setCell _ _ _ _ h2)⟩
  have := heap_alloc_new ((w3.setCell ⟨w.heap.size + 1 + 1, 3, none⟩ u).alloc O1) (.cells R 25)
  rwa [World.size_alloc, zs] at this
theorem rf_two_fin {w wr w3 Wt w4 w5 : World} {o : Int} {ws : List Bs} {v u : Value} {g h : Fm} {ga : Option Addr} {gn gc : Nat} {ha : Option Addr} {hn hc : Nat} {la : Option Addr} {ln lc : Nat} {ma : Option Addr} {mn mc : Nat} {r : List Bs} {ra : Option Addr} {rn rc : Nat} {a5 : Option Addr} {c5 : Nat} {tmps : Array Value} {O3 O4 : Obj}
    (zr : w.heap.size + 1 + 1 < wr.heap.size) (hA : TmsAt (hide (lo wr) w3) g.args (.slice ga gn gc)) (hS : FmsAt (hide (lo wr) w3) g.sub (.slice ha hn hc)) (b3 : Below wr.heap.size wr w3) (T : RfT w w3 o #[.int .u8 g.op, str g.name, .slice ga gn gc, .slice ha hn hc] u Wt)
    (hA2 : TmsAt (hide (lo Wt) w4) h.args (.slice la ln lc)) (hS2 : FmsAt (hide (lo Wt) w4) h.sub (.slice ma mn mc)) (b4 : Below Wt.heap.size Wt w4)
    (ho : w5.ownsRow (w.heap.size + 1 + 1 + 1) 25 4 (.slice a5 2 c5) 2 ([.int .u8 g.op, str g.name, .slice ga gn gc, .slice ha hn hc] ++ [.int .u8 h.op, str h.name, .slice la ln lc, .slice ma mn mc])) (hg : ((w4.alloc O3).alloc O4).grownBy w5 (some (w3.heap.size + 1))) (hat : (Value.slice a5 2 c5).ownBlock = some (w3.heap.size + 1) ∨ (Value.slice a5 2 c5).ownBlock = some ((w4.alloc O3).alloc O4).heap.size)
    (hR : SubAt ws r v (.slice ra rn rc)) (h2 : tmps.getD 2 undef = one w.heap.size) (h3 : tmps.getD 3 undef = .slice ra rn rc) :
    bodyPost Tryz.prog Tryz.f134 (RfAns ws v (.mk o [] [] [g, h]) r w) .ret ⟨tmps, []⟩ (laid4 (w5.setCell ⟨w.heap.size + 1 + 1, 3, none⟩ (.slice a5 2 c5)) w.heap.size (.int .u8 o) (str []) (.slice none 0 0) (.slice a5 2 c5)) := by
  have z3 := b3.size
  have z4 := b4.size
  have zt := T.sz
  have ba : Below w4.heap.size w4 ((w4.alloc O3).alloc O4) := ((Below.refl _ _).alloc (Nat.le_refl _) _).alloc (by simp) _
  have hz5 := hg.size
  simp only [World.size_alloc] at hz5
  have e : ∀ f : Fm, f.ds = [.val (.int .u8 f.op), .val (str f.name), .sl 3 f.args.length (tmsDs f.args), .sl 4 f.sub.length (fmsDs f.sub)] := fun f => by cases f; rfl
  have K1 : Keeps (hide (lo wr) w3) (hide (fun k => (fun i => decide (i < w.heap.size + 1 + 1 + 1)) k || decide ((Value.slice (some ⟨w3.heap.size + 1, 0, none⟩) 1 1).ownBlock = some k)) ((w4.alloc O3).alloc O4)) := hide_keeps2 fun i h1 h2 => by
    simp only [lo, decide_eq_false_iff_not, Nat.not_lt, Bool.or_eq_false_iff, Value.ownBlock, Option.some.injEq] at h2 ⊢
    exact ⟨⟨by omega, by omega⟩, (ba.block i (by omega)).trans ((b4.block i (by omega)).trans (T.ot i h1 (by omega)))⟩
  have K2 : Keeps (hide (lo Wt) w4) (hide (fun k => (fun i => decide (i < w.heap.size + 1 + 1 + 1)) k || decide ((Value.slice (some ⟨w3.heap.size + 1, 0, none⟩) 1 1).ownBlock = some k)) ((w4.alloc O3).alloc O4)) := hide_keeps2 fun i h1 h2 => by
    simp only [lo, decide_eq_false_iff_not, Nat.not_lt, Bool.or_eq_false_iff, Value.ownBlock, Option.some.injEq] at h2 ⊢
    exact ⟨⟨by omega, by omega⟩, ba.block i h1⟩
  have cg : CellsAt (hide (fun k => (fun i => decide (i < w.heap.size + 1 + 1 + 1)) k || decide ((Value.slice (some ⟨w3.heap.size + 1, 0, none⟩) 1 1).ownBlock = some k)) ((w4.alloc O3).alloc O4)) g.ds [.int .u8 g.op, str g.name, .slice ga gn gc, .slice ha hn hc] := by
    rw [e]; exact CellsAt.cons rfl (CellsAt.cons rfl (CellsAt.cons (At.keep K1 _ _ hA) (CellsAt.cons (At.keep K1 _ _ hS) (CellsAt.nil _))))
  have ch : CellsAt (hide (fun k => (fun i => decide (i < w.heap.size + 1 + 1 + 1)) k || decide ((Value.slice (some ⟨w3.heap.size + 1, 0, none⟩) 1 1).ownBlock = some k)) ((w4.alloc O3).alloc O4)) h.ds [.int .u8 h.op, str h.name, .slice la ln lc, .slice ma mn mc] := by
    rw [e]; exact CellsAt.cons rfl (CellsAt.cons rfl (CellsAt.cons (At.keep K2 _ _ hA2) (CellsAt.cons (At.keep K2 _ _ hS2) (CellsAt.nil _))))
  have hO : OwnDs (fun i => decide (i < w.heap.size + 1 + 1 + 1)) (w.heap.size + 1 + 1 + 1) w5 25 4 (1 + 1) (g.ds ++ h.ds) (.slice a5 2 c5) := OwnDs.appended cg ch ho hg hat
  have hat5 := hO.at (fun k hk => by simp; omega)
  have hblk : ∀ i, i < w4.heap.size → i ≠ w3.heap.size + 1 → w5.heap[i]? = w4.heap[i]? := fun i h1 h2 => (hg.block i (by simp; omega) (by simp; omega)).trans (ba.block i h1)
  have B5 : Below w.heap.size w w5 := (belowThen (belowThen T.bw b4) ba).trans (below_grown hg (fun gg e => by cases e; omega) (by have := T.bw.size; simp; omega))
  have K5 : Keeps (hide (fun i => decide (i < w.heap.size + 1 + 1 + 1)) w5) (hide (fun i => decide (i < w.heap.size + 1)) (w5.setCell ⟨w.heap.size + 1 + 1, 3, none⟩ (.slice a5 2 c5))) := hide_keeps2 fun i h1 h2 => by
    simp only [decide_eq_false_iff_not, Nat.not_lt] at h2 ⊢
    exact ⟨by omega, Below.heap_setCell _ _ _ _ (by simp; omega)⟩
  refine rf_end (f := .mk o [] [] [g, h]) (W := w5.setCell ⟨w.heap.size + 1 + 1, 3, none⟩ (.slice a5 2 c5)) ?_ (B5.setCell (by simp; omega) _) (At.sl_nil (Nat.zero_le _)) ?_ hR h2 h3
  · exact (Below.heap_setCell _ _ _ _ (by simp; omega)).trans ((hblk _ (by omega) (by omega)).trans (kc b4 T.r0))
  · have e2 : fmsDs [g, h] = g.ds ++ h.ds := by simp [fmsDs]
    show At _ (.sl 4 2 (fmsDs [g, h])) _
    rw [e2]
    exact At.keep K5 _ _ hat5
theorem rf_rc {ws1 : List Bs} {p rc : Nat} (h : p + 1 = ws1.length + 1) (h' : p + 1 ≤ rc) (hne : ws1 ≠ []) : ¬ rc = 1 := by
  have := List.length_pos_iff.2 hne
  omega
theorem row_form {base size n : Nat} {w : World} {e : TypeId} {v : Value} {xs : List Value} (ho : w.ownsRow base e size v n xs) : ∃ a c, v = .slice a n c := by
  rcases ho.2 with ⟨rfl, rfl⟩ | ⟨g, cap, cur, rfl, hb, hg, h1, h2, h3, h4⟩
  · exact ⟨none, 0, rfl⟩
  · exact ⟨_, _, rfl⟩
theorem rf_keep5 {w4 w5 : World} {O3 O4 O : Obj} {b : Nat} {row : Option Nat} (hg : ((w4.alloc O3).alloc O4).grownBy w5 row) (h : w4.heap[b]? = some O) (hb : b < w4.heap.size) (hr : row ≠ some b) : w5.heap[b]? = some O := by
  rw [hg.block b (by simp; omega) (fun e => hr e.symm)]
  exact kc (((Below.refl _ _).alloc (Nat.le_refl _) _).alloc (by simp) _) h
theorem rf_keep6 {w4 w5 : World} {O3 O4 O : Obj} {k b n c : Nat} (hg : ((w4.alloc O3).alloc O4).grownBy w5 (Value.slice (some ⟨k, 0, none⟩) n c).ownBlock) (h : w4.heap[b]? = some O) (hb : b < w4.heap.size) (hk : ¬ k = b) : w5.heap[b]? = some O :=
  rf_keep5 (row := some k) hg h hb (by simpa using hk)
theorem rf_c (x : Bs) (ws : List Bs) (f : Fm) (r : List Bs) (hx0 : x ≠ []) (hK : RfKind x ws f r) : RfCall (x :: ws) f r := by
  intro a k c w hl
  obtain ⟨b, off, rfl, rfl, h1, h2, hc⟩ := strs_cell hl
  have c0 : w.cell? ⟨b, off, none⟩ = some (str x) := hc 0 x rfl
  have hb : b < w.heap.size := World.block_lt_of_cell? w ⟨b, off, none⟩ c0
  have hmx := le63 h2
  have HC := Lib.hid hc
  have HMX := Lib.hid h2
  have HX0 := Lib.hid hx0
  have HK := Lib.hid hK
  obtain ⟨n, hn⟩ : ∃ n, ws.length = n := ⟨_, rfl⟩
  have HN := Lib.hid hn
  rw [hn] at h1 hl ⊢
  have HL := Lib.hid hl
  clear hl hc hn h2 hx0 hK
  go_enter Tryz.func134, Tryz.ntmps134
  go_upto_region 2 with fail
  go_cut [0] from 12 to 16 (fun u0 wx => ∃ a1 n1 c1, u0 = .slice a1 n1 c1 ∧ n1 = n ∧ c1 ≤ 9223372036854775807 ∧ Hid (SubAt (x :: ws) ws (.slice (some ⟨b, off, none⟩) (n + 1) c) (.slice a1 n1 c1) ∧ wx = w.alloc (.cells #[.int .u8 0, .string ⟨#[]⟩, .slice none 0 0, .slice none 0 0] 25)))
  case first =>
    go_wp2_with fail
    · go_meet
      have hn0 : n = 0 := by omega
      subst hn0
      have hws : ws = [] := List.eq_nil_of_length_eq_zero HN.out
      subst hws
      exact ⟨_, _, _, rfl, rfl, by omega, sub_nil (by unfold maxLen; omega), rfl⟩
    · go_meet
      exact ⟨_, _, _, rfl, rfl, by omega, sub_tail, rfl⟩
  case rest =>
  obtain ⟨a1, n1, c1, rfl, rfl, hc1, hsub⟩ := hcut
  have SB := Lib.hid hsub.out.1
  obtain rfl := hsub.out.2
  have R0 := Lib.hid (rfs_new w)
  clear hsub
  go_wp2_with fail
  go_loopw [7] (fun i wr => ∃ j : Nat, 2 ≤ j ∧ j ≤ 15 ∧ i = .int .i64 j ∧ Hid (RfS w (if opIdx x < j then opIdx x else 0) wr)) (fun i _ => 15 - (intOf i).toNat)
  case atStart =>
    refine ⟨2, Nat.le_refl _, by omega, rfl, ?_⟩
    have e : (if opIdx x < ((2 : Nat) : Int) then opIdx x else 0) = 0 := by
      rcases HK.out with ⟨h, _⟩ | ⟨h, _⟩ | ⟨h, _⟩ | ⟨h, _⟩ | ⟨h, _⟩ <;> split <;> omega
    rw [e]
    exact R0.out
  case round =>
    clear R0
    obtain ⟨j, hj2, hj, rfl, hs⟩ := hrel
    by_cases hlt : j < 15
    · obtain ⟨V, hV⟩ := get_of_lt (l := opsL) (j := j) hlt
      have cV : wr.cell? ⟨w.heap.size + 1, j, none⟩ = some (str V) := by rw [box_cell hs.out.r1]; simp [hV]
      have t1 := ops_eq HX0.out hj2 hV
      obtain ⟨o, ho⟩ : ∃ o, (if opIdx x < (j : Int) then opIdx x else 0) = o := ⟨_, rfl⟩
      have HO := Lib.hid ho
      rw [ho] at hs
      obtain ⟨x0, x1, x2, x3, f0, f1, f2, f3⟩ := row25' hs.out.r2
      have zs := (Array.getElem?_eq_some_iff.1 hs.out.r2).1
      have hwr : IntKind.u8.wrap (j : Int) = j := IntWalk.u8_in _ (by omega)
      clear hV ho
      by_cases hq : opIdx x = j
      · rw [decide_eq_true hq] at t1
        have HQ := Lib.hid hq
        clear hq
        go_wp2_with fail
        go_roundw
        case rel =>
          refine ⟨j + 1, by omega, by omega, by go_num, ?_⟩
          have e : (if opIdx x < ((j + 1 : Nat) : Int) then opIdx x else 0) = (j : Int) := by rw [HQ.out]; split <;> omega
          rw [e]
          exact rfs_set hs.out
        case measure => simp [intOf]; omega
      · rw [decide_eq_false hq] at t1
        have HQ := Lib.hid hq
        clear hq
        go_wp2_with fail
        go_roundw
        case rel =>
          refine ⟨j + 1, by omega, by omega, by go_num, ?_⟩
          have e : (if opIdx x < ((j + 1 : Nat) : Int) then opIdx x else 0) = o := by
            rw [← HO.out]
            have := HQ.out
            split <;> split <;> omega
          rw [e]
          exact hs.out
        case measure => simp [intOf]; omega
    · have hop : (if opIdx x < (j : Int) then opIdx x else 0) = opIdx x := by
        rcases HK.out with ⟨h, _⟩ | ⟨h, _⟩ | ⟨h, _⟩ | ⟨h, _⟩ | ⟨h, _⟩ <;> split <;> omega
      rw [hop] at hs
      clear hop
      obtain ⟨o, ho⟩ : ∃ o, opIdx x = o := ⟨_, rfl⟩
      rw [ho] at hs
      have hk := HK.out
      unfold RfKind at hk
      rw [ho] at hk
      clear HK ho
      obtain ⟨x0, x1, x2, x3, f0, f1, f2, f3⟩ := row25' hs.out.r2
      obtain ⟨y0, y1, y2, y3, e0, e1, e2, e3⟩ := row25 hs.out.r0
      have zs := (Array.getElem?_eq_some_iff.1 hs.out.r2).1
      rcases hk with ⟨rfl, hf, rfl, rfl⟩ | hk | hk | hk | hk
      · have tf : (x == [102, 111, 114]) = false := beq_no hf
        clear hf
        go_wp2_with fail
        exact rf_end (f := .mk 2 [] [] []) hs.out.r0 hs.out.bw (At.sl_nil (Nat.zero_le _)) (At.sl_nil (Nat.zero_le _)) SB.out rfl rfl
      · obtain ⟨ho, hf, g, rfl, hcall⟩ := hk
        have tf : (x == [102, 111, 114]) = false := beq_no hf
        have CALL := Lib.hid hcall
        clear hf hcall
        have SW : Hid (StrsAt wr ws (.slice a1 n1 c1)) := SB.out wr (HL.out.keep (keeps_of_below hs.out.bw))
        have t2 : (o == 2) = false := by simpa using (by omega : ¬ o = 2)
        have t0 : (o == 0) = false := by simpa using (by omega : ¬ o = 0)
        have t14 : (o == 14) = false := by simpa using (by omega : ¬ o = 14)
        rcases ho with rfl | ⟨ho, ho'⟩
        · have t4 : decide ((4 : Int) ≤ 3) = false := by decide
          go_wp2_with (go_at_call 134; refine (CALL.out _ _ _ _ SW.out).mono ?_; rintro e w3 ⟨ga, gn, gc, ha, hn, hc, ra, rn, rc, rfl, hA, hS, hR, b3⟩; have HA := Lib.hid (And.intro hA (And.intro hS (And.intro hR b3))); have E0 := Lib.hid (kc b3 hs.out.r0); have E2 := Lib.hid (kc b3 hs.out.r2); clear hA hS hR b3 x0 x1 x2 x3 f0 f1 f2 f3 y0 y1 y2 y3 e0 e1 e2 e3; obtain ⟨x0, x1, x2, x3, f0, f1, f2, f3⟩ := row25' E2.out; obtain ⟨y0, y1, y2, y3, e0, e1, e2, e3⟩ := row25 E0.out; have z3 := (Array.getElem?_eq_some_iff.1 E2.out).1; obtain ⟨z4, z5, z6, z7, z8, z9, z10⟩ := rf_ne z3)
          obtain ⟨hA, hS, hR, b3⟩ := HA.out
          exact rf_one_fin hs.out.r0 zs hA hS b3 [] (w3.setCell ⟨w.heap.size + 1 + 1, 3, none⟩ (.slice (some ⟨w3.heap.size + 1, 0, none⟩) 1 1)) (fun i hi => Below.heap_setCell _ _ _ _ hi) (by simp [World.setCell]) ((belowThen hs.out.bw b3).setCell (by simp; omega) _) (SB.out.trans hR) rfl rfl
        · have t4 : decide (4 ≤ o) = true := by simp; omega
          have t7 : decide (o ≤ 7) = false := by simp; omega
          go_wp2_with (go_at_call 134; refine (CALL.out _ _ _ _ SW.out).mono ?_; rintro e w3 ⟨ga, gn, gc, ha, hn, hc, ra, rn, rc, rfl, hA, hS, hR, b3⟩; have HA := Lib.hid (And.intro hA (And.intro hS (And.intro hR b3))); have E0 := Lib.hid (kc b3 hs.out.r0); have E2 := Lib.hid (kc b3 hs.out.r2); clear hA hS hR b3 x0 x1 x2 x3 f0 f1 f2 f3 y0 y1 y2 y3 e0 e1 e2 e3; obtain ⟨x0, x1, x2, x3, f0, f1, f2, f3⟩ := row25' E2.out; obtain ⟨y0, y1, y2, y3, e0, e1, e2, e3⟩ := row25 E0.out; have z3 := (Array.getElem?_eq_some_iff.1 E2.out).1; obtain ⟨z4, z5, z6, z7, z8, z9, z10⟩ := rf_ne z3)
          obtain ⟨hA, hS, hR, b3⟩ := HA.out
          exact rf_one_fin hs.out.r0 zs hA hS b3 [] (w3.setCell ⟨w.heap.size + 1 + 1, 3, none⟩ (.slice (some ⟨w3.heap.size + 1, 0, none⟩) 1 1)) (fun i hi => Below.heap_setCell _ _ _ _ hi) (by simp [World.setCell]) ((belowThen hs.out.bw b3).setCell (by simp; omega) _) (SB.out.trans hR) rfl rfl
      · obtain ⟨ho, hf, g, y, ws1, h, rfl, hne, hcall, hcall2⟩ := hk
        have tf : (x == [102, 111, 114]) = false := beq_no hf
        have CALL := Lib.hid hcall
        have CALL2 := Lib.hid hcall2
        have HNE := Lib.hid hne
        clear hf hcall hcall2 hne
        obtain ⟨i0, hi0, hz0, hs0, hb0⟩ := info_parts info25
        have SW : Hid (StrsAt wr ws (.slice a1 n1 c1)) := SB.out wr (HL.out.keep (keeps_of_below hs.out.bw))
        have t2 : (o == 2) = false := by simpa using (by omega : ¬ o = 2)
        have t0 : (o == 0) = false := by simpa using (by omega : ¬ o = 0)
        have ZR := Lib.hid zs
        rcases ho with ⟨ho, ho'⟩ | rfl
        · have t4 : decide (4 ≤ o) = true := by simp; omega
          have t7 : decide (o ≤ 7) = true := by simp; omega
          go_wp2_with (first
            | (have zz := STG.out; clear zz; go_at_call 134; refine (CALL2.out _ _ _ _ (SS2.out _ (HL.out.keep (keeps_of_below (TT.out _ _ _).bw)))).mono ?_; rintro e w4 ⟨la, ln, lc, ma, mn, mc, ra2, rn2, rc2, rfl, hA2, hS2, hR2, b4⟩; have HA2 := Lib.hid (And.intro hA2 (And.intro hS2 (And.intro hR2 b4))); have F0 := Lib.hid (kc b4 (TT.out _ _ _).r0); have F2 := Lib.hid (kc b4 (TT.out _ _ _).r2); have FG := Lib.hid (kc b4 (TT.out _ _ _).rg); have OWN := Lib.hid (own_cells (B := w.heap.size + 1 + 1 + 1) (size := 4) (n := 1) FG.out (by omega) (by unfold maxLen; omega) rfl); clear hA2 hS2 hR2 b4 x0 x1 x2 x3 f0 f1 f2 f3 y0 y1 y2 y3 e0 e1 e2 e3 z3 z4 z5 z6 z7 z8 z9 z10; obtain ⟨x0, x1, x2, x3, f0, f1, f2, f3⟩ := row25' F2.out; obtain ⟨y0, y1, y2, y3, e0, e1, e2, e3⟩ := row25 F0.out; have z3 := (Array.getElem?_eq_some_iff.1 F2.out).1; obtain ⟨z4, z5, z6, z7, z8, z9, z10⟩ := rf_ne z3)
            | (at_builtin; (refine wpList_append_own_at _ rfl _ _ 23 rfl (w.heap.size + 1 + 1 + 1) 25 i0 (.agg #[.int .u8 0, .string ⟨#[]⟩, .slice none 0 0, .slice none 0 0]) 4 72 Tryz.underlying23 hi0 hz0 hs0 hb0 rfl (by decide) _ _ _ rfl (World.ownsRow.alloc (World.ownsRow.alloc OWN.out _) _) ⟨w4.heap.size + 1, 0, none⟩ 1 1 [.int .u8 h.op, str h.name, .slice la ln lc, .slice ma mn mc] rfl rfl (news4' _ _ _ _ _ _ _) (one25 _ _ _ _ rfl rfl) (by unfold maxLen; omega) (by omega) (by simp; omega) ?_; intro v5 w5 hown5 hg5 _ hat5; obtain ⟨a5, c5, rfl⟩ := row_form hown5; have H5 := Lib.hid (And.intro hown5 (And.intro hg5 hat5)); have G0 := Lib.hid (rf_keep6 hg5 F0.out z7 (by omega)); have G2 := Lib.hid (rf_keep6 hg5 F2.out z3 (by omega)); clear hown5 hg5 hat5 x0 x1 x2 x3 f0 f1 f2 f3 y0 y1 y2 y3 e0 e1 e2 e3; obtain ⟨x0, x1, x2, x3, f0, f1, f2, f3⟩ := row25' G2.out; obtain ⟨y0, y1, y2, y3, e0, e1, e2, e3⟩ := row25 G0.out))
            | (go_at_call 134; refine (CALL.out _ _ _ _ SW.out).mono ?_; rintro e w3 ⟨ga, gn, gc, ha, hn, hc, ra, rn, rc, rfl, hA, hS, hR, b3⟩; obtain ⟨b2, o2, rfl, hrn, hrc, hrm, -⟩ := strs_cell ((SB.out.trans hR) w HL.out); obtain ⟨p, rfl⟩ : ∃ p, rn = p + 1 := ⟨ws1.length, hrn⟩; have hrc2 := rf_rc hrn hrc HNE.out; have hrx := le63 hrm; clear hrm hrn; have SS2 := Lib.hid (SB.out.trans (hR.trans sub_tail)); have HA := Lib.hid (And.intro hA (And.intro hS (And.intro hR b3))); have TT : Hid (∀ u O1 R, RfT w w3 o R u (((w3.setCell ⟨w.heap.size + 1 + 1, 3, none⟩ u).alloc O1).alloc (.cells R 25))) := (fun u O1 R => rft_new hs.out b3 u O1 R); have E0 := Lib.hid (kc b3 hs.out.r0); have E2 := Lib.hid (kc b3 hs.out.r2); have STG := Lib.hid True.intro; have zq : w.heap.size + 1 + 1 < w3.heap.size := (Array.getElem?_eq_some_iff.1 E2.out).1; clear hA hS hR b3 x0 x1 x2 x3 f0 f1 f2 f3 y0 y1 y2 y3 e0 e1 e2 e3; obtain ⟨x0, x1, x2, x3, f0, f1, f2, f3⟩ := row25' E2.out; obtain ⟨y0, y1, y2, y3, e0, e1, e2, e3⟩ := row25 E0.out; have z3 := (Array.getElem?_eq_some_iff.1 E2.out).1; obtain ⟨z4, z5, z6, z7, z8, z9, z10⟩ := rf_ne z3))
          obtain ⟨hA, hS, hR, b3⟩ := HA.out
          obtain ⟨hA2, hS2, hR2, b4⟩ := HA2.out
          obtain ⟨h5, hg5, hat5⟩ := H5.out
          exact rf_two_fin ZR.out hA hS b3 (TT.out _ _ _) hA2 hS2 b4 h5 hg5 hat5 (SS2.out.trans hR2) rfl rfl
        · have t4 : decide ((4 : Int) ≤ 14) = true := by decide
          have t7 : decide ((14 : Int) ≤ 7) = false := by decide
          go_wp2_with (first
            | (have zz := STG.out; clear zz; go_at_call 134; refine (CALL2.out _ _ _ _ (SS2.out _ (HL.out.keep (keeps_of_below (TT.out _ _ _).bw)))).mono ?_; rintro e w4 ⟨la, ln, lc, ma, mn, mc, ra2, rn2, rc2, rfl, hA2, hS2, hR2, b4⟩; have HA2 := Lib.hid (And.intro hA2 (And.intro hS2 (And.intro hR2 b4))); have F0 := Lib.hid (kc b4 (TT.out _ _ _).r0); have F2 := Lib.hid (kc b4 (TT.out _ _ _).r2); have FG := Lib.hid (kc b4 (TT.out _ _ _).rg); have OWN := Lib.hid (own_cells (B := w.heap.size + 1 + 1 + 1) (size := 4) (n := 1) FG.out (by omega) (by unfold maxLen; omega) rfl); clear hA2 hS2 hR2 b4 x0 x1 x2 x3 f0 f1 f2 f3 y0 y1 y2 y3 e0 e1 e2 e3 z3 z4 z5 z6 z7 z8 z9 z10; obtain ⟨x0, x1, x2, x3, f0, f1, f2, f3⟩ := row25' F2.out; obtain ⟨y0, y1, y2, y3, e0, e1, e2, e3⟩ := row25 F0.out; have z3 := (Array.getElem?_eq_some_iff.1 F2.out).1; obtain ⟨z4, z5, z6, z7, z8, z9, z10⟩ := rf_ne z3)
            | (at_builtin; (refine wpList_append_own_at _ rfl _ _ 23 rfl (w.heap.size + 1 + 1 + 1) 25 i0 (.agg #[.int .u8 0, .string ⟨#[]⟩, .slice none 0 0, .slice none 0 0]) 4 72 Tryz.underlying23 hi0 hz0 hs0 hb0 rfl (by decide) _ _ _ rfl (World.ownsRow.alloc (World.ownsRow.alloc OWN.out _) _) ⟨w4.heap.size + 1, 0, none⟩ 1 1 [.int .u8 h.op, str h.name, .slice la ln lc, .slice ma mn mc] rfl rfl (news4' _ _ _ _ _ _ _) (one25 _ _ _ _ rfl rfl) (by unfold maxLen; omega) (by omega) (by simp; omega) ?_; intro v5 w5 hown5 hg5 _ hat5; obtain ⟨a5, c5, rfl⟩ := row_form hown5; have H5 := Lib.hid (And.intro hown5 (And.intro hg5 hat5)); have G0 := Lib.hid (rf_keep6 hg5 F0.out z7 (by omega)); have G2 := Lib.hid (rf_keep6 hg5 F2.out z3 (by omega)); clear hown5 hg5 hat5 x0 x1 x2 x3 f0 f1 f2 f3 y0 y1 y2 y3 e0 e1 e2 e3; obtain ⟨x0, x1, x2, x3, f0, f1, f2, f3⟩ := row25' G2.out; obtain ⟨y0, y1, y2, y3, e0, e1, e2, e3⟩ := row25 G0.out))
            | (go_at_call 134; refine (CALL.out _ _ _ _ SW.out).mono ?_; rintro e w3 ⟨ga, gn, gc, ha, hn, hc, ra, rn, rc, rfl, hA, hS, hR, b3⟩; obtain ⟨b2, o2, rfl, hrn, hrc, hrm, -⟩ := strs_cell ((SB.out.trans hR) w HL.out); obtain ⟨p, rfl⟩ : ∃ p, rn = p + 1 := ⟨ws1.length, hrn⟩; have hrc2 := rf_rc hrn hrc HNE.out; have hrx := le63 hrm; clear hrm hrn; have SS2 := Lib.hid (SB.out.trans (hR.trans sub_tail)); have HA := Lib.hid (And.intro hA (And.intro hS (And.intro hR b3))); have TT : Hid (∀ u O1 R, RfT w w3 14 R u (((w3.setCell ⟨w.heap.size + 1 + 1, 3, none⟩ u).alloc O1).alloc (.cells R 25))) := (fun u O1 R => rft_new hs.out b3 u O1 R); have E0 := Lib.hid (kc b3 hs.out.r0); have E2 := Lib.hid (kc b3 hs.out.r2); have STG := Lib.hid True.intro; have zq : w.heap.size + 1 + 1 < w3.heap.size := (Array.getElem?_eq_some_iff.1 E2.out).1; clear hA hS hR b3 x0 x1 x2 x3 f0 f1 f2 f3 y0 y1 y2 y3 e0 e1 e2 e3; obtain ⟨x0, x1, x2, x3, f0, f1, f2, f3⟩ := row25' E2.out; obtain ⟨y0, y1, y2, y3, e0, e1, e2, e3⟩ := row25 E0.out; have z3 := (Array.getElem?_eq_some_iff.1 E2.out).1; obtain ⟨z4, z5, z6, z7, z8, z9, z10⟩ := rf_ne z3))
          obtain ⟨hA, hS, hR, b3⟩ := HA.out
          obtain ⟨hA2, hS2, hR2, b4⟩ := HA2.out
          obtain ⟨h5, hg5, hat5⟩ := H5.out
          exact rf_two_fin ZR.out hA hS b3 (TT.out _ _ _) hA2 hS2 b4 h5 hg5 hat5 (SS2.out.trans hR2) rfl rfl
      · obtain ⟨rfl, hf, q, vn, ws1, g, rfl, hne, hq, rfl, hcall⟩ := hk
        subst hf
        have CALL := Lib.hid hcall
        clear hcall
        obtain ⟨b1, o1, rfl, hn1, hcc, hcm, hcy⟩ := strs_cell (SB.out w HL.out)
        have cq0 : w.cell? ⟨b1, o1, none⟩ = some (str q) := hcy 0 q rfl
        have cv0 : w.cell? ⟨b1, o1 + 1, none⟩ = some (str vn) := hcy 1 vn rfl
        have hlt1 := World.block_lt_of_cell? w ⟨b1, o1, none⟩ cq0
        have cq := keeps_of_below hs.out.bw _ _ cq0
        have cv := keeps_of_below hs.out.bw _ _ cv0
        have hyb : ¬ b1 = w.heap.size + 1 + 1 := by simp at hlt1; omega
        obtain ⟨m, hm⟩ : ∃ m, ws1.length = m + 1 := ⟨ws1.length - 1, by have := List.length_pos_iff.2 hne; omega⟩
        have hnm : n1 = m + 1 + 1 + 1 := by rw [hn1]; simp [hm]
        subst hnm
        have hc2 : ¬ c1 = 2 := by omega
        have SV : Hid (SubAt (q :: vn :: ws1) ws1 (.slice (some ⟨b1, o1, none⟩) (m + 1 + 1 + 1) c1) (.slice (some ⟨b1, o1 + 2, none⟩) (m + 1) (c1 - 2))) := fun W h => by
          have h1 := sub_tail W h
          have h2 := sub_tail W h1
          exact h2
        clear cq0 cv0 hlt1 hcy hn1 hne hm
        rcases hq with rfl | rfl
        · rw [if_neg (show ¬ wAll = wSome by decide)]
          unfold wAll at cq
          have V0 : Hid (((wr.setCell ⟨w.heap.size + 1 + 1, 0, none⟩ (.int .u8 8)).setCell ⟨w.heap.size + 1 + 1, 1, none⟩ (str vn)).heap[w.heap.size]? = some (.cells #[.int .u8 0, str [], .slice none 0 0, .slice none 0 0] 25 (0, 0))) := (Below.heap_setCell _ _ _ _ (by simp; omega)).trans ((Below.heap_setCell _ _ _ _ (by simp; omega)).trans hs.out.r0)
          have V2 : Hid (((wr.setCell ⟨w.heap.size + 1 + 1, 0, none⟩ (.int .u8 8)).setCell ⟨w.heap.size + 1 + 1, 1, none⟩ (str vn)).heap[w.heap.size + 1 + 1]? = some (.cells #[.int .u8 8, str vn, .slice none 0 0, .slice none 0 0] 25 (0, 0))) := set_block (set_block hs.out.r2)
          have VB : Hid (Below w.heap.size w ((wr.setCell ⟨w.heap.size + 1 + 1, 0, none⟩ (.int .u8 8)).setCell ⟨w.heap.size + 1 + 1, 1, none⟩ (str vn))) := (hs.out.bw.setCell (by simp; omega) _).setCell (by simp; omega) _
          have VZ : Hid (w.heap.size + 1 + 1 < ((wr.setCell ⟨w.heap.size + 1 + 1, 0, none⟩ (.int .u8 8)).setCell ⟨w.heap.size + 1 + 1, 1, none⟩ (str vn)).heap.size) := by show _ < _; simpa [World.setCell] using zs
          go_wp2_with (go_at_call 134; refine (CALL.out _ _ _ _ (SV.out _ (SB.out _ (HL.out.keep (keeps_of_below VB.out))))).mono ?_; rintro e w3 ⟨ga, gn, gc, ha, hn, hc, ra, rn, rc, rfl, hA, hS, hR, b3⟩; have HA := Lib.hid (And.intro hA (And.intro hS (And.intro hR b3))); have E0 := Lib.hid (kc b3 V0.out); have E2 := Lib.hid (kc b3 V2.out); clear hA hS hR b3 x0 x1 x2 x3 f0 f1 f2 f3 y0 y1 y2 y3 e0 e1 e2 e3; obtain ⟨x0, x1, x2, x3, f0, f1, f2, f3⟩ := row25' E2.out; obtain ⟨y0, y1, y2, y3, e0, e1, e2, e3⟩ := row25 E0.out; have z3 := (Array.getElem?_eq_some_iff.1 E2.out).1; obtain ⟨z4, z5, z6, z7, z8, z9, z10⟩ := rf_ne z3)
          obtain ⟨hA, hS, hR, b3⟩ := HA.out
          exact rf_one_fin V0.out VZ.out hA hS b3 vn (w3.setCell ⟨w.heap.size + 1 + 1, 3, none⟩ (.slice (some ⟨w3.heap.size + 1, 0, none⟩) 1 1)) (fun i hi => Below.heap_setCell _ _ _ _ hi) (by simp [World.setCell]) ((belowThen VB.out b3).setCell (by simp; omega) _) (SB.out.trans (SV.out.trans hR)) rfl rfl
        · rw [if_pos rfl]
          unfold wSome at cq
          have V0 : Hid ((((wr.setCell ⟨w.heap.size + 1 + 1, 0, none⟩ (.int .u8 8)).setCell ⟨w.heap.size + 1 + 1, 0, none⟩ (.int .u8 9)).setCell ⟨w.heap.size + 1 + 1, 1, none⟩ (str vn)).heap[w.heap.size]? = some (.cells #[.int .u8 0, str [], .slice none 0 0, .slice none 0 0] 25 (0, 0))) := (Below.heap_setCell _ _ _ _ (by simp; omega)).trans ((Below.heap_setCell _ _ _ _ (by simp; omega)).trans ((Below.heap_setCell _ _ _ _ (by simp; omega)).trans hs.out.r0))
          have V2 : Hid ((((wr.setCell ⟨w.heap.size + 1 + 1, 0, none⟩ (.int .u8 8)).setCell ⟨w.heap.size + 1 + 1, 0, none⟩ (.int .u8 9)).setCell ⟨w.heap.size + 1 + 1, 1, none⟩ (str vn)).heap[w.heap.size + 1 + 1]? = some (.cells #[.int .u8 9, str vn, .slice none 0 0, .slice none 0 0] 25 (0, 0))) := set_block (set_block (set_block hs.out.r2))
          have VB : Hid (Below w.heap.size w (((wr.setCell ⟨w.heap.size + 1 + 1, 0, none⟩ (.int .u8 8)).setCell ⟨w.heap.size + 1 + 1, 0, none⟩ (.int .u8 9)).setCell ⟨w.heap.size + 1 + 1, 1, none⟩ (str vn))) := ((hs.out.bw.setCell (by simp; omega) _).setCell (by simp; omega) _).setCell (by simp; omega) _
          have VZ : Hid (w.heap.size + 1 + 1 < (((wr.setCell ⟨w.heap.size + 1 + 1, 0, none⟩ (.int .u8 8)).setCell ⟨w.heap.size + 1 + 1, 0, none⟩ (.int .u8 9)).setCell ⟨w.heap.size + 1 + 1, 1, none⟩ (str vn)).heap.size) := by show _ < _; simpa [World.setCell] using zs
          go_wp2_with (go_at_call 134; refine (CALL.out _ _ _ _ (SV.out _ (SB.out _ (HL.out.keep (keeps_of_below VB.out))))).mono ?_; rintro e w3 ⟨ga, gn, gc, ha, hn, hc, ra, rn, rc, rfl, hA, hS, hR, b3⟩; have HA := Lib.hid (And.intro hA (And.intro hS (And.intro hR b3))); have E0 := Lib.hid (kc b3 V0.out); have E2 := Lib.hid (kc b3 V2.out); clear hA hS hR b3 x0 x1 x2 x3 f0 f1 f2 f3 y0 y1 y2 y3 e0 e1 e2 e3; obtain ⟨x0, x1, x2, x3, f0, f1, f2, f3⟩ := row25' E2.out; obtain ⟨y0, y1, y2, y3, e0, e1, e2, e3⟩ := row25 E0.out; have z3 := (Array.getElem?_eq_some_iff.1 E2.out).1; obtain ⟨z4, z5, z6, z7, z8, z9, z10⟩ := rf_ne z3)
          obtain ⟨hA, hS, hR, b3⟩ := HA.out
          exact rf_one_fin V0.out VZ.out hA hS b3 vn (w3.setCell ⟨w.heap.size + 1 + 1, 3, none⟩ (.slice (some ⟨w3.heap.size + 1, 0, none⟩) 1 1)) (fun i hi => Below.heap_setCell _ _ _ _ hi) (by simp [World.setCell]) ((belowThen VB.out b3).setCell (by simp; omega) _) (SB.out.trans (SV.out.trans hR)) rfl rfl
      · obtain ⟨rfl, hf, l, rfl, hk⟩ := hk
        have tf : (x == [102, 111, 114]) = false := beq_no hf
        have SW : Hid (StrsAt wr ws (.slice a1 n1 c1)) := SB.out wr (HL.out.keep (keeps_of_below hs.out.bw))
        clear hf
        rcases hk with ⟨rfl, rfl, hno⟩ | ⟨ws1, rfl, hcall⟩
        · have V0 : Hid (((wr.setCell ⟨w.heap.size + 1 + 1, 0, none⟩ (.int .u8 1)).setCell ⟨w.heap.size + 1 + 1, 1, none⟩ (str x)).heap[w.heap.size]? = some (.cells #[.int .u8 0, str [], .slice none 0 0, .slice none 0 0] 25 (0, 0))) := (Below.heap_setCell _ _ _ _ (by simp; omega)).trans ((Below.heap_setCell _ _ _ _ (by simp; omega)).trans hs.out.r0)
          have VB : Hid (Below w.heap.size w ((wr.setCell ⟨w.heap.size + 1 + 1, 0, none⟩ (.int .u8 1)).setCell ⟨w.heap.size + 1 + 1, 1, none⟩ (str x))) := (hs.out.bw.setCell (by simp; omega) _).setCell (by simp; omega) _
          cases r with
          | nil =>
            have hn0 : n1 = 0 := SW.out.len.1
            subst hn0
            go_wp2_with fail
            exact rf_end (f := .mk 1 x [] []) V0.out VB.out (At.sl_nil (Nat.zero_le _)) (At.sl_nil (Nat.zero_le _)) SB.out rfl rfl
          | cons y ws2 =>
            obtain ⟨b1, o1, rfl, hn1, hcc, hcm, hcy⟩ := strs_cell (SB.out w HL.out)
            have cy0 : w.cell? ⟨b1, o1, none⟩ = some (str y) := hcy 0 y rfl
            have hlt1 := World.block_lt_of_cell? w ⟨b1, o1, none⟩ cy0
            have cy := keeps_of_below hs.out.bw _ _ cy0
            have hyb : ¬ b1 = w.heap.size + 1 + 1 := by simp at hlt1; omega
            clear cy0 hlt1
            have t1 : (y == [111, 102]) = false := beq_no (hno y ws2 rfl)
            have hn2 : 0 < n1 := by omega
            clear hcy hno hn1
            go_wp2_with fail
            exact rf_end (f := .mk 1 x [] []) V0.out VB.out (At.sl_nil (Nat.zero_le _)) (At.sl_nil (Nat.zero_le _)) SB.out rfl rfl
        · have CALL := Lib.hid hcall
          clear hcall
          obtain ⟨b1, o1, rfl, hn1, hcc, hcm, hcy⟩ := strs_cell (SB.out w HL.out)
          have cy0 : w.cell? ⟨b1, o1, none⟩ = some (str wOf) := hcy 0 wOf rfl
          have hlt1 := World.block_lt_of_cell? w ⟨b1, o1, none⟩ cy0
          have cy := keeps_of_below hs.out.bw _ _ cy0
          have hyb : ¬ b1 = w.heap.size + 1 + 1 := by simp at hlt1; omega
          unfold wOf at cy
          have hn2 : 0 < n1 := by omega
          clear cy0 hlt1 hcy hn1
          have V0 : Hid (((wr.setCell ⟨w.heap.size + 1 + 1, 0, none⟩ (.int .u8 1)).setCell ⟨w.heap.size + 1 + 1, 1, none⟩ (str x)).heap[w.heap.size]? = some (.cells #[.int .u8 0, str [], .slice none 0 0, .slice none 0 0] 25 (0, 0))) := (Below.heap_setCell _ _ _ _ (by simp; omega)).trans ((Below.heap_setCell _ _ _ _ (by simp; omega)).trans hs.out.r0)
          have V2 : Hid (((wr.setCell ⟨w.heap.size + 1 + 1, 0, none⟩ (.int .u8 1)).setCell ⟨w.heap.size + 1 + 1, 1, none⟩ (str x)).heap[w.heap.size + 1 + 1]? = some (.cells #[.int .u8 1, str x, .slice none 0 0, .slice none 0 0] 25 (0, 0))) := set_block (set_block hs.out.r2)
          have VB : Hid (Below w.heap.size w ((wr.setCell ⟨w.heap.size + 1 + 1, 0, none⟩ (.int .u8 1)).setCell ⟨w.heap.size + 1 + 1, 1, none⟩ (str x))) := (hs.out.bw.setCell (by simp; omega) _).setCell (by simp; omega) _
          have VZ : Hid (((wr.setCell ⟨w.heap.size + 1 + 1, 0, none⟩ (.int .u8 1)).setCell ⟨w.heap.size + 1 + 1, 1, none⟩ (str x)).heap.size = wr.heap.size) := by show _ = _; simp [World.setCell]
          go_wp2_with (go_at_call 217; refine (CALL.out _ _ _ _ (SB.out _ (HL.out.keep (keeps_of_below VB.out)))).mono ?_; rintro e w3 ⟨ga, gn, gc, ra, rn, rc, rfl, hA, hR, b3⟩; have HA := Lib.hid (And.intro hA (And.intro hR b3)); have E0 := Lib.hid (kc b3 V0.out); have E2 := Lib.hid (kc b3 V2.out); clear hA hR b3 x0 x1 x2 x3 f0 f1 f2 f3 y0 y1 y2 y3 e0 e1 e2 e3; obtain ⟨x0, x1, x2, x3, f0, f1, f2, f3⟩ := row25' E2.out; obtain ⟨y0, y1, y2, y3, e0, e1, e2, e3⟩ := row25 E0.out)
          obtain ⟨hA, hR, b3⟩ := HA.out
          have hz := b3.size
          rw [VZ.out] at hz
          refine rf_end (f := .mk 1 x l []) (W := w3.setCell ⟨w.heap.size + 1 + 1, 2, none⟩ (.slice ga gn gc)) ((Below.heap_setCell _ _ _ _ (by simp; omega)).trans E0.out) ((belowThen VB.out b3).setCell (by simp; omega) _) (hA.keep (hide_keeps2 fun i h1 h2 => ?_)) (At.sl_nil (Nat.zero_le _)) (SB.out.trans hR) rfl rfl
          simp only [lo, decide_eq_false_iff_not, Nat.not_lt, VZ.out] at h2 ⊢
          exact ⟨by omega, Below.heap_setCell _ _ _ _ (by simp; omega)⟩
end Go.Proofs.YtcandidgaegghaaGreatDoor
