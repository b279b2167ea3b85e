/- What an append does to the list of formulas that lyceumlaw30.Built puts: plain steps on memory. Conditions: none but those of each statement. -/
import Derived.Test.YtppfalbnhnpbnaaGreatDoorTerm30Z
import Derived.Deep.QuietTactic
import Derived.BigQuiet
import Derived.Maps.AppendAt
import Derived.Test.YtppfalbnhnpbnaaGreatDoorRows
import Derived.Lib.LaidU8
import Derived.ShapedOpen
import Derived.WalkKit
import Derived.ProofKit
import Derived.OpenShut
import Derived.Deep.DeepHandedRow
import Derived.Carry
import Derived.Shelf.Vars
import Derived.Lib.SplitLaws
set_option linter.unusedSimpArgs false
set_option linter.unusedVariables false
namespace Go.Proofs.YtppfalbnhnpbnaaGreatDoor
open Go Go.RowKit Ly
set_option maxRecDepth 10000
set_option maxHeartbeats 2000000
def BtsAt (w : World) (l : Bs) (u : Value) : Prop := At w (.sl 1 l.length (l.map fun c => .val (.int .u8 c.toNat))) u
theorem BtsAt.keep {w w' : World} {l : Bs} {u : Value} (h : BtsAt w l u) (k : Keeps w w') : BtsAt w' l u := At.keep k _ _ h
theorem BtsAt.len {w : World} {l : Bs} {a : Option Addr} {n c : Nat} (h : BtsAt w l (.slice a n c)) : n = l.length ∧ n ≤ c ∧ c ≤ maxLen := by
  obtain ⟨a', cap, e, h1, h2, _⟩ := h
  simp only [Value.slice.injEq] at e
  obtain ⟨_, rfl, rfl⟩ := e
  exact ⟨rfl, h1, h2⟩
theorem BtsAt.get {w : World} {l : Bs} {a : Option Addr} {n c : Nat} (h : BtsAt w l (.slice a n c)) (hn : l ≠ []) :
    ∃ b off, a = some ⟨b, off, none⟩ ∧ ∀ (i : Nat) (x : UInt8), l[i]? = some x → w.cell? ⟨b, off + i, none⟩ = some (.int .u8 x.toNat) := by
  obtain ⟨a', cap, e, _, _, _, h5⟩ := h.sl_inv
  simp only [Value.slice.injEq] at e
  obtain ⟨rfl, rfl, rfl⟩ := e
  rcases h5 with h5 | ⟨b, off, rfl, h5⟩
  · exact absurd (List.eq_nil_of_length_eq_zero h5) hn
  · refine ⟨b, off, rfl, fun i x hx => ?_⟩
    obtain ⟨u, k, p⟩ := h5 i (.val (.int .u8 x.toNat)) (by rw [List.getElem?_map, hx]; rfl)
    have p' : u = _ := p
    subst p'; exact k
theorem info25 : (Tryz.prog.info? 40).map (fun i => (i.zero, i.size, i.bytes)) = some (some (.agg #[.int .u8 0, .string ⟨#[]⟩, .slice none 0 0, .slice none 0 0]), 4, 72) := by kernel_rfl
def lo1 (w : World) : Nat → Bool := fun k => decide (k < w.heap.size + 1)
def bAt (l : Bs) (k : Nat) : List Fm := (l.take k).foldl (fun s c => bStep s c.toNat) []
theorem bAt_succ (l : Bs) (k : Nat) {c : UInt8} (h : l[k]? = some c) : bAt l (k + 1) = bStep (bAt l k) c.toNat := by
  unfold bAt
  have e : l.take (k + 1) = l.take k ++ [c] := by
    rw [List.take_add_one, h]; rfl
  rw [e, List.foldl_append]; rfl
structure BRel (w : World) (l : Bs) (k : Nat) (v : Value) (wr : World) : Prop where
  own : OwnDs (lo1 w) (w.heap.size + 1) wr 40 4 (bAt l k).length (fmsDs (bAt l k)) v
  bw : Below w.heap.size w wr
  res : wr.heap[w.heap.size]? = some (.cells #[.int .u8 0, str [], .slice none 0 0, .slice none 0 0] 40 (0, 0))
theorem OwnDs.form {p : Nat → Bool} {base : Nat} {w : World} {e : TypeId} {size n : Nat} {ds : List D} {v : Value} (h : OwnDs p base w e size n ds v) : ∃ a c, v = .slice a n c ∧ c ≤ maxLen := by
  obtain ⟨xs, ho, _⟩ := h
  rcases ho.2 with ⟨rfl, rfl⟩ | ⟨g, cap, cur, rfl, hb, hg, h1, h2, h3, h4⟩
  · exact ⟨none, 0, rfl, Nat.zero_le _⟩
  · exact ⟨_, _, rfl, h2⟩
theorem bAt_len (l : Bs) (k : Nat) : (bAt l k).length ≤ k := by
  have h := bFold_inv (l.take k)
  have h1 := h.1
  have : (l.take k).length ≤ k := by simp; omega
  exact Nat.le_trans h1 this
theorem BRel.drewN {w : World} {l : Bs} {k : Nat} {v : Value} {wr : World} (h : BRel w l k v wr) (m : Nat) : BRel w l k v (wr.drewN m) :=
  ⟨h.own.moved (fun k hk => by simp [lo1]; omega) (fun k _ _ => rfl), ⟨h.bw.os, h.bw.tape, h.bw.output, h.bw.size, h.bw.block⟩, h.res⟩
theorem fmsDs_append (a b : List Fm) : fmsDs (a ++ b) = fmsDs a ++ fmsDs b := by
  induction a with
  | nil => rfl
  | cons t a ih => simp [fmsDs, ih]
theorem fmsDs_take (a : List Fm) : ∀ j, fmsDs (a.take j) = (fmsDs a).take (j * 4) := by
  induction a with
  | nil => intro j; simp [fmsDs]
  | cons t a ih =>
    intro j
    cases j with
    | zero => simp [fmsDs]
    | succ j =>
      simp only [List.take_succ_cons, fmsDs, ih]
      rw [List.take_append, Fm.ds_length, Nat.succ_mul, List.take_of_length_le (l := t.ds) (by rw [Fm.ds_length]; omega), show j * 4 + 4 - 4 = j * 4 by omega]
theorem CellsAt.take {W : World} {ds : List D} {xs : List Value} (h : CellsAt W ds xs) (m : Nat) : CellsAt W (ds.take m) (xs.take m) := by
  refine ⟨by simp [h.1], fun j d hd => ?_⟩
  rw [List.getElem?_take] at hd ⊢
  split at hd
  · rename_i hlt; rw [if_pos hlt]; exact h.2 j d hd
  · cases hd
theorem own_lt {p : Nat → Bool} {base : Nat} {w : World} {e : TypeId} {size n : Nat} {ds : List D} {v : Value} (h : OwnDs p base w e size n ds v) : ∀ g, v.ownBlock = some g → base ≤ g ∧ g < w.heap.size := by
  obtain ⟨xs, ho, _⟩ := h
  exact ho.lt
theorem fresh_keeps {w wx w1 : World} {v : Value} {o : Obj} (hw : w.heap.size + 1 ≤ wx.heap.size) (hv : ∀ g, v.ownBlock = some g → g < wx.heap.size) : Keeps (hide (lo wx) w1) (hide (fun k => lo1 w k || decide (v.ownBlock = some k)) (w1.alloc o)) := hide_keeps2 fun k h1 h2 => by
  simp only [lo, lo1, decide_eq_false_iff_not, Nat.not_lt, Bool.or_eq_false_iff] at h2 ⊢
  exact ⟨⟨by omega, fun e => by have := hv k e; omega⟩, heap_alloc_old _ _ h1⟩
theorem put_after {w wx w1 : World} {l : Bs} {k xx : Nat} {x : UInt8} {v : Value} {fm : Fm} {a b : Option Addr} {n c m d : Nat} (H : BRel w l k v wx) (hx : l[k]? = some x ∧ x.toNat = xx) (b1 : Below wx.heap.size wx w1) (hst : bStep (bAt l k) xx = bAt l k ++ [fm])
    (ht : TmsAt (hide (lo wx) w1) fm.args (.slice a n c)) (hs : FmsAt (hide (lo wx) w1) fm.sub (.slice b m d)) :
    ∃ xs, (w1.alloc (.cells #[.int .u8 fm.op, str fm.name, .slice a n c, .slice b m d] 40)).ownsRow (w.heap.size + 1) 40 4 v (bAt l k).length xs ∧
      ∀ v' w5, w5.ownsRow (w.heap.size + 1) 40 4 v' ((bAt l k).length + 1) (xs ++ [.int .u8 fm.op, str fm.name, .slice a n c, .slice b m d]) → (w1.alloc (.cells #[.int .u8 fm.op, str fm.name, .slice a n c, .slice b m d] 40)).grownBy w5 v.ownBlock →
        (v'.ownBlock = v.ownBlock ∨ v'.ownBlock = some (w1.alloc (.cells #[.int .u8 fm.op, str fm.name, .slice a n c, .slice b m d] 40)).heap.size) → BRel w l (k + 1) v' w5 := by
  have zw : w.heap.size + 1 ≤ wx.heap.size := (Array.getElem?_eq_some_iff.1 H.res).1
  have hv := own_lt H.own
  have B1 : Below wx.heap.size wx (w1.alloc (.cells #[.int .u8 fm.op, str fm.name, .slice a n c, .slice b m d] 40)) := belowThen b1 ((Below.refl _ _).alloc (Nat.le_refl _) _)
  have O1 := H.own.moved (w' := w1.alloc (.cells #[.int .u8 fm.op, str fm.name, .slice a n c, .slice b m d] 40)) (fun k hk => by simp [lo1]; omega) (fun k h1 _ => B1.block k h1)
  obtain ⟨xs, ho, hc⟩ := O1
  refine ⟨xs, ho, fun v' w5 h5 hg hat => ?_⟩
  have K := fresh_keeps (w := w) (w1 := w1) (v := v) (o := .cells #[.int .u8 fm.op, str fm.name, .slice a n c, .slice b m d] 40) zw (fun g hg => (hv g hg).2)
  have he : CellsAt (hide (fun k => lo1 w k || decide (v.ownBlock = some k)) (w1.alloc (.cells #[.int .u8 fm.op, str fm.name, .slice a n c, .slice b m d] 40))) fm.ds [.int .u8 fm.op, str fm.name, .slice a n c, .slice b m d] := fm_cells (ht.keep K) (hs.keep K)
  have hb := bAt_succ l k hx.1
  rw [hx.2, hst] at hb
  have gb : ∀ j, j < w.heap.size + 1 → w5.heap[j]? = wx.heap[j]? := fun j hj => by
    rw [hg.block j (by have := B1.size; omega) (fun e => by have := (hv j e.symm).1; omega)]
    exact B1.block j (by omega)
  refine ⟨?_, ⟨?_, ?_, ?_, ?_, fun j hj => ?_⟩, ?_⟩
  · rw [hb, List.length_append, List.length_singleton, fmsDs_append, show fmsDs [fm] = fm.ds by simp [fmsDs]]
    exact OwnDs.appended hc he h5 hg hat
  · exact hg.os.trans (B1.os.trans H.bw.os)
  · exact hg.tape.trans (B1.tape.trans H.bw.tape)
  · exact hg.output.trans (B1.output.trans H.bw.output)
  · exact Nat.le_trans H.bw.size (Nat.le_trans B1.size hg.size)
  · rw [gb j (by omega)]; exact H.bw.block j hj
  · rw [gb _ (by omega)]; exact H.res
theorem cut_after {w wx w1 : World} {l : Bs} {k xx j N sc : Nat} {x : UInt8} {sa : Option Addr} {fm : Fm} {a b : Option Addr} {n c m d : Nat} (H : BRel w l k (.slice sa N sc) wx) (hx : l[k]? = some x ∧ x.toNat = xx) (b1 : Below wx.heap.size wx w1) (hj : j ≤ (bAt l k).length) (hst : bStep (bAt l k) xx = (bAt l k).take j ++ [fm])
    (ht : TmsAt (hide (fun k => lo1 w k || decide ((Value.slice sa N sc).ownBlock = some k)) w1) fm.args (.slice a n c)) (hs : FmsAt (hide (fun k => lo1 w k || decide ((Value.slice sa N sc).ownBlock = some k)) w1) fm.sub (.slice b m d)) :
    ∃ olds, olds.length = j * 4 ∧ (∀ p, sa = some p → ∀ i u, olds[i]? = some u → (w1.alloc (.cells #[.int .u8 fm.op, str fm.name, .slice a n c, .slice b m d] 40)).cell? (p.add i) = some u) ∧
      ∀ v' w5, w5.ownsRow (w1.alloc (.cells #[.int .u8 fm.op, str fm.name, .slice a n c, .slice b m d] 40)).heap.size 40 4 v' (j + 1) (olds ++ [.int .u8 fm.op, str fm.name, .slice a n c, .slice b m d]) → (w1.alloc (.cells #[.int .u8 fm.op, str fm.name, .slice a n c, .slice b m d] 40)).grownBy w5 none → BRel w l (k + 1) v' w5 := by
  have zw : w.heap.size + 1 ≤ wx.heap.size := (Array.getElem?_eq_some_iff.1 H.res).1
  have hv := own_lt H.own
  have B1 : Below wx.heap.size wx (w1.alloc (.cells #[.int .u8 fm.op, str fm.name, .slice a n c, .slice b m d] 40)) := belowThen b1 ((Below.refl _ _).alloc (Nat.le_refl _) _)
  have O1 := H.own.moved (w' := w1.alloc (.cells #[.int .u8 fm.op, str fm.name, .slice a n c, .slice b m d] 40)) (fun k hk => by simp [lo1]; omega) (fun k h1 _ => B1.block k h1)
  obtain ⟨xs, ho, hc⟩ := O1
  have hxl : xs.length = (bAt l k).length * 4 := ho.1
  have hb := bAt_succ l k hx.1
  rw [hx.2, hst] at hb
  refine ⟨xs.take (j * 4), by rw [List.length_take, hxl]; omega, ?_, fun v' w5 h5 hg => ?_⟩
  · rintro p rfl i u hu
    rcases ho.2 with ⟨e, _⟩ | ⟨g, cap, cur, e, _, hg, _⟩
    · cases e
    · cases e
      refine ho.cells (g := g) rfl i u ?_
      rw [List.getElem?_take] at hu
      split at hu
      · exact hu
      · cases hu
  have gb : ∀ i, i < (w1.alloc (.cells #[.int .u8 fm.op, str fm.name, .slice a n c, .slice b m d] 40)).heap.size → w5.heap[i]? = (w1.alloc (.cells #[.int .u8 fm.op, str fm.name, .slice a n c, .slice b m d] 40)).heap[i]? := fun i hi => hg.block i hi (by simp)
  have B5 : Below wx.heap.size wx w5 := belowThen B1 ⟨hg.os, hg.tape, hg.output, hg.size, fun i hi => gb i hi⟩
  have K1 : Keeps (hide (fun k => lo1 w k || decide ((Value.slice sa N sc).ownBlock = some k)) w1) (hide (fun k => lo1 w k || decide ((Value.slice sa N sc).ownBlock = some k)) (w1.alloc (.cells #[.int .u8 fm.op, str fm.name, .slice a n c, .slice b m d] 40))) := hide_keeps2 fun k h1 h2 => ⟨h2, heap_alloc_old _ _ h1⟩
  have he := fm_cells (ht.keep K1) (hs.keep K1)
  have hsz := B1.size
  have K2 : Keeps (hide (fun k => lo1 w k || decide ((Value.slice sa N sc).ownBlock = some k)) (w1.alloc (.cells #[.int .u8 fm.op, str fm.name, .slice a n c, .slice b m d] 40))) (hide (fun k => lo1 w k || decide (v'.ownBlock = some k)) w5) := hide_keeps2 fun i h1 h2 => by
    simp only [Bool.or_eq_false_iff, decide_eq_false_iff_not] at h2 ⊢
    exact ⟨⟨h2.1, fun e => by have := (h5.lt i e).1; omega⟩, gb i h1⟩
  refine ⟨?_, belowThen H.bw B5, (B5.block _ (by omega)).trans H.res⟩
  have hl : ((bAt l k).take j ++ [fm]).length = j + 1 := by simp; omega
  rw [hb, hl, fmsDs_append, show fmsDs [fm] = fm.ds by simp [fmsDs], fmsDs_take]
  refine ⟨_, ⟨h5.1, ?_⟩, ((hc.take (j * 4)).append he).keep K2⟩
  rcases h5.2 with h | ⟨g, cap, cur, e1, e2, e3⟩
  · exact .inl h
  · exact .inr ⟨g, cap, cur, e1, by omega, e3⟩
theorem BRel.same {w : World} {l : Bs} {k xx : Nat} {x : UInt8} {v : Value} {wr : World} (h : BRel w l k v wr) (hx : l[k]? = some x ∧ x.toNat = xx) (hst : bStep (bAt l k) xx = bAt l k) : BRel w l (k + 1) v wr := by
  have hb := bAt_succ l k hx.1
  rw [hx.2, hst] at hb
  exact ⟨by rw [hb]; exact h.own, h.bw, h.res⟩
structure Elem (w wx : World) (sa : Option Addr) (N sc g i : Nat) (f : Fm) (a : Option Addr) (n c : Nat) (b : Option Addr) (m d : Nat) : Prop where
  c0 : wx.cell? ⟨g, i * 4, none⟩ = some (.int .u8 f.op)
  c1 : wx.cell? ⟨g, i * 4 + 1, none⟩ = some (str f.name)
  c2 : wx.cell? ⟨g, i * 4 + 2, none⟩ = some (.slice a n c)
  c3 : wx.cell? ⟨g, i * 4 + 3, none⟩ = some (.slice b m d)
  ht : TmsAt (hide (fun k => lo1 w k || decide ((Value.slice sa N sc).ownBlock = some k)) wx) f.args (.slice a n c)
  hs : FmsAt (hide (fun k => lo1 w k || decide ((Value.slice sa N sc).ownBlock = some k)) wx) f.sub (.slice b m d)
theorem own_head {w wx : World} {l : Bs} {k N sc : Nat} {sa : Option Addr} (H : BRel w l k (.slice sa N sc) wx) (hN : 0 < (bAt l k).length) : ∃ g, sa = some ⟨g, 0, none⟩ ∧ g < wx.heap.size ∧ N ≤ sc := by
  obtain ⟨xs, ho, hc⟩ := H.own
  rcases ho.2 with ⟨e, h0⟩ | ⟨g, cap, cur, e, hb, hg, h1, h2, h3, h4⟩
  · omega
  · cases e
    exact ⟨g, rfl, (Array.getElem?_eq_some_iff.1 hg).1, h1⟩
theorem own_elem {w wx : World} {l : Bs} {k N sc g : Nat} (H : BRel w l k (.slice (some ⟨g, 0, none⟩) N sc) wx) {i : Nat} (hi : i < (bAt l k).length) :
    ∃ a n c b m d, Elem w wx (some ⟨g, 0, none⟩) N sc g i ((bAt l k).getD i fls) a n c b m d := by
  obtain ⟨xs, ho, hc⟩ := H.own
  have hx := fun j u h => ho.cells (g := g) rfl j u h
  have hf : (bAt l k)[i]? = some ((bAt l k).getD i fls) := by rw [List.getD_eq_getElem?_getD, List.getElem?_eq_getElem hi]; rfl
  generalize (bAt l k).getD i fls = f at hf ⊢
  obtain ⟨op, nm, ta, sub⟩ := f
  have cell : ∀ j d, (fmsDs (bAt l k))[i * 4 + j]? = some d → ∃ u, wx.cell? ⟨g, i * 4 + j, none⟩ = some u ∧ At (hide (fun k => lo1 w k || decide ((Value.slice (some ⟨g, 0, none⟩) N sc).ownBlock = some k)) wx) d u := by
    intro j d hd
    obtain ⟨u, h1, h2⟩ := hc.2 _ d hd
    have := hx _ u h1
    rw [show ((⟨g, 0, none⟩ : Addr).add (i * 4 + j)) = ⟨g, i * 4 + j, none⟩ by simp [Addr.add]; omega] at this
    exact ⟨u, this, h2⟩
  obtain ⟨u0, k0, p0⟩ := cell 0 (.val (.int .u8 op)) (fmsDs_get _ i _ hf 0 (by omega))
  obtain ⟨u1, k1, p1⟩ := cell 1 (.val (str nm)) (fmsDs_get _ i _ hf 1 (by omega))
  obtain ⟨u2, k2, p2⟩ := cell 2 (.sl 3 ta.length (tmsDs ta)) (fmsDs_get _ i _ hf 2 (by omega))
  obtain ⟨u3, k3, p3⟩ := cell 3 (.sl 4 sub.length (fmsDs sub)) (fmsDs_get _ i _ hf 3 (by omega))
  obtain ⟨xa, xn, xc, rfl⟩ := TmsAt.slice (l := ta) p2
  obtain ⟨y, m, d, rfl⟩ := FmsAt.slice (l := sub) p3
  have e0 : u0 = _ := p0
  have e1 : u1 = _ := p1
  subst e0 e1
  exact ⟨xa, xn, xc, y, m, d, k0, k1, k2, k3, p2, p3⟩
theorem elem_hid {w wx w1 : World} {g M sc i : Nat} {F : Fm} {ea eb : Option Addr} {en ec em ed : Nat} (BX : Below wx.heap.size wx w1) (EL : Elem w wx (some ⟨g, 0, none⟩) M sc g i F ea en ec eb em ed) :
    TmsAt (hide (fun k => lo1 w k || decide ((Value.slice (some ⟨g, 0, none⟩) M sc).ownBlock = some k)) w1) F.args (.slice ea en ec) ∧ FmsAt (hide (fun k => lo1 w k || decide ((Value.slice (some ⟨g, 0, none⟩) M sc).ownBlock = some k)) w1) F.sub (.slice eb em ed) :=
  have K : Keeps (hide (fun k => lo1 w k || decide ((Value.slice (some ⟨g, 0, none⟩) M sc).ownBlock = some k)) wx) (hide (fun k => lo1 w k || decide ((Value.slice (some ⟨g, 0, none⟩) M sc).ownBlock = some k)) w1) := hide_keeps2 fun k h1 h2 => ⟨h2, BX.block k h1⟩
  ⟨EL.ht.keep K, EL.hs.keep K⟩
theorem cut_un {w wx w1 : World} {l : Bs} {k xx M sc g h : Nat} {x : UInt8} {F : Fm} {ea eb : Option Addr} {en ec em ed : Nat} {op : Int} {nm : Bs} (H : BRel w l k (.slice (some ⟨g, 0, none⟩) (M + 1) sc) wx) (hx : l[k]? = some x ∧ x.toNat = xx) (hN : (bAt l k).length = M + 1) (BX : Below wx.heap.size wx w1)
    (EL : Elem w wx (some ⟨g, 0, none⟩) (M + 1) sc g M F ea en ec eb em ed) (hh : w1.heap[h]? = some (.cells #[.int .u8 F.op, str F.name, .slice ea en ec, .slice eb em ed] 40 (0, 0))) (hl : wx.heap.size ≤ h) (hst : bStep (bAt l k) xx = (bAt l k).take M ++ [.mk op nm [] [F]]) :
    ∃ olds, olds.length = M * 4 ∧ (∀ p, some (⟨g, 0, none⟩ : Addr) = some p → ∀ i u, olds[i]? = some u → (w1.alloc (.cells #[.int .u8 op, str nm, .slice none 0 0, .slice (some ⟨h, 0, none⟩) 1 1] 40)).cell? (p.add i) = some u) ∧
      ∀ v' w5, w5.ownsRow (w1.alloc (.cells #[.int .u8 op, str nm, .slice none 0 0, .slice (some ⟨h, 0, none⟩) 1 1] 40)).heap.size 40 4 v' (M + 1) (olds ++ [.int .u8 op, str nm, .slice none 0 0, .slice (some ⟨h, 0, none⟩) 1 1]) → (w1.alloc (.cells #[.int .u8 op, str nm, .slice none 0 0, .slice (some ⟨h, 0, none⟩) 1 1] 40)).grownBy w5 none → BRel w l (k + 1) v' w5 := by
  have hv := own_lt H.own g rfl
  have e := elem_hid BX EL
  refine cut_after (fm := .mk op nm [] [F]) H hx BX (by omega) hst (At.sl_nil (Nat.zero_le _)) ?_
  refine fms_of1 (f := F) ?_ e.1 e.2
  rw [hide_get _ _ _ (by simp [lo1, Value.ownBlock]; omega)]
  exact hh
theorem cut_bin {w wx w1 : World} {l : Bs} {k xx M sc g h : Nat} {x : UInt8} {F G : Fm} {ea eb fa fb : Option Addr} {en ec em ed fn fc fm fd : Nat} {op : Int} (H : BRel w l k (.slice (some ⟨g, 0, none⟩) (M + 2) sc) wx) (hx : l[k]? = some x ∧ x.toNat = xx) (hN : (bAt l k).length = M + 2) (BX : Below wx.heap.size wx w1)
    (EL : Elem w wx (some ⟨g, 0, none⟩) (M + 2) sc g M F ea en ec eb em ed) (EL2 : Elem w wx (some ⟨g, 0, none⟩) (M + 2) sc g (M + 1) G fa fn fc fb fm fd)
    (hh : w1.heap[h]? = some (.cells #[.int .u8 F.op, str F.name, .slice ea en ec, .slice eb em ed, .int .u8 G.op, str G.name, .slice fa fn fc, .slice fb fm fd] 40 (0, 0))) (hl : wx.heap.size ≤ h) (hst : bStep (bAt l k) xx = (bAt l k).take M ++ [.mk op [] [] [F, G]]) :
    ∃ olds, olds.length = M * 4 ∧ (∀ p, some (⟨g, 0, none⟩ : Addr) = some p → ∀ i u, olds[i]? = some u → (w1.alloc (.cells #[.int .u8 op, str [], .slice none 0 0, .slice (some ⟨h, 0, none⟩) 2 2] 40)).cell? (p.add i) = some u) ∧
      ∀ v' w5, w5.ownsRow (w1.alloc (.cells #[.int .u8 op, str [], .slice none 0 0, .slice (some ⟨h, 0, none⟩) 2 2] 40)).heap.size 40 4 v' (M + 1) (olds ++ [.int .u8 op, str [], .slice none 0 0, .slice (some ⟨h, 0, none⟩) 2 2]) → (w1.alloc (.cells #[.int .u8 op, str [], .slice none 0 0, .slice (some ⟨h, 0, none⟩) 2 2] 40)).grownBy w5 none → BRel w l (k + 1) v' w5 := by
  have hv := own_lt H.own g rfl
  have e := elem_hid BX EL
  have e' := elem_hid BX EL2
  refine cut_after (fm := .mk op [] [] [F, G]) H hx BX (by omega) hst (At.sl_nil (Nat.zero_le _)) ?_
  refine fms_of2 (f := F) (f' := G) ?_ e.1 e.2 e'.1 e'.2
  rw [hide_get _ _ _ (by simp [lo1, Value.ownBlock]; omega)]
  exact hh
end Go.Proofs.YtppfalbnhnpbnaaGreatDoor
namespace Go.Proofs.YtppfalbnhnpbnaaGreatDoor
open Go Go.RowKit Ly
set_option maxRecDepth 10000
theorem cells264 : Tryz.prog.cellsOf 125 = 5 := by kernel_rfl
theorem cellsR4 : Tryz.prog.cellsOf 4 = 1 := by kernel_rfl
theorem cellsR5 : Tryz.prog.cellsOf 5 = 1 := by kernel_rfl
theorem cellsR3 : Tryz.prog.cellsOf 3 = 1 := by kernel_rfl
theorem gRows : Tryz.prog.globalNamed "lyceum/syntax.rows" = some 0 := by kernel_rfl
theorem gRowsT : (Tryz.prog.globals[0]?).map (·.type) = some 126 := by kernel_rfl
section
variable {H : Type} {enc : TypeId × Value → H} {w : World} {base : Nat} {sp : Nat → Bool} {held : Bool}
theorem row_cells {fuel : Nat} {cs : List Value} {a b : Bool} {x y z : Int} {p : List MemPlace} (h : DataW.trod enc Tryz.prog w base sp held fuel 125 cs = some (.agg [.lit (.bool a), .lit (.bool b), .lit (.int .u8 x), .lit (.int .i64 y), .lit (.int .i64 z)], p)) :
    cs[0]? = some (.bool a) ∧ cs[1]? = some (.bool b) ∧ cs[2]? = some (.int .u8 x) ∧ cs[3]? = some (.int .i64 y) ∧ cs[4]? = some (.int .i64 z) := by
  obtain ⟨xs, n, rfl, hx, hl, hxl, hall⟩ := DataW.trod_struct Tryz.underlying125 h
  have hxs : xs.map (·.1) = [.lit (.bool a), .lit (.bool b), .lit (.int .u8 x), .lit (.int .i64 y), .lit (.int .i64 z)] := by
    have := congrArg Prod.fst hx
    simpa using this.symm
  have get : ∀ (i : Nat) (d : DataW H), ([.lit (.bool a), .lit (.bool b), .lit (.int .u8 x), .lit (.int .i64 y), .lit (.int .i64 z)] : List (DataW H))[i]? = some d → ∃ q, xs[i]? = some (d, q) := by
    intro i d hd
    rw [← hxs, List.getElem?_map] at hd
    obtain ⟨⟨d', q⟩, e, rfl⟩ := Option.map_eq_some_iff.1 hd
    exact ⟨q, e⟩
  have at_ : ∀ (i : Nat) (v : Value), (cs.drop i).take 1 = [v] → cs[i]? = some v := by
    intro i v e
    have := congrArg (·[0]?) e
    simpa [List.getElem?_take, List.getElem?_drop] using this
  obtain ⟨q0, g0⟩ := get 0 _ rfl
  obtain ⟨q1, g1⟩ := get 1 _ rfl
  obtain ⟨q2, g2⟩ := get 2 _ rfl
  obtain ⟨q3, g3⟩ := get 3 _ rfl
  obtain ⟨q4, g4⟩ := get 4 _ rfl
  have h0 : DataW.trod enc Tryz.prog w base sp held n 4 ((cs.drop 0).take (Tryz.prog.cellsOf 4)) = _ := (hall 0 _ rfl).trans g0
  rw [cellsR4] at h0
  have h1 : DataW.trod enc Tryz.prog w base sp held n 4 ((cs.drop 1).take (Tryz.prog.cellsOf 4)) = _ := (hall 1 _ rfl).trans g1
  rw [cellsR4] at h1
  have h2 : DataW.trod enc Tryz.prog w base sp held n 5 ((cs.drop 2).take (Tryz.prog.cellsOf 5)) = _ := (hall 2 _ rfl).trans g2
  rw [cellsR5] at h2
  have h3 : DataW.trod enc Tryz.prog w base sp held n 3 ((cs.drop 3).take (Tryz.prog.cellsOf 3)) = _ := (hall 3 _ rfl).trans g3
  rw [cellsR3] at h3
  have h4 : DataW.trod enc Tryz.prog w base sp held n 3 ((cs.drop 4).take (Tryz.prog.cellsOf 3)) = _ := (hall 4 _ rfl).trans g4
  rw [cellsR3] at h4
  obtain ⟨v0, e0, k0⟩ := DataW.trod_bool Tryz.underlying4 h0
  obtain ⟨v1, e1, k1⟩ := DataW.trod_bool Tryz.underlying4 h1
  obtain ⟨v2, e2, k2, _⟩ := DataW.trod_int Tryz.underlying5 h2
  obtain ⟨v3, e3, k3, _⟩ := DataW.trod_int Tryz.underlying3 h3
  obtain ⟨v4, e4, k4, _⟩ := DataW.trod_int Tryz.underlying3 h4
  cases k0; cases k1; cases k2; cases k3; cases k4
  exact ⟨at_ 0 _ e0, at_ 1 _ e1, at_ 2 _ e2, at_ 3 _ e3, at_ 4 _ e4⟩
end
theorem rows_at {W : World} {L : List (String × DataW Unit)} (h : laidMet Tryz.prog L W) (hm : ("lyceum/syntax.rows", Rows.laid_lyceum_syntax_rows) ∈ L) : RowsAt W := by
  obtain ⟨g, t, cs, fuel, p, hg, ht, hv, hd⟩ := Lib.laidMet.reads h hm
  obtain rfl := Option.some.inj (gRows.symm.trans hg)
  obtain rfl := Option.some.inj (gRowsT.symm.trans ht)
  have one : ∀ (i : Nat) (a b : Bool) (x y z : Int), i < 17 → (match (Rows.laid_lyceum_syntax_rows : DataW Unit) with | .agg ds => ds[i]? | _ => none) = some (.agg [.lit (.bool a), .lit (.bool b), .lit (.int .u8 x), .lit (.int .i64 y), .lit (.int .i64 z)]) →
      W.cell? ⟨0, i * 5, none⟩ = some (.bool a) ∧ W.cell? ⟨0, i * 5 + 1, none⟩ = some (.bool b) ∧ W.cell? ⟨0, i * 5 + 2, none⟩ = some (.int .u8 x) ∧ W.cell? ⟨0, i * 5 + 3, none⟩ = some (.int .i64 y) ∧ W.cell? ⟨0, i * 5 + 4, none⟩ = some (.int .i64 z) := by
    intro i a b x y z hi e
    obtain ⟨f', d, q, e2, hd'⟩ := Lib.array_elem Tryz.underlying126 hd i hi
    have : d = .agg [.lit (.bool a), .lit (.bool b), .lit (.int .u8 x), .lit (.int .i64 y), .lit (.int .i64 z)] := Option.some.inj (e2.symm.trans e)
    subst this
    rw [cells264] at hd'
    obtain ⟨k0, k1, k2, k3, k4⟩ := row_cells hd'
    have cell : ∀ (j : Nat) (v : Value), j < 5 → ((cs.toList.drop (i * 5)).take 5)[j]? = some v → W.cell? ⟨0, i * 5 + j, none⟩ = some v := by
      intro j v hj e
      rw [List.getElem?_take, if_pos hj, List.getElem?_drop] at e
      have := World.var?_cell hg hv (i * 5 + j)
      rw [this]
      simpa using e
    exact ⟨cell 0 _ (by omega) k0, cell 1 _ (by omega) k1, cell 2 _ (by omega) k2, cell 3 _ (by omega) k3, cell 4 _ (by omega) k4⟩
  intro op h1 h2
  rcases (show op = 1 ∨ op = 2 ∨ op = 3 ∨ op = 4 ∨ op = 5 ∨ op = 6 ∨ op = 7 ∨ op = 8 ∨ op = 9 ∨ op = 10 ∨ op = 11 ∨ op = 12 ∨ op = 13 ∨ op = 14 by omega) with rfl | rfl | rfl | rfl | rfl | rfl | rfl | rfl | rfl | rfl | rfl | rfl | rfl | rfl
  all_goals exact one _ _ _ _ _ _ (by decide) rfl
theorem gPow : Tryz.prog.globalNamed "internal/strconv.uint64pow10" = some 3 := by kernel_rfl
theorem pow_at {W : World} {L : List (String × DataW Unit)} (h : laidMet Tryz.prog L W) (hm : ("internal/strconv.uint64pow10", Rows.laid_internal_strconv_uint64pow10) ∈ L) {t : TypeId} (hty : (Tryz.prog.globals[3]?).map (·.type) = some t) (hu : Tryz.prog.underlying t = some (.array 20 239)) (hct : Tryz.prog.cellsOf t = 20) : PowAt W := by
  obtain ⟨g, t', cs, fuel, p, hg, ht, hv, hd⟩ := Lib.laidMet.reads h hm
  obtain rfl := Option.some.inj (gPow.symm.trans hg)
  obtain rfl := Option.some.inj (hty.symm.trans ht)
  have e : (Rows.laid_internal_strconv_uint64pow10 : DataW Unit) = Lib.tabData .u64 Lib.pow10Tab := rfl
  rw [e] at hd
  unfold PowAt Lib.TabIs
  rw [hv, ← Lib.cells_of_tab hu Tryz.underlying239 (by kernel_rfl) hct hd]
end Go.Proofs.YtppfalbnhnpbnaaGreatDoor
namespace Go.Proofs.YtppfalbnhnpbnaaGreatDoor
open Go Go.ChangeShapes Go.WideShapes Go.ChangeAt Go.RowKit Ly
set_option maxRecDepth 10000
section
variable {H : Type} {enc : TypeId × Value → H}
theorem bts_of {W : World} {base : Nat} {v : Value} {d : DataW H} {p : List MemPlace} (hval : Value.okWide Tryz.prog W .any base 43 v) (h : DataW.Trod enc Tryz.prog W 0 (fun _ => true) true 43 v d p) : ∃ (l : Bs) (a : Option Addr) (n c : Nat), v = .slice a n c ∧ BtsAt W l (.slice a n c) := by
  obtain ⟨a, len, cap, rfl⟩ := okWide_slice Tryz.underlying43 hval
  obtain ⟨fuel, hf⟩ := h
  rcases open_ints Tryz.underlying43 Tryz.underlying5 cellsR5 hf with ⟨hcs, hx⟩ | ⟨ad, len', cap', zs, hcs, _, hl, hm, hz, hx, hcell, hwz⟩
  · simp [Value.cells] at hcs
    obtain ⟨rfl, rfl, rfl⟩ := hcs
    exact ⟨[], _, _, _, rfl, At.sl_nil (Nat.zero_le _)⟩
  · simp [Value.cells] at hcs
    obtain ⟨rfl, rfl, rfl⟩ := hcs
    simp only [if_true] at hz
    have hlen : ((zs.take len).map fun n => UInt8.ofNat n.toNat).length = len := by simp; omega
    refine ⟨(zs.take len).map fun n => UInt8.ofNat n.toNat, _, _, _, rfl, ?_⟩
    unfold BtsAt
    rw [hlen]
    rcases Nat.eq_zero_or_pos len with h0 | h0
    · subst h0
      rw [List.take_zero]
      exact At.sl_nil hm
    · obtain ⟨ab, ao, spot⟩ := ad
      have hspot : spot = none := by simpa [Addr.add] using World.cell?_spot (hcell 0 (by omega))
      subst hspot
      refine At.sl_mk (by rw [List.length_map, hlen]; omega) hl hm fun j dd hd => ?_
      rw [List.getElem?_map, List.getElem?_map, List.getElem?_take] at hd
      obtain ⟨x, hx1, rfl⟩ := Option.map_eq_some_iff.1 hd
      obtain ⟨z, hz1, rfl⟩ := Option.map_eq_some_iff.1 hx1
      split at hz1
      · have hj := (List.getElem?_eq_some_iff.1 hz1).1
        have hcj := hcell j hj
        have hb := range_u8 hwz j
        rw [hz1, Option.getD_some] at hb
        rw [List.getD_eq_getElem?_getD, hz1, Option.getD_some, Addr.add_lit] at hcj
        refine ⟨_, hcj, ?_⟩
        show Value.int .u8 z = .int .u8 ((UInt8.ofNat z.toNat).toNat : Int)
        congr 1
        simp only [UInt8.toNat_ofNat']
        omega
      · cases hz1
theorem args_stay {W W' : World} {sp : Nat → Bool} : ∀ {ts : List TypeId} {vs : List Value} {ds : List (DataW H)} {ps : List MemPlace}, (∀ t ∈ ts, Tryz.prog.readableRec t = true ∧ t < Tryz.prog.types.size) →
    DataW.TrodAll enc Tryz.prog W 0 (fun _ => true) true ts vs ds ps → (∀ x ∈ ps, W.sameAt W' x) → (∀ x ∈ ps, sp x.block = true) → DataW.TrodAll enc Tryz.prog W' 0 sp true ts vs ds ps
  | [], [], [], _, _, h, _, _ => h
  | t :: _, _ :: _, _ :: _, _, hT, ⟨p, q, h1, h2, e⟩, hs, hp =>
    ⟨p, q, WideElems.Trod_stays (by kernel_rfl) (hT t (List.mem_cons.2 (.inl rfl))).1 (hT t (List.mem_cons.2 (.inl rfl))).2 h1 (fun x hx => hs x (by rw [e]; exact List.mem_append_left _ hx)) (fun x hx => hp x (by rw [e]; exact List.mem_append_left _ hx)),
     args_stay (fun u hu => hT u (List.mem_cons.2 (.inr hu))) h2 (fun x hx => hs x (by rw [e]; exact List.mem_append_right _ hx)) (fun x hx => hp x (by rw [e]; exact List.mem_append_right _ hx)), e⟩
theorem law_post {f : Func} {s : ChangeSpec} {apart fresh handsOn again : Bool} {W W' : World} {args : Array Value} {ds gs : List (DataW H)} {before : List MemPlace}
    (hT : ∀ t ∈ f.params.toList, Tryz.prog.readableRec t = true ∧ t < Tryz.prog.types.size) (hres : f.resultTypes = #[4]) (hvars : s.vars = []) (hfn : s.fn H ds = { results := [.lit (.bool true)], args := ds })
    (hW : DataW.Whole enc Tryz.prog f.params.toList s.vars apart W args.toList ds gs before) (hb : Below W.heap.size W W') : s.post enc Tryz.prog f apart fresh handsOn again W args (.bool true) W' := by
  have hW0 := hW
  obtain ⟨p, q, hA, hV, hpq, hz, hn⟩ := hW
  have hgs : gs = [] ∧ q = [] := by rw [hvars] at hV; exact trodVars_none hV
  obtain ⟨rfl, rfl⟩ := hgs
  have hpp : before = p ++ [] := hpq
  have hp : before = p := by rw [hpp, List.append_nil]
  have hlt : ∀ x ∈ before, x.block < W.heap.size := fun x hx => hW0.lt x hx
  have hfn : s.fn H (ds ++ []) = { results := [.lit (.bool true)], args := ds } := by rw [List.append_nil]; exact hfn
  have stay : ∀ sp : Nat → Bool, (∀ x ∈ before, sp x.block = true) → DataW.TrodAll enc Tryz.prog W' 0 sp true f.params.toList args.toList (s.fn H (ds ++ [])).args before := fun sp hsp => by
    rw [hfn]
    rw [← hp] at hA
    exact args_stay hT hA (fun x hx => hb.same (hlt x hx)) hsp
  have res : ∀ (b : Nat) (sp : Nat → Bool) (hd : Bool), DataW.TrodAll enc Tryz.prog W' b sp hd f.resultTypes.toList ((Value.bool true).resultList f.resultTypes.size) (s.fn H (ds ++ [])).results [] := fun b sp hd => by
    rw [hfn, hres]
    exact trodAll_cons_mk (shut_bool Tryz.underlying4 _) trodAll_mk0
  have vars : ∀ sp : Nat → Bool, DataW.TrodVars enc Tryz.prog W' sp s.vars (s.fn H (ds ++ [])).vars [] := fun sp => by
    rw [hvars, hfn]; rfl
  refine ⟨ds, [], before, [], before, [], hW0, res _ _ _, stay _ (fun x hx => by simpa using hlt x hx), vars _, World.keptBut_mono (fun x hx => ⟨hx, .inr (by simpa using hx)⟩) (hb.frame (· ∈ before)), fun _ => ?_⟩
  refine ⟨ok_one hres rfl (okWide_bool_mk Tryz.underlying4 _), _, _, ([] ++ before) ++ [], ⟨[] ++ before, [], trodAll_append (stay _ (fun _ _ => rfl)) (res _ _ _), vars _, rfl, fun b off hx => ?_, fun ha => ?_⟩, fun x hx _ => ?_⟩
  · have hin : MemPlace.cell b off ∈ before := by simpa using hx
    rw [hb.frozen (hlt _ hin)]
    exact hz b off hin
  · simpa using hn ha
  · simpa using hx
end
end Go.Proofs.YtppfalbnhnpbnaaGreatDoor
