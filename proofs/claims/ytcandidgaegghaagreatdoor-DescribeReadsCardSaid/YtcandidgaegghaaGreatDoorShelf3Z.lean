/- lyceumlaw41.DescribeReads: what its loop keeps in memory. Conditions: none but those of each statement. Rows of bytes that came in as an argument. Conditions: none but those of each statement. DERIVED: THE SHELF's CONTRACTS AT THIS DUMP, IN PLAIN WORDS (tools/lay-plain.mjs out of 'TryzShelf.lean', which tools/lay-shelf.mjs wrote): THE SAME DECLARATIONS UNDER THE SAME NAMES: 'import', 'namespace', 'open', 'def', 'theorem' AND NOTHING ELSE: no command of the shelf's: FOR A HAND-IN. Each laying: the table of numbers ('.._ren') and one theorem, a field a fact of the dump's own or the kernel's comparison; each contract: ONE APPLICATION. -/
import Derived.Test.YtcandidgaegghaaGreatDoorRdClWZ
import Derived.Test.YtcandidgaegghaaGreatDoorBLenZ
import Derived.Test.YtcandidgaegghaaGreatDoorRdPZ
import Derived.Test.YtcandidgaegghaaGreatDoorRngZ
import Derived.Deep.Slices
import Derived.Test.YtcandidgaegghaaGreatDoorFormCZ
import Derived.Shelf.Slices.Turned
import Derived.Shelf.Slices.Equal
import Derived.Shelf.Slices.Empties2
import Derived.Test.YtcandidgaegghaaGreatDoorProg
section
namespace Go.Proofs.YtcandidgaegghaaGreatDoor
open Go Go.RowKit Ly
set_option maxRecDepth 10000
set_option linter.unusedSimpArgs false
set_option linter.unusedVariables false
/-- Rows of bytes that came in. -/
def BBAt (w : World) (L : List Bs) (a : Option Addr) (n c : Nat) : Prop :=
  n = L.length ∧ n ≤ c ∧ c ≤ maxLen ∧ (n = 0 ∨ ∃ b off, a = some ⟨b, off, none⟩ ∧ ∀ i x, L[i]? = some x → ∃ a' n' c', w.cell? ⟨b, off + i, none⟩ = some (.slice a' n' c') ∧ BtsAt w x (.slice a' n' c'))
theorem BBAt.get {w : World} {L : List Bs} {a : Option Addr} {n c i : Nat} {x : Bs} (h : BBAt w L a n c) (hi : L[i]? = some x) : ∃ b off, a = some ⟨b, off, none⟩ ∧ ∃ a' n' c', w.cell? ⟨b, off + i, none⟩ = some (.slice a' n' c') ∧ BtsAt w x (.slice a' n' c') := by
  obtain ⟨h1, _, _, h4⟩ := h
  have hlt := (List.getElem?_eq_some_iff.1 hi).1
  rcases h4 with h4 | ⟨b, off, rfl, h4⟩
  · omega
  · exact ⟨b, off, rfl, h4 i x hi⟩
/-- The claim that is put together: its variable, at the end of world w1, and its two lists. -/
structure RS (w1 : World) (X Y : List Fm) (vx vy : Value) (W : World) : Prop where
  bw : Below w1.heap.size w1 W
  c7 : W.heap[w1.heap.size]? = some (.cells #[vx, vy] 48 (0, 0))
  cl : CL (w1.heap.size + 1) X Y vx vy W
theorem RS.lt {w1 W : World} {X Y : List Fm} {vx vy : Value} (h : RS w1 X Y vx vy W) : w1.heap.size + 1 ≤ W.heap.size := (Array.getElem?_eq_some_iff.1 h.c7).1
theorem RS.below {w1 A W : World} {X Y : List Fm} {vx vy : Value} (h : RS w1 X Y vx vy A) (b : Below A.heap.size A W) : RS w1 X Y vx vy W :=
  ⟨belowThen h.bw b, kc b h.c7, h.cl.turned fun i o _ hi _ => (b.block i (Array.getElem?_eq_some_iff.1 hi).1).trans hi⟩
theorem RS.new (w1 : World) : RS w1 [] [] (.slice none 0 0) (.slice none 0 0) (w1.alloc (.cells #[.slice none 0 0, .slice none 0 0] 48)) :=
  ⟨(Below.refl _ _).alloc (Nat.le_refl _) _, heap_alloc_new _ _, CL.nil _ _⟩
theorem CL.form {B : Nat} {X Y : List Fm} {vx vy : Value} {W : World} (h : CL B X Y vx vy W) : ∃ a c b d, vx = .slice a X.length c ∧ vy = .slice b Y.length d := by
  obtain ⟨xs, ho, _⟩ := h.ox
  obtain ⟨ys, ho', _⟩ := h.oy
  obtain ⟨a, c, e⟩ := row_form ho
  obtain ⟨b, d, e'⟩ := row_form ho'
  exact ⟨a, c, b, d, e, e'⟩
/-- A formula that was built, in its variable g, in memory behind world wr. -/
structure RF (wr : World) (f : Fm) (g : Nat) (a : Option Addr) (n c : Nat) (b : Option Addr) (m d : Nat) (W : World) : Prop where
  cell : W.heap[g]? = some (.cells #[.int .u8 f.op, str f.name, .slice a n c, .slice b m d] 25 (0, 0))
  ge : wr.heap.size ≤ g
  h1 : TmsAt (hide (lo wr) W) f.args (.slice a n c)
  h2 : FmsAt (hide (lo wr) W) f.sub (.slice b m d)
theorem RF.stays {wr A W : World} {f : Fm} {g : Nat} {a : Option Addr} {n c : Nat} {b : Option Addr} {m d : Nat} (h : RF wr f g a n c b m d A) (k : ∀ i, wr.heap.size ≤ i → i < A.heap.size → W.heap[i]? = A.heap[i]?) : RF wr f g a n c b m d W := by
  have K : Keeps (hide (lo wr) A) (hide (lo wr) W) := hide_keeps2 fun i h1 h2 => ⟨h2, k i (by simp only [lo, decide_eq_false_iff_not, Nat.not_lt] at h2; exact h2) h1⟩
  exact ⟨(k g h.ge (Array.getElem?_eq_some_iff.1 h.cell).1).trans h.cell, h.ge, h.h1.keep K, h.h2.keep K⟩
theorem RF.below {wr A W : World} {f : Fm} {g : Nat} {a : Option Addr} {n c : Nat} {b : Option Addr} {m d : Nat} (h : RF wr f g a n c b m d A) (k : Below A.heap.size A W) : RF wr f g a n c b m d W := h.stays fun i _ h2 => k.block i h2
theorem RF.val {wr W : World} {f : Fm} {g : Nat} {a : Option Addr} {n c : Nat} {b : Option Addr} {m d : Nat} (h : RF wr f g a n c b m d W) : FmVal W f (.agg #[.int .u8 f.op, str f.name, .slice a n c, .slice b m d]) := ⟨_, _, _, _, _, _, rfl, h.h1.keep unhide, h.h2.keep unhide⟩
/-- One more formula on the first list; field fo of the claim takes the slice. -/
theorem reads_put {w1 wr W w5 W2 : World} {X Y : List Fm} {vx vy y0 y1 : Value} {f : Fm} {g g5 c5 fo : Nat} {a b : Option Addr} {n c m d : Nat} {xs : List Value} {o : Obj} (bw : Below w1.heap.size w1 W) (c7 : W.heap[w1.heap.size]? = some (.cells #[y0, y1] 48 (0, 0)))
    (cl : CL (w1.heap.size + 1) X Y vx vy W) (F : RF wr f g a n c b m d W) (zr : w1.heap.size + 1 ≤ wr.heap.size) (ox : ∀ g, vx.ownBlock = some g → w1.heap.size + 1 ≤ g ∧ g < wr.heap.size) (oy : ∀ g, vy.ownBlock = some g → w1.heap.size + 1 ≤ g ∧ g < wr.heap.size) (hW : wr.heap.size ≤ W.heap.size)
    (hc : CellsAt (hide (fun k => pOf (w1.heap.size + 1) vy k || decide (vx.ownBlock = some k)) W) (fmsDs X) xs)
    (h5 : w5.ownsRow (w1.heap.size + 1) 25 4 (.slice (some ⟨g5, 0, none⟩) (X.length + 1) c5) (X.length + 1) (xs ++ [.int .u8 f.op, str f.name, .slice a n c, .slice b m d])) (hg5 : (W.alloc o).grownBy w5 vx.ownBlock)
    (hat5 : (Value.slice (some ⟨g5, 0, none⟩) (X.length + 1) c5).ownBlock = vx.ownBlock ∨ (Value.slice (some ⟨g5, 0, none⟩) (X.length + 1) c5).ownBlock = some (W.alloc o).heap.size)
    (e2 : W2 = w5.setCell ⟨w1.heap.size, fo, none⟩ (.slice (some ⟨g5, 0, none⟩) (X.length + 1) c5)) :
    Below w1.heap.size w1 W2 ∧ W2.heap[w1.heap.size]? = some (.cells (#[y0, y1].setIfInBounds fo (.slice (some ⟨g5, 0, none⟩) (X.length + 1) c5)) 48 (0, 0)) ∧ CL (w1.heap.size + 1) (X ++ [f]) Y (.slice (some ⟨g5, 0, none⟩) (X.length + 1) c5) vy W2 ∧ RF wr f g a n c b m d W2 := by
  subst e2
  have z7 := (Array.getElem?_eq_some_iff.1 c7).1
  have hg := (h5.lt g5 rfl)
  have ne7 : w1.heap.size ≠ g5 := by omega
  have z5 := hg5.size
  rw [World.size_alloc] at z5
  have old : ∀ i, i < W.heap.size → vx.ownBlock ≠ some i → w5.heap[i]? = W.heap[i]? := fun i hi hv => by
    rw [hg5.block i (by simp; omega) (fun e => hv e.symm)]
    exact Below.heap_alloc W o i hi
  have old2 : ∀ i, i < W.heap.size → vx.ownBlock ≠ some i → i ≠ w1.heap.size → (w5.setCell ⟨w1.heap.size, fo, none⟩ (.slice (some ⟨g5, 0, none⟩) (X.length + 1) c5)).heap[i]? = W.heap[i]? := fun i hi hv hn => by
    rw [Below.heap_setCell _ _ _ _ hn]; exact old i hi hv
  have K := keep_part (w := w1) (WA := W) zr ox oy
  refine ⟨⟨hg5.os.trans bw.os, hg5.tape.trans bw.tape, hg5.output.trans bw.output, ?_, fun i hi => ?_⟩, ?_, ?_, ?_⟩
  · have := bw.size
    simp only [World.size_setCell]
    omega
  · exact (old2 i (by omega) (fun e => by have := ox i e; omega) (by omega)).trans (bw.block i hi)
  · exact set_block ((old _ z7 (fun e => by have := ox _ e; omega)).trans c7)
  · refine cl.put hc (F.h1.keep K) (F.h2.keep K) (h5.kept (row := some w1.heap.size) ⟨rfl, rfl, rfl, by simp, fun k _ hk => Below.heap_setCell _ _ _ _ (fun e => hk (by rw [e]))⟩ (.inr (by simp only [Value.ownBlock]; intro e; cases e; omega))) (fun k hk hlt hv => old2 k hlt hv (by omega)) ?_
    rcases hat5 with e | e
    · exact .inl e
    · exact .inr ⟨g5, rfl, by simp only [Value.ownBlock, Option.some.injEq, World.size_alloc] at e; omega⟩
  · exact F.stays fun i h1 h2 => old2 i h2 (fun e => by have := ox i e; omega) (by omega)
/-- A proof in its variable. -/
structure PV (P : Pf) (g : Nat) (a : Option Addr) (n c : Nat) (b : Option Addr) (m d : Nat) (s : Option Addr) (sn sc : Nat) (q : Option Addr) (qn qc : Nat) (wx : World) : Prop where
  cell : wx.heap[g]? = some (.cells #[str P.rule, .int .u8 P.form.op, str P.form.name, .slice a n c, .slice b m d, .int .i64 P.label, .slice s sn sc, .slice q qn qc] 53 (0, 0))
  h1 : TmsAt wx P.form.args (.slice a n c)
  h2 : FmsAt wx P.form.sub (.slice b m d)
  h3 : PfsAt wx P.sub (.slice s sn sc)
  h4 : MarksAt wx P.marks (.slice q qn qc)
theorem PV.below {P : Pf} {g : Nat} {a : Option Addr} {n c : Nat} {b : Option Addr} {m d : Nat} {s : Option Addr} {sn sc : Nat} {q : Option Addr} {qn qc : Nat} {wx wy : World} (h : PV P g a n c b m d s sn sc q qn qc wx) (k : Below wx.heap.size wx wy) : PV P g a n c b m d s sn sc q qn qc wy :=
  ⟨kc k h.cell, h.h1.keep (keeps_of_below k), h.h2.keep (keeps_of_below k), h.h3.keep (keeps_of_below k), h.h4.keep (keeps_of_below k)⟩
theorem PV.val {P : Pf} {g : Nat} {a : Option Addr} {n c : Nat} {b : Option Addr} {m d : Nat} {s : Option Addr} {sn sc : Nat} {q : Option Addr} {qn qc : Nat} {wx : World} (h : PV P g a n c b m d s sn sc q qn qc wx) : PfVal wx P (.agg #[str P.rule, .int .u8 P.form.op, str P.form.name, .slice a n c, .slice b m d, .int .i64 P.label, .slice s sn sc, .slice q qn qc]) :=
  ⟨_, _, _, _, _, _, _, _, _, _, _, _, rfl, h.h1, h.h2, h.h3, h.h4⟩
/-- The length of a claim's text. -/
theorem joinBy_cap (sep : Bs) (M : Nat) : ∀ l : List Bs, (∀ x ∈ l, x.length ≤ M) → (joinBy sep l).length ≤ l.length * (M + sep.length)
  | [], _ => Nat.zero_le _
  | [x], h => by have := h x (by simp); simp only [joinBy, List.length_cons, List.length_nil]; omega
  | x :: y :: r, h => by
    have h1 := h x (by simp)
    have h2 := joinBy_cap sep M (y :: r) fun z hz => h z (List.mem_cons_of_mem _ hz)
    simp only [joinBy, List.length_append, List.length_cons] at h2 ⊢
    rw [Nat.add_mul, Nat.one_mul]
    omega
theorem claim_cap {X Y : List Fm} (h : ∀ f ∈ X ++ Y, f.text.length ≤ 1300) (hn : X.length + Y.length ≤ 4) : (claimText X Y).length ≤ 16384 := by
  unfold claimText
  have h1 := joinBy_cap [44, 32] 1306 (claimParts X Y) fun x hx => by
    unfold claimParts at hx
    rcases List.mem_append.1 hx with hx | hx
    · obtain ⟨f, hf, rfl⟩ := List.mem_map.1 hx
      have := h f (List.mem_append_left _ hf)
      simp only [List.length_append, show wGiven.length = 6 from rfl]; omega
    · obtain ⟨f, hf, rfl⟩ := List.mem_map.1 hx
      have := h f (List.mem_append_right _ hf)
      simp only [List.length_append, show wShow.length = 5 from rfl]; omega
  have h2 : (claimParts X Y).length = X.length + Y.length := by simp [claimParts]
  have h3 : (claimParts X Y).length * (1306 + [44, 32].length) ≤ 4 * (1306 + 2) := Nat.mul_le_mul_right _ (by omega)
  simp only [List.length_cons, List.length_nil] at h1 h3
  omega
end Go.Proofs.YtcandidgaegghaaGreatDoor
end
section
namespace Go.Proofs.YtcandidgaegghaaGreatDoor
open Go Go.ChangeShapes Go.WideShapes Go.ChangeAt Go.RowKit Ly
set_option maxRecDepth 10000
set_option linter.unusedSimpArgs false
set_option linter.unusedVariables false
section
variable {H : Type} {enc : TypeId × Value → H}
theorem bts_trod {W : World} {v : Value} {fuel : Nat} {x : DataW H × List MemPlace} (hf : DataW.trod enc Tryz.prog W 0 (fun _ => true) true fuel 43 [v] = some x) : ∃ l : Bs, ∃ a n c, v = .slice a n c ∧ BtsAt W l (.slice a n c) := by
  rcases open_ints Tryz.underlying43 Tryz.underlying5 cells5 hf with ⟨hcs, hx⟩ | ⟨ad, len', cap', zs, hcs, _, hl, hm, hz, hx, hcell, hwz⟩
  · simp at hcs
    subst hcs
    exact ⟨[], _, _, _, rfl, At.sl_nil (Nat.zero_le _)⟩
  · simp at hcs
    subst hcs
    simp only [if_true] at hz
    have hlen : ((zs.take len').map fun n => UInt8.ofNat n.toNat).length = len' := by simp; omega
    refine ⟨(zs.take len').map fun n => UInt8.ofNat n.toNat, _, _, _, rfl, ?_⟩
    unfold BtsAt
    rw [hlen]
    rcases Nat.eq_zero_or_pos len' with h0 | h0
    · subst h0
      rw [List.take_zero]
      exact At.sl_nil hm
    · obtain ⟨ab, ao, spot⟩ := ad
      have hspot : spot = none := by simpa [Addr.add] using World.cell?_spot (hcell 0 (by omega))
      subst hspot
      refine At.sl_mk (by rw [List.length_map, hlen]; omega) hl hm fun j dd hd => ?_
      rw [List.getElem?_map, List.getElem?_map, List.getElem?_take] at hd
      obtain ⟨x, hx1, rfl⟩ := Option.map_eq_some_iff.1 hd
      obtain ⟨z, hz1, rfl⟩ := Option.map_eq_some_iff.1 hx1
      split at hz1
      · have hj := (List.getElem?_eq_some_iff.1 hz1).1
        have hcj := hcell j hj
        have hb := range_u8 hwz j
        rw [hz1, Option.getD_some] at hb
        rw [List.getD_eq_getElem?_getD, hz1, Option.getD_some, Addr.add_lit] at hcj
        refine ⟨_, hcj, ?_⟩
        show Value.int .u8 z = .int .u8 ((UInt8.ofNat z.toNat).toNat : Int)
        congr 1
        simp only [UInt8.toNat_ofNat']
        omega
      · cases hz1
theorem cells43 : Tryz.prog.cellsOf 43 = 1 := by kernel_rfl
theorem bbs_of {W : World} {base : Nat} {v : Value} {d : DataW H} {p : List MemPlace} (hval : Value.okWide Tryz.prog W .any base 80 v) (h : DataW.Trod enc Tryz.prog W 0 (fun _ => true) true 80 v d p) : ∃ (L : List Bs) (a : Option Addr) (n c : Nat), v = .slice a n c ∧ BBAt W L a n c := by
  obtain ⟨a, len, cap, rfl⟩ := okWide_slice Tryz.underlying80 hval
  obtain ⟨fuel, hf⟩ := h
  rcases Go.Deep.open_slice1 Tryz.underlying80 cells43 hf with ⟨hcs, hx⟩ | ⟨ad, len', cap', m, n', V, D, Pl, hcs, _, hl, hm, hmm, _, hel⟩
  · simp [Value.cells] at hcs
    obtain ⟨rfl, rfl, rfl⟩ := hcs
    exact ⟨[], _, _, _, rfl, rfl, Nat.le_refl _, Nat.zero_le _, .inl rfl⟩
  · simp [Value.cells] at hcs
    obtain ⟨rfl, rfl, rfl⟩ := hcs
    simp only [if_true] at hmm
    subst hmm
    obtain ⟨f, hF⟩ := Go.Deep.choose_lt (α := Bs) (n := len) (p := fun i l => ∃ a n c, V i = .slice a n c ∧ BtsAt W l (.slice a n c)) fun i hi => bts_trod (hel i (by omega)).2
    refine ⟨(List.range len).map f, _, _, _, rfl, by simp, hl, hm, ?_⟩
    rcases Nat.eq_zero_or_pos len with h0 | h0
    · exact .inl h0
    · obtain ⟨ab, ao, spot⟩ := ad
      have hspot : spot = none := by simpa [Addr.add] using World.cell?_spot (hel 0 (by omega)).1
      subst hspot
      refine .inr ⟨ab, ao, rfl, fun i x hx => ?_⟩
      rw [List.getElem?_map] at hx
      obtain ⟨j, hj, rfl⟩ := Option.map_eq_some_iff.1 hx
      have hlt := (List.getElem?_eq_some_iff.1 hj).1
      rw [List.length_range] at hlt
      rw [List.getElem?_range hlt] at hj
      cases hj
      obtain ⟨a', n', c', e, hb⟩ := hF i hlt
      have hc := (hel i (by omega)).1
      rw [e, Addr.add_lit] at hc
      exact ⟨a', n', c', hc, hb⟩
end
end Go.Proofs.YtcandidgaegghaaGreatDoor
end
section
namespace Go.Proofs
open Go.Shelf
def Tryz.lays193_ren : Go.Shelf.Ren := ⟨fun | 193 => 122 | n => n, fun | 31 => 36 | 9 => 9 | 4 => 4 | 3 => 3 | 0 => 0 | n => n, fun | n => n⟩
theorem Tryz.lays193 : Go.Proofs.Lays.n193 Tryz.prog Tryz.lays193_ren := {
  mixed := by kernel_rfl
  f193 := Tryz.func122.trans (congrArg some (by kernel_rfl))
  t0 := Tryz.underlying0
  a0 := Tryz.isAgg0
  z0 := Tryz.sizeOf0
  v0 := Tryz.zeroValue0
  t3 := Tryz.underlying3
  a3 := Tryz.isAgg3
  z3 := Tryz.sizeOf3
  v3 := Tryz.zeroValue3
  t4 := Tryz.underlying4
  a4 := Tryz.isAgg4
  z4 := Tryz.sizeOf4
  v4 := Tryz.zeroValue4
  t9 := Tryz.underlying9
  a9 := Tryz.isAgg9
  z9 := Tryz.sizeOf9
  v9 := Tryz.zeroValue9
  t31 := Tryz.underlying36
  a31 := Tryz.isAgg36
  z31 := Tryz.sizeOf36
  v31 := Tryz.zeroValue36 }
open Go.RowKit Go.Lib in
/-- slices.Equal at []string: "Equal reports whether two slices are equal: the same length and all elements equal. If the lengths are different, Equal returns false. Otherwise, the elements are compared in increasing index order, and the comparison stops at the first unequal pair. Empty and nil slices are considered equal.": IT RETURNS WHETHER THE TWO LISTS OF ELEMENTS ARE ONE; the world is as it was but for the count of draws (the test 's1[i] != s2[i]' has two reads, whose order the model draws, once a round). 'xs', 'ys': what the cells behind the two addresses hold (the spare capacity too, if you have it); 'xs.take n', 'ys.take m': the elements. THE TWO SLICES MAY OVERLAP. (LAID: no walk: one application.) -/
theorem Tryz.slices_Equal_string (b1 o1 n c b2 o2 m d : Nat) (xs ys : List ByteArray) (w : World) (hx : n ≤ xs.length) (hy : m ≤ ys.length) (hbig : n ≤ 9223372036854775807) (hbig2 : m ≤ 9223372036854775807) (hc1 : ∀ j, j < xs.length → w.cell? ⟨b1, o1 + j, none⟩ = some (.string (xs.getD j ByteArray.empty))) (hc2 : ∀ j, j < ys.length → w.cell? ⟨b2, o2 + j, none⟩ = some (.string (ys.getD j ByteArray.empty))) :
    Calls Tryz.prog 122 #[.slice (some ⟨b1, o1, none⟩) n c, .slice (some ⟨b2, o2, none⟩) m d] w fun e w' => e = .returned (.bool (decide (xs.take n = ys.take m))) ∧ ∃ q, w' = w.drewN q := Any.slices_Equal_string Tryz.lays193 b1 o1 n c b2 o2 m d xs ys w hx hy hbig hbig2 hc1 hc2
end Go.Proofs
end
