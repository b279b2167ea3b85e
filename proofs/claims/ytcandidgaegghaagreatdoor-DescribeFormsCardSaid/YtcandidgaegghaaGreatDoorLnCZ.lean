/- lyceumkit.LentForm, LentForms: what they make. Conditions: at most a thousand nodes. -/
import Derived.Test.YtcandidgaegghaaGreatDoorLnBZ
namespace Go.Proofs.YtcandidgaegghaaGreatDoor
open Go Go.RowKit Ly
set_option maxRecDepth 10000
set_option linter.unusedSimpArgs false
set_option linter.unusedVariables false
set_option maxHeartbeats 1600000
/-- What has been laid: the elements so far, in a row at the block g, and then marks. -/
structure LfRel (w : World) (l : List Fm) (g k j i : Nat) (W : World) : Prop where
  own : ∃ xs, W.ownsRow g 25 4 (.slice (some ⟨g, 0, none⟩) (j + i) (k + 12)) (j + i) (xs ++ fmMarks i) ∧ FmsC (hide (fun n => decide (n < g + 1)) W) (l.take j) xs
  bw : Below w.heap.size w W
  lt : g < W.heap.size
  ge : w.heap.size ≤ g
theorem LfRel.moved {w : World} {l : List Fm} {g k j i : Nat} {W W' : World} (h : LfRel w l g k j i W) (b : Below W.heap.size W W') : LfRel w l g k j i W' := by
  obtain ⟨⟨xs, h1, h2⟩, h3, h4, h5⟩ := h
  exact ⟨⟨xs, own_other h1 (b.block g h4), FmsC.keep (keep_above fun k h _ => b.block k h) _ _ h2⟩, belowThen h3 b, Nat.lt_of_lt_of_le h4 b.size, h5⟩
theorem LfRel.put {w : World} {l : List Fm} {g k j : Nat} {W W' : World} {T : Fm} {c xs : List Value} (h2 : FmsC (hide (fun n => decide (n < g + 1)) W) (l.take j) xs) (h3 : Below w.heap.size w W) (h4 : g < W.heap.size) (h5 : w.heap.size ≤ g) (hT : l[j]? = some T) (hc : FmL (hide (fun n => decide (n < g + 1)) W) T c)
    (ho : W'.ownsRow g 25 4 (.slice (some ⟨g, 0, none⟩) (j + 1) (k + 12)) (j + 1) (xs ++ c)) (hg : W.grownBy W' (some g)) : LfRel w l g k (j + 1) 0 W' := by
  have K : Keeps (hide (fun n => decide (n < g + 1)) W) (hide (fun n => decide (n < g + 1)) W') := keep_above fun k h h' => hg.block k h (by simp; omega)
  refine ⟨⟨xs ++ c, by simpa [fmMarks] using ho, ?_⟩, h3.trans (below_grown hg (fun x e => by cases e; exact h5) (Nat.le_trans h5 (Nat.le_of_lt h4))), Nat.lt_of_lt_of_le h4 hg.size, h5⟩
  have e : l.take (j + 1) = l.take j ++ [T] := by rw [List.take_add_one, hT]; rfl
  rw [e]
  exact FmsC.put (FmsC.keep K _ _ h2) (FmL.keep K _ _ hc)
theorem LfRel.mark {w : World} {l : List Fm} {g k i : Nat} {W W' : World} {xs : List Value} (h2 : FmsC (hide (fun n => decide (n < g + 1)) W) (l.take k) xs) (h3 : Below w.heap.size w W) (h4 : g < W.heap.size) (h5 : w.heap.size ≤ g)
    (ho : W'.ownsRow g 25 4 (.slice (some ⟨g, 0, none⟩) (k + i + 1) (k + 12)) (k + i + 1) (xs ++ fmMarks i ++ [.int .u8 0, str (mkText i), .slice none 0 0, .slice none 0 0])) (hg : W.grownBy W' (some g)) : LfRel w l g k k (i + 1) W' := by
  have K : Keeps (hide (fun n => decide (n < g + 1)) W) (hide (fun n => decide (n < g + 1)) W') := keep_above fun k h h' => hg.block k h (by simp; omega)
  refine ⟨⟨xs, ?_, FmsC.keep K _ _ h2⟩, h3.trans (below_grown hg (fun x e => by cases e; exact h5) (Nat.le_trans h5 (Nat.le_of_lt h4))), Nat.lt_of_lt_of_le h4 hg.size, h5⟩
  rw [fmMarks_succ, ← List.append_assoc]
  exact ho
theorem LfRel.lent {w : World} {l : List Fm} {g k : Nat} {W : World} (h : LfRel w l g k k 12 W) (hk : k = l.length) (hm : k + 12 ≤ maxLen) : FmsLent (hide (lo w) W) l (.slice (some ⟨g, 0, none⟩) k (k + 12)) := by
  obtain ⟨⟨xs, h1, h2⟩, h3, h4, h5⟩ := h
  rw [List.take_of_length_le (by omega)] at h2
  subst hk
  refine ⟨g, _, xs, rfl, Nat.le_refl _, hm, ?_, ?_⟩
  · intro j u hu
    have := h1.cells (g := g) rfl j u hu
    rw [show ((⟨g, 0, none⟩ : Addr).add j) = ⟨g, j, none⟩ by simp [Addr.add]; omega] at this
    rw [hide_cell (by simp [lo]; omega)]
    exact this
  · exact FmsC.keep (hide_keeps2 fun k h6 h7 => ⟨by simp at h7; simp [lo]; omega, rfl⟩) _ _ h2
theorem LfRel.new {w w1 : World} {l : List Fm} {k : Nat} (h : w1.ownsRow w.heap.size 25 4 (.slice (some ⟨w.heap.size, 0, none⟩) 0 (k + 12)) 0 []) (hg : w.grownBy w1 none) : LfRel w l w.heap.size k 0 0 w1 :=
  ⟨⟨[], by simpa [fmMarks] using h, by rw [List.take_zero, FmsC]⟩, below_grown hg (fun _ e => by cases e) (Nat.le_refl _), (h.lt _ rfl).2, Nat.le_refl _⟩
theorem LfRel.first {w W : World} {l : List Fm} {g k j : Nat} (h : LfRel w l g k j 0 W) : ∃ xs, W.ownsRow g 25 4 (.slice (some ⟨g, 0, none⟩) j (k + 12)) j xs ∧ FmsC (hide (fun n => decide (n < g + 1)) W) (l.take j) xs := by
  obtain ⟨xs, h1, h2⟩ := h.own
  exact ⟨xs, by simpa [fmMarks] using h1, h2⟩
theorem news4 (w : World) (a b c d : Value) (t : TypeId) : ∀ (j : Nat) (u : Value), [a, b, c, d][j]? = some u → (w.alloc (.cells #[a, b, c, d] t)).cell? ((⟨w.heap.size, 0, none⟩ : Addr).add j) = some u := by
  intro j u hu
  have hg := heap_alloc_new w (.cells #[a, b, c, d] t)
  rw [show ((⟨w.heap.size, 0, none⟩ : Addr).add j) = ⟨w.heap.size, j, none⟩ by simp [Addr.add]; omega, box_cell hg]
  simpa using hu
theorem news4' (w : World) (o : Obj) (a b c d : Value) (t : TypeId) : ∀ (j : Nat) (u : Value), [a, b, c, d][j]? = some u → ((w.alloc o).alloc (.cells #[a, b, c, d] t)).cell? ((⟨w.heap.size + 1, 0, none⟩ : Addr).add j) = some u := by
  have := news4 (w.alloc o) a b c d t
  rwa [World.size_alloc] at this
theorem one25 (v : Int) (n : Bs) (u u' : Value) (hu : u.oneCell' = true) (hu' : u'.oneCell' = true) : ∀ x ∈ [Value.int .u8 v, str n, u, u'], x.oneCell' = true := by
  intro x hx
  simp only [List.mem_cons, List.not_mem_nil, or_false] at hx
  rcases hx with rfl | rfl | rfl | rfl
  · rfl
  · rfl
  · exact hu
  · exact hu'
theorem fmsNodes_len : ∀ l : List Fm, l.length ≤ fmsNodes l
  | [] => Nat.le_refl _
  | t :: ts => by have := fmsNodes_len ts; cases t; rw [fmsNodes, Fm.nodes, List.length_cons]; omega
theorem fmsNodes_mem {l : List Fm} {t : Fm} (h : t ∈ l) : t.nodes ≤ fmsNodes l := by
  induction l with
  | nil => cases h
  | cons x l ih =>
    rw [fmsNodes]
    rcases List.mem_cons.1 h with rfl | h
    · omega
    · have := ih h; omega
def LfS (l : List Fm) : Prop := ∀ (w : World) (a : Option Addr) (k c : Nat), FmsAt w l (.slice a k c) → fmsNodes l ≤ 1000 → Calls Tryz.prog 127 #[.slice a k c] w fun e w' => ∃ b cap, e = .returned (.slice (some ⟨b, 0, none⟩) k cap) ∧ FmsLent (hide (lo w) w') l (.slice (some ⟨b, 0, none⟩) k cap) ∧ Below w.heap.size w w'
def LfT (t : Fm) : Prop := ∀ (w : World) (x : Value), FmVal w t x → t.nodes ≤ 1000 → Calls Tryz.prog 50 #[x] w fun e w' => ∃ b n cap b' n' cap', e = .returned (.agg #[.int .u8 t.op, str t.name, .slice (some ⟨b, 0, none⟩) n cap, .slice (some ⟨b', 0, none⟩) n' cap']) ∧ TmsLent (hide (lo w) w') t.args (.slice (some ⟨b, 0, none⟩) n cap) ∧ FmsLent (hide (lo w) w') t.sub (.slice (some ⟨b', 0, none⟩) n' cap') ∧ Below w.heap.size w w'
theorem lf_of (t : Fm) (h : LfS t.sub) : LfT t := by
  intro w x hx hn
  obtain ⟨a, k, c, a', m, d, rfl, hx, hx'⟩ := hx
  have hna : tmsNodes t.args ≤ 1000 ∧ fmsNodes t.sub ≤ 1000 := by cases t; rw [Fm.nodes] at hn; simp only [Fm.args, Fm.sub]; omega
  have K2 := keeps2 w (.cells #[.int .u8 t.op, str t.name, .slice a k c, .slice a' m d] 25) (.cells #[.int .u8 0, str [], .slice none 0 0, .slice none 0 0] 25)
  have HB : Hid (Below w.heap.size w ((w.alloc (.cells #[.int .u8 t.op, str t.name, .slice a k c, .slice a' m d] 25)).alloc (.cells #[.int .u8 0, str [], .slice none 0 0, .slice none 0 0] 25))) := ((Below.refl _ _).alloc (Nat.le_refl _) _).alloc (by simp) _
  have R := Lib.hid (lentTerms_c t.args ((w.alloc (.cells #[.int .u8 t.op, str t.name, .slice a k c, .slice a' m d] 25)).alloc (.cells #[.int .u8 0, str [], .slice none 0 0, .slice none 0 0] 25)) a k c (hx.keep K2) hna.1)
  have R2 : Hid (∀ W, FmsAt W t.sub (.slice a' m d) → Calls Tryz.prog 127 #[.slice a' m d] W fun e w' => ∃ b cap, e = .returned (.slice (some ⟨b, 0, none⟩) m cap) ∧ FmsLent (hide (lo W) w') t.sub (.slice (some ⟨b, 0, none⟩) m cap) ∧ Below W.heap.size W w') := fun W hW => h W a' m d hW hna.2
  have HX2 := Lib.hid hx'
  have G0 : Hid (((w.alloc (.cells #[.int .u8 t.op, str t.name, .slice a k c, .slice a' m d] 25)).alloc (.cells #[.int .u8 0, str [], .slice none 0 0, .slice none 0 0] 25)).heap[w.heap.size]? = some (.cells #[.int .u8 t.op, str t.name, .slice a k c, .slice a' m d] 25 (0, 0))) := kc ((Below.refl _ _).alloc (Nat.le_refl _) _) (heap_alloc_new w _)
  have G1 : Hid (((w.alloc (.cells #[.int .u8 t.op, str t.name, .slice a k c, .slice a' m d] 25)).alloc (.cells #[.int .u8 0, str [], .slice none 0 0, .slice none 0 0] 25)).heap[w.heap.size + 1]? = some (.cells #[.int .u8 0, str [], .slice none 0 0, .slice none 0 0] 25 (0, 0))) := by
    have := heap_alloc_new (w.alloc (.cells #[.int .u8 t.op, str t.name, .slice a k c, .slice a' m d] 25)) (.cells #[.int .u8 0, str [], .slice none 0 0, .slice none 0 0] 25)
    rwa [World.size_alloc] at this
  clear h hx hx' hn hna K2
  go_enter Tryz.func50, Tryz.ntmps50
  go_wp2_with (first
    | (go_at_call 126; refine R.out.mono ?_; rintro e w1 ⟨b, cap, rfl, hl, b1⟩; have HL := Lib.hid (And.intro hl b1); have E0 := Lib.hid (kc b1 G0.out); have E1 := Lib.hid (kc b1 G1.out); have S0 := Lib.hid (set_block (o := 2) (u := .slice (some ⟨b, 0, none⟩) k cap) E0.out); have S1 : Hid ((w1.setCell ⟨w.heap.size, 2, none⟩ (.slice (some ⟨b, 0, none⟩) k cap)).heap[w.heap.size + 1]? = _) := (Below.heap_setCell _ _ _ _ (by simp)).trans E1.out; clear hl b1; obtain ⟨c0, c1, c2, c3, f0, f1, f2, f3⟩ := row25' E0.out; obtain ⟨d0, d1, d2, d3, h0, h1, h2, h3⟩ := row25' E1.out)
    | (go_at_call 127; refine (R2.out _ (HX2.out.keep (keeps_of_below ((belowThen HB.out HL.out.2).setCell (by simp) _)))).mono ?_; rintro e w2 ⟨b', cap', rfl, hl, b2⟩; have HL2 := Lib.hid (And.intro hl b2); have E20 := Lib.hid (kc b2 S0.out); have E21 := Lib.hid (kc b2 S1.out); clear hl b2; clear c0 c1 c2 c3 f0 f1 f2 f3 d0 d1 d2 d3 h0 h1 h2 h3; obtain ⟨c0, c1, c2, c3, f0, f1, f2, f3⟩ := row25' E20.out; obtain ⟨d0, d1, d2, d3, h0, h1, h2, h3⟩ := row25' E21.out))
  obtain ⟨hl, b1⟩ := HL.out
  obtain ⟨hl2, b2⟩ := HL2.out
  have B1 : Below w.heap.size w w1 := below2 b1
  have B1' : Below w.heap.size w (w1.setCell ⟨w.heap.size, 2, none⟩ (.slice (some ⟨b, 0, none⟩) k cap)) := B1.setCell (by simp) _
  have B2 : Below w.heap.size w w2 := belowThen B1' b2
  have sz1 := b1.size
  have sz2 := b2.size
  simp only [World.size_alloc] at sz1
  have g0 : (w2.setCell ⟨w.heap.size, 3, none⟩ (.slice (some ⟨b', 0, none⟩) m cap')).heap[w.heap.size + 1]? = some (.cells #[.int .u8 0, str [], .slice none 0 0, .slice none 0 0] 25 (0, 0)) := (Below.heap_setCell _ _ _ _ (by simp)).trans E21.out
  have g1 := set_block (o := 0) (u := .int .u8 t.op) g0
  have g2 := set_block (o := 1) (u := str t.name) g1
  have g3 := set_block (o := 2) (u := .slice (some ⟨b, 0, none⟩) k cap) g2
  have g4 := set_block (o := 3) (u := .slice (some ⟨b', 0, none⟩) m cap') g3
  have E : ∀ i, i ≠ w.heap.size → i ≠ w.heap.size + 1 → (((((w2.setCell ⟨w.heap.size, 3, none⟩ (.slice (some ⟨b', 0, none⟩) m cap')).setCell ⟨w.heap.size + 1, 0, none⟩ (.int .u8 t.op)).setCell ⟨w.heap.size + 1, 1, none⟩ (str t.name)).setCell ⟨w.heap.size + 1, 2, none⟩ (.slice (some ⟨b, 0, none⟩) k cap)).setCell ⟨w.heap.size + 1, 3, none⟩ (.slice (some ⟨b', 0, none⟩) m cap')).heap[i]? = w2.heap[i]? := fun i h h' => by
    rw [Below.heap_setCell _ _ _ _ h', Below.heap_setCell _ _ _ _ h', Below.heap_setCell _ _ _ _ h', Below.heap_setCell _ _ _ _ h', Below.heap_setCell _ _ _ _ h]
  refine bodyPost_ret (res25 rfl _ _ (w.heap.size + 1) _ _ _ _ (0, 0) rfl g4) rfl ?_
  refine ⟨b, k, cap, b', m, cap', rfl, TmsLent.keep hl (hide_keeps2 fun i h1 h2 => ?_), FmsLent.keep hl2 (hide_keeps2 fun i h1 h2 => ?_), ((((B2.setCell (by simp) _).setCell (by simp) _).setCell (by simp) _).setCell (by simp) _).setCell (by simp) _⟩
  · simp only [lo, World.size_alloc, decide_eq_false_iff_not, Nat.not_lt] at h2 ⊢
    refine ⟨by omega, ?_⟩
    rw [E i (by omega) (by omega), b2.block i (by simpa [World.setCell] using h1)]
    exact Below.heap_setCell _ _ _ _ (by simp; omega)
  · simp only [lo, decide_eq_false_iff_not, Nat.not_lt] at h2 ⊢
    have : w.heap.size + 2 ≤ i := by simp [World.setCell] at h2; omega
    exact ⟨by omega, E i (by omega) (by omega)⟩
theorem lfs_step (l : List Fm) (hh : ∀ t ∈ l, LfT t) : LfS l := by
  intro w a k c hx hn
  have hk := hx.len
  have hlen : k ≤ 1000 := by have := fmsNodes_len l; omega
  have L1 := Lib.hid hk.1
  have H := Lib.hid hh
  have HX := Lib.hid hx
  have HN : Hid (∀ t ∈ l, t.nodes ≤ 1000) := fun t ht => Nat.le_trans (fmsNodes_mem ht) hn
  obtain ⟨i0, hi0, hz0, hs0, hb0⟩ := info_parts info25
  clear hk hh hx hn
  go_enter Tryz.func127, Tryz.ntmps127
  go_wp2_with (at_make; refine wpList_make_own _ rfl _ _ 23 rfl w.heap.size 25 i0 (.agg #[.int .u8 0, .string ⟨#[]⟩, .slice none 0 0, .slice none 0 0]) 4 Tryz.underlying23 hi0 hz0 hs0 _ _ _ (k + 12) rfl rfl (by first | rfl | omega) (by rw [hb0]; omega) (by unfold maxLen; omega) (Nat.le_refl _) ?_; intro w1 hown1 hgrow1)
  go_loopw [3, 4] (fun u i wr => ∃ j : Nat, j ≤ k ∧ i = .int .i64 j ∧ u = .slice (some ⟨w.heap.size, 0, none⟩) j (k + 12) ∧ Hid (LfRel w l w.heap.size k j 0 wr)) (fun _ i _ => k - (intOf i).toNat)
  case atStart => exact ⟨0, Nat.zero_le _, rfl, rfl, LfRel.new hown1 hgrow1⟩
  case round =>
    clear hown1 hgrow1
    obtain ⟨j, hj, rfl, rfl, hs⟩ := hrel
    by_cases hlt : j < k
    · obtain ⟨T, hT⟩ := get_of_lt (l := l) (j := j) (by rw [← L1.out]; exact hlt)
      obtain ⟨bb, off, rfl, hc⟩ := HX.out.get (ne_of_get hT)
      obtain ⟨y0, y1, y2, y3, y4, y5, hy⟩ := hc j _ hT
      have hK := keeps_of_below hs.out.bw
      have c0 := hK _ _ hy.c0; have c1 := hK _ _ hy.c1; have c2 := hK _ _ hy.c2; have c3 := hK _ _ hy.c3
      have X : Hid (FmVal wr T (.agg #[.int .u8 T.op, str T.name, .slice y0 y1 y2, .slice y3 y4 y5])) := ⟨_, _, _, _, _, _, rfl, hy.at_.keep hK, hy.at'.keep hK⟩
      have HT := Lib.hid hT
      clear hc hy hT hK
      go_wp2_with (first
        | (go_at_call 50; refine (H.out T (List.mem_of_getElem? HT.out) _ _ X.out (HN.out T (List.mem_of_getElem? HT.out))).mono ?_; rintro e w3 ⟨b, n, cap, b', n', cap', rfl, hl1, hl2, b3⟩; have hl := And.intro hl1 hl2; clear hl1 hl2; obtain ⟨xs, o3, t3⟩ := (hs.out.moved b3).first; have OW := Lib.hid o3; have TC := Lib.hid t3; have HL := Lib.hid (And.intro hl b3); clear hl b3 o3 t3)
        | (at_builtin; refine wpList_append_fits _ rfl _ _ 23 rfl w.heap.size 25 i0 4 Tryz.underlying23 hi0 hs0 w.heap.size j (k + 12) _ rfl ((OW.out.alloc _).alloc _) ⟨w3.heap.size + 1, 0, none⟩ 1 1 [.int .u8 T.op, str T.name, .slice (some ⟨b, 0, none⟩) n cap, .slice (some ⟨b', 0, none⟩) n' cap'] rfl rfl (news4' _ _ _ _ _ _ _) (one25 _ _ _ _ rfl rfl) (by omega) ?_; intro w4 hown4 hgrow4))
      go_roundw
      case rel =>
        refine ⟨j + 1, by omega, by go_num, rfl, ?_⟩
        obtain ⟨hl, b3⟩ := HL.out
        have LR := hs.out.moved b3
        have bA : ∀ o o', Below w3.heap.size w3 ((w3.alloc o).alloc o') := fun o o' => ((Below.refl _ _).alloc (Nat.le_refl _) _).alloc (by simp) _
        have e1 := LR.lt
        have e2 := LR.ge
        have e3 := hs.out.lt
        exact LfRel.put (FmsC.keep (keep_above fun i h _ => (bA _ _).block i h) _ _ TC.out) (belowThen LR.bw (bA _ _)) (by simp; omega) e2 HT.out
          (FmL_iff.2 ⟨_, _, rfl, TmsLent.keep hl.1 (hide_keeps2 fun i h1 h2 => by simp only [lo, decide_eq_false_iff_not, Nat.not_lt] at h2 ⊢; exact ⟨by omega, (bA _ _).block i h1⟩), FmsLent.keep hl.2 (hide_keeps2 fun i h1 h2 => by simp only [lo, decide_eq_false_iff_not, Nat.not_lt] at h2 ⊢; exact ⟨by omega, (bA _ _).block i h1⟩)⟩) hown4 hgrow4
      case measure => simp [intOf]; omega
    · have hjk : j = k := by omega
      have LR := Lib.hid hs.out
      subst hjk
      clear hs H HX HN
      go_wp2_with fail
      go_loopw [3, 6] (fun u i wr => ∃ p : Nat, p ≤ 12 ∧ i = .int .i64 p ∧ u = .slice (some ⟨w.heap.size, 0, none⟩) (j + p) (j + 12) ∧ Hid (LfRel w l w.heap.size j j p wr)) (fun _ i _ => 12 - (intOf i).toNat)
      case atStart => exact ⟨0, by omega, rfl, rfl, LR.out⟩
      case round =>
        clear LR
        obtain ⟨p, hp, rfl, rfl, hs⟩ := hrel
        by_cases hlt : p < 12
        · go_wp2_with (first
            | (go_at_call 207; refine (markForm_c p hlt _).mono ?_; rintro e w3 ⟨rfl, b3⟩; obtain ⟨xs, o3, t3⟩ := (hs.out.moved b3).own; have OW := Lib.hid o3; have TC := Lib.hid t3; have B3 := Lib.hid b3; clear b3 o3 t3)
            | (at_builtin; refine wpList_append_fits _ rfl _ _ 23 rfl w.heap.size 25 i0 4 Tryz.underlying23 hi0 hs0 w.heap.size (j + p) (j + 12) _ rfl (OW.out.alloc _) ⟨w3.heap.size, 0, none⟩ 1 1 [.int .u8 0, str (mkText p), .slice none 0 0, .slice none 0 0] rfl rfl (news4 _ _ _ _ _ _) (one25 _ _ _ _ rfl rfl) (by omega) ?_; intro w4 hown4 hgrow4))
          go_roundw
          case rel =>
            refine ⟨p + 1, by omega, by go_num, rfl, ?_⟩
            have LR := hs.out.moved B3.out
            have bA : ∀ o, Below w3.heap.size w3 (w3.alloc o) := fun o => (Below.refl _ _).alloc (Nat.le_refl _) _
            have e1 := LR.lt
            have e2 := LR.ge
            exact LfRel.mark (FmsC.keep (keep_above fun i h _ => (bA _).block i h) _ _ TC.out) (belowThen LR.bw (bA _)) (by simp; omega) e2 hown4 hgrow4
          case measure => simp [intOf]; omega
        · have hp12 : p = 12 := by omega
          subst hp12
          have LE := Lib.hid (hs.out.lent L1.out (by unfold maxLen; omega))
          have LB := Lib.hid hs.out.bw
          clear hs
          go_wp2_with fail
          go_ret
          exact ⟨_, _, rfl, LE.out, LB.out⟩
mutual
theorem lentForm_c : ∀ t : Fm, LfT t
  | .mk o n ts fs => lf_of _ (lfs_step fs (lentForms_all fs))
theorem lentForms_all : ∀ l : List Fm, ∀ t ∈ l, LfT t
  | [], _, h => by cases h
  | x :: xs, t, h => by
    rcases List.mem_cons.1 h with e | e
    · rw [e]; exact lentForm_c x
    · exact lentForms_all xs t e
end
theorem lentForms_c (l : List Fm) : LfS l := lfs_step l (lentForms_all l)
end Go.Proofs.YtcandidgaegghaaGreatDoor
