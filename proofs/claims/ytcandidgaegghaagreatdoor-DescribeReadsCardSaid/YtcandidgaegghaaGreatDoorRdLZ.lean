/- describe.readLine at a line of a right proof: lemmas and the steps without premises. Conditions: those of each statement; the program's tables (rows, MaxLen) lie as laid. -/
import Derived.Test.YtcandidgaegghaaGreatDoorRdClZ
import Derived.Test.YtcandidgaegghaaGreatDoorPlFZ
import Derived.Test.YtcandidgaegghaaGreatDoorProvedZ
namespace Go.Proofs.YtcandidgaegghaaGreatDoor
open Go Go.RowKit Ly
set_option maxRecDepth 10000
set_option linter.unusedSimpArgs false
set_option linter.unusedVariables false
attribute [local go_sem] Oper.semAt_some
theorem cutPrefix_yes (p b s : Bs) (h : s = p ++ b) (w : World) : Calls Tryz.prog 39 #[str s, str p] w fun e w' => e = .returned (.tuple #[str b, .bool true]) ∧ w' = w := by
  subst h
  refine (Tryz.strings_CutPrefix ⟨(p ++ b).toArray⟩ ⟨p.toArray⟩ w).mono fun e w' ⟨h1, h2⟩ => ⟨?_, h2⟩
  rw [h1]
  simp only [hasPrefix_append, trimPrefix_append]
theorem cutPrefix_no (p s : Bs) (h : Lib.hasPrefix s p = false) (w : World) : Calls Tryz.prog 39 #[str s, str p] w fun e w' => e = .returned (.tuple #[str s, .bool false]) ∧ w' = w := by
  refine (Tryz.strings_CutPrefix ⟨s.toArray⟩ ⟨p.toArray⟩ w).mono fun e w' ⟨h1, h2⟩ => ⟨?_, h2⟩
  rw [h1]
  simp only [h, Lib.trimPrefix, Bool.false_eq_true, if_false]
/-- readLine's result variables lie at the heap's end of the call's beginning. -/
structure LV (w W : World) : Prop where
  bw : Below w.heap.size w W
  c2 : W.heap[w.heap.size]? = some (.cells #[str [], .int .u8 0, str [], .slice none 0 0, .slice none 0 0, .int .i64 0, .slice none 0 0, .slice none 0 0] 53 (0, 0))
  c3 : W.heap[w.heap.size + 1]? = some (.cells #[.int .i64 0] 3 (0, 0))
  c4 : W.heap[w.heap.size + 1 + 1]? = some (.cells #[.bool false] 4 (0, 0))
theorem LV.below {w A W : World} (h : LV w A) (b : Below A.heap.size A W) : LV w W := ⟨belowThen h.bw b, kc b h.c2, kc b h.c3, kc b h.c4⟩
theorem line_vars (w : World) : LV w (((w.alloc (.cells #[str [], .int .u8 0, str [], .slice none 0 0, .slice none 0 0, .int .i64 0, .slice none 0 0, .slice none 0 0] 53)).alloc (.cells #[.int .i64 0] 3)).alloc (.cells #[.bool false] 4)) := by
  refine ⟨(((Below.refl _ w).alloc (Nat.le_refl _) _).alloc (by simp) _).alloc (by simp; omega) _, keep_new _ (keep_new _ (heap_alloc_new w _)), keep_new _ ?_, ?_⟩
  · have := heap_alloc_new (w.alloc (.cells #[str [], .int .u8 0, str [], .slice none 0 0, .slice none 0 0, .int .i64 0, .slice none 0 0, .slice none 0 0] 53)) (.cells #[.int .i64 0] 3)
    rwa [World.size_alloc] at this
  · have := heap_alloc_new ((w.alloc (.cells #[str [], .int .u8 0, str [], .slice none 0 0, .slice none 0 0, .int .i64 0, .slice none 0 0, .slice none 0 0] 53)).alloc (.cells #[.int .i64 0] 3)) (.cells #[.bool false] 4)
    rwa [World.size_alloc, World.size_alloc] at this
/-- What readLine answers to the line of step q, its premises left out. -/
def RetLine (q : Pf) (n : Nat) (w : World) (e : Ending) (w' : World) : Prop := ∃ v, e = .returned (.tuple #[v, .int .i64 n, .bool true]) ∧ PfVal (hide (lo w) w') (.mk q.rule q.form q.label [] q.marks) v ∧ Below w.heap.size w w'
theorem res120 (tmps : Array Value) (w : World) (g h k : Nat) (a b c d e f x y n t : Value) (h2 : tmps.getD 2 undef = one g) (h3 : tmps.getD 3 undef = one h) (h4 : tmps.getD 4 undef = one k) (hg : w.heap[g]? = some (.cells #[a, b, c, d, e, f, x, y] 53 (0, 0))) (hh : w.heap[h]? = some (.cells #[n] 3 (0, 0))) (hk : w.heap[k]? = some (.cells #[t] 4 (0, 0))) :
    (results Tryz.f120 tmps).run Tryz.prog w = .ok (.tuple #[.agg #[a, b, c, d, e, f, x, y], n, t]) w := by
  obtain ⟨fs, h1⟩ := u53
  have e2 : tmps[2]?.getD undef = .pointer (some ⟨g, 0, none⟩) := by simpa using h2
  have e3 : tmps[3]?.getD undef = .pointer (some ⟨h, 0, none⟩) := by simpa using h3
  have e4 : tmps[4]?.getD undef = .pointer (some ⟨k, 0, none⟩) := by simpa using h4
  have c3 : w.cell? ⟨h, 0, none⟩ = some n := (row9 hh).1
  have c4 : w.cell? ⟨k, 0, none⟩ = some t := (row9 hk).1
  have l3 : (loadVar 3 ⟨h, 0, none⟩).run Tryz.prog w = .ok n w := by simp [loadVar, Tryz.isAgg3, go_sem, c3]
  have l4 : (loadVar 4 ⟨k, 0, none⟩).run Tryz.prog w = .ok t w := by simp [loadVar, Tryz.isAgg4, go_sem, c4]
  simp [results, Tryz.results120, e2, e3, e4, asAddr, run_loadVar_row w g 53 53 #[a, b, c, d, e, f, x, y] (0, 0) _ hg h1 rfl i53, l3, l4]
/-- The world behind the stores of the results. -/
def lineW (W : World) (g : Nat) (a b c d e f x y n t : Value) : World :=
  (((((((((W.setCell ⟨g, 0, none⟩ a).setCell ⟨g, 1, none⟩ b).setCell ⟨g, 2, none⟩ c).setCell ⟨g, 3, none⟩ d).setCell ⟨g, 4, none⟩ e).setCell ⟨g, 5, none⟩ f).setCell ⟨g, 6, none⟩ x).setCell ⟨g, 7, none⟩ y).setCell ⟨g + 1, 0, none⟩ n).setCell ⟨g + 1 + 1, 0, none⟩ t
theorem lineW_low {W : World} {g i : Nat} {a b c d e f x y n t : Value} (h0 : i ≠ g) (h1 : i ≠ g + 1) (h2 : i ≠ g + 1 + 1) : (lineW W g a b c d e f x y n t).heap[i]? = W.heap[i]? := by
  unfold lineW
  rw [Below.heap_setCell _ _ _ _ h2, Below.heap_setCell _ _ _ _ h1, Below.heap_setCell _ _ _ _ h0, Below.heap_setCell _ _ _ _ h0, Below.heap_setCell _ _ _ _ h0, Below.heap_setCell _ _ _ _ h0, Below.heap_setCell _ _ _ _ h0, Below.heap_setCell _ _ _ _ h0, Below.heap_setCell _ _ _ _ h0, Below.heap_setCell _ _ _ _ h0]
theorem drew_heap (W : World) : W.drew.heap = W.heap := rfl
theorem drew_rest (W : World) : W.drew.os = W.os ∧ W.drew.tape = W.tape ∧ W.drew.output = W.output := ⟨rfl, rfl, rfl⟩
theorem setCell_rest (W : World) (a : Addr) (v : Value) : (W.setCell a v).os = W.os ∧ (W.setCell a v).tape = W.tape ∧ (W.setCell a v).output = W.output := ⟨rfl, rfl, rfl⟩
theorem lineW_rest {W : World} {g : Nat} {a b c d e f x y n t : Value} : (lineW W g a b c d e f x y n t).os = W.os ∧ (lineW W g a b c d e f x y n t).tape = W.tape ∧ (lineW W g a b c d e f x y n t).output = W.output := by
  unfold lineW
  simp only [setCell_rest, and_self]
theorem row_fill {W : World} {g : Nat} {a b c d e f x y z0 z1 z2 z3 z4 z5 z6 z7 : Value} (h : W.heap[g]? = some (.cells #[z0, z1, z2, z3, z4, z5, z6, z7] 53 (0, 0))) :
    ((((((((W.setCell ⟨g, 0, none⟩ a).setCell ⟨g, 1, none⟩ b).setCell ⟨g, 2, none⟩ c).setCell ⟨g, 3, none⟩ d).setCell ⟨g, 4, none⟩ e).setCell ⟨g, 5, none⟩ f).setCell ⟨g, 6, none⟩ x).setCell ⟨g, 7, none⟩ y).heap[g]? = some (.cells #[a, b, c, d, e, f, x, y] 53 (0, 0)) := by
  have h0 := set_block (o := 0) (u := a) h
  simp only [List.setIfInBounds_toArray, List.set_cons_zero, List.set_cons_succ] at h0
  have h1 := set_block (o := 1) (u := b) h0
  simp only [List.setIfInBounds_toArray, List.set_cons_zero, List.set_cons_succ] at h1
  have h2 := set_block (o := 2) (u := c) h1
  simp only [List.setIfInBounds_toArray, List.set_cons_zero, List.set_cons_succ] at h2
  have h3 := set_block (o := 3) (u := d) h2
  simp only [List.setIfInBounds_toArray, List.set_cons_zero, List.set_cons_succ] at h3
  have h4 := set_block (o := 4) (u := e) h3
  simp only [List.setIfInBounds_toArray, List.set_cons_zero, List.set_cons_succ] at h4
  have h5 := set_block (o := 5) (u := f) h4
  simp only [List.setIfInBounds_toArray, List.set_cons_zero, List.set_cons_succ] at h5
  have h6 := set_block (o := 6) (u := x) h5
  simp only [List.setIfInBounds_toArray, List.set_cons_zero, List.set_cons_succ] at h6
  have h7 := set_block (o := 7) (u := y) h6
  simp only [List.setIfInBounds_toArray, List.set_cons_zero, List.set_cons_succ] at h7
  exact h7
theorem lineW_size {W : World} {g : Nat} {a b c d e f x y n t : Value} : (lineW W g a b c d e f x y n t).heap.size = W.heap.size := by simp [lineW]
theorem lineW_cells {W : World} {g : Nat} {a b c d e f x y n t z0 z1 z2 z3 z4 z5 z6 z7 n0 t0 : Value} (c2 : W.heap[g]? = some (.cells #[z0, z1, z2, z3, z4, z5, z6, z7] 53 (0, 0))) (c3 : W.heap[g + 1]? = some (.cells #[n0] 3 (0, 0))) (c4 : W.heap[g + 1 + 1]? = some (.cells #[t0] 4 (0, 0))) :
    (lineW W g a b c d e f x y n t).heap[g]? = some (.cells #[a, b, c, d, e, f, x, y] 53 (0, 0)) ∧ (lineW W g a b c d e f x y n t).heap[g + 1]? = some (.cells #[n] 3 (0, 0)) ∧ (lineW W g a b c d e f x y n t).heap[g + 1 + 1]? = some (.cells #[t] 4 (0, 0)) := by
  unfold lineW
  refine ⟨?_, ?_, ?_⟩
  · rw [Below.heap_setCell _ _ _ _ (by show g ≠ g + 1 + 1; omega), Below.heap_setCell _ _ _ _ (by show g ≠ g + 1; omega)]
    exact row_fill c2
  · rw [Below.heap_setCell _ _ _ _ (by show g + 1 ≠ g + 1 + 1; omega)]
    have h : ∀ W : World, W.heap[g + 1]? = some (.cells #[n0] 3 (0, 0)) → (W.setCell ⟨g + 1, 0, none⟩ n).heap[g + 1]? = some (.cells #[n] 3 (0, 0)) := fun W h => set_block h
    refine h _ ?_
    have hn : g + 1 ≠ g := by omega
    rw [Below.heap_setCell _ _ _ _ hn, Below.heap_setCell _ _ _ _ hn, Below.heap_setCell _ _ _ _ hn, Below.heap_setCell _ _ _ _ hn, Below.heap_setCell _ _ _ _ hn, Below.heap_setCell _ _ _ _ hn, Below.heap_setCell _ _ _ _ hn, Below.heap_setCell _ _ _ _ hn]
    exact c3
  · have h : ∀ W : World, W.heap[g + 1 + 1]? = some (.cells #[t0] 4 (0, 0)) → (W.setCell ⟨g + 1 + 1, 0, none⟩ t).heap[g + 1 + 1]? = some (.cells #[t] 4 (0, 0)) := fun W h => set_block h
    refine h _ ?_
    have hn : g + 1 + 1 ≠ g := by omega
    rw [Below.heap_setCell _ _ _ _ (by show g + 1 + 1 ≠ g + 1; omega), Below.heap_setCell _ _ _ _ hn, Below.heap_setCell _ _ _ _ hn, Below.heap_setCell _ _ _ _ hn, Below.heap_setCell _ _ _ _ hn, Below.heap_setCell _ _ _ _ hn, Below.heap_setCell _ _ _ _ hn, Below.heap_setCell _ _ _ _ hn, Below.heap_setCell _ _ _ _ hn]
    exact c4
theorem below_drew1 (W : World) : Below W.heap.size W W.drew := ⟨rfl, rfl, rfl, Nat.le_refl _, fun _ _ => rfl⟩
theorem line_fin {w WA : World} {p : Nat → Bool} (Z : LV w WA) (hp : ∀ k, k ≤ w.heap.size + 1 + 1 → p k = true) {r : Bs} {f : Fm} {lb : Int} {ms : List (List Int)} {fa fb qa : Option Addr} {fn fc fm fd qn qc : Nat} (h1 : TmsAt (hide p WA) f.args (.slice fa fn fc)) (h2 : FmsAt (hide p WA) f.sub (.slice fb fm fd)) (h3 : MarksAt (hide p WA) ms (.slice qa qn qc)) {n : Nat} {W1 W2 : World}
    (hL : W1 = lineW WA w.heap.size (str r) (.int .u8 f.op) (str f.name) (.slice fa fn fc) (.slice fb fm fd) (.int .i64 lb) (.slice none 0 0) (.slice qa qn qc) (.int .i64 n) (.bool true)) (hW : Below W1.heap.size W1 W2) {sub : List Pf} :
    W2.heap[w.heap.size]? = some (.cells #[str r, .int .u8 f.op, str f.name, .slice fa fn fc, .slice fb fm fd, .int .i64 lb, .slice none 0 0, .slice qa qn qc] 53 (0, 0)) ∧ W2.heap[w.heap.size + 1]? = some (.cells #[.int .i64 n] 3 (0, 0)) ∧ W2.heap[w.heap.size + 1 + 1]? = some (.cells #[.bool true] 4 (0, 0)) ∧
      RetLine (.mk r f lb sub ms) n w (.returned (.tuple #[.agg #[str r, .int .u8 f.op, str f.name, .slice fa fn fc, .slice fb fm fd, .int .i64 lb, .slice none 0 0, .slice qa qn qc], .int .i64 n, .bool true])) W2 := by
  have hs1 : W1.heap.size = WA.heap.size := by rw [hL]; exact lineW_size
  have ho1 : W1.os = WA.os ∧ W1.tape = WA.tape ∧ W1.output = WA.output := by rw [hL]; exact lineW_rest
  have hl1 : ∀ i, i ≠ w.heap.size → i ≠ w.heap.size + 1 → i ≠ w.heap.size + 1 + 1 → W1.heap[i]? = WA.heap[i]? := fun i h0 h1 h2 => by rw [hL]; exact lineW_low h0 h1 h2
  obtain ⟨e0, e1, e2⟩ := lineW_cells (a := str r) (b := .int .u8 f.op) (c := str f.name) (d := .slice fa fn fc) (e := .slice fb fm fd) (f := .int .i64 lb) (x := .slice none 0 0) (y := .slice qa qn qc) (n := .int .i64 n) (t := .bool true) Z.c2 Z.c3 Z.c4
  rw [← hL] at e0 e1 e2
  clear hL
  have lt := (Array.getElem?_eq_some_iff.1 e2).1
  have low : ∀ i, w.heap.size + 1 + 1 < i → i < WA.heap.size → W2.heap[i]? = WA.heap[i]? := fun i hi hl => (hW.block i (by omega)).trans (hl1 i (by omega) (by omega) (by omega))
  have lw : ∀ i, i < w.heap.size → W2.heap[i]? = WA.heap[i]? := fun i hi => (hW.block i (by omega)).trans (hl1 i (by omega) (by omega) (by omega))
  have K : Keeps (hide p WA) (hide (lo w) W2) := fun a u hu => by
    have h1 := hide_none hu
    rw [hide_cell h1] at hu
    have h2 : w.heap.size + 1 + 1 < a.block := by
      rcases Nat.lt_or_ge (w.heap.size + 1 + 1) a.block with h | h
      · exact h
      · rw [hp _ h] at h1; cases h1
    rw [hide_cell (by simp [lo]; omega), ← hu]
    exact World.cell?_of_block (low _ h2 (World.block_lt_of_cell? WA _ hu))
  refine ⟨kc hW e0, kc hW e1, kc hW e2, _, rfl, ⟨_, _, _, _, _, _, _, _, _, _, _, _, rfl, h1.keep K, h2.keep K, nilP _, h3.keep K⟩, ?_⟩
  have hz := hW.size
  have hz' := Z.bw.size
  exact ⟨hW.os.trans (ho1.1.trans Z.bw.os), hW.tape.trans (ho1.2.1.trans Z.bw.tape), hW.output.trans (ho1.2.2.trans Z.bw.output), by omega, fun i hi => (lw i hi).trans (Z.bw.block i hi)⟩
set_option maxHeartbeats 4000000 in
theorem readLine_assume (f : Fm) (hf : f.right = true) (l : Nat) (hl : l ≤ 1000000) (ps : List Bs) (w : World) (hm : MaxAt w) (hr : RowsAt w) :
    Calls Tryz.prog 120 #[str (bodyText [] f l ps)] w (RetLine (.mk [] f l [] []) 0 w) := by
  have HM := Lib.hid hm
  have HR := Lib.hid hr
  have TL := Lib.hid (right_len hf).2
  have CU := Lib.hid (body_assume (f := f) (l := (l : Int)) (by omega) ps)
  have XL : Hid ((bodyText [] f (l : Int) ps).length ≤ 1000000000) := by
    have := itoa_len (n := (l : Int)) (by omega) (by omega)
    have h2 := TL.out
    show _ ≤ _
    simp only [bodyText, if_pos, List.length_append, show wAssume.length = 7 from rfl, show cs.length = 2 from rfl]
    omega
  generalize bodyText [] f (l : Int) ps = T at *
  clear hm hr
  refine (callsIn_wide (n := 100)).1 ?_
  refine callsIn_of_wp_marks Tryz.func120 rfl trivial ?_ rfl
  simp only [Tryz.ntmps120, List.size_toArray, List.length_cons, List.length_nil, Nat.reduceAdd, Nat.reduceSub, Array.replicate_succ, Array.replicate_zero, List.push_toArray, List.append_toArray, List.nil_append, List.cons_append]
  have Z := Lib.hid (line_vars w)
  gi_wp2_with (first
    | (refine ⟨trivial, ?_⟩; gi_at_call 32; refine (callsIn_wide.2 (cut_c T cs _ _ _ XL.out CU.out _ (HM.out.keep (keeps_of_below Z.out.bw)))).mono ?_; rintro e w7 ⟨rfl, b7⟩; have Z7 := Lib.hid (Z.out.below b7); clear b7)
    | (refine ⟨trivial, ?_⟩; gi_at_call 39; refine (callsIn_wide.2 (cutPrefix_yes wAssume (Lib.itoa l) _ rfl _)).mono ?_; rintro e w8 ⟨rfl, rfl⟩)
    | (refine ⟨trivial, ?_⟩; gi_at_call 33; refine (callsIn_wide.2 (Atoi_c l hl _)).mono ?_; rintro e w9 ⟨rfl, b9⟩; have Z9 := Lib.hid (Z7.out.below b9); clear b9)
    | (refine ⟨trivial, ?_⟩; gi_at_call 43; refine (callsIn_wide.2 (Read_yes f hf _ (HM.out.keep (keeps_of_below Z9.out.bw)) (HR.out.keep (keeps_of_below Z9.out.bw)))).mono ?_; rintro e w10 ⟨fa, fn, fc, fb, fm, fd, rfl, h1, h2, b10⟩; have Z10 := Lib.hid (Z9.out.below b10); have H1 := Lib.hid h1; have H2 := Lib.hid h2; clear h1 h2 b10))
  have zr := heap_alloc_new w10 (.cells #[.int .u8 f.op, str f.name, .slice fa fn fc, .slice fb fm fd] 25)
  have bA : Below w10.heap.size w10 (w10.alloc (.cells #[.int .u8 f.op, str f.name, .slice fa fn fc, .slice fb fm fd] 25)) := (Below.refl _ _).alloc (Nat.le_refl _) _
  have ZA := Lib.hid (Z10.out.below bA)
  have HA1 := Lib.hid (H1.out.keep (hide_keeps2 (p := lo w9) (q := lo w9) fun k h1 h2 => ⟨h2, bA.block k h1⟩))
  have HA2 := Lib.hid (H2.out.keep (hide_keeps2 (p := lo w9) (q := lo w9) fun k h1 h2 => ⟨h2, bA.block k h1⟩))
  have NG : Hid (w.heap.size + 1 + 1 < w10.heap.size) := (Array.getElem?_eq_some_iff.1 Z10.out.c4).1
  generalize w10.heap.size = g10 at *
  change Code.wpIn _ _ _ _ _ _ (w10.alloc (.cells #[.int .u8 f.op, str f.name, .slice fa fn fc, .slice fb fm fd] 25))
  generalize w10.alloc (.cells #[.int .u8 f.op, str f.name, .slice fa fn fc, .slice fb fm fd] 25) = WA at *
  obtain ⟨p0, p1, p2, p3, -, -, -, -⟩ := row25' zr
  obtain ⟨f0, f1, f2, f3, f4, f5, f6, f7⟩ := row53f ZA.out.c2
  obtain ⟨x0, x1, x2, x3, x4, x5, x6, x7⟩ := row53 ZA.out.c2
  obtain ⟨y3, r3⟩ := row9 ZA.out.c3
  obtain ⟨y4, r4⟩ := row9 ZA.out.c4
  have n1 : g10 ≠ w.heap.size := by have := NG.out; omega
  have n2 : g10 ≠ w.heap.size + 1 := by have := NG.out; omega
  have n3 : g10 ≠ w.heap.size + 1 + 1 := by have := NG.out; omega
  gi_region
  gi_wp2
  obtain ⟨e0, e1, e2, e3⟩ := line_fin (p := lo w9) (n := 0) (r := []) (f := f) (lb := l) (ms := []) (sub := []) ZA.out (fun k hk => by have := (Array.getElem?_eq_some_iff.1 Z9.out.c4).1; simp [lo]; omega) HA1.out HA2.out (nilM _) rfl (below_drew1 _)
  exact ⟨_, res120 _ _ _ _ _ _ _ _ _ _ _ _ _ _ _ rfl rfl rfl e0 e1 e2, e3⟩
theorem rest_len {r : Bs} {ps : List Bs} {f : Fm} {l : Int} {X : Nat} (hr : r ≠ []) (h : (bodyText r f l ps).length ≤ X) : (bodyRest r ps).length + f.text.length + 2 ≤ X := by
  have e : bodyText r f l ps = f.text ++ (cs ++ bodyRest r ps) := by
    unfold bodyText bodyRest
    rw [if_neg hr]
    by_cases h1 : r = hole
    · rw [if_pos h1, if_pos h1]; simp [wStill, cs]
    · rw [if_neg h1, if_neg h1]; simp [wBy, cs]
  rw [e] at h
  simp only [List.length_append, show cs.length = 2 from rfl] at h
  omega
set_option maxHeartbeats 4000000 in
theorem readLine_hole (f : Fm) (hf : f.right = true) (l : Int) (ps : List Bs) (hlen : (bodyText hole f l ps).length ≤ 1000000000) (w : World) (hm : MaxAt w) (hr : RowsAt w) :
    Calls Tryz.prog 120 #[str (bodyText hole f l ps)] w (RetLine (.mk hole f 0 [] []) 0 w) := by
  have HM := Lib.hid hm
  have HR := Lib.hid hr
  have fok := ok_of_right hf
  have CU : Hid (Lib.cut (bodyText hole f l ps) cs = (f.text, [115, 116, 105, 108, 108, 32, 116, 111, 32, 115, 104, 111, 119], true)) := body_else fok (r := hole) (by decide) l ps
  have XL := Lib.hid hlen
  have NA := Lib.hid (Fm.no_assume fok)
  generalize bodyText hole f l ps = T at *
  clear hm hr hlen fok
  refine (callsIn_wide (n := 100)).1 ?_
  refine callsIn_of_wp_marks Tryz.func120 rfl trivial ?_ rfl
  simp only [Tryz.ntmps120, List.size_toArray, List.length_cons, List.length_nil, Nat.reduceAdd, Nat.reduceSub, Array.replicate_succ, Array.replicate_zero, List.push_toArray, List.append_toArray, List.nil_append, List.cons_append]
  have Z := Lib.hid (line_vars w)
  gi_wp2_with (first
    | (refine ⟨trivial, ?_⟩; gi_at_call 32; refine (callsIn_wide.2 (cut_c T cs _ _ _ XL.out CU.out _ (HM.out.keep (keeps_of_below Z.out.bw)))).mono ?_; rintro e w7 ⟨rfl, b7⟩; have Z7 := Lib.hid (Z.out.below b7); clear b7)
    | (refine ⟨trivial, ?_⟩; gi_at_call 39; refine (callsIn_wide.2 (cutPrefix_no wAssume f.text NA.out _)).mono ?_; rintro e w8 ⟨rfl, rfl⟩)
    | (refine ⟨trivial, ?_⟩; gi_at_call 43; refine (callsIn_wide.2 (Read_yes f hf _ (HM.out.keep (keeps_of_below Z7.out.bw)) (HR.out.keep (keeps_of_below Z7.out.bw)))).mono ?_; rintro e w10 ⟨fa, fn, fc, fb, fm, fd, rfl, h1, h2, b10⟩; have Z10 := Lib.hid (Z7.out.below b10); have H1 := Lib.hid h1; have H2 := Lib.hid h2; clear h1 h2 b10; obtain ⟨f0, f1, f2, f3, f4, f5, f6, f7⟩ := row53f Z10.out.c2; obtain ⟨x0, x1, x2, x3, x4, x5, x6, x7⟩ := row53 Z10.out.c2; obtain ⟨y3, r3⟩ := row9 Z10.out.c3; obtain ⟨y4, r4⟩ := row9 Z10.out.c4; have z3 := (Array.getElem?_eq_some_iff.1 Z10.out.c4).1; have z2 : w.heap.size + 1 < w10.heap.size := (by omega); have z1 : w.heap.size < w10.heap.size := (by omega)))
  obtain ⟨e0, e1, e2, e3⟩ := line_fin (p := lo w8) (n := 0) (r := hole) (f := f) (lb := 0) (ms := []) (sub := []) Z10.out (fun k hk => by have := (Array.getElem?_eq_some_iff.1 Z7.out.c4).1; simp [lo]; omega) H1.out H2.out (nilM _) rfl ((Below.refl _ _).alloc (Nat.le_refl _) (.cells #[.int .u8 f.op, str f.name, .slice fa fn fc, .slice fb fm fd] 25))
  exact ⟨_, res120 _ _ _ _ _ _ _ _ _ _ _ _ _ _ _ rfl rfl rfl e0 e1 e2, e3⟩
set_option maxHeartbeats 4000000 in
theorem readLine_bare (r : Bs) (hr' : ruleName r = true) (h0 : r ≠ hole) (f : Fm) (hf : f.right = true) (l : Int) (hlen : (bodyText r f l []).length ≤ 1000000000) (w : World) (hm : MaxAt w) (hr : RowsAt w) :
    Calls Tryz.prog 120 #[str (bodyText r f l [])] w (RetLine (.mk r f 0 [] []) 0 w) := by
  have HM := Lib.hid hm
  have HR := Lib.hid hr
  have fok := ok_of_right hf
  have hne : r ≠ [] := fun e => by rw [e] at hr'; cases hr'
  have CU : Hid (Lib.cut (bodyText r f l []) cs = (f.text, [98, 121, 32] ++ r, true)) := (body_else fok hne l []).trans (by rw [rest_rule h0]; simp)
  have XL := Lib.hid hlen
  have RL := Lib.hid (rest_len hne hlen)
  have NA := Lib.hid (Fm.no_assume fok)
  have CF : Hid (Lib.cut r wFrom = (r, [], false)) := Lib.hid (by have := cut_from hr' []; simpa [joinBy] using this)
  have RL : Hid (r.length ≤ 1000000000) := by have := RL.out; rw [rest_rule h0] at this; show _ ≤ _; simp at this; omega
  obtain ⟨X, hX⟩ : ∃ X, [98, 121, 32] ++ r = X := ⟨_, rfl⟩
  rw [hX] at CU
  have NX : (X == [115, 116, 105, 108, 108, 32, 116, 111, 32, 115, 104, 111, 119]) = false := by rw [← hX]; simp
  generalize bodyText r f l [] = T at *
  clear hm hr hlen fok hr' h0 hne
  refine (callsIn_wide (n := 100)).1 ?_
  refine callsIn_of_wp_marks Tryz.func120 rfl trivial ?_ rfl
  simp only [Tryz.ntmps120, List.size_toArray, List.length_cons, List.length_nil, Nat.reduceAdd, Nat.reduceSub, Array.replicate_succ, Array.replicate_zero, List.push_toArray, List.append_toArray, List.nil_append, List.cons_append]
  have Z := Lib.hid (line_vars w)
  gi_wp2_with (first
    | (have Z10' := Z10.out; clear Z10'; first
        | (refine ⟨trivial, ?_⟩; gi_at_call 39; refine (callsIn_wide.2 (cutPrefix_yes [98, 121, 32] r X hX.symm _)).mono ?_; rintro e w11 ⟨rfl, rfl⟩)
        | (refine ⟨trivial, ?_⟩; gi_at_call 32; refine (callsIn_wide.2 (cut_c r wFrom _ _ _ RL.out CF.out _ ((HM.out.keep (keeps_of_below Z10.out.bw)).keep (keeps1 _ _)))).mono ?_; rintro e w12 ⟨rfl, b12⟩; have Z12 := Lib.hid ((Z10.out.below ((Below.refl _ _).alloc (Nat.le_refl _) (.cells #[.int .u8 f.op, str f.name, .slice fa fn fc, .slice fb fm fd] 25))).below b12); have zr := kc b12 (heap_alloc_new w10 (.cells #[.int .u8 f.op, str f.name, .slice fa fn fc, .slice fb fm fd] 25)); have B12 := Lib.hid (belowThen ((Below.refl _ _).alloc (Nat.le_refl _) (.cells #[.int .u8 f.op, str f.name, .slice fa fn fc, .slice fb fm fd] 25)) b12); obtain ⟨p0, p1, p2, p3, -, -, -, -⟩ := row25' zr; clear zr b12; obtain ⟨f0, f1, f2, f3, f4, f5, f6, f7⟩ := row53f Z12.out.c2; obtain ⟨x0, x1, x2, x3, x4, x5, x6, x7⟩ := row53 Z12.out.c2; obtain ⟨y3, r3⟩ := row9 Z12.out.c3; obtain ⟨y4, r4⟩ := row9 Z12.out.c4; have z3 := (Array.getElem?_eq_some_iff.1 Z12.out.c4).1; have z2 : w.heap.size + 1 < w12.heap.size := (by omega); have z1 : w.heap.size < w12.heap.size := (by omega)))
    | (refine ⟨trivial, ?_⟩; gi_at_call 32; refine (callsIn_wide.2 (cut_c T cs _ _ _ XL.out CU.out _ (HM.out.keep (keeps_of_below Z.out.bw)))).mono ?_; rintro e w7 ⟨rfl, b7⟩; have Z7 := Lib.hid (Z.out.below b7); clear b7)
    | (refine ⟨trivial, ?_⟩; gi_at_call 39; refine (callsIn_wide.2 (cutPrefix_no wAssume f.text NA.out _)).mono ?_; rintro e w8 ⟨rfl, rfl⟩)
    | (refine ⟨trivial, ?_⟩; gi_at_call 43; refine (callsIn_wide.2 (Read_yes f hf _ (HM.out.keep (keeps_of_below Z7.out.bw)) (HR.out.keep (keeps_of_below Z7.out.bw)))).mono ?_; rintro e w10 ⟨fa, fn, fc, fb, fm, fd, rfl, h1, h2, b10⟩; have Z10 := Lib.hid (Z7.out.below b10); have H1 := Lib.hid h1; have H2 := Lib.hid h2; clear h1 h2 b10))
  have K1 : Keeps (hide (lo w8) w10) (hide (lo w8) w12) := hide_keeps2 fun k h1 h2 => ⟨h2, B12.out.block k h1⟩
  obtain ⟨e0, e1, e2, e3⟩ := line_fin (p := lo w8) (n := 0) (r := r) (f := f) (lb := 0) (ms := []) (sub := []) Z12.out (fun k hk => by have := (Array.getElem?_eq_some_iff.1 Z7.out.c4).1; simp [lo]; omega) (H1.out.keep K1) (H2.out.keep K1) (nilM _) rfl ((Below.refl _ _).alloc (Nat.le_refl _) (.cells #[str r, .int .u8 f.op, str f.name, .slice fa fn fc, .slice fb fm fd, .int .i64 0, .slice none 0 0, .slice none 0 0] 53))
  exact ⟨_, res120 _ _ _ _ _ _ _ _ _ _ _ _ _ _ _ rfl rfl rfl e0 e1 e2, e3⟩
end Go.Proofs.YtcandidgaegghaaGreatDoor
