/- describe.readLine at a line of a right proof: lemmas and the steps without premises. Conditions: those of each statement; the program's tables (rows, MaxLen) lie as laid. describe.readLine at the line of a step with premises: the rounds of its two loops. Conditions: none but those of each statement. describe.readLine at the line of a step with premises: the walk. Conditions: those of each statement; the program's tables (rows, MaxLen) lie as laid. -/
import Derived.Test.YtcandidgaegghaaGreatDoorRdClZ
import Derived.Test.YtcandidgaegghaaGreatDoorPlFZ
import Derived.Test.YtcandidgaegghaaGreatDoorProvedZ
import Derived.Sort.CutIn
import Derived.Test.YtcandidgaegghaaGreatDoorModBZ
section
namespace Go.Proofs.YtcandidgaegghaaGreatDoor
open Go Go.RowKit Ly
set_option maxRecDepth 10000
set_option linter.unusedSimpArgs false
set_option linter.unusedVariables false
attribute [local go_sem] Oper.semAt_some
theorem cutPrefix_yes (p b s : Bs) (h : s = p ++ b) (w : World) : Calls Tryz.prog 39 #[str s, str p] w fun e w' => e = .returned (.tuple #[str b, .bool true]) ∧ w' = w := by
  subst h
  refine (Tryz.strings_CutPrefix ⟨(p ++ b).toArray⟩ ⟨p.toArray⟩ w).mono fun e w' ⟨h1, h2⟩ => ⟨?_, h2⟩
  rw [h1]
  simp only [hasPrefix_append, trimPrefix_append]
theorem cutPrefix_no (p s : Bs) (h : Lib.hasPrefix s p = false) (w : World) : Calls Tryz.prog 39 #[str s, str p] w fun e w' => e = .returned (.tuple #[str s, .bool false]) ∧ w' = w := by
  refine (Tryz.strings_CutPrefix ⟨s.toArray⟩ ⟨p.toArray⟩ w).mono fun e w' ⟨h1, h2⟩ => ⟨?_, h2⟩
  rw [h1]
  simp only [h, Lib.trimPrefix, Bool.false_eq_true, if_false]
/-- readLine's result variables lie at the heap's end of the call's beginning. -/
structure LV (w W : World) : Prop where
  bw : Below w.heap.size w W
  c2 : W.heap[w.heap.size]? = some (.cells #[str [], .int .u8 0, str [], .slice none 0 0, .slice none 0 0, .int .i64 0, .slice none 0 0, .slice none 0 0] 53 (0, 0))
  c3 : W.heap[w.heap.size + 1]? = some (.cells #[.int .i64 0] 3 (0, 0))
  c4 : W.heap[w.heap.size + 1 + 1]? = some (.cells #[.bool false] 4 (0, 0))
theorem LV.below {w A W : World} (h : LV w A) (b : Below A.heap.size A W) : LV w W := ⟨belowThen h.bw b, kc b h.c2, kc b h.c3, kc b h.c4⟩
theorem line_vars (w : World) : LV w (((w.alloc (.cells #[str [], .int .u8 0, str [], .slice none 0 0, .slice none 0 0, .int .i64 0, .slice none 0 0, .slice none 0 0] 53)).alloc (.cells #[.int .i64 0] 3)).alloc (.cells #[.bool false] 4)) := by
  refine ⟨(((Below.refl _ w).alloc (Nat.le_refl _) _).alloc (by simp) _).alloc (by simp; omega) _, keep_new _ (keep_new _ (heap_alloc_new w _)), keep_new _ ?_, ?_⟩
  · have := heap_alloc_new (w.alloc (.cells #[str [], .int .u8 0, str [], .slice none 0 0, .slice none 0 0, .int .i64 0, .slice none 0 0, .slice none 0 0] 53)) (.cells #[.int .i64 0] 3)
    rwa [World.size_alloc] at this
  · have := heap_alloc_new ((w.alloc (.cells #[str [], .int .u8 0, str [], .slice none 0 0, .slice none 0 0, .int .i64 0, .slice none 0 0, .slice none 0 0] 53)).alloc (.cells #[.int .i64 0] 3)) (.cells #[.bool false] 4)
    rwa [World.size_alloc, World.size_alloc] at this
/-- What readLine answers to the line of step q, its premises left out. -/
def RetLine (q : Pf) (n : Nat) (w : World) (e : Ending) (w' : World) : Prop := ∃ v, e = .returned (.tuple #[v, .int .i64 n, .bool true]) ∧ PfVal (hide (lo w) w') (.mk q.rule q.form q.label [] q.marks) v ∧ Below w.heap.size w w'
theorem res120 (tmps : Array Value) (w : World) (g h k : Nat) (a b c d e f x y n t : Value) (h2 : tmps.getD 2 undef = one g) (h3 : tmps.getD 3 undef = one h) (h4 : tmps.getD 4 undef = one k) (hg : w.heap[g]? = some (.cells #[a, b, c, d, e, f, x, y] 53 (0, 0))) (hh : w.heap[h]? = some (.cells #[n] 3 (0, 0))) (hk : w.heap[k]? = some (.cells #[t] 4 (0, 0))) :
    (results Tryz.f120 tmps).run Tryz.prog w = .ok (.tuple #[.agg #[a, b, c, d, e, f, x, y], n, t]) w := by
  obtain ⟨fs, h1⟩ := u53
  have e2 : tmps[2]?.getD undef = .pointer (some ⟨g, 0, none⟩) := by simpa using h2
  have e3 : tmps[3]?.getD undef = .pointer (some ⟨h, 0, none⟩) := by simpa using h3
  have e4 : tmps[4]?.getD undef = .pointer (some ⟨k, 0, none⟩) := by simpa using h4
  have c3 : w.cell? ⟨h, 0, none⟩ = some n := (row9 hh).1
  have c4 : w.cell? ⟨k, 0, none⟩ = some t := (row9 hk).1
  have l3 : (loadVar 3 ⟨h, 0, none⟩).run Tryz.prog w = .ok n w := by simp [loadVar, Tryz.isAgg3, go_sem, c3]
  have l4 : (loadVar 4 ⟨k, 0, none⟩).run Tryz.prog w = .ok t w := by simp [loadVar, Tryz.isAgg4, go_sem, c4]
  simp [results, Tryz.results120, e2, e3, e4, asAddr, run_loadVar_row w g 53 53 #[a, b, c, d, e, f, x, y] (0, 0) _ hg h1 rfl i53, l3, l4]
/-- The world behind the stores of the results. -/
def lineW (W : World) (g : Nat) (a b c d e f x y n t : Value) : World :=
  (((((((((W.setCell ⟨g, 0, none⟩ a).setCell ⟨g, 1, none⟩ b).setCell ⟨g, 2, none⟩ c).setCell ⟨g, 3, none⟩ d).setCell ⟨g, 4, none⟩ e).setCell ⟨g, 5, none⟩ f).setCell ⟨g, 6, none⟩ x).setCell ⟨g, 7, none⟩ y).setCell ⟨g + 1, 0, none⟩ n).setCell ⟨g + 1 + 1, 0, none⟩ t
theorem lineW_low {W : World} {g i : Nat} {a b c d e f x y n t : Value} (h0 : i ≠ g) (h1 : i ≠ g + 1) (h2 : i ≠ g + 1 + 1) : (lineW W g a b c d e f x y n t).heap[i]? = W.heap[i]? := by
  unfold lineW
  rw [Below.heap_setCell _ _ _ _ h2, Below.heap_setCell _ _ _ _ h1, Below.heap_setCell _ _ _ _ h0, Below.heap_setCell _ _ _ _ h0, Below.heap_setCell _ _ _ _ h0, Below.heap_setCell _ _ _ _ h0, Below.heap_setCell _ _ _ _ h0, Below.heap_setCell _ _ _ _ h0, Below.heap_setCell _ _ _ _ h0, Below.heap_setCell _ _ _ _ h0]
theorem drew_heap (W : World) : W.drew.heap = W.heap := rfl
theorem setCell_rest (W : World) (a : Addr) (v : Value) : (W.setCell a v).os = W.os ∧ (W.setCell a v).tape = W.tape ∧ (W.setCell a v).output = W.output := ⟨rfl, rfl, rfl⟩
theorem lineW_rest {W : World} {g : Nat} {a b c d e f x y n t : Value} : (lineW W g a b c d e f x y n t).os = W.os ∧ (lineW W g a b c d e f x y n t).tape = W.tape ∧ (lineW W g a b c d e f x y n t).output = W.output := by
  unfold lineW
  simp only [setCell_rest, and_self]
theorem row_fill {W : World} {g : Nat} {a b c d e f x y z0 z1 z2 z3 z4 z5 z6 z7 : Value} (h : W.heap[g]? = some (.cells #[z0, z1, z2, z3, z4, z5, z6, z7] 53 (0, 0))) :
    ((((((((W.setCell ⟨g, 0, none⟩ a).setCell ⟨g, 1, none⟩ b).setCell ⟨g, 2, none⟩ c).setCell ⟨g, 3, none⟩ d).setCell ⟨g, 4, none⟩ e).setCell ⟨g, 5, none⟩ f).setCell ⟨g, 6, none⟩ x).setCell ⟨g, 7, none⟩ y).heap[g]? = some (.cells #[a, b, c, d, e, f, x, y] 53 (0, 0)) := by
  have h0 := set_block (o := 0) (u := a) h
  simp only [List.setIfInBounds_toArray, List.set_cons_zero, List.set_cons_succ] at h0
  have h1 := set_block (o := 1) (u := b) h0
  simp only [List.setIfInBounds_toArray, List.set_cons_zero, List.set_cons_succ] at h1
  have h2 := set_block (o := 2) (u := c) h1
  simp only [List.setIfInBounds_toArray, List.set_cons_zero, List.set_cons_succ] at h2
  have h3 := set_block (o := 3) (u := d) h2
  simp only [List.setIfInBounds_toArray, List.set_cons_zero, List.set_cons_succ] at h3
  have h4 := set_block (o := 4) (u := e) h3
  simp only [List.setIfInBounds_toArray, List.set_cons_zero, List.set_cons_succ] at h4
  have h5 := set_block (o := 5) (u := f) h4
  simp only [List.setIfInBounds_toArray, List.set_cons_zero, List.set_cons_succ] at h5
  have h6 := set_block (o := 6) (u := x) h5
  simp only [List.setIfInBounds_toArray, List.set_cons_zero, List.set_cons_succ] at h6
  have h7 := set_block (o := 7) (u := y) h6
  simp only [List.setIfInBounds_toArray, List.set_cons_zero, List.set_cons_succ] at h7
  exact h7
theorem lineW_size {W : World} {g : Nat} {a b c d e f x y n t : Value} : (lineW W g a b c d e f x y n t).heap.size = W.heap.size := by simp [lineW]
theorem lineW_cells {W : World} {g : Nat} {a b c d e f x y n t z0 z1 z2 z3 z4 z5 z6 z7 n0 t0 : Value} (c2 : W.heap[g]? = some (.cells #[z0, z1, z2, z3, z4, z5, z6, z7] 53 (0, 0))) (c3 : W.heap[g + 1]? = some (.cells #[n0] 3 (0, 0))) (c4 : W.heap[g + 1 + 1]? = some (.cells #[t0] 4 (0, 0))) :
    (lineW W g a b c d e f x y n t).heap[g]? = some (.cells #[a, b, c, d, e, f, x, y] 53 (0, 0)) ∧ (lineW W g a b c d e f x y n t).heap[g + 1]? = some (.cells #[n] 3 (0, 0)) ∧ (lineW W g a b c d e f x y n t).heap[g + 1 + 1]? = some (.cells #[t] 4 (0, 0)) := by
  unfold lineW
  refine ⟨?_, ?_, ?_⟩
  · rw [Below.heap_setCell _ _ _ _ (by show g ≠ g + 1 + 1; omega), Below.heap_setCell _ _ _ _ (by show g ≠ g + 1; omega)]
    exact row_fill c2
  · rw [Below.heap_setCell _ _ _ _ (by show g + 1 ≠ g + 1 + 1; omega)]
    have h : ∀ W : World, W.heap[g + 1]? = some (.cells #[n0] 3 (0, 0)) → (W.setCell ⟨g + 1, 0, none⟩ n).heap[g + 1]? = some (.cells #[n] 3 (0, 0)) := fun W h => set_block h
    refine h _ ?_
    have hn : g + 1 ≠ g := by omega
    rw [Below.heap_setCell _ _ _ _ hn, Below.heap_setCell _ _ _ _ hn, Below.heap_setCell _ _ _ _ hn, Below.heap_setCell _ _ _ _ hn, Below.heap_setCell _ _ _ _ hn, Below.heap_setCell _ _ _ _ hn, Below.heap_setCell _ _ _ _ hn, Below.heap_setCell _ _ _ _ hn]
    exact c3
  · have h : ∀ W : World, W.heap[g + 1 + 1]? = some (.cells #[t0] 4 (0, 0)) → (W.setCell ⟨g + 1 + 1, 0, none⟩ t).heap[g + 1 + 1]? = some (.cells #[t] 4 (0, 0)) := fun W h => set_block h
    refine h _ ?_
    have hn : g + 1 + 1 ≠ g := by omega
    rw [Below.heap_setCell _ _ _ _ (by show g + 1 + 1 ≠ g + 1; omega), Below.heap_setCell _ _ _ _ hn, Below.heap_setCell _ _ _ _ hn, Below.heap_setCell _ _ _ _ hn, Below.heap_setCell _ _ _ _ hn, Below.heap_setCell _ _ _ _ hn, Below.heap_setCell _ _ _ _ hn, Below.heap_setCell _ _ _ _ hn, Below.heap_setCell _ _ _ _ hn]
    exact c4
theorem below_drew1 (W : World) : Below W.heap.size W W.drew := ⟨rfl, rfl, rfl, Nat.le_refl _, fun _ _ => rfl⟩
theorem line_fin {w WA : World} {p : Nat → Bool} (Z : LV w WA) (hp : ∀ k, k ≤ w.heap.size + 1 + 1 → p k = true) {r : Bs} {f : Fm} {lb : Int} {ms : List (List Int)} {fa fb qa : Option Addr} {fn fc fm fd qn qc : Nat} (h1 : TmsAt (hide p WA) f.args (.slice fa fn fc)) (h2 : FmsAt (hide p WA) f.sub (.slice fb fm fd)) (h3 : MarksAt (hide p WA) ms (.slice qa qn qc)) {n : Nat} {W1 W2 : World}
    (hL : W1 = lineW WA w.heap.size (str r) (.int .u8 f.op) (str f.name) (.slice fa fn fc) (.slice fb fm fd) (.int .i64 lb) (.slice none 0 0) (.slice qa qn qc) (.int .i64 n) (.bool true)) (hW : Below W1.heap.size W1 W2) {sub : List Pf} :
    W2.heap[w.heap.size]? = some (.cells #[str r, .int .u8 f.op, str f.name, .slice fa fn fc, .slice fb fm fd, .int .i64 lb, .slice none 0 0, .slice qa qn qc] 53 (0, 0)) ∧ W2.heap[w.heap.size + 1]? = some (.cells #[.int .i64 n] 3 (0, 0)) ∧ W2.heap[w.heap.size + 1 + 1]? = some (.cells #[.bool true] 4 (0, 0)) ∧
      RetLine (.mk r f lb sub ms) n w (.returned (.tuple #[.agg #[str r, .int .u8 f.op, str f.name, .slice fa fn fc, .slice fb fm fd, .int .i64 lb, .slice none 0 0, .slice qa qn qc], .int .i64 n, .bool true])) W2 := by
  have hs1 : W1.heap.size = WA.heap.size := by rw [hL]; exact lineW_size
  have ho1 : W1.os = WA.os ∧ W1.tape = WA.tape ∧ W1.output = WA.output := by rw [hL]; exact lineW_rest
  have hl1 : ∀ i, i ≠ w.heap.size → i ≠ w.heap.size + 1 → i ≠ w.heap.size + 1 + 1 → W1.heap[i]? = WA.heap[i]? := fun i h0 h1 h2 => by rw [hL]; exact lineW_low h0 h1 h2
  obtain ⟨e0, e1, e2⟩ := lineW_cells (a := str r) (b := .int .u8 f.op) (c := str f.name) (d := .slice fa fn fc) (e := .slice fb fm fd) (f := .int .i64 lb) (x := .slice none 0 0) (y := .slice qa qn qc) (n := .int .i64 n) (t := .bool true) Z.c2 Z.c3 Z.c4
  rw [← hL] at e0 e1 e2
  clear hL
  have lt := (Array.getElem?_eq_some_iff.1 e2).1
  have low : ∀ i, w.heap.size + 1 + 1 < i → i < WA.heap.size → W2.heap[i]? = WA.heap[i]? := fun i hi hl => (hW.block i (by omega)).trans (hl1 i (by omega) (by omega) (by omega))
  have lw : ∀ i, i < w.heap.size → W2.heap[i]? = WA.heap[i]? := fun i hi => (hW.block i (by omega)).trans (hl1 i (by omega) (by omega) (by omega))
  have K : Keeps (hide p WA) (hide (lo w) W2) := fun a u hu => by
    have h1 := hide_none hu
    rw [hide_cell h1] at hu
    have h2 : w.heap.size + 1 + 1 < a.block := by
      rcases Nat.lt_or_ge (w.heap.size + 1 + 1) a.block with h | h
      · exact h
      · rw [hp _ h] at h1; cases h1
    rw [hide_cell (by simp [lo]; omega), ← hu]
    exact World.cell?_of_block (low _ h2 (World.block_lt_of_cell? WA _ hu))
  refine ⟨kc hW e0, kc hW e1, kc hW e2, _, rfl, ⟨_, _, _, _, _, _, _, _, _, _, _, _, rfl, h1.keep K, h2.keep K, nilP _, h3.keep K⟩, ?_⟩
  have hz := hW.size
  have hz' := Z.bw.size
  exact ⟨hW.os.trans (ho1.1.trans Z.bw.os), hW.tape.trans (ho1.2.1.trans Z.bw.tape), hW.output.trans (ho1.2.2.trans Z.bw.output), by omega, fun i hi => (lw i hi).trans (Z.bw.block i hi)⟩
set_option maxHeartbeats 4000000 in
theorem readLine_assume (f : Fm) (hf : f.right = true) (l : Nat) (hl : l ≤ 1000000) (ps : List Bs) (w : World) (hm : MaxAt w) (hr : RowsAt w) :
    Calls Tryz.prog 120 #[str (bodyText [] f l ps)] w (RetLine (.mk [] f l [] []) 0 w) := by
  have HM := Lib.hid hm
  have HR := Lib.hid hr
  have TL := Lib.hid (right_len hf).2
  have CU := Lib.hid (body_assume (f := f) (l := (l : Int)) (by omega) ps)
  have XL : Hid ((bodyText [] f (l : Int) ps).length ≤ 1000000000) := by
    have := itoa_len (n := (l : Int)) (by omega) (by omega)
    have h2 := TL.out
    show _ ≤ _
    simp only [bodyText, if_pos, List.length_append, show wAssume.length = 7 from rfl, show cs.length = 2 from rfl]
    omega
  generalize bodyText [] f (l : Int) ps = T at *
  clear hm hr
  refine (callsIn_wide (n := 100)).1 ?_
  refine callsIn_of_wp_marks Tryz.func120 rfl trivial ?_ rfl
  simp only [Tryz.ntmps120, List.size_toArray, List.length_cons, List.length_nil, Nat.reduceAdd, Nat.reduceSub, Array.replicate_succ, Array.replicate_zero, List.push_toArray, List.append_toArray, List.nil_append, List.cons_append]
  have Z := Lib.hid (line_vars w)
  gi_wp2_with (first
    | (refine ⟨trivial, ?_⟩; gi_at_call 32; refine (callsIn_wide.2 (cut_c T cs _ _ _ XL.out CU.out _ (HM.out.keep (keeps_of_below Z.out.bw)))).mono ?_; rintro e w7 ⟨rfl, b7⟩; have Z7 := Lib.hid (Z.out.below b7); clear b7)
    | (refine ⟨trivial, ?_⟩; gi_at_call 39; refine (callsIn_wide.2 (cutPrefix_yes wAssume (Lib.itoa l) _ rfl _)).mono ?_; rintro e w8 ⟨rfl, rfl⟩)
    | (refine ⟨trivial, ?_⟩; gi_at_call 33; refine (callsIn_wide.2 (Atoi_c l hl _)).mono ?_; rintro e w9 ⟨rfl, b9⟩; have Z9 := Lib.hid (Z7.out.below b9); clear b9)
    | (refine ⟨trivial, ?_⟩; gi_at_call 43; refine (callsIn_wide.2 (Read_yes f hf _ (HM.out.keep (keeps_of_below Z9.out.bw)) (HR.out.keep (keeps_of_below Z9.out.bw)))).mono ?_; rintro e w10 ⟨fa, fn, fc, fb, fm, fd, rfl, h1, h2, b10⟩; have Z10 := Lib.hid (Z9.out.below b10); have H1 := Lib.hid h1; have H2 := Lib.hid h2; clear h1 h2 b10))
  have zr := heap_alloc_new w10 (.cells #[.int .u8 f.op, str f.name, .slice fa fn fc, .slice fb fm fd] 25)
  have bA : Below w10.heap.size w10 (w10.alloc (.cells #[.int .u8 f.op, str f.name, .slice fa fn fc, .slice fb fm fd] 25)) := (Below.refl _ _).alloc (Nat.le_refl _) _
  have ZA := Lib.hid (Z10.out.below bA)
  have HA1 := Lib.hid (H1.out.keep (hide_keeps2 (p := lo w9) (q := lo w9) fun k h1 h2 => ⟨h2, bA.block k h1⟩))
  have HA2 := Lib.hid (H2.out.keep (hide_keeps2 (p := lo w9) (q := lo w9) fun k h1 h2 => ⟨h2, bA.block k h1⟩))
  have NG : Hid (w.heap.size + 1 + 1 < w10.heap.size) := (Array.getElem?_eq_some_iff.1 Z10.out.c4).1
  generalize w10.heap.size = g10 at *
  change Code.wpIn _ _ _ _ _ _ (w10.alloc (.cells #[.int .u8 f.op, str f.name, .slice fa fn fc, .slice fb fm fd] 25))
  generalize w10.alloc (.cells #[.int .u8 f.op, str f.name, .slice fa fn fc, .slice fb fm fd] 25) = WA at *
  obtain ⟨p0, p1, p2, p3, -, -, -, -⟩ := row25' zr
  obtain ⟨f0, f1, f2, f3, f4, f5, f6, f7⟩ := row53f ZA.out.c2
  obtain ⟨x0, x1, x2, x3, x4, x5, x6, x7⟩ := row53 ZA.out.c2
  obtain ⟨y3, r3⟩ := row9 ZA.out.c3
  obtain ⟨y4, r4⟩ := row9 ZA.out.c4
  have n1 : g10 ≠ w.heap.size := by have := NG.out; omega
  have n2 : g10 ≠ w.heap.size + 1 := by have := NG.out; omega
  have n3 : g10 ≠ w.heap.size + 1 + 1 := by have := NG.out; omega
  gi_region
  gi_wp2
  obtain ⟨e0, e1, e2, e3⟩ := line_fin (p := lo w9) (n := 0) (r := []) (f := f) (lb := l) (ms := []) (sub := []) ZA.out (fun k hk => by have := (Array.getElem?_eq_some_iff.1 Z9.out.c4).1; simp [lo]; omega) HA1.out HA2.out (nilM _) rfl (below_drew1 _)
  exact ⟨_, res120 _ _ _ _ _ _ _ _ _ _ _ _ _ _ _ rfl rfl rfl e0 e1 e2, e3⟩
theorem rest_len {r : Bs} {ps : List Bs} {f : Fm} {l : Int} {X : Nat} (hr : r ≠ []) (h : (bodyText r f l ps).length ≤ X) : (bodyRest r ps).length + f.text.length + 2 ≤ X := by
  have e : bodyText r f l ps = f.text ++ (cs ++ bodyRest r ps) := by
    unfold bodyText bodyRest
    rw [if_neg hr]
    by_cases h1 : r = hole
    · rw [if_pos h1, if_pos h1]; simp [wStill, cs]
    · rw [if_neg h1, if_neg h1]; simp [wBy, cs]
  rw [e] at h
  simp only [List.length_append, show cs.length = 2 from rfl] at h
  omega
set_option maxHeartbeats 4000000 in
theorem readLine_hole (f : Fm) (hf : f.right = true) (l : Int) (ps : List Bs) (hlen : (bodyText hole f l ps).length ≤ 1000000000) (w : World) (hm : MaxAt w) (hr : RowsAt w) :
    Calls Tryz.prog 120 #[str (bodyText hole f l ps)] w (RetLine (.mk hole f 0 [] []) 0 w) := by
  have HM := Lib.hid hm
  have HR := Lib.hid hr
  have fok := ok_of_right hf
  have CU : Hid (Lib.cut (bodyText hole f l ps) cs = (f.text, [115, 116, 105, 108, 108, 32, 116, 111, 32, 115, 104, 111, 119], true)) := body_else fok (r := hole) (by decide) l ps
  have XL := Lib.hid hlen
  have NA := Lib.hid (Fm.no_assume fok)
  generalize bodyText hole f l ps = T at *
  clear hm hr hlen fok
  refine (callsIn_wide (n := 100)).1 ?_
  refine callsIn_of_wp_marks Tryz.func120 rfl trivial ?_ rfl
  simp only [Tryz.ntmps120, List.size_toArray, List.length_cons, List.length_nil, Nat.reduceAdd, Nat.reduceSub, Array.replicate_succ, Array.replicate_zero, List.push_toArray, List.append_toArray, List.nil_append, List.cons_append]
  have Z := Lib.hid (line_vars w)
  gi_wp2_with (first
    | (refine ⟨trivial, ?_⟩; gi_at_call 32; refine (callsIn_wide.2 (cut_c T cs _ _ _ XL.out CU.out _ (HM.out.keep (keeps_of_below Z.out.bw)))).mono ?_; rintro e w7 ⟨rfl, b7⟩; have Z7 := Lib.hid (Z.out.below b7); clear b7)
    | (refine ⟨trivial, ?_⟩; gi_at_call 39; refine (callsIn_wide.2 (cutPrefix_no wAssume f.text NA.out _)).mono ?_; rintro e w8 ⟨rfl, rfl⟩)
    | (refine ⟨trivial, ?_⟩; gi_at_call 43; refine (callsIn_wide.2 (Read_yes f hf _ (HM.out.keep (keeps_of_below Z7.out.bw)) (HR.out.keep (keeps_of_below Z7.out.bw)))).mono ?_; rintro e w10 ⟨fa, fn, fc, fb, fm, fd, rfl, h1, h2, b10⟩; have Z10 := Lib.hid (Z7.out.below b10); have H1 := Lib.hid h1; have H2 := Lib.hid h2; clear h1 h2 b10; obtain ⟨f0, f1, f2, f3, f4, f5, f6, f7⟩ := row53f Z10.out.c2; obtain ⟨x0, x1, x2, x3, x4, x5, x6, x7⟩ := row53 Z10.out.c2; obtain ⟨y3, r3⟩ := row9 Z10.out.c3; obtain ⟨y4, r4⟩ := row9 Z10.out.c4; have z3 := (Array.getElem?_eq_some_iff.1 Z10.out.c4).1; have z2 : w.heap.size + 1 < w10.heap.size := (by omega); have z1 : w.heap.size < w10.heap.size := (by omega)))
  obtain ⟨e0, e1, e2, e3⟩ := line_fin (p := lo w8) (n := 0) (r := hole) (f := f) (lb := 0) (ms := []) (sub := []) Z10.out (fun k hk => by have := (Array.getElem?_eq_some_iff.1 Z7.out.c4).1; simp [lo]; omega) H1.out H2.out (nilM _) rfl ((Below.refl _ _).alloc (Nat.le_refl _) (.cells #[.int .u8 f.op, str f.name, .slice fa fn fc, .slice fb fm fd] 25))
  exact ⟨_, res120 _ _ _ _ _ _ _ _ _ _ _ _ _ _ _ rfl rfl rfl e0 e1 e2, e3⟩
set_option maxHeartbeats 4000000 in
theorem readLine_bare (r : Bs) (hr' : ruleName r = true) (h0 : r ≠ hole) (f : Fm) (hf : f.right = true) (l : Int) (hlen : (bodyText r f l []).length ≤ 1000000000) (w : World) (hm : MaxAt w) (hr : RowsAt w) :
    Calls Tryz.prog 120 #[str (bodyText r f l [])] w (RetLine (.mk r f 0 [] []) 0 w) := by
  have HM := Lib.hid hm
  have HR := Lib.hid hr
  have fok := ok_of_right hf
  have hne : r ≠ [] := fun e => by rw [e] at hr'; cases hr'
  have CU : Hid (Lib.cut (bodyText r f l []) cs = (f.text, [98, 121, 32] ++ r, true)) := (body_else fok hne l []).trans (by rw [rest_rule h0]; simp)
  have XL := Lib.hid hlen
  have RL := Lib.hid (rest_len hne hlen)
  have NA := Lib.hid (Fm.no_assume fok)
  have CF : Hid (Lib.cut r wFrom = (r, [], false)) := Lib.hid (by have := cut_from hr' []; simpa [joinBy] using this)
  have RL : Hid (r.length ≤ 1000000000) := by have := RL.out; rw [rest_rule h0] at this; show _ ≤ _; simp at this; omega
  obtain ⟨X, hX⟩ : ∃ X, [98, 121, 32] ++ r = X := ⟨_, rfl⟩
  rw [hX] at CU
  have NX : (X == [115, 116, 105, 108, 108, 32, 116, 111, 32, 115, 104, 111, 119]) = false := by rw [← hX]; simp
  generalize bodyText r f l [] = T at *
  clear hm hr hlen fok hr' h0 hne
  refine (callsIn_wide (n := 100)).1 ?_
  refine callsIn_of_wp_marks Tryz.func120 rfl trivial ?_ rfl
  simp only [Tryz.ntmps120, List.size_toArray, List.length_cons, List.length_nil, Nat.reduceAdd, Nat.reduceSub, Array.replicate_succ, Array.replicate_zero, List.push_toArray, List.append_toArray, List.nil_append, List.cons_append]
  have Z := Lib.hid (line_vars w)
  gi_wp2_with (first
    | (have Z10' := Z10.out; clear Z10'; first
        | (refine ⟨trivial, ?_⟩; gi_at_call 39; refine (callsIn_wide.2 (cutPrefix_yes [98, 121, 32] r X hX.symm _)).mono ?_; rintro e w11 ⟨rfl, rfl⟩)
        | (refine ⟨trivial, ?_⟩; gi_at_call 32; refine (callsIn_wide.2 (cut_c r wFrom _ _ _ RL.out CF.out _ ((HM.out.keep (keeps_of_below Z10.out.bw)).keep (keeps1 _ _)))).mono ?_; rintro e w12 ⟨rfl, b12⟩; have Z12 := Lib.hid ((Z10.out.below ((Below.refl _ _).alloc (Nat.le_refl _) (.cells #[.int .u8 f.op, str f.name, .slice fa fn fc, .slice fb fm fd] 25))).below b12); have zr := kc b12 (heap_alloc_new w10 (.cells #[.int .u8 f.op, str f.name, .slice fa fn fc, .slice fb fm fd] 25)); have B12 := Lib.hid (belowThen ((Below.refl _ _).alloc (Nat.le_refl _) (.cells #[.int .u8 f.op, str f.name, .slice fa fn fc, .slice fb fm fd] 25)) b12); obtain ⟨p0, p1, p2, p3, -, -, -, -⟩ := row25' zr; clear zr b12; obtain ⟨f0, f1, f2, f3, f4, f5, f6, f7⟩ := row53f Z12.out.c2; obtain ⟨x0, x1, x2, x3, x4, x5, x6, x7⟩ := row53 Z12.out.c2; obtain ⟨y3, r3⟩ := row9 Z12.out.c3; obtain ⟨y4, r4⟩ := row9 Z12.out.c4; have z3 := (Array.getElem?_eq_some_iff.1 Z12.out.c4).1; have z2 : w.heap.size + 1 < w12.heap.size := (by omega); have z1 : w.heap.size < w12.heap.size := (by omega)))
    | (refine ⟨trivial, ?_⟩; gi_at_call 32; refine (callsIn_wide.2 (cut_c T cs _ _ _ XL.out CU.out _ (HM.out.keep (keeps_of_below Z.out.bw)))).mono ?_; rintro e w7 ⟨rfl, b7⟩; have Z7 := Lib.hid (Z.out.below b7); clear b7)
    | (refine ⟨trivial, ?_⟩; gi_at_call 39; refine (callsIn_wide.2 (cutPrefix_no wAssume f.text NA.out _)).mono ?_; rintro e w8 ⟨rfl, rfl⟩)
    | (refine ⟨trivial, ?_⟩; gi_at_call 43; refine (callsIn_wide.2 (Read_yes f hf _ (HM.out.keep (keeps_of_below Z7.out.bw)) (HR.out.keep (keeps_of_below Z7.out.bw)))).mono ?_; rintro e w10 ⟨fa, fn, fc, fb, fm, fd, rfl, h1, h2, b10⟩; have Z10 := Lib.hid (Z7.out.below b10); have H1 := Lib.hid h1; have H2 := Lib.hid h2; clear h1 h2 b10))
  have K1 : Keeps (hide (lo w8) w10) (hide (lo w8) w12) := hide_keeps2 fun k h1 h2 => ⟨h2, B12.out.block k h1⟩
  obtain ⟨e0, e1, e2, e3⟩ := line_fin (p := lo w8) (n := 0) (r := r) (f := f) (lb := 0) (ms := []) (sub := []) Z12.out (fun k hk => by have := (Array.getElem?_eq_some_iff.1 Z7.out.c4).1; simp [lo]; omega) (H1.out.keep K1) (H2.out.keep K1) (nilM _) rfl ((Below.refl _ _).alloc (Nat.le_refl _) (.cells #[str r, .int .u8 f.op, str f.name, .slice fa fn fc, .slice fb fm fd, .int .i64 0, .slice none 0 0, .slice none 0 0] 53))
  exact ⟨_, res120 _ _ _ _ _ _ _ _ _ _ _ _ _ _ _ rfl rfl rfl e0 e1 e2, e3⟩
end Go.Proofs.YtcandidgaegghaaGreatDoor
end
section
namespace Go
theorem wpListIn_append_own_at {F : Fence} {n : Nat} {P : Program} (w : World) {ops : Array Oper} {rest : List Oper} {o : Oper} {a : Act} {Q : Exit → Act → World → Prop}
    (hg : o.guard = none) (s x : Operand) (t : TypeId) (hop : o.op = Op.call { callee := Callee.builtin Builtin.append, args := #[s, x], argTypes := #[t, t] })
    (base : Nat) (e : TypeId) (i : TypeInfo) (z : Value) (size bytes : Nat) (h1 : P.underlying t = some (.slice e)) (h2 : P.info? e = some i) (h3 : i.zero = some z) (h4 : i.size = size) (h5 : i.bytes = bytes) (h6 : z.cells.size = size) (h7 : 0 < size)
    (v : Value) (k : Nat) (xs : List Value) (hs : a.eval s = v) (hown : w.ownsRow base e size v k xs) (ad : Addr) (m c : Nat) (news : List Value) (hx : a.eval x = .slice (some ad) m c) (hn : news.length = m * size)
    (hc : ∀ j u, news[j]? = some u → w.cell? (ad.add j) = some u) (h1c : ∀ u ∈ news, u.oneCell' = true) (b1 : k + m ≤ maxLen) (b2 : (k + m) * bytes ≤ 140737488355328) (b3 : base ≤ w.heap.size)
    (hK : ∀ v' w', w'.ownsRow base e size v' (k + m) (xs ++ news) → w.grownBy w' v.ownBlock → (v'.ownBlock = v.ownBlock ∨ v'.ownBlock = some w.heap.size) → wpListIn F n P ops Q rest (a.put o.dst v') w') :
    wpListIn F n P ops Q (o :: rest) a w := by
  refine wpListIn_plain hg fun K hK' => ?_
  obtain ⟨v', w', hrun, r1, r2, r3, r4⟩ := run_append_own_at (P := P) w base t o.type e i z size bytes h1 h2 h3 h4 h5 h6 h7 v k xs hown ad m c news hn hc h1c b1 b2 b3
  unfold Oper.wpIn
  refine ⟨?_, ?_⟩
  · simp [Oper.about, hop, resolve, Target.leads, Sem.run_pure]
  · rw [Oper.semAt_plain F _ _ (by rw [hop]; intro c hc'; cases hc')]
    simp [execOp, hop, resolve, invoke, builtin, hs, hx, hrun, Result.andThen]
    exact hK' _ _ (hK v' w' r1 r2 r4)
end Go
namespace Go.Proofs.YtcandidgaegghaaGreatDoor
open Go Go.RowKit Ly
set_option maxRecDepth 10000
set_option linter.unusedSimpArgs false
set_option linter.unusedVariables false
theorem ownsRow_turned {A W : World} {B size n : Nat} {e : TypeId} {v : Value} {xs : List Value} (h : A.ownsRow B e size v n xs) (k : ∀ i o, B ≤ i → A.heap[i]? = some o → o.isCells = true → W.heap[i]? = some o) : W.ownsRow B e size v n xs := by
  refine ⟨h.1, ?_⟩
  rcases h.2 with h1 | ⟨g, cap, cur, h1, hb, hg, h2⟩
  · exact .inl h1
  · exact .inr ⟨g, cap, cur, h1, hb, k g _ hb hg rfl, h2⟩
theorem info3z' : (Tryz.prog.info? 3).map (fun i => (i.zero, i.size, i.bytes)) = some (some (.int .i64 0), 1, 8) := by kernel_rfl
/- The loop over a premise's marks. -/
structure LJ (A : World) (gl : Nat) (L : List Int) (la : Option Addr) (ln lc : Nat) (W : World) : Prop where
  os : W.os = A.os
  tape : W.tape = A.tape
  output : W.output = A.output
  sz : A.heap.size + 3 ≤ W.heap.size
  old : ∀ i, i < A.heap.size → i ≠ gl → W.heap[i]? = A.heap[i]?
  cell : W.heap[gl]? = some (.cells #[.slice la ln lc] 29 (0, 0))
  own : W.ownsRow (A.heap.size + 3) 3 1 (.slice la ln lc) L.length (L.map fun z => .int .i64 z)
theorem LJ.turned {A X W : World} {gl : Nat} {L : List Int} {la : Option Addr} {ln lc : Nat} (hgl : gl < A.heap.size) (h : LJ A gl L la ln lc X) (hs : X.heap.size ≤ W.heap.size) (ho : W.os = X.os) (ht : W.tape = X.tape) (hu : W.output = X.output)
    (k1 : ∀ i, i < A.heap.size → W.heap[i]? = X.heap[i]?) (k2 : ∀ i o, A.heap.size + 3 ≤ i → X.heap[i]? = some o → o.isCells = true → W.heap[i]? = some o) : LJ A gl L la ln lc W :=
  ⟨ho.trans h.os, ht.trans h.tape, hu.trans h.output, Nat.le_trans h.sz hs, fun i hi hn => (k1 i hi).trans (h.old i hi hn), (k1 gl hgl).trans h.cell, ownsRow_turned h.own k2⟩
theorem LJ.below {A X W : World} {gl : Nat} {L : List Int} {la : Option Addr} {ln lc : Nat} (hgl : gl < A.heap.size) (h : LJ A gl L la ln lc X) (b : Below X.heap.size X W) : LJ A gl L la ln lc W :=
  h.turned hgl b.size b.os b.tape b.output (fun i hi => b.block i (by have := h.sz; omega)) (fun i o _ hi _ => (b.block i (Array.getElem?_eq_some_iff.1 hi).1).trans hi)
theorem LJ.lets {A : World} {gl B c : Nat} {m : List Int} (hgl : gl < A.heap.size) (hB : B = A.heap.size + 3) (hc : c = A.heap.size) : Lets B c (fun (pre : List Bs) W => ∃ la ln lc, LJ A gl (m.take pre.length) la ln lc W) := by
  rintro s X W row ⟨la, ln, lc, h⟩ hg hr
  refine ⟨la, ln, lc, h.turned hgl hg.size hg.os hg.tape hg.output (fun i hi => hg.block i (by have := h.sz; omega) fun e => ?_) fun i o hi ho hcells => (hg.block i (Array.getElem?_eq_some_iff.1 ho).1 fun e => ?_).trans ho⟩
  · rcases hr i e.symm with h1 | ⟨h1, _⟩ <;> omega
  · rcases hr i e.symm with h1 | ⟨h1, o', h2, h3⟩
    · omega
    · rw [ho] at h2; cases h2; rw [hcells] at h3; cases h3
theorem LJ.new {A : World} {gl : Nat} (hgl : gl < A.heap.size) (h : A.heap[gl]? = some (.cells #[.slice none 0 0] 29 (0, 0))) {W : World} (b : Below A.heap.size A W) (hs : A.heap.size + 3 ≤ W.heap.size) : LJ A gl [] none 0 0 W :=
  ⟨b.os, b.tape, b.output, hs, fun i hi _ => b.block i hi, (b.block _ hgl).trans h, World.ownsRow_nil _ _ _ _⟩
/-- One mark more. -/
theorem LJ.step {A W w1 w5 : World} {gl c B : Nat} {L : List Int} {la : Option Addr} {ln lc : Nat} {z : Int} {v' : Value} {o : Obj} (hgl : gl < A.heap.size) (hB : B = A.heap.size + 3) (hcc : c = A.heap.size) (h1 : 1 < A.heap.size) (h1' : gl ≠ 1) (h : LJ A gl L la ln lc W) (b : Below W.heap.size W w1)
    (h5 : w5.ownsRow (A.heap.size + 3) 3 1 v' (L.length + 1) ((L.map fun z => Value.int .i64 z) ++ [.int .i64 z])) (hg : (w1.alloc o).grownBy w5 (Value.slice la ln lc).ownBlock) (hat : v'.ownBlock = (Value.slice la ln lc).ownBlock ∨ v'.ownBlock = some (w1.alloc o).heap.size) {W2 : World} (hW : W2 = w5.setCell ⟨gl, 0, none⟩ v') :
    KeepsFrom B W W2 ∧ SeqKp c W W2 ∧ ∃ la ln lc, LJ A gl (L ++ [z]) la ln lc W2 := by
  subst hB hcc
  have lt := h.own.lt
  have hsz := h.sz
  have bs := b.size
  have gs := hg.size
  simp only [World.size_alloc] at gs
  have ba := (Below.refl _ w1).alloc (Nat.le_refl _) o
  have low : ∀ i, i < W.heap.size → i ≠ gl → (Value.slice la ln lc).ownBlock ≠ some i → W2.heap[i]? = W.heap[i]? := fun i hi hn hv => by
    rw [hW, Below.heap_setCell _ _ _ _ hn, hg.block i (by simp; omega) (fun e => hv e.symm), ba.block i (by omega), b.block i hi]
  have lowA : ∀ i, i < A.heap.size + 3 → i ≠ gl → W2.heap[i]? = W.heap[i]? := fun i hi hn => low i (by omega) hn (fun e => by have := lt i e; omega)
  obtain ⟨va, vc, rfl⟩ := row_form h5
  have g5 : w5.heap[gl]? = some (.cells #[.slice la ln lc] 29 (0, 0)) := by
    rw [hg.block gl (by simp; omega) (fun e => by have := lt gl e.symm; omega), ba.block gl (by omega), b.block gl (by omega)]
    exact h.cell
  have s2 : W2.heap.size = w5.heap.size := by rw [hW]; simp
  have r2 : W2.os = w5.os ∧ W2.tape = w5.tape ∧ W2.output = w5.output := by rw [hW]; exact setCell_rest _ _ _
  refine ⟨⟨by omega, fun i ob hi ho hcells => ?_⟩, fun i hi => ?_, va, L.length + 1, vc, ?_⟩
  · rw [low i (Array.getElem?_eq_some_iff.1 ho).1 (by omega) (fun e => ?_)]
    · exact ho
    · rcases h.own.2 with ⟨h1, _⟩ | ⟨g, cap, cur, h1, _, h3, _⟩
      · rw [h1] at e; cases e
      · rw [h1] at e; cases e
        rw [ho] at h3; cases h3; cases hcells
  · exact lowA i (by omega) (by omega)
  · refine ⟨?_, ?_, ?_, by omega, fun i hi hn => (lowA i (by omega) hn).trans (h.old i hi hn), ?_, ?_⟩
    · rw [r2.1, hg.os]; exact b.os.trans h.os
    · rw [r2.2.1, hg.tape]; exact b.tape.trans h.tape
    · rw [r2.2.2, hg.output]; exact b.output.trans h.output
    · rw [hW]
      have k : ∀ W : World, W.heap[gl]? = some (.cells #[.slice la ln lc] 29 (0, 0)) → (W.setCell ⟨gl, 0, none⟩ (.slice va (L.length + 1) vc)).heap[gl]? = some (.cells #[.slice va (L.length + 1) vc] 29 (0, 0)) := fun W h => set_block h
      exact k _ g5
    · rw [List.length_append, List.map_append]
      exact ownsRow_turned h5 fun i ob hi ho _ => by rw [hW, Below.heap_setCell _ _ _ _ (by show i ≠ gl; omega)]; exact ho
theorem LJ.put {A W w1 : World} {gl c B : Nat} {L : List Int} {la : Option Addr} {ln lc : Nat} {z : Int} {o : Obj} (hgl : gl < A.heap.size) (hB : B = A.heap.size + 3) (hcc : c = A.heap.size) (h1 : 1 < A.heap.size) (h1' : gl ≠ 1) (h : LJ A gl L la ln lc W) (b : Below W.heap.size W w1) :
    (w1.alloc o).ownsRow (A.heap.size + 3) 3 1 (.slice la ln lc) L.length (L.map fun z => .int .i64 z) ∧ ∀ v' w5, w5.ownsRow (A.heap.size + 3) 3 1 v' (L.length + 1) ((L.map fun z => Value.int .i64 z) ++ [.int .i64 z]) → (w1.alloc o).grownBy w5 (Value.slice la ln lc).ownBlock →
      (v'.ownBlock = (Value.slice la ln lc).ownBlock ∨ v'.ownBlock = some (w1.alloc o).heap.size) →
      w5.cell? ⟨gl, 0, none⟩ = some (.slice la ln lc) ∧ w5.frozen? ⟨gl, 0, none⟩ = false ∧
      ∀ W2, W2 = w5.setCell ⟨gl, 0, none⟩ v' → KeepsFrom B W W2 ∧ SeqKp c W W2 ∧ ∃ la ln lc, LJ A gl (L ++ [z]) la ln lc W2 := by
  refine ⟨(h.below hgl b).own.alloc o, fun v' w5 h5 hg hat => ?_⟩
  have lt := h.own.lt
  have hsz := h.sz
  have bs := b.size
  have g5 : w5.heap[gl]? = some (.cells #[.slice la ln lc] 29 (0, 0)) := by
    rw [hg.block gl (by simp; omega) (fun e => by have := lt gl e.symm; omega), Below.heap_alloc w1 o gl (by omega), b.block gl (by omega)]
    exact h.cell
  exact ⟨(box_cell g5 0).trans rfl, by simp [World.frozen?, g5], fun W2 hW => h.step hgl hB hcc h1 h1' b h5 hg hat hW⟩
theorem LJ.bw {B A W : World} {gl : Nat} {L : List Int} {la : Option Addr} {ln lc : Nat} (h : LJ A gl L la ln lc W) (b : Below B.heap.size B A) (hgl : B.heap.size ≤ gl) : Below B.heap.size B W :=
  ⟨h.os.trans b.os, h.tape.trans b.tape, h.output.trans b.output, Nat.le_trans b.size (by have := h.sz; omega), fun i hi => (h.old i (by have := b.size; omega) (by omega)).trans (b.block i hi)⟩
theorem LJ.count {A W : World} {gl : Nat} {L : List Int} {la : Option Addr} {ln lc : Nat} (h : LJ A gl L la ln lc W) : ln = L.length := by
  obtain ⟨a, c, e⟩ := row_form h.own
  cases e; rfl
theorem LJ.marks {A W : World} {gl n : Nat} {L : List Int} {la : Option Addr} {ln lc : Nat} (h : LJ A gl L la ln lc W) (hn : n ≤ A.heap.size + 3) : At (hide (fun k => decide (k < n)) W) (marksD L) (.slice la ln lc) := by
  have lt := h.own.lt
  have O : OwnDs (fun k => decide (k < n)) (A.heap.size + 3) W 3 1 L.length (L.map intD) (.slice la ln lc) := by
    refine ⟨_, h.own, by simp, fun j d hd => ?_⟩
    rw [List.getElem?_map] at hd
    obtain ⟨z, hz, rfl⟩ := Option.map_eq_some_iff.1 hd
    exact ⟨.int .i64 z, by rw [List.getElem?_map, hz]; rfl, rfl⟩
  exact O.at (fun k hk => by simp; omega)
/- The loop over the premises. -/
structure LI (A : World) (g : Nat) (x0 x1 x2 x3 x4 x5 x6 : Value) (L : List (List Int)) (va : Option Addr) (vn vc : Nat) (W : World) : Prop where
  os : W.os = A.os
  tape : W.tape = A.tape
  output : W.output = A.output
  sz : A.heap.size + 3 ≤ W.heap.size
  old : ∀ i, i < A.heap.size → i ≠ g → W.heap[i]? = A.heap[i]?
  cell : W.heap[g]? = some (.cells #[x0, x1, x2, x3, x4, x5, x6, .slice va vn vc] 53 (0, 0))
  own : OwnDs (fun k => decide (k < A.heap.size + 3)) (A.heap.size + 3) W 29 1 L.length (L.map marksD) (.slice va vn vc)
section
variable {A X W : World} {g : Nat} {x0 x1 x2 x3 x4 x5 x6 : Value} {L : List (List Int)} {va : Option Addr} {vn vc : Nat}
theorem LI.turned (hg : g < A.heap.size) (h : LI A g x0 x1 x2 x3 x4 x5 x6 L va vn vc X) (hs : X.heap.size ≤ W.heap.size) (ho : W.os = X.os) (ht : W.tape = X.tape) (hu : W.output = X.output)
    (k1 : ∀ i, i < A.heap.size → W.heap[i]? = X.heap[i]?) (k2 : ∀ i o, A.heap.size + 3 ≤ i → X.heap[i]? = some o → o.isCells = true → W.heap[i]? = some o) : LI A g x0 x1 x2 x3 x4 x5 x6 L va vn vc W :=
  ⟨ho.trans h.os, ht.trans h.tape, hu.trans h.output, Nat.le_trans h.sz hs, fun i hi hn => (k1 i hi).trans (h.old i hi hn), (k1 g hg).trans h.cell, h.own.turned (fun k hk => by have := (own_lt h.own k hk).1; simp; omega) (fun i o hi ho hc => k2 i o (by simpa using hi) ho hc)⟩
theorem LI.below (hg : g < A.heap.size) (h : LI A g x0 x1 x2 x3 x4 x5 x6 L va vn vc X) (b : Below X.heap.size X W) : LI A g x0 x1 x2 x3 x4 x5 x6 L va vn vc W :=
  h.turned hg b.size b.os b.tape b.output (fun i hi => b.block i (by have := h.sz; omega)) (fun i o _ hi _ => (b.block i (Array.getElem?_eq_some_iff.1 hi).1).trans hi)
theorem LI.lets {B c : Nat} {ms : List (List Int)} (hgl : g < A.heap.size) (hB : B = A.heap.size + 3) (hc : c = A.heap.size) : Lets B c (fun (pre : List Bs) W => ∃ va vn vc, LI A g x0 x1 x2 x3 x4 x5 x6 (ms.take pre.length) va vn vc W) := by
  rintro s X W row ⟨la, ln, lc, h⟩ hg hr
  refine ⟨la, ln, lc, h.turned hgl hg.size hg.os hg.tape hg.output (fun i hi => hg.block i (by have := h.sz; omega) fun e => ?_) fun i o hi ho hcells => (hg.block i (Array.getElem?_eq_some_iff.1 ho).1 fun e => ?_).trans ho⟩
  · rcases hr i e.symm with h1 | ⟨h1, _⟩ <;> omega
  · rcases hr i e.symm with h1 | ⟨h1, o', h2, h3⟩
    · omega
    · rw [ho] at h2; cases h2; rw [hcells] at h3; cases h3
theorem LI.new (hgl : g < A.heap.size) (h : A.heap[g]? = some (.cells #[x0, x1, x2, x3, x4, x5, x6, .slice none 0 0] 53 (0, 0))) (b : Below A.heap.size A W) (hs : A.heap.size + 3 ≤ W.heap.size) : LI A g x0 x1 x2 x3 x4 x5 x6 [] none 0 0 W :=
  ⟨b.os, b.tape, b.output, hs, fun i hi _ => b.block i hi, (b.block _ hgl).trans h, OwnDs.nil _ _ _ _ _⟩
theorem row_fill7 {W : World} {g : Nat} {y z0 z1 z2 z3 z4 z5 z6 z7 : Value} (h : W.heap[g]? = some (.cells #[z0, z1, z2, z3, z4, z5, z6, z7] 53 (0, 0))) :
    (W.setCell ⟨g, 7, none⟩ y).heap[g]? = some (.cells #[z0, z1, z2, z3, z4, z5, z6, y] 53 (0, 0)) := by
  have h0 := set_block (o := 7) (u := y) h
  simp only [List.setIfInBounds_toArray, List.set_cons_zero, List.set_cons_succ] at h0
  exact h0
/-- One premise more: its marks are put at the end of the list. -/
theorem LI.step {w1 : World} {c B : Nat} {m : List Int} {la : Option Addr} {ln lc : Nat} (hgl : g < A.heap.size) (hB : B = A.heap.size + 3) (hcc : c = A.heap.size) (h1 : 1 < A.heap.size) (h1' : g ≠ 1) (h : LI A g x0 x1 x2 x3 x4 x5 x6 L va vn vc W) (b : Below W.heap.size W w1)
    (hm : At (hide (fun k => decide (k < W.heap.size)) w1) (marksD m) (.slice la ln lc)) :
    ∃ xs, (w1.alloc (.cells #[.slice la ln lc] 29)).ownsRow (A.heap.size + 3) 29 1 (.slice va vn vc) L.length xs ∧ ∀ v' w5, w5.ownsRow (A.heap.size + 3) 29 1 v' (L.length + 1) (xs ++ [.slice la ln lc]) → (w1.alloc (.cells #[.slice la ln lc] 29)).grownBy w5 (Value.slice va vn vc).ownBlock →
      (v'.ownBlock = (Value.slice va vn vc).ownBlock ∨ v'.ownBlock = some (w1.alloc (.cells #[.slice la ln lc] 29)).heap.size) →
      w5.cell? ⟨g, 7, none⟩ = some (.slice va vn vc) ∧ w5.frozen? ⟨g, 7, none⟩ = false ∧
      ∀ W2, W2 = w5.setCell ⟨g, 7, none⟩ v' → KeepsFrom B W W2 ∧ SeqKp c W W2 ∧ ∃ va vn vc, LI A g x0 x1 x2 x3 x4 x5 x6 (L ++ [m]) va vn vc W2 := by
  subst hB hcc
  have lt := own_lt h.own
  have hsz := h.sz
  have bs := b.size
  have K : Keeps (hide (fun k => decide (k < W.heap.size)) w1) (hide (fun k => decide (k < A.heap.size + 3) || decide ((Value.slice va vn vc).ownBlock = some k)) w1) := hide_keeps2 fun k _ h2 => ⟨by
    simp only [decide_eq_false_iff_not, Nat.not_lt, Bool.or_eq_false_iff] at h2 ⊢
    exact ⟨by omega, fun e => by have := lt k e; omega⟩, rfl⟩
  obtain ⟨xs, ho, hf⟩ := own_put (ty := 29) h.own (fun k hk => by simp; omega) b (CellsAt.cons (At.keep K _ _ hm) (CellsAt.nil _))
  refine ⟨xs, ho, fun v' w5 h5 hg hat => ?_⟩
  have gs := hg.size
  simp only [World.size_alloc] at gs
  have ba := (Below.refl _ w1).alloc (Nat.le_refl _) (.cells #[.slice la ln lc] 29)
  have g5 : w5.heap[g]? = some (.cells #[x0, x1, x2, x3, x4, x5, x6, .slice va vn vc] 53 (0, 0)) := by
    rw [hg.block g (by simp; omega) (fun e => by have := lt g e.symm; omega)]
    exact (ba.block g (by omega)).trans ((b.block g (by omega)).trans h.cell)
  refine ⟨(row53 g5).2.2.2.2.2.2.2, (row53f g5).2.2.2.2.2.2.2, fun W2 hW => ?_⟩
  have low : ∀ i, i < W.heap.size → i ≠ g → (Value.slice va vn vc).ownBlock ≠ some i → W2.heap[i]? = W.heap[i]? := fun i hi hn hv => by
    rw [hW, Below.heap_setCell _ _ _ _ hn, hg.block i (by simp; omega) (fun e => hv e.symm)]
    exact (ba.block i (by omega)).trans (b.block i hi)
  have lowA : ∀ i, i < A.heap.size + 3 → i ≠ g → W2.heap[i]? = W.heap[i]? := fun i hi hn => low i (by omega) hn (fun e => by have := lt i e; omega)
  have O5 := hf v' w5 h5 hg hat
  obtain ⟨qa, qc, rfl⟩ := row_form h5
  have s2 : W2.heap.size = w5.heap.size := by rw [hW]; simp
  have r2 : W2.os = w5.os ∧ W2.tape = w5.tape ∧ W2.output = w5.output := by rw [hW]; exact setCell_rest _ _ _
  refine ⟨⟨by omega, fun i ob hi ho' hcells => ?_⟩, fun i hi => lowA i (by omega) (by omega), qa, L.length + 1, qc, ?_, ?_, ?_, by omega, fun i hi hn => (lowA i (by omega) hn).trans (h.old i hi hn), ?_, ?_⟩
  · rw [low i (Array.getElem?_eq_some_iff.1 ho').1 (by omega) (fun e => ?_)]
    · exact ho'
    · obtain ⟨ys, hy, _⟩ := h.own
      rcases hy.2 with ⟨h1, _⟩ | ⟨g', cap, cur, h1, _, h3, _⟩
      · rw [h1] at e; cases e
      · rw [h1] at e; cases e
        rw [ho'] at h3; cases h3; cases hcells
  · rw [r2.1, hg.os]; exact b.os.trans h.os
  · rw [r2.2.1, hg.tape]; exact b.tape.trans h.tape
  · rw [r2.2.2, hg.output]; exact b.output.trans h.output
  · rw [hW]; exact row_fill7 g5
  · rw [List.length_append, List.map_append]
    have lt5 := own_lt O5
    exact O5.turned (fun k hk => by have := (lt5 k hk).1; simp; omega) (fun i o hi ho _ => by rw [hW, Below.heap_setCell _ _ _ _ (by simp at hi; show i ≠ g; omega)]; exact ho)
theorem LI.lv {w : World} (h : LI A g x0 x1 x2 x3 x4 x5 x6 L va vn vc W) (Z : LV w A) (hg : w.heap.size + 1 + 1 < g) : LV w W := by
  have lt := (Array.getElem?_eq_some_iff.1 Z.c4).1
  have sz := h.sz
  exact ⟨⟨h.os.trans Z.bw.os, h.tape.trans Z.bw.tape, h.output.trans Z.bw.output, Nat.le_trans Z.bw.size (by omega), fun i hi => (h.old i (by omega) (by omega)).trans (Z.bw.block i hi)⟩, (h.old _ (by omega) (by omega)).trans Z.c2, (h.old _ (by omega) (by omega)).trans Z.c3, (h.old _ (by omega) (by omega)).trans Z.c4⟩
theorem LI.count (h : LI A g x0 x1 x2 x3 x4 x5 x6 L va vn vc W) : vn = L.length := by
  obtain ⟨xs, ho, _⟩ := h.own
  obtain ⟨a, c, e⟩ := row_form ho
  cases e; rfl
theorem LI.marks {p : Nat → Bool} (h : LI A g x0 x1 x2 x3 x4 x5 x6 L va vn vc W) (hp : ∀ k, A.heap.size + 3 ≤ k → p k = false) : MarksAt (hide p W) L (.slice va vn vc) := by
  have h1 := h.own.at (fun k hk => by simp; omega)
  unfold MarksAt
  refine At.keep (hide_keeps2 fun k _ h2 => ⟨?_, rfl⟩) _ _ h1
  exact hp k (by simpa using h2)
theorem LI.form {p : Nat → Bool} (h : LI A g x0 x1 x2 x3 x4 x5 x6 L va vn vc W) (hp : p g = true) : Keeps (hide p A) (hide p W) := hide_keeps2 fun k h1 h2 => ⟨h2, h.old k h1 (fun e => by rw [e, hp] at h2; cases h2)⟩
theorem line_put {w U : World} {q : Pf} {n D : Nat} {e : Ending} (h : RetLine q n w e U) (hD : w.heap.size ≤ D) (hK : U.heap[D]? = some (.deferred (some []))) : RetLine q n w e (U.putObj D (.deferred none)) := by
  obtain ⟨v, e1, hv, b⟩ := h
  refine ⟨v, e1, PfVal.keep hv fun a u hu => ?_, ⟨b.os, b.tape, b.output, by simpa using b.size, fun i hi => ?_⟩⟩
  · have h1 := hide_none hu
    rw [hide_cell h1] at hu ⊢
    obtain ⟨o, h2, h3⟩ := cells_of_cell hu
    rw [← hu]
    exact World.cell?_of_block (World.putObj_heap_other fun e => by rw [e, hK] at h2; cases h2; cases h3)
  · rw [World.putObj_heap_other (by omega)]; exact b.block i hi
end
end Go.Proofs.YtcandidgaegghaaGreatDoor
end
section
namespace Go.Proofs.YtcandidgaegghaaGreatDoor
open Go Go.RowKit Ly
set_option maxRecDepth 10000
set_option linter.unusedSimpArgs false
set_option linter.unusedVariables false
attribute [local go_sem] Oper.semAt_some
set_option maxHeartbeats 4000000 in
theorem readLine_list (r : Bs) (hr' : ruleName r = true) (h0 : r ≠ hole) (f : Fm) (hf : f.right = true) (l : Int) (ps : List Bs) (hps : ps ≠ []) (h44 : ∀ x ∈ ps, (44 : UInt8) ∉ x) (ms : List (List Int))
    (hms : ∀ (j : Nat) (x : Bs) (m : List Int), ps[j]? = some x → ms[j]? = some m → ∃ n, x = premText n m) (hml : ms.length = ps.length) (hmk : ∀ m ∈ ms, m.length ≤ 3 ∧ ∀ x ∈ m, 0 ≤ x ∧ x ≤ 1000000)
    (hpl : ∀ x ∈ ps, x.length ≤ 1000000000) (hlen : (bodyText r f l ps).length ≤ 1000000000) (w : World) (hm : MaxAt w) (hr : RowsAt w) :
    Calls Tryz.prog 120 #[str (bodyText r f l ps)] w (RetLine (.mk r f 0 [] ms) ps.length w) := by
  have HM := Lib.hid hm
  have HR := Lib.hid hr
  have HMS := Lib.hid hms
  have HML := Lib.hid hml
  have HMK := Lib.hid hmk
  have HPL := Lib.hid hpl
  have fok := ok_of_right hf
  have hne : r ≠ [] := fun e => by rw [e] at hr'; cases hr'
  obtain ⟨J, hJ⟩ : ∃ J, joinBy cs ps = J := ⟨_, rfl⟩
  obtain ⟨Y, hY⟩ : ∃ Y, r ++ (wFrom ++ J) = Y := ⟨_, rfl⟩
  obtain ⟨X, hX⟩ : ∃ X, [98, 121, 32] ++ Y = X := ⟨_, rfl⟩
  have hpe : ps.isEmpty = false := by cases ps with
    | nil => exact absurd rfl hps
    | cons a b => rfl
  have hB : bodyRest r ps = X := by rw [rest_rule h0, hpe, hJ, ← hX, ← hY]; rfl
  have CU : Hid (Lib.cut (bodyText r f l ps) cs = (f.text, X, true)) := (body_else fok hne l ps).trans (by rw [hB])
  have XL := Lib.hid hlen
  have NA := Lib.hid (Fm.no_assume fok)
  have CF : Hid (Lib.cut Y wFrom = (r, J, true)) := Lib.hid (by have := cut_from hr' ps; rw [hpe, hJ] at this; rw [← hY]; exact this)
  have NX : (X == [115, 116, 105, 108, 108, 32, 116, 111, 32, 115, 104, 111, 119]) = false := by rw [← hX]; simp
  have SPL : Hid (Lib.split J cs = ps) := Lib.hid (by rw [← hJ]; exact prems_split hps h44)
  have YL : Hid (Y.length ≤ 1000000000) := by have := rest_len hne hlen; rw [hB, ← hX] at this; show _ ≤ _; simp at this; omega
  have JL : Hid (J.length ≤ 1000000000) := by have := YL.out; rw [← hY] at this; show _ ≤ _; simp at this; omega
  generalize bodyText r f l ps = T at *
  clear hm hr hlen fok hr' h0 hne hJ hY hB hpe h44 hms hml hmk hpl
  refine (callsIn_wide (n := 100)).1 ?_
  refine callsIn_of_wp_marks Tryz.func120 rfl trivial ?_ rfl
  simp only [Tryz.ntmps120, List.size_toArray, List.length_cons, List.length_nil, Nat.reduceAdd, Nat.reduceSub, Array.replicate_succ, Array.replicate_zero, List.push_toArray, List.append_toArray, List.nil_append, List.cons_append]
  have Z := Lib.hid (line_vars w)
  gi_wp2_with (first
    | (have Z13' := Z13.out; clear Z13'; refine ⟨trivial, ?_⟩; gi_at_call 119; refine (callsIn_wide.2 (SplitSeq_c J cs _)).mono ?_; rintro e w14 ⟨rfl, rfl⟩)
    | (have Z10' := Z10.out; clear Z10'; first
        | (refine ⟨trivial, ?_⟩; gi_at_call 39; refine (callsIn_wide.2 (cutPrefix_yes [98, 121, 32] Y X hX.symm _)).mono ?_; rintro e w11 ⟨rfl, rfl⟩)
        | (refine ⟨trivial, ?_⟩; gi_at_call 32; refine (callsIn_wide.2 (cut_c Y wFrom _ _ _ YL.out CF.out _ ((HM.out.keep (keeps_of_below Z10.out.bw)).keep (keeps1 _ _)))).mono ?_; rintro e w12 ⟨rfl, b12⟩; have Z13 := Lib.hid ((Z10.out.below ((Below.refl _ _).alloc (Nat.le_refl _) (.cells #[.int .u8 f.op, str f.name, .slice fa fn fc, .slice fb fm fd] 25))).below b12); have zr := kc b12 (heap_alloc_new w10 (.cells #[.int .u8 f.op, str f.name, .slice fa fn fc, .slice fb fm fd] 25)); have B12 := Lib.hid (belowThen ((Below.refl _ _).alloc (Nat.le_refl _) (.cells #[.int .u8 f.op, str f.name, .slice fa fn fc, .slice fb fm fd] 25)) b12); obtain ⟨p0, p1, p2, p3, -, -, -, -⟩ := row25' zr; clear zr b12))
    | (refine ⟨trivial, ?_⟩; gi_at_call 32; refine (callsIn_wide.2 (cut_c T cs _ _ _ XL.out CU.out _ (HM.out.keep (keeps_of_below Z.out.bw)))).mono ?_; rintro e w7 ⟨rfl, b7⟩; have Z7 := Lib.hid (Z.out.below b7); clear b7)
    | (refine ⟨trivial, ?_⟩; gi_at_call 39; refine (callsIn_wide.2 (cutPrefix_no wAssume f.text NA.out _)).mono ?_; rintro e w8 ⟨rfl, rfl⟩)
    | (refine ⟨trivial, ?_⟩; gi_at_call 43; refine (callsIn_wide.2 (Read_yes f hf _ (HM.out.keep (keeps_of_below Z7.out.bw)) (HR.out.keep (keeps_of_below Z7.out.bw)))).mono ?_; rintro e w10 ⟨fa, fn, fc, fb, fm, fd, rfl, h1, h2, b10⟩; have Z10 := Lib.hid (Z7.out.below b10); have B10 := Lib.hid b10; have H1 := Lib.hid h1; have H2 := Lib.hid h2; clear h1 h2 b10))
  change Code.wpIn _ _ _ _ _ _ ((((w12.alloc (.cells #[str r, .int .u8 f.op, str f.name, .slice fa fn fc, .slice fb fm fd, .int .i64 0, .slice none 0 0, .slice none 0 0] 53)).alloc (.cells #[str J] 9)).alloc (.cells #[str cs] 9)).alloc (.cells #[.int .i64 0] 3))
  have zg := heap_alloc_new w12 (.cells #[str r, .int .u8 f.op, str f.name, .slice fa fn fc, .slice fb fm fd, .int .i64 0, .slice none 0 0, .slice none 0 0] 53)
  have bA : Below w12.heap.size w12 (w12.alloc (.cells #[str r, .int .u8 f.op, str f.name, .slice fa fn fc, .slice fb fm fd, .int .i64 0, .slice none 0 0, .slice none 0 0] 53)) := (Below.refl _ _).alloc (Nat.le_refl _) _
  have ZA := Lib.hid (Z13.out.below bA)
  have BA := Lib.hid (belowThen B12.out bA)
  have K1 : Keeps (hide (lo w8) w10) (hide (fun k => decide (k < w8.heap.size) || decide (k = w12.heap.size)) (w12.alloc (.cells #[str r, .int .u8 f.op, str f.name, .slice fa fn fc, .slice fb fm fd, .int .i64 0, .slice none 0 0, .slice none 0 0] 53))) := hide_keeps2 fun k h1 h2 => ⟨by have := B12.out.size; simp only [lo, decide_eq_false_iff_not, Bool.or_eq_false_iff] at h2 ⊢; exact ⟨h2, by omega⟩, BA.out.block k h1⟩
  have HA1 := Lib.hid (H1.out.keep K1)
  have HA2 := Lib.hid (H2.out.keep K1)
  have ZS : Hid ((w12.alloc (.cells #[str r, .int .u8 f.op, str f.name, .slice fa fn fc, .slice fb fm fd, .int .i64 0, .slice none 0 0, .slice none 0 0] 53)).heap.size = w12.heap.size + 1) := by show _ = _; simp
  have ZG := Lib.hid zg
  have ZL : Hid (w.heap.size + 1 + 1 < w12.heap.size) := (Array.getElem?_eq_some_iff.1 Z13.out.c4).1
  have Z78 : Hid (w8.heap.size ≤ w12.heap.size) := Nat.le_trans B10.out.size B12.out.size
  have Z8 : Hid (w.heap.size + 1 + 1 < w8.heap.size) := (Array.getElem?_eq_some_iff.1 Z7.out.c4).1
  clear zg bA K1 p0 p1 p2 p3 B12 BA H1 H2 Z10 Z13 Z7 B10
  generalize w12.alloc (.cells #[str r, .int .u8 f.op, str f.name, .slice fa fn fc, .slice fb fm fd, .int .i64 0, .slice none 0 0, .slice none 0 0] 53) = A at *
  generalize w12.heap.size = g at *
  generalize w10.heap.size = g15 at *
  have SA : Hid (SeqAt cs (g + 1) J (((A.alloc (.cells #[str J] 9)).alloc (.cells #[str cs] 9)).alloc (.cells #[.int .i64 0] 3))) := by
    have := seqAt_new (s := J) (sep := cs) (HM.out.keep (keeps_of_below ZA.out.bw))
    rw [ZS.out] at this
    exact this
  have B36 : Hid (Below A.heap.size A (((A.alloc (.cells #[str J] 9)).alloc (.cells #[str cs] 9)).alloc (.cells #[.int .i64 0] 3))) := (((Below.refl _ _).alloc (Nat.le_refl _) _).alloc (by simp) _).alloc (by simp; omega) _
  have Z6 : Hid ((((A.alloc (.cells #[str J] 9)).alloc (.cells #[str cs] 9)).alloc (.cells #[.int .i64 0] 3)).heap.size = A.heap.size + 3) := by show _ = _; simp
  have Z1 : Hid (1 < w.heap.size) := by obtain ⟨m, hm⟩ := HM.out; exact World.block_lt_of_cell? w _ hm
  generalize ((A.alloc (.cells #[str J] 9)).alloc (.cells #[str cs] 9)).alloc (.cells #[.int .i64 0] 3) = W6 at *
  have hgA : g < A.heap.size := by have := ZS.out; omega
  refine wp_rangeCell rfl (by omega) (gf := 272) (lb := #[one (g + 1 + 1), one (g + 1), one (g + 1 + 2)]) rfl trivial (enters_of Tryz.func272 (by kernel_rfl) rfl) (enc := str) (c := g + 1) (Kp := SeqKp (g + 1)) (l := ps) (w0 := W6) (by have := Z6.out; omega)
    (seqCell _ J cs (by decide) JL.out (by decide) (g + 1) (by have := Z1.out; have := ZL.out; omega) _ SPL.out W6 SA.out) SeqKp.trans (fun W r o' hr k hk => World.putObj_heap_other (by have := Z1.out; have := Z6.out; have := ZL.out; have := ZS.out; omega)) (Below.refl _ _) rfl
    (fun pre W => ∃ va vn vc, LI A g (str r) (.int .u8 f.op) (str f.name) (.slice fa fn fc) (.slice fb fm fd) (.int .i64 0) (.slice none 0 0) (ms.take pre.length) va vn vc W) (fun _ _ _ => False) (LI.lets hgA Z6.out ZS.out.symm) (fun _ _ _ _ _ hs _ _ => hs) ?start
    (fun a x => { tmps := (a.tmps.setIfInBounds 100 (str x)).setIfInBounds 22 (str x), defers := [] }) ?assign ?body ?done ?stop
  case start =>
    exact ⟨none, 0, 0, LI.new hgA ZG.out B36.out (Nat.le_of_eq Z6.out.symm)⟩
  case assign =>
    intro rr x W K hK
    simp only [List.setIfInBounds_toArray, List.set_cons_zero, List.set_cons_succ] at hK ⊢
    gi_wp2
    exact hK
  case body =>
    rintro rr pre x W hrr ⟨q, hq⟩ ⟨va, vn, vc, li⟩ hpre
    simp only [List.setIfInBounds_toArray, List.set_cons_zero, List.set_cons_succ]
    have hx := prefix_get hpre
    have hlt : pre.length < ms.length := by rw [HML.out]; exact (List.getElem?_eq_some_iff.1 hx).1
    obtain ⟨m, hm⟩ : ∃ m, ms[pre.length]? = some m := ⟨_, List.getElem?_eq_getElem hlt⟩
    obtain ⟨n, rfl⟩ := HMS.out _ _ _ hx hm
    have XN : Hid ((premText n m).length ≤ 1000000000) := HPL.out _ (List.mem_of_getElem? hx)
    have MK := Lib.hid (HMK.out m (List.mem_of_getElem? hm))
    have PC := Lib.hid (prem_cut n m)
    have TS : Hid (ms.take (pre ++ [premText n m]).length = ms.take pre.length ++ [m]) := by
      show _ = _
      rw [List.length_append, List.length_singleton]; exact take_snoc hm
    have NL : Hid ((ms.take pre.length).length ≤ 1000000001) := by
      have h := split_le J cs (by decide)
      have := JL.out
      rw [SPL.out, ← HML.out] at h
      show _ ≤ _
      rw [List.length_take]; omega
    have hvn := li.count
    have LW := Lib.hid li
    have HQ := Lib.hid hq
    have zW := li.sz
    have zA := ZS.out
    have z1 := Z1.out
    have zl := ZL.out
    have GW : w.heap.size ≤ A.heap.size := by omega
    have BW : Hid (Below w.heap.size w W) := (li.lv ZA.out ZL.out).bw
    obtain ⟨j0, hj0, hzj, hsj, hbj⟩ := info_parts info29
    clear hx hm hpre li hq hlt
    generalize hT1 : premText n m = T1 at *
    have TX := Lib.hid hT1
    clear hT1
    generalize ms.take pre.length = L at *
    subst hvn
    cases m with
    | nil =>
      gi_wp2_with (first
        | (refine ⟨trivial, ?_⟩; gi_at_call 32; refine (CallsIn.inRound rr (callsIn_wide.2 (cut_c T1 wEnding _ _ _ XN.out PC.out _ (HM.out.keep (keeps_of_below BW.out))))).mono ?_; rintro e w1 ⟨rfl, b1⟩; have B1 := Lib.hid b1; obtain ⟨-, -, -, -, -, -, -, x7⟩ := row53 (LW.out.below hgA b1).cell; have zg1 : g < w1.heap.size := (by have := b1.size; omega); obtain ⟨xs, OW, CT⟩ := LI.step (B := W6.heap.size) (c := g + 1) (m := []) (la := none) (ln := 0) (lc := 0) hgA Z6.out ZS.out.symm (by omega) (by omega) LW.out (belowThen b1 ((Below.refl _ _).alloc (Nat.le_refl _) (.cells #[.slice none 0 0] 29))) (At.sl_nil (Nat.zero_le _)); have OWH := Lib.hid OW; have CTH := Lib.hid CT; have zb1 := b1.size; clear b1 OW CT)
        | (gi_at_builtin; refine wpListIn_append_own_at _ rfl _ _ 51 rfl (A.heap.size + 3) 29 j0 (.slice none 0 0) 1 24 Tryz.underlying51 hj0 hzj hsj hbj rfl (by decide) _ L.length xs rfl OWH.out ⟨w1.heap.size + 1, 0, none⟩ 1 1 [.slice none 0 0] rfl rfl (by have := cell_one_new (w1.alloc (.cells #[.slice none 0 0] 29)) (.slice none 0 0) 29; rw [World.size_alloc] at this; exact this) (by intro u hu; simp at hu; subst hu; rfl) (by have := NL.out; unfold maxLen; omega) (by have := NL.out; omega) (by simp; omega) ?_; intro v5 w5 h5 hg5 hat5; obtain ⟨a5, c5, rfl⟩ := row_form h5; obtain ⟨c7, f7, FN⟩ := CTH.out _ w5 h5 hg5 hat5; have FNH := Lib.hid FN; clear h5 hg5 hat5 FN x7))
      obtain ⟨r1, r2, r3⟩ := FNH.out _ rfl
      refine ⟨r1, r2, ?_⟩
      show ∃ va vn vc, LI A g (str r) (.int .u8 f.op) (str f.name) (.slice fa fn fc) (.slice fb fm fd) (.int .i64 0) (.slice none 0 0) (ms.take (pre ++ [T1]).length) va vn vc _
      rw [TS.out]
      exact r3
    | cons m0 mt =>
      have mne : (m0 :: mt) ≠ [] := by simp
      have SP2 : Hid (Lib.split (numbers (m0 :: mt)) wAnds = (m0 :: mt).map Lib.itoa) := Lib.hid (numbers_split mne fun x hx => ((MK.out).2 x hx).1)
      have NN : Hid ((numbers (m0 :: mt)).length ≤ 1000000000) := by
        have := XN.out
        rw [← TX.out, premText, if_neg (by simp)] at this
        simp only [List.length_append] at this
        show _ ≤ _; omega
      have PC' : Hid (Lib.cut T1 wEnding = (Lib.itoa (n : Int), numbers (m0 :: mt), true)) := PC.out
      generalize hN : numbers (m0 :: mt) = N at *
      clear PC hN
      gi_wp2_with (first
        | (refine ⟨trivial, ?_⟩; gi_at_call 32; refine (CallsIn.inRound rr (callsIn_wide.2 (cut_c T1 wEnding _ _ _ XN.out PC'.out _ (HM.out.keep (keeps_of_below BW.out))))).mono ?_; rintro e w1 ⟨rfl, b1⟩; have B1 := Lib.hid b1; clear b1)
        | (refine ⟨trivial, ?_⟩; gi_at_call 119; refine (CallsIn.inRound rr (callsIn_wide.2 (SplitSeq_c N wAnds _))).mono ?_; rintro e w2 ⟨rfl, rfl⟩))
      change Code.wpIn _ _ _ _ _ _ ((((w1.alloc (.cells #[.slice none 0 0] 29)).alloc (.cells #[str N] 9)).alloc (.cells #[str wAnds] 9)).alloc (.cells #[.int .i64 0] 3))
      have BA2 := Lib.hid (belowThen B1.out ((Below.refl _ _).alloc (Nat.le_refl _) (.cells #[.slice none 0 0] 29)))
      have zg2 := Lib.hid (heap_alloc_new w1 (.cells #[.slice none 0 0] 29))
      have ZS2 : Hid ((w1.alloc (.cells #[.slice none 0 0] 29)).heap.size = w1.heap.size + 1) := by show _ = _; simp
      have ZW1 := Lib.hid B1.out.size
      clear B1
      generalize w1.alloc (.cells #[.slice none 0 0] 29) = A2 at *
      generalize w1.heap.size = gl at *
      have MX2 := Lib.hid (HM.out.keep (keeps_of_below (belowThen BW.out BA2.out)))
      have SA2 : Hid (SeqAt wAnds (gl + 1) N (((A2.alloc (.cells #[str N] 9)).alloc (.cells #[str wAnds] 9)).alloc (.cells #[.int .i64 0] 3))) := by
        have := seqAt_new (s := N) (sep := wAnds) MX2.out
        rw [ZS2.out] at this
        exact this
      have B37 : Hid (Below A2.heap.size A2 (((A2.alloc (.cells #[str N] 9)).alloc (.cells #[str wAnds] 9)).alloc (.cells #[.int .i64 0] 3))) := (((Below.refl _ _).alloc (Nat.le_refl _) _).alloc (by simp) _).alloc (by simp; omega) _
      have Z7' : Hid ((((A2.alloc (.cells #[str N] 9)).alloc (.cells #[str wAnds] 9)).alloc (.cells #[.int .i64 0] 3)).heap.size = A2.heap.size + 3) := by show _ = _; simp
      generalize ((A2.alloc (.cells #[str N] 9)).alloc (.cells #[str wAnds] 9)).alloc (.cells #[.int .i64 0] 3) = W7 at *
      have hgl : gl < A2.heap.size := by have := ZS2.out; omega
      have zz : W.heap.size ≤ gl := ZW1.out
      have HQ7 : W7.heap[rr]? = some (.loop q) := by
        have hl := (Array.getElem?_eq_some_iff.1 HQ.out).1
        have hs2 := BA2.out.size
        exact (B37.out.block rr (by omega)).trans ((BA2.out.block rr hl).trans HQ.out)
      obtain ⟨k0, hk0, hzk, hsk, hbk⟩ := info_parts info3z'
      generalize hM : m0 :: mt = M at *
      refine wp_rangeCellIn (l₀ := rr) (r₀ := q) rfl HQ7 (by omega) (gf := 272) (lb := #[one (gl + 1 + 1), one (gl + 1), one (gl + 1 + 2)]) rfl trivial (enters_of Tryz.func272 (by kernel_rfl) rfl) (enc := str) (c := gl + 1) (Kp := SeqKp (gl + 1)) (l := M.map Lib.itoa) (w0 := W7) (by have := Z7'.out; omega)
        (seqCell _ N wAnds (by decide) NN.out (by decide) (gl + 1) (by omega) _ SP2.out W7 SA2.out) SeqKp.trans (fun W' r o' hr k hk => World.putObj_heap_other (by have := Z7'.out; have := ZS2.out; omega)) (Below.refl _ _) rfl
        (fun pre W' => ∃ la ln lc, LJ A2 gl (M.take pre.length) la ln lc W') (fun _ _ _ => False) (LJ.lets hgl Z7'.out ZS2.out.symm) (fun _ _ _ _ _ hs _ _ => hs) ?start2
        (fun a x => { tmps := (a.tmps.setIfInBounds 110 (str x)).setIfInBounds 27 (str x), defers := [] }) ?assign2 ?body2 ?done2 ?stop2
      case start2 => exact ⟨none, 0, 0, LJ.new hgl zg2.out B37.out (Nat.le_of_eq Z7'.out.symm)⟩
      case assign2 =>
        intro r2 x2 W2 K hK
        simp only [List.setIfInBounds_toArray, List.set_cons_zero, List.set_cons_succ] at hK ⊢
        gi_wp2
        exact hK
      case stop2 =>
        intro j pre2 W2 _ h
        exact h.elim
      case body2 =>
        rintro r2 pre2 x2 W2 hr2 hq2 ⟨la, ln, lc, lj⟩ hpre2
        simp only [List.setIfInBounds_toArray, List.set_cons_zero, List.set_cons_succ]
        have hx2 := prefix_get hpre2
        rw [List.getElem?_map] at hx2
        obtain ⟨z, hz, rfl⟩ := Option.map_eq_some_iff.1 hx2
        obtain ⟨k, rfl⟩ : ∃ k : Nat, z = (k : Int) := ⟨z.toNat, by have := (MK.out.2 z (List.mem_of_getElem? hz)).1; omega⟩
        have hk : k ≤ 1000000 := by have := (MK.out.2 (k : Int) (List.mem_of_getElem? hz)).2; omega
        have TS2 : Hid (M.take (pre2 ++ [Lib.itoa (k : Int)]).length = M.take pre2.length ++ [(k : Int)]) := by
          show _ = _
          rw [List.length_append, List.length_singleton]; exact take_snoc hz
        have NL2 : Hid ((M.take pre2.length).length ≤ 3) := by
          have := MK.out.1
          show _ ≤ _
          rw [List.length_take]; omega
        have hvn2 := lj.count
        have JW := Lib.hid lj
        have zW2 := lj.sz
        clear hx2 hz lj hpre2 hq2
        generalize M.take pre2.length = L2 at *
        subst hvn2
        gi_wp2_with (first
          | (refine ⟨trivial, ?_⟩; gi_at_call 33; refine (CallsIn.inRound r2 (CallsIn.inRound rr (callsIn_wide.2 (Atoi_c k hk _)))).mono ?_; rintro e w3 ⟨rfl, b3⟩; obtain ⟨OW2, CT2⟩ := LJ.put (B := W7.heap.size) (c := gl + 1) (z := (k : Int)) (o := .cells #[.int .i64 (k : Int)] 3) hgl Z7'.out ZS2.out.symm (by omega) (by omega) JW.out b3; have OWH2 := Lib.hid OW2; have CTH2 := Lib.hid CT2; have y0 := (box_cell (JW.out.below hgl b3).cell 0).trans rfl; have zb3 := b3.size; have zg3 : gl < w3.heap.size := (by omega); clear b3 OW2 CT2)
          | (gi_at_builtin; refine wpListIn_append_own_at _ rfl _ _ 29 rfl (A2.heap.size + 3) 3 k0 (.int .i64 0) 1 8 Tryz.underlying29 hk0 hzk hsk hbk rfl (by decide) _ L2.length _ rfl OWH2.out ⟨w3.heap.size, 0, none⟩ 1 1 [.int .i64 (k : Int)] rfl rfl (cell_one_new _ _ _) (by intro u hu; simp at hu; subst hu; rfl) (by have := NL2.out; unfold maxLen; omega) (by have := NL2.out; omega) (by simp; omega) ?_; intro v5 w5 h5 hg5 hat5; obtain ⟨a5, c5, rfl⟩ := row_form h5; obtain ⟨c7, f7, FN⟩ := CTH2.out _ w5 h5 hg5 hat5; have FNH2 := Lib.hid FN; clear h5 hg5 hat5 FN y0))
        obtain ⟨r1, r2, r3⟩ := FNH2.out _ rfl
        refine ⟨r1, r2, ?_⟩
        show ∃ la ln lc, LJ A2 gl (M.take (pre2 ++ [Lib.itoa (k : Int)]).length) la ln lc _
        rw [TS2.out]
        exact r3
      case done2 =>
        rintro W2 ⟨la, ln, lc, lj⟩
        rw [List.length_map, List.take_of_length_le (Nat.le_refl _)] at lj
        have bw2 := lj.bw BA2.out zz
        have y0 := (box_cell lj.cell 0).trans rfl
        obtain ⟨-, -, -, -, -, -, -, x7⟩ := row53 (LW.out.below hgA bw2).cell
        obtain ⟨xs, OW, CT⟩ := LI.step (B := W6.heap.size) (c := g + 1) (m := M) (la := la) (ln := ln) (lc := lc) hgA Z6.out ZS.out.symm (by omega) (by omega) LW.out bw2 (lj.marks (by omega))
        have OWH := Lib.hid OW
        have CTH := Lib.hid CT
        have zb1 := bw2.size
        have zg3 : g < W2.heap.size := by omega
        have zg4 : gl < W2.heap.size := by have := lj.sz; omega
        clear bw2 OW CT lj
        gi_wp2_with (gi_at_builtin; refine wpListIn_append_own_at _ rfl _ _ 51 rfl (A.heap.size + 3) 29 j0 (.slice none 0 0) 1 24 Tryz.underlying51 hj0 hzj hsj hbj rfl (by decide) _ L.length xs rfl OWH.out ⟨W2.heap.size, 0, none⟩ 1 1 [.slice la ln lc] rfl rfl (cell_one_new _ _ _) (by intro u hu; simp at hu; subst hu; rfl) (by have := NL.out; unfold maxLen; omega) (by have := NL.out; omega) (by simp; omega) ?_; intro v5 w5 h5 hg5 hat5; obtain ⟨a5, c5, rfl⟩ := row_form h5; obtain ⟨c7, f7, FN⟩ := CTH.out _ w5 h5 hg5 hat5; have FNH := Lib.hid FN; clear h5 hg5 hat5 FN x7)
        obtain ⟨r1, r2, r3⟩ := FNH.out _ rfl
        refine ⟨r1, r2, ?_⟩
        show ∃ va vn vc, LI A g (str r) (.int .u8 f.op) (str f.name) (.slice fa fn fc) (.slice fb fm fd) (.int .i64 0) (.slice none 0 0) (ms.take (pre ++ [T1]).length) va vn vc _
        rw [TS.out]
        exact r3
  case done =>
    rintro D W hD ⟨va, vn, vc, li⟩ hK
    have LI' := Lib.hid li
    have HK := Lib.hid hK
    have HD := Lib.hid hD
    clear li hK hD
    have LVW := Lib.hid (LI'.out.lv ZA.out ZL.out)
    have hvn : vn = ps.length := by rw [LI'.out.count, List.length_take, HML.out]; omega
    have NL : Hid (ps.length ≤ 1000000001) := by
      have h := split_le J cs (by decide)
      have := JL.out
      rw [SPL.out] at h
      show _ ≤ _; omega
    have z16 := LI'.out.sz
    obtain ⟨f0, f1, f2, f3, f4, f5, f6, f7⟩ := row53f LVW.out.c2
    obtain ⟨u0, u1, u2, u3, u4, u5, u6, u7⟩ := row53 LVW.out.c2
    obtain ⟨y3, r3⟩ := row9 LVW.out.c3
    obtain ⟨y4, r4⟩ := row9 LVW.out.c4
    obtain ⟨x0, x1, x2, x3, x4, x5, x6, x7⟩ := row53 LI'.out.cell
    have n0 : g ≠ w.heap.size := by have := ZL.out; omega
    have n1 : g ≠ w.heap.size + 1 := by have := ZL.out; omega
    have n2 : g ≠ w.heap.size + 1 + 1 := by have := ZL.out; omega
    gi_wp2
    gi_region
    gi_wp2
    have hpp : ∀ k, A.heap.size + 3 ≤ k → (fun k => decide (k < w8.heap.size) || decide (k = g)) k = false := fun k hk => by have := Z8.out; have := ZS.out; have := Z78.out; simp; omega
    have MK := LI'.out.marks hpp
    rw [List.take_of_length_le (by rw [HML.out]; exact Nat.le_refl _), hvn] at MK
    have KF := LI'.out.form (p := fun k => decide (k < w8.heap.size) || decide (k = g)) (by simp)
    have hD' : w.heap.size + 1 + 1 < D := by have := HD.out; have := Z6.out; have := ZS.out; have := ZL.out; omega
    obtain ⟨e0, e1, e2, e3⟩ := line_fin (p := fun k => decide (k < w8.heap.size) || decide (k = g)) (n := ps.length) (r := r) (f := f) (lb := 0) (ms := ms) (sub := []) LVW.out (fun k hk => by have := Z8.out; simp; omega) (HA1.out.keep KF) (HA2.out.keep KF) MK rfl (below_drew1 _)
    have hk2 : ∀ W1, W1 = lineW W w.heap.size (str r) (.int .u8 f.op) (str f.name) (.slice fa fn fc) (.slice fb fm fd) (.int .i64 0) (.slice none 0 0) (.slice va ps.length vc) (.int .i64 ps.length) (.bool true) → W1.drew.heap[D]? = some (.deferred (some [])) := fun W1 h => by
      rw [h, drew_heap, lineW_low (by omega) (by omega) (by omega)]; exact HK.out
    have K := hk2 _ rfl
    exact ⟨by simp, .inl ⟨_, _, rfl, run_takeDeferred K, _, res120 _ _ _ _ _ _ _ _ _ _ _ _ _ _ _ rfl rfl rfl ((World.putObj_heap_other (by omega)).trans e0) ((World.putObj_heap_other (by omega)).trans e1) ((World.putObj_heap_other (by omega)).trans e2), line_put e3 (by omega) K⟩⟩
  case stop =>
    intro D j pre W _ _ h _
    exact h.elim
end Go.Proofs.YtcandidgaegghaaGreatDoor
end
