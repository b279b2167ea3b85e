/- Plain laws for the describe family: the last line of a proof with its number before it is no step's text, nor does it begin with another number. Nothing of the program is imported. describe.readLine at a line of a proof with its number before it: it is not read. Conditions: those of each statement; the program's tables (rows, MaxLen) lie as laid. An append of one element to an own list: the list it was taken from stays as it was. Conditions: the list is of the call's own, as many elements as lie in it. -/
import Derived.Test.YtcandidgaegghaaGreatDoorPlFZ
import Derived.Test.YtcandidgaegghaaGreatDoorPlGZ
import Derived.Test.YtcandidgaegghaaGreatDoorWrBZ
import Derived.Test.YtcandidgaegghaaGreatDoorRdPWZ
import Derived.ArgAppend
section
namespace Ly
open Go.Lib
set_option maxRecDepth 10000 in
theorem dead_num (n : Nat) (t : Bs) : Dead (itoa (n : Int) ++ t) := by
  obtain ⟨c, r, e, h1, h2⟩ : ∃ c r, itoa (n : Int) ++ t = c :: r ∧ 48 ≤ c.toNat ∧ c.toNat ≤ 57 := by
    cases e : itoa (n : Int) with
    | nil => exact absurd e itoa_ne
    | cons c r =>
      have := itoa_digit (n := (n : Int)) (by omega) c (by rw [e]; simp)
      exact ⟨c, r ++ t, rfl, this⟩
  rw [e]
  have hc : c ∈ ([48, 49, 50, 51, 52, 53, 54, 55, 56, 57] : List UInt8) := by
    have : ∀ k : Fin 256, 48 ≤ k.val → k.val ≤ 57 → UInt8.ofNat k.val ∈ ([48, 49, 50, 51, 52, 53, 54, 55, 56, 57] : List UInt8) := by decide
    have h3 := this ⟨c.toNat, c.toNat_lt⟩ h1 h2
    simpa using h3
  have no : ∀ (k : UInt8) (w : Bs), 57 < k.toNat → c :: r ≠ k :: w := fun k w hk e => by
    cases e; omega
  have b1 : (117 ≤ c && c ≤ 122) = false := by
    simp only [List.mem_cons, List.mem_nil_iff, or_false] at hc; rcases hc with rfl | rfl | rfl | rfl | rfl | rfl | rfl | rfl | rfl | rfl <;> rfl
  have b2 : (97 ≤ c && c ≤ 116) = false := by
    simp only [List.mem_cons, List.mem_nil_iff, or_false] at hc; rcases hc with rfl | rfl | rfl | rfl | rfl | rfl | rfl | rfl | rfl | rfl <;> rfl
  have b3 : capital c = false := by
    simp only [List.mem_cons, List.mem_nil_iff, or_false] at hc; rcases hc with rfl | rfl | rfl | rfl | rfl | rfl | rfl | rfl | rfl | rfl <;> rfl
  have n1 := no 111 [102] (by decide)
  have n2 := no 97 [110, 100] (by decide)
  have n3 := no 99 [108, 111, 115, 101] (by decide)
  have n4 := no 102 [97, 108, 115, 101] (by decide)
  have n5 := no 102 [111, 114] (by decide)
  have n6 := no 97 [108, 108] (by decide)
  have n7 := no 115 [111, 109, 101] (by decide)
  have o1 := no 110 [111, 116] (by decide)
  have o2 := no 110 [101, 99, 101, 115, 115, 97, 114, 105, 108, 121] (by decide)
  have o3 := no 112 [111, 115, 115, 105, 98, 108, 121] (by decide)
  have o4 := no 110 [101, 120, 116] (by decide)
  have o5 := no 97 [108, 119, 97, 121, 115] (by decide)
  have t1 := no 98 [111, 116, 104] (by decide)
  have t2 := no 101 [105, 116, 104, 101, 114] (by decide)
  have t3 := no 105 [102] (by decide)
  have t4 := no 97 [115] (by decide)
  have t5 := no 119 [104, 105, 108, 101] (by decide)
  refine ⟨?_, ?_, ?_, ?_, ?_, ?_, n1, n2, n3, n4, n5, n6, n7⟩
  · simp only [varName, checker, b1, Bool.and_false, Bool.false_and]
  · simp only [funName, checker, b2, Bool.and_false, Bool.false_and]
  · simp only [predName, checker, b3, Bool.and_false, Bool.false_and]
  · unfold oneOp wNot wNec wPos wNext wAlways; rw [if_neg o1, if_neg o2, if_neg o3, if_neg o4, if_neg o5]
  · unfold twoOp wBoth wEither wIf wAs wWhile; rw [if_neg t1, if_neg t2, if_neg t3, if_neg t4, if_neg t5]
  · exact bet_of _ ⟨n2, no 111 [114] (by decide), no 116 [104, 101, 110] (by decide), no 115 [111] (by decide), no 117 [110, 116, 105, 108] (by decide)⟩
/-- The words ws, put behind a number and a colon. -/
theorem split_num (n : Nat) (ws : List Bs) (h : ws ≠ []) (hn : ∀ x ∈ ws, (32 : UInt8) ∉ x) : split (itoa (n : Int) ++ colon ++ joinBy [32] ws) [32] = (itoa (n : Int) ++ [58]) :: ws := by
  have e : joinBy [32] ((itoa (n : Int) ++ [58]) :: ws) = itoa (n : Int) ++ colon ++ joinBy [32] ws := by
    cases ws with
    | nil => exact absurd rfl h
    | cons x r => simp [joinBy, colon]
  rw [← e]
  refine split_join (c := 32) (t := []) _ (by simp) fun x hx => ?_
  rcases List.mem_cons.1 hx with rfl | hx
  · intro hm
    rcases List.mem_append.1 hm with hm | hm
    · exact itoa_not (by omega) (by decide) hm
    · revert hm; decide
  · exact hn x hx
theorem wrong_num (n : Nat) (ws : List Bs) : WrongRead ((itoa (n : Int) ++ [58]) :: ws) 0 :=
  ⟨_, .inl (pForm_stop (.inr ⟨_, ws, rfl, dead_num n [58]⟩) (by omega)), by simp⟩
theorem no_assume_num (n : Nat) (t : Bs) : hasPrefix (itoa (n : Int) ++ t) wAssume = false := by
  cases e : itoa (n : Int) with
  | nil => exact absurd e itoa_ne
  | cons c r =>
    have := itoa_digit (n := (n : Int)) (by omega) c (by rw [e]; simp)
    unfold hasPrefix wAssume
    have hc : ((97 : UInt8) == c) = false := by
      simp only [beq_eq_false_iff_ne, ne_eq]
      intro h; rw [← h] at this; exact absurd this.2 (by decide)
    simp [List.isPrefixOf, hc]
/-- What a line with its number says, when it is cut. -/
theorem line_cut {q : Pf} (hok : q.ok = true) (n : Nat) (ps : List Bs) : ∃ F ws R, cut (itoa (n : Int) ++ colon ++ bodyText q.rule q.form q.label ps) cs = (itoa (n : Int) ++ colon ++ F, R, true) ∧ F = joinBy [32] ws ∧ ws ≠ [] ∧ (∀ x ∈ ws, (32 : UInt8) ∉ x) ∧ (F = q.form.text ∨ ∃ k : Nat, k ≤ 999 ∧ F = wAssume ++ itoa (k : Int)) := by
  obtain ⟨r, f, l, sub, ms⟩ := q
  simp only [Pf.ok, Bool.and_eq_true] at hok
  simp only [Pf.rule, Pf.form, Pf.label]
  have fok := ok_of_right hok.1.1
  have num : (44 : UInt8) ∉ itoa (n : Int) ++ colon := fun hm => by
    rcases List.mem_append.1 hm with hm | hm
    · exact itoa_not (by omega) (by decide) hm
    · revert hm; decide
  have hs := hok.1.2
  unfold shaped at hs
  by_cases r0 : r = []
  · subst r0
    simp only [if_true, Bool.and_eq_true, decide_eq_true_eq] at hs
    have hl : 0 ≤ l := by omega
    refine ⟨wAssume ++ itoa l, [[97, 115, 115, 117, 109, 101], itoa l], f.text, ?_, by simp [joinBy, wAssume], by simp, fun x hx => ?_, ?_⟩
    · refine cut_mid' (b := f.text) (by simp [bodyText]) (index_sep (c := 44) (t := [32]) _ _ fun hm => ?_)
      rcases List.mem_append.1 hm with h | h
      · exact num h
      · rcases List.mem_append.1 h with h | h
        · revert h; decide
        · exact itoa_not hl (by decide) h
    · simp only [List.mem_cons, List.mem_nil_iff, or_false] at hx
      rcases hx with rfl | rfl
      · decide
      · exact itoa_not hl (by decide)
    · exact .inr ⟨l.toNat, by omega, by rw [show ((l.toNat : Nat) : Int) = l by omega]⟩
  · refine ⟨f.text, f.toks, bodyRest r ps, ?_, by rw [Fm.text_eq, joinSp_eq], Fm.toks_ne f, Fm.noSp_toks f fok, .inl rfl⟩
    refine cut_mid' ?_ (index_sep (c := 44) (t := [32]) _ _ fun hm => ?_)
    · unfold bodyText bodyRest
      rw [if_neg r0]
      by_cases h1 : r = hole
      · rw [if_pos h1, if_pos h1]; simp [wStill, cs]
      · rw [if_neg h1, if_neg h1]; simp [wBy, cs]
    · rcases List.mem_append.1 hm with h | h
      · exact num h
      · exact Fm.text_not fok (by decide) (by decide) h
/-- It does not begin with another number. -/
theorem line_other {n m : Nat} (h : n ≠ m) (t : Bs) : hasPrefix (itoa (n : Int) ++ colon ++ t) (itoa (m : Int) ++ colon) = false := by
  cases e : hasPrefix (itoa (n : Int) ++ colon ++ t) (itoa (m : Int) ++ colon) with
  | false => rfl
  | true =>
    unfold hasPrefix at e
    rw [List.isPrefixOf_iff_prefix] at e
    obtain ⟨u, e⟩ := e
    have n1 : (58 : UInt8) ∉ itoa (n : Int) := itoa_not (by omega) (by decide)
    have n2 : (58 : UInt8) ∉ itoa (m : Int) := itoa_not (by omega) (by decide)
    have e' : itoa (m : Int) ++ 58 :: (32 :: u) = itoa (n : Int) ++ 58 :: (32 :: t) := by simpa [colon] using e
    have := (split_at n2 n1 e').1
    have := itoa_inj (by omega) (by omega) this
    omega
end Ly
end
section
namespace Go.Proofs.YtcandidgaegghaaGreatDoor
open Go Go.RowKit Ly
set_option maxRecDepth 10000
set_option linter.unusedSimpArgs false
set_option linter.unusedVariables false
attribute [local go_sem] Oper.semAt_some
theorem line_bad {w WA W1 W2 : World} (Z : LV w WA) (hL : W1 = lineW WA w.heap.size (str []) (.int .u8 0) (str []) (.slice none 0 0) (.slice none 0 0) (.int .i64 0) (.slice none 0 0) (.slice none 0 0) (.int .i64 0) (.bool false)) (hW : Below W1.heap.size W1 W2) :
    W2.heap[w.heap.size]? = some (.cells #[str [], .int .u8 0, str [], .slice none 0 0, .slice none 0 0, .int .i64 0, .slice none 0 0, .slice none 0 0] 53 (0, 0)) ∧ W2.heap[w.heap.size + 1]? = some (.cells #[.int .i64 0] 3 (0, 0)) ∧ W2.heap[w.heap.size + 1 + 1]? = some (.cells #[.bool false] 4 (0, 0)) ∧ Below w.heap.size w W2 := by
  have hs1 : W1.heap.size = WA.heap.size := by rw [hL]; exact lineW_size
  have ho1 : W1.os = WA.os ∧ W1.tape = WA.tape ∧ W1.output = WA.output := by rw [hL]; exact lineW_rest
  have hl1 : ∀ i, i ≠ w.heap.size → i ≠ w.heap.size + 1 → i ≠ w.heap.size + 1 + 1 → W1.heap[i]? = WA.heap[i]? := fun i h0 h1 h2 => by rw [hL]; exact lineW_low h0 h1 h2
  obtain ⟨e0, e1, e2⟩ := lineW_cells (a := str []) (b := .int .u8 0) (c := str []) (d := .slice none 0 0) (e := .slice none 0 0) (f := .int .i64 0) (x := .slice none 0 0) (y := .slice none 0 0) (n := .int .i64 0) (t := .bool false) Z.c2 Z.c3 Z.c4
  rw [← hL] at e0 e1 e2
  clear hL
  have lt := (Array.getElem?_eq_some_iff.1 e2).1
  have lw : ∀ i, i < w.heap.size → W2.heap[i]? = WA.heap[i]? := fun i hi => (hW.block i (by omega)).trans (hl1 i (by omega) (by omega) (by omega))
  have hz := hW.size
  have hz' := Z.bw.size
  exact ⟨kc hW e0, kc hW e1, kc hW e2, hW.os.trans (ho1.1.trans Z.bw.os), hW.tape.trans (ho1.2.1.trans Z.bw.tape), hW.output.trans (ho1.2.2.trans Z.bw.output), by omega, fun i hi => (lw i hi).trans (Z.bw.block i hi)⟩
set_option maxHeartbeats 4000000 in
theorem readLine_bad (T F R : Bs) (hcut : Lib.cut T cs = (F, R, true)) (hlen : T.length ≤ 1000000000) (hf : F.length ≤ 16384) (na : Lib.hasPrefix F wAssume = false) (hw : WrongRead (wordsOf F) 0) : BadLine T := by
  intro w hm hr
  have HM := Lib.hid hm
  have HR := Lib.hid hr
  have CU := Lib.hid hcut
  have XL := Lib.hid hlen
  have NA := Lib.hid na
  have RB : Hid (∀ w, MaxAt w → RowsAt w → Calls Tryz.prog 43 #[str F] w fun e w' => e = .returned (.tuple #[.agg #[.int .u8 0, str [], .slice none 0 0, .slice none 0 0], .int .i64 0, .int .i64 410]) ∧ Below w.heap.size w w') := fun w h1 h2 => Read_wrong F hf 0 hw w h1 h2
  clear hm hr hlen hcut na hw hf
  refine (callsIn_wide (n := 100)).1 ?_
  refine callsIn_of_wp_marks Tryz.func120 rfl trivial ?_ rfl
  simp only [Tryz.ntmps120, List.size_toArray, List.length_cons, List.length_nil, Nat.reduceAdd, Nat.reduceSub, Array.replicate_succ, Array.replicate_zero, List.push_toArray, List.append_toArray, List.nil_append, List.cons_append]
  have Z := Lib.hid (line_vars w)
  gi_wp2_with (first
    | (refine ⟨trivial, ?_⟩; gi_at_call 32; refine (callsIn_wide.2 (cut_c T cs _ _ _ XL.out CU.out _ (HM.out.keep (keeps_of_below Z.out.bw)))).mono ?_; rintro e w7 ⟨rfl, b7⟩; have Z7 := Lib.hid (Z.out.below b7); clear b7)
    | (refine ⟨trivial, ?_⟩; gi_at_call 39; refine (callsIn_wide.2 (cutPrefix_no wAssume F NA.out _)).mono ?_; rintro e w8 ⟨rfl, rfl⟩)
    | (refine ⟨trivial, ?_⟩; gi_at_call 43; refine (callsIn_wide.2 (RB.out _ (HM.out.keep (keeps_of_below Z7.out.bw)) (HR.out.keep (keeps_of_below Z7.out.bw)))).mono ?_; rintro e w10 ⟨rfl, b10⟩; have Z10 := Lib.hid (Z7.out.below b10); clear b10; obtain ⟨f0, f1, f2, f3, f4, f5, f6, f7⟩ := row53f Z10.out.c2; obtain ⟨x0, x1, x2, x3, x4, x5, x6, x7⟩ := row53 Z10.out.c2; obtain ⟨y3, r3⟩ := row9 Z10.out.c3; obtain ⟨y4, r4⟩ := row9 Z10.out.c4; have z10 := (Array.getElem?_eq_some_iff.1 Z10.out.c4).1; have z11 : w.heap.size < w10.heap.size := (by omega); have z12 : w.heap.size + 1 < w10.heap.size := (by omega)))
  obtain ⟨e0, e1, e2, e3⟩ := line_bad Z10.out rfl ((Below.refl _ _).alloc (Nat.le_refl _) (.cells #[.int .u8 0, str [], .slice none 0 0, .slice none 0 0] 25))
  exact ⟨_, res120 _ _ _ _ _ _ _ _ _ _ _ _ _ _ _ rfl rfl rfl e0 e1 e2, rfl, e3⟩
theorem wordsOf_join {ws : List Bs} (h : ∀ x ∈ ws, (32 : UInt8) ∉ x) : wordsOf (joinBy [32] ws) = if ws = [] ∨ ws = [[]] then [] else ws := by
  unfold wordsOf
  by_cases h0 : ws = []
  · subst h0; rfl
  · by_cases h1 : ws = [[]]
    · subst h1; rfl
    · rw [if_neg (show ¬ (ws = [] ∨ ws = [[]]) from fun e => e.elim h0 h1)]
      have hs := split_join (c := 32) (t := []) ws h0 h
      rw [if_neg ?_, hs]
      intro e
      rw [e] at hs
      exact h1 (hs.symm.trans (by decide +kernel))
theorem lastLine_bad {P : Pf} (hok : P.ok = true) (n : Nat) (hn : n ≤ 1000000) (ps : List Bs) (hl : (Lib.itoa (n : Int) ++ colon ++ bodyText P.rule P.form P.label ps).length ≤ 1000000000) : BadLine (Lib.itoa (n : Int) ++ colon ++ bodyText P.rule P.form P.label ps) := by
  obtain ⟨F, ws, R, h1, h2, h3, h4, h5⟩ := line_cut hok n ps
  have fr : P.form.right = true := by
    obtain ⟨r, f, l, sub, ms⟩ := P
    simp only [Pf.ok, Bool.and_eq_true] at hok
    exact hok.1.1
  have hF : F.length ≤ 16010 := by
    rcases h5 with rfl | ⟨k, hk, rfl⟩
    · have := (right_len fr).2; omega
    · have := itoa_len (n := (k : Int)) (by omega) (by omega)
      simp only [List.length_append, show wAssume.length = 7 from rfl]; omega
  have hi := itoa_len (n := (n : Int)) (by omega) (by omega)
  refine readLine_bad _ _ _ h1 hl ?_ ?_ ?_
  · simp only [List.length_append, show colon.length = 2 from rfl]; omega
  · rw [List.append_assoc]; exact no_assume_num n _
  · have e := split_num n ws h3 h4
    rw [← h2] at e
    unfold wordsOf
    rw [if_neg (by simp [colon]), e]
    exact wrong_num n ws
theorem built_small (l : Bs) : (built l).nodes ≤ 398 ∧ (built l).depth ≤ 39 := by
  have h := bFold_inv (l.take 20)
  have hl : (l.take 20).length ≤ 20 := by simp; omega
  generalize (l.take 20).length = k at *
  unfold built
  generalize bFold (l.take 20) = s at *
  obtain ⟨h1, h2, h3⟩ := h
  cases s with
  | nil => decide
  | cons f r =>
    simp only [List.length_cons] at h1 h3
    simp only [fmsNodes] at h2
    have hf := h3 f (by simp)
    obtain ⟨a, b, c⟩ := untils_ok r f (2 + k - r.length) hf.1 (by omega) (fun g hg => ⟨(h3 g (by simp [hg])).1, by have := (h3 g (by simp [hg])).2; omega⟩)
    exact ⟨by show (untils f r).nodes ≤ _; omega, by show (untils f r).depth ≤ _; omega⟩
end Go.Proofs.YtcandidgaegghaaGreatDoor
end
section
namespace Go.Proofs.YtcandidgaegghaaGreatDoor
open Go Go.RowKit Ly
set_option maxRecDepth 10000
set_option linter.unusedSimpArgs false
set_option linter.unusedVariables false
theorem row_spare {w : World} {base : Nat} {e : TypeId} {g n cap : Nat} {xs : List Value} {y : Value} (h : w.ownsRow base e 1 (.slice (some ⟨g, 0, none⟩) n cap) n xs) (hr : n + 1 ≤ cap) :
    (w.cell? ⟨g, n, none⟩).isSome = true ∧ w.frozen? ⟨g, n, none⟩ = false ∧ (w.setCell ⟨g, n, none⟩ y).ownsRow base e 1 (.slice (some ⟨g, 0, none⟩) (n + 1) cap) (n + 1) (xs ++ [y]) ∧ (w.setCell ⟨g, n, none⟩ y).ownsRow base e 1 (.slice (some ⟨g, 0, none⟩) n cap) n xs := by
  obtain ⟨hl, h⟩ := h
  rcases h with ⟨h1, _⟩ | ⟨g', cap', cur, h1, hb, hg, h2, h3, h4, h5⟩
  · cases h1
  · cases h1
    rw [Nat.mul_one] at hl h4 h5
    have hs := set_block (o := n) (u := y) hg
    have hcur : cur.toList.length = cap := by simpa using h4
    have e1 : (cur.setIfInBounds n y).toList = cur.toList.set n y := by simp
    refine ⟨?_, by simp [World.frozen?, hg], ⟨by simp [hl], .inr ⟨g, cap, _, rfl, hb, hs, hr, h3, by simpa using h4, ?_⟩⟩, ⟨by simp [hl], .inr ⟨g, cap, _, rfl, hb, hs, h2, h3, by simpa using h4, ?_⟩⟩⟩
    · rw [box_cell hg]
      have : n < cur.size := by omega
      simp [this]
    · rw [e1, Nat.mul_one, List.take_add_one, List.take_set_of_le (by omega), h5, List.getElem?_set]
      simp [hcur]; omega
    · rw [e1, Nat.mul_one, List.take_set_of_le (Nat.le_refl _), h5]
theorem wpList_append_keep {P : Program} (w : World) {ops : Array Oper} {rest : List Oper} {o : Oper} {a : Act} {Q : Exit → Act → World → Prop}
    (hgd : o.guard = none) (s x : Operand) (t : TypeId) (hop : o.op = Op.call { callee := Callee.builtin Builtin.append, args := #[s, x], argTypes := #[t, t] })
    (base : Nat) (e : TypeId) (i : TypeInfo) (z : Value) (bytes : Nat) (h1 : P.underlying t = some (.slice e)) (h2 : P.info? e = some i) (h3 : i.zero = some z) (h4 : i.size = 1) (h5 : i.bytes = bytes) (h6 : z.cells.size = 1)
    (g n cap : Nat) (xs : List Value) (hs : a.eval s = .slice (some ⟨g, 0, none⟩) n cap) (hown : w.ownsRow base e 1 (.slice (some ⟨g, 0, none⟩) n cap) n xs)
    (ad : Addr) (c : Nat) (y : Value) (hx : a.eval x = .slice (some ad) 1 c) (hc : w.cell? ad = some y) (h1c : y.oneCell' = true) (b1 : n + 1 ≤ maxLen) (b2 : (n + 1) * bytes ≤ 140737488355328) (hbase : base ≤ w.heap.size)
    (h : ∀ v' w', w'.ownsRow base e 1 v' (n + 1) (xs ++ [y]) → w.grownBy w' (some g) → w'.ownsRow base e 1 (.slice (some ⟨g, 0, none⟩) n cap) n xs → wpList P ops Q rest (a.put o.dst v') w') : wpList P ops Q (o :: rest) a w := by
  have hl : xs.length = n * 1 := hown.1
  refine wpList_append_arg w hgd s x t hop e i z 1 bytes h1 h2 h3 h4 h5 h6 (by decide) g 0 n cap xs hs hl (fun j u hj => by have := hown.cells (g := g) rfl j u hj; rw [Addr.add_lit] at this; exact this) ad 1 c [y] hx rfl
    (fun j u hj => by
      have hj0 : j = 0 := by have := (List.getElem?_eq_some_iff.1 hj).1; simpa using this
      subst hj0
      simp at hj; subst hj
      simpa [Addr.add] using hc) (by intro u hu; simp at hu; subst hu; exact h1c) (fun hr j hj => ?_) b1 b2 (fun hr => ?_) (fun hr v' w' r1 r2 => ?_)
  · have hj0 : j = 0 := by simpa using hj
    subst hj0
    obtain ⟨q1, q2, _⟩ := row_spare (y := y) hown hr
    simpa using And.intro q1 q2
  · obtain ⟨_, _, q3, q4⟩ := row_spare (y := y) hown hr
    have e0 : w.setCells g (0 + n * 1) [y] = w.setCell ⟨g, n, none⟩ y := by simp [World.setCells]
    rw [e0]
    exact h _ _ q3 ⟨rfl, rfl, rfl, by simp, fun k _ hk => Below.heap_setCell _ _ _ _ (fun e => hk (by rw [e]))⟩ q4
  · have hg := (hown.lt g rfl).2
    exact h v' w' ⟨r1.1, r1.2.imp id fun ⟨g, cap, cur, q1, q2, q3⟩ => ⟨g, cap, cur, q1, Nat.le_trans hbase q2, q3⟩⟩ ⟨r2.os, r2.tape, r2.output, r2.size, fun k hk _ => r2.block k hk (by simp)⟩ (hown.kept (row := none) r2 (.inr (by simp [Value.ownBlock])))
theorem last_line (P : Pf) : P.lines 0 = pfsLines 0 P.sub ++ [lineOf (0, P)] := by
  rw [Pf.lines_post, pfsLines_post]
  obtain ⟨r, f, l, s, m⟩ := P
  simp [Pf.post, Pf.sub]
theorem steps_sub (P : Pf) : P.steps = pfsSteps P.sub + 1 := by
  obtain ⟨r, f, l, s, m⟩ := P
  simp only [Pf.steps, Pf.sub]
theorem sub_ok {P : Pf} (h : P.ok = true) : pfsOk P.sub = true := by
  obtain ⟨r, f, l, s, m⟩ := P
  simp only [Pf.ok, Bool.and_eq_true] at h
  exact h.2
theorem sub_right {P Q : Pf} (h : P.right = true) (e : P.sub = [Q]) : Q.right = true := by
  obtain ⟨r, f, l, s, m⟩ := P
  simp only [Pf.sub] at e
  subst e
  simp only [Pf.right, Bool.and_eq_true, decide_eq_true_eq, Pf.ok, pfsOk, Pf.steps, pfsSteps, Pf.depth, pfsDepth] at h ⊢
  obtain ⟨⟨h1, h2⟩, h3⟩ := h
  have h2 := of_decide_eq_true h2
  have h3 := of_decide_eq_true h3
  exact ⟨⟨h1.2.1, by omega⟩, by omega⟩
theorem own_take {B : Nat} {W : World} {L : List Bs} {a : Option Addr} {n c j : Nat} (h : OwnStrs B W L (.slice a n c)) (hj : j ≤ n) : OwnStrs B W (L.take j) (.slice a j c) := by
  have hn := h.strsAt.len.1
  unfold OwnStrs at h ⊢
  have hl : (L.take j).length = j := by rw [List.length_take]; omega
  rw [hl]
  refine ⟨by simp; omega, ?_⟩
  rcases h.2 with ⟨h1, h2⟩ | ⟨g, cap, cur, h1, h2, h3, h4, h5, h6, h7⟩
  · cases h1
    exact .inl ⟨by rw [show j = 0 by omega], by omega⟩
  · cases h1
    refine .inr ⟨g, c, cur, rfl, h2, h3, by omega, h5, h6, ?_⟩
    rw [List.map_take, ← h7, List.take_take]
    congr 1
    omega
theorem proved_small (l : Bs) : (proved l).steps ≤ 31 := by
  have hk : min l.length 30 ≤ 30 := Nat.min_le_right _ _
  unfold proved
  generalize min l.length 30 = k at *
  have h := pFold_inv l k
  generalize pFold l k = s at *
  rcases List.eq_nil_or_concat s with rfl | ⟨s', p, rfl⟩
  · decide
  · obtain ⟨a, b, c⟩ := h
    have hs := steps_mem (s := s'.concat p) (p := p) (by simp)
    simp only [List.concat_eq_append, List.getLastD_eq_getLast?, List.getLast?_append, List.getLast?_singleton, Option.some_or, Option.getD_some] at hs b ⊢
    omega
theorem length_le_sum : ∀ L : List Bs, L.length ≤ (L.map fun x => x.length + 1).sum
  | [] => by simp
  | y :: r => by
    have := length_le_sum r
    simp only [List.map_cons, List.sum_cons, List.length_cons]; omega
end Go.Proofs.YtcandidgaegghaaGreatDoor
end
