/- describe.Read: what it answers to texts of at most MaxText bytes. Conditions: a text that is read as a formula gives a right one; the program's tables lie as laid. -/
import Derived.Test.YtcandidgaegghaaGreatDoorRdF
import Derived.Lib.SplitLaws
namespace Go.Proofs.YtcandidgaegghaaGreatDoor
open Go Go.RowKit Ly
set_option maxRecDepth 10000
set_option linter.unusedSimpArgs false
set_option linter.unusedVariables false
set_option maxHeartbeats 4000000
/-- What strings.Split reads of bytealg.MaxLen: some number. -/
def MaxAt (w : World) : Prop := ∃ m : Int, w.cell? ⟨1, 0, none⟩ = some (.int .i64 m)
theorem MaxAt.keep {w w' : World} (h : MaxAt w) (k : Keeps w w') : MaxAt w' := by obtain ⟨m, h⟩ := h; exact ⟨m, k _ _ h⟩
theorem splitK_len (sep : Bs) : ∀ (k : Nat) (s x : Bs), x ∈ Lib.splitK sep 0 k s → x.length ≤ s.length
  | 0, s, x, h => by simp [Lib.splitK] at h; subst h; exact Nat.le_refl _
  | k + 1, s, x, h => by
    unfold Lib.splitK at h
    split at h
    · simp at h; subst h; exact Nat.le_refl _
    · rcases List.mem_cons.1 h with rfl | h
      · simp; omega
      · have := splitK_len sep k _ x h; simp at this; omega
theorem splitB_str (s : Bs) : (Lib.splitB ⟨#[32]⟩ 0 (Lib.countB ⟨s.toArray⟩ ⟨#[32]⟩) ⟨s.toArray⟩).map Value.string = (Lib.split s [32]).map str := by
  have h := Lib.splitB_data ⟨#[32]⟩ 0 (Lib.countB ⟨s.toArray⟩ ⟨#[32]⟩) ⟨s.toArray⟩
  have e : Lib.split s [32] = Lib.splitK [32] 0 (Lib.countB ⟨s.toArray⟩ ⟨#[32]⟩) s := by unfold Lib.split Lib.countB; simp
  rw [e]
  have h' : (Lib.splitB ⟨#[32]⟩ 0 (Lib.countB ⟨s.toArray⟩ ⟨#[32]⟩) ⟨s.toArray⟩).map (·.data.toList) = Lib.splitK [32] 0 (Lib.countB ⟨s.toArray⟩ ⟨#[32]⟩) s := by simpa using h
  rw [← h', List.map_map]
  refine List.map_congr_left fun b _ => ?_
  simp [str]
theorem split_length (s : Bs) : (Lib.split s [32]).length = Lib.countB ⟨s.toArray⟩ ⟨#[32]⟩ + 1 := by
  have h := congrArg List.length (splitB_str s)
  simp only [List.length_map] at h
  rw [← h, Lib.splitB_all _ (by decide) 0 _ _ rfl]
theorem split_c (s : Bs) (hs : s.length ≤ 1000000) (w : World) (hm : MaxAt w) :
    Calls Tryz.prog 31 #[str s, str [32]] w fun e w' => (∃ n c, e = .returned (.slice (some ⟨w.heap.size, 0, none⟩) n c) ∧ StrsAt w' (Lib.split s [32]) (.slice (some ⟨w.heap.size, 0, none⟩) n c) ∧ w.heap.size < w'.heap.size) ∧ Below w.heap.size w w' := by
  obtain ⟨m, hm⟩ := hm
  refine (Tryz.strings_Split ⟨s.toArray⟩ ⟨#[32]⟩ m w (by simp [ByteArray.size]; omega) hm (by decide)).mono fun e w' ⟨h1, h2⟩ => ?_
  subst h2
  refine ⟨⟨_, _, h1, ?_, by simp⟩, (Below.refl _ _).alloc (Nat.le_refl _) _⟩
  have hl := split_length s
  rw [splitB_str, ← hl]
  have hc : Lib.countB ⟨s.toArray⟩ ⟨#[32]⟩ ≤ 1000000 := by
    have := Lib.countB_le ⟨#[32]⟩ (by decide) _ ⟨s.toArray⟩ (Nat.le_refl _)
    simp [ByteArray.size] at this; omega
  refine At.sl_mk (by simp) (Nat.le_refl _) (by rw [hl]; unfold maxLen; omega) fun j d hd => ?_
  rw [List.getElem?_map] at hd
  obtain ⟨y, hy, rfl⟩ := Option.map_eq_some_iff.1 hd
  refine ⟨str y, ?_, rfl⟩
  rw [box_cell (heap_alloc_new w _)]
  simp [hy]
/-- The words of a text. -/
def wordsOf (s : Bs) : List Bs := if s = [] then [] else Lib.split s [32]
def readPR (s : Bs) : PR Fm := pForm (3 * (wordsOf s).length + 1) (wordsOf s)
theorem wordsOf_len (s : Bs) (hs : s.length ≤ 1000000) : (wordsOf s).length ≤ s.length + 1 ∧ ∀ x ∈ wordsOf s, x.length ≤ maxLen := by
  unfold wordsOf
  split
  · exact ⟨by simp, fun x h => by cases h⟩
  · refine ⟨?_, fun x hx => ?_⟩
    · rw [split_length]
      have := Lib.countB_le ⟨#[32]⟩ (by decide) _ ⟨s.toArray⟩ (Nat.le_refl _)
      simp [ByteArray.size] at this; omega
    · have := splitK_len [32] _ _ x hx
      unfold maxLen; omega
def zero25 : Value := .agg #[.int .u8 0, str [], .slice none 0 0, .slice none 0 0]
/-- What Read answers. -/
def ReadAns (s : Bs) (w : World) (e : Ending) (w' : World) : Prop :=
  Below w.heap.size w w' ∧
  ((∃ f v, readPR s = .good f [] ∧ e = .returned (.tuple #[v, .int .i64 0, .int .i64 0]) ∧ FmVal (hide (lo w) w') f v) ∨
   (∃ r : List Bs, (readPR s = .bad r ∨ ∃ f, readPR s = .good f r ∧ r ≠ []) ∧ e = .returned (.tuple #[.agg #[.int .u8 0, str [], .slice none 0 0, .slice none 0 0], .int .i64 ((wordsOf s).length - r.length : Nat), .int .i64 410])))
end Go.Proofs.YtcandidgaegghaaGreatDoor
namespace Go.Proofs.YtcandidgaegghaaGreatDoor
open Go Go.RowKit Ly
set_option maxRecDepth 10000
set_option linter.unusedSimpArgs false
set_option linter.unusedVariables false
set_option maxHeartbeats 4000000
/-- Behind the splitting: a list of the words, above w0. -/
def ListW (w : World) (ws : List Bs) (v : Value) (wx : World) : Prop := ∃ la ln lc, v = .slice la ln lc ∧ StrsAt wx ws (.slice la ln lc) ∧ (∀ a, la = some a → a.block < wx.heap.size) ∧ Below w.heap.size w wx
/-- What formula leaves to Read. -/
structure AfterF (I : RdIx) (ws : List Bs) (w w1 w2 : World) (x : Fm) (k : Nat) (f : Bool) (p : PR Fm) (a : Option Addr) (na ca : Nat) (b : Option Addr) (nb cb : Nat) : Prop where
  rd : Rd w2 I ws k f
  bw : Below w.heap.size w w2
  ok : PrOk p x f (ws.drop k)
  ht : TmsAt w2 x.args (.slice a na ca)
  hs : FmsAt w2 x.sub (.slice b nb cb)
theorem below_moved {I : RdIx} {w w1 w2 : World} (h : Below w.heap.size w w1) (m : Moved I w1 w2) (hA : w.heap.size ≤ I.A) (hS : w.heap.size ≤ I.S) : Below w.heap.size w w2 :=
  ⟨m.os.trans h.os, m.tape.trans h.tape, m.output.trans h.output, Nat.le_trans h.size m.size, fun k hk => (m.block k (Nat.lt_of_lt_of_le hk h.size) (by omega) (by omega)).trans (h.block k hk)⟩
theorem res43 (tmps : Array Value) (w : World) (g : Nat) (a b c d y z : Value) (fr : Nat × Nat) (h2 : tmps.getD 2 undef = one g) (h3 : tmps.getD 3 undef = y) (h4 : tmps.getD 4 undef = z) (hg : w.heap[g]? = some (.cells #[a, b, c, d] 25 fr)) :
    (results Tryz.f43 tmps).run Tryz.prog w = .ok (.tuple #[.agg #[a, b, c, d], y, z]) w := by
  obtain ⟨fs, h1⟩ := u25
  have e2 : tmps[2]?.getD undef = .pointer (some ⟨g, 0, none⟩) := by simpa using h2
  have e3 : tmps[3]?.getD undef = y := by simpa using h3
  have e4 : tmps[4]?.getD undef = z := by simpa using h4
  simp [results, Tryz.results43, e2, e3, e4, asAddr, run_loadVar_row w g 25 25 #[a, b, c, d] fr _ hg h1 rfl i25]
theorem hid_one {w3 w4 w5 : World} {g : Nat} (ba : Below w4.heap.size w4 w5) (hz : g < w3.heap.size) : Keeps (hide (lo w3) w4) (hide (fun k => decide (k < g + 1)) w5) := hide_keeps2 fun k h1 h2 => by
  simp only [lo, decide_eq_false_iff_not, Nat.not_lt] at h2
  exact ⟨by simp; omega, ba.block k h1⟩
theorem hid_below {w5 w7 : World} {p : Nat → Bool} (ba : Below w5.heap.size w5 w7) : Keeps (hide p w5) (hide p w7) := hide_keeps2 fun k h1 h2 => ⟨h2, ba.block k h1⟩
theorem read_end {s : Bs} {w w7 : World} {a b c d y z : Value} {tmps : Array Value} (B : Below w.heap.size w w7) (hg : w7.heap[w.heap.size]? = some (.cells #[.int .u8 0, str [], .slice none 0 0, .slice none 0 0] 25 (0, 0)))
    (h2 : tmps.getD 2 undef = one w.heap.size) (h3 : tmps.getD 3 undef = y) (h4 : tmps.getD 4 undef = z)
    (post : ∀ w', Below w.heap.size w w' → Keeps (hide (fun k => decide (k < w.heap.size + 1)) w7) (hide (lo w) w') → ReadAns s w (.returned (.tuple #[.agg #[a, b, c, d], y, z])) w') :
    bodyPost Tryz.prog Tryz.f43 (ReadAns s w) .ret ⟨tmps, []⟩ ((((w7.setCell ⟨w.heap.size, 0, none⟩ a).setCell ⟨w.heap.size, 1, none⟩ b).setCell ⟨w.heap.size, 2, none⟩ c).setCell ⟨w.heap.size, 3, none⟩ d) := by
  have g1 := set_block (o := 0) (u := a) hg
  have g2 := set_block (o := 1) (u := b) g1
  have g3 := set_block (o := 2) (u := c) g2
  have g4 := set_block (o := 3) (u := d) g3
  refine bodyPost_ret (res43 tmps _ w.heap.size a b c d y z (0, 0) h2 h3 h4 g4) rfl ?_
  refine post _ ((((B.setCell (by simp) _).setCell (by simp) _).setCell (by simp) _).setCell (by simp) _) (hide_keeps2 fun k h1 h2 => ?_)
  simp only [decide_eq_false_iff_not, Nat.not_lt, lo] at h2 ⊢
  have hne : k ≠ w.heap.size := by omega
  exact ⟨by omega, by rw [Below.heap_setCell _ _ _ _ hne, Below.heap_setCell _ _ _ _ hne, Below.heap_setCell _ _ _ _ hne, Below.heap_setCell _ _ _ _ hne]⟩
/-- Behind the reading. -/
structure At8 (s : Bs) (w : World) (I : RdIx) (x : Fm) (k : Nat) (f : Bool) (a : Option Addr) (na ca : Nat) (b : Option Addr) (nb cb : Nat) (h : Nat) (wx : World) : Prop where
  rd : Rd wx I (wordsOf s) k f
  bw : Below w.heap.size w wx
  g : wx.heap[w.heap.size]? = some (.cells #[.int .u8 0, str [], .slice none 0 0, .slice none 0 0] 25 (0, 0))
  cell : wx.heap[h]? = some (.cells #[.int .u8 x.op, str x.name, .slice a na ca, .slice b nb cb] 25 (0, 0))
  ok : PrOk (readPR s) x f ((wordsOf s).drop k)
  ht : TmsAt (hide (fun k => decide (k < w.heap.size + 1)) wx) x.args (.slice a na ca)
  hs : FmsAt (hide (fun k => decide (k < w.heap.size + 1)) wx) x.sub (.slice b nb cb)
  rows : RowsAt wx
/-- Behind the splitting. -/
structure AtSix (s : Bs) (w wx : World) (v : Value) : Prop where
  list : ListW w (wordsOf s) v wx
  rows : RowsAt wx
  row : wx.heap[w.heap.size]? = some (.cells #[.int .u8 0, str [], .slice none 0 0, .slice none 0 0] 25 (0, 0))
theorem At8.bad {s : Bs} {w wx : World} {I : RdIx} {x : Fm} {k : Nat} {f : Bool} {a : Option Addr} {na ca : Nat} {b : Option Addr} {nb cb : Nat} {h : Nat} (A : At8 s w I x k f a na ca b nb cb h wx) (hm : f = true ∨ decide (k < (wordsOf s).length) = true) (w' : World) (B : Below w.heap.size w w') : ReadAns s w (.returned (.tuple #[.agg #[.int .u8 0, str [], .slice none 0 0, .slice none 0 0], .int .i64 k, .int .i64 410])) w' := by
  refine ⟨B, .inr ⟨(wordsOf s).drop k, ?_, ?_⟩⟩
  · cases f with
    | true => exact .inl (prok_bad A.ok)
    | false =>
      refine .inr ⟨x, prok_good A.ok, ?_⟩
      rcases hm with h | h
      · cases h
      · intro e
        have h1 : k < (wordsOf s).length := by simpa using h
        have := congrArg List.length e
        simp at this; omega
  · have h1 := A.rd.at_
    have e : (wordsOf s).length - ((wordsOf s).drop k).length = k := by simp; omega
    rw [e]
theorem At8.good {s : Bs} {w wx : World} {I : RdIx} {x : Fm} {k : Nat} {a : Option Addr} {na ca : Nat} {b : Option Addr} {nb cb : Nat} {h : Nat} (A : At8 s w I x k false a na ca b nb cb h wx) (hm : decide (k < (wordsOf s).length) = false) (w' : World) (B : Below w.heap.size w w') (K : Keeps (hide (fun k => decide (k < w.heap.size + 1)) wx) (hide (lo w) w')) :
    ReadAns s w (.returned (.tuple #[.agg #[.int .u8 x.op, str x.name, .slice a na ca, .slice b nb cb], .int .i64 0, .int .i64 0])) w' := by
  refine ⟨B, .inl ⟨x, _, ?_, rfl, ⟨_, _, _, _, _, _, rfl, A.ht.keep K, A.hs.keep K⟩⟩⟩
  rw [prok_good A.ok, List.drop_of_length_le (by simpa using hm)]
theorem read_right {s : Bs} {w wx : World} {I : RdIx} {x : Fm} {k : Nat} {a : Option Addr} {na ca : Nat} {b : Option Addr} {nb cb : Nat} {h : Nat} (hr : ∀ f, readPR s = .good f [] → f.right = true) (A : At8 s w I x k false a na ca b nb cb h wx) (hm : decide (k < (wordsOf s).length) = false) : x.right = true := by
  refine hr x ?_
  rw [prok_good A.ok, List.drop_of_length_le (by simpa using hm)]
theorem Read_c (s : Bs) (hs : s.length ≤ 16384) (hr : ∀ f, readPR s = .good f [] → f.right = true) (w : World) (hm : MaxAt w) (rows : RowsAt w) : Calls Tryz.prog 43 #[str s] w (ReadAns s w) := by
  have hB : Below w.heap.size w (w.alloc (.cells #[.int .u8 0, str [], .slice none 0 0, .slice none 0 0] 25)) := (Below.refl _ _).alloc (Nat.le_refl _) _
  have hrow : (w.alloc (.cells #[.int .u8 0, str [], .slice none 0 0, .slice none 0 0] 25)).heap[w.heap.size]? = some (.cells #[.int .u8 0, str [], .slice none 0 0, .slice none 0 0] 25 (0, 0)) := heap_alloc_new w _
  have HS := Lib.hid hs
  have HR := Lib.hid hr
  have HM := Lib.hid (hm.keep (keeps_of_below hB))
  have RW := Lib.hid (rows.keep (keeps_of_below hB))
  have RO := Lib.hid rows
  have HB := Lib.hid hB
  have HG := Lib.hid hrow
  have hl : (s.length : Int) ≤ 16384 := by omega
  have hl2 : ¬ (16384 : Int) < s.length := by omega
  have WL := Lib.hid (wordsOf_len s (by omega))
  clear hs hr hm rows hB hrow
  have cut : ∃ b : Bool, s.isEmpty = b := ⟨_, rfl⟩
  obtain ⟨bE, hE⟩ := cut
  have HE := Lib.hid hE
  go_enter Tryz.func43, Tryz.ntmps43
  cases bE
  · have hne : ¬ s = [] := by rw [← List.isEmpty_iff, hE]; simp
    have e2 : (s == []) = false := by simpa using hne
    have HN := Lib.hid hne
    go_upto_region 6 with (go_at_call 31; refine (split_c s (by have := HS.out; omega) _ HM.out).mono ?_; rintro e w2 ⟨⟨nl, cl, rfl, hsa, hlt⟩, hb2⟩; have B2 := Lib.hid (And.intro hsa (And.intro hlt hb2)); clear hsa hlt hb2)
    have A6 : Hid (AtSix s w w2 (.slice (some ⟨w.heap.size + 1, 0, none⟩) nl cl)) := by
      obtain ⟨hsa, hlt, hb2⟩ := B2.out
      refine ⟨⟨_, _, _, rfl, ?_, ?_, HB.out.trans (hb2.mono (by simp))⟩, RW.out.keep (keeps_of_below hb2), (hb2.block w.heap.size (by simp)).trans HG.out⟩
      · unfold wordsOf; rw [if_neg HN.out]; simpa using hsa
      · intro a h; cases h; simpa using hlt
    clear hE hne e2 HN B2
    obtain ⟨⟨la, ln, lc, ev, hsa, hla, hbw⟩, rows6, row6⟩ := A6.out
    cases ev
    have LA := Lib.hid (And.intro hsa hla)
    have BW := Lib.hid hbw
    have R6 := Lib.hid rows6
    have G6 := Lib.hid row6
    clear hsa hla hbw rows6 row6 A6
    go_upto_region 8 with (first
      | (go_at_call 116; refine (newReader_c _ _ _ _ _ LA.out.1 LA.out.2 (by have := WL.out.1; have := HS.out; omega)).mono ?_; rintro e w3 ⟨I, rfl, rd, tb, bw, hA, hS⟩; have RD := Lib.hid rd; have TB := Lib.hid tb; have B3 := Lib.hid (And.intro bw (And.intro hA hS)); clear rd tb bw hA hS)
      | (go_at_call 117; refine (formula_all I _ WL.out.2 _ 0 false _ RD.out TB.out (fun _ => Nat.le_refl _)).mono ?_; rintro e w4 ⟨x, v, k, f, rfl, ⟨a, na, ca, b, nb, cb, rfl, ht, hs⟩, mv, r4, hp⟩; have Q4 := Lib.hid (And.intro ht (And.intro hs (And.intro mv (And.intro r4 hp)))); clear ht hs mv r4 hp))
    have A8 : Hid (At8 s w I x k f a na ca b nb cb w4.heap.size (w4.alloc (.cells #[.int .u8 x.op, str x.name, .slice a na ca, .slice b nb cb] 25))) := by
      obtain ⟨ht, hs, mv, r4, hp⟩ := Q4.out
      obtain ⟨bw, hA, hS⟩ := B3.out
      have ba : Below w4.heap.size w4 (w4.alloc (.cells #[.int .u8 x.op, str x.name, .slice a na ca, .slice b nb cb] 25)) := (Below.refl _ _).alloc (Nat.le_refl _) _
      have b5 : Below w.heap.size w (w4.alloc (.cells #[.int .u8 x.op, str x.name, .slice a na ca, .slice b nb cb] 25)) := belowThen (below_moved (belowThen BW.out bw) mv (Nat.le_trans BW.out.size hA) (Nat.le_trans BW.out.size hS)) ba
      have gz := (Array.getElem?_eq_some_iff.1 G6.out).1
      refine ⟨r4.below ba, b5, ?_, heap_alloc_new _ _, hp, ?_, ?_, RO.out.keep (keeps_of_below b5)⟩
      · rw [ba.block _ (by have := mv.size; have := bw.size; omega), mv.block _ (by have := bw.size; omega) (by omega) (by omega), bw.block _ gz]
        exact G6.out
      · exact ht.keep (hid_one ba (by have := bw.size; omega))
      · exact hs.keep (hid_one ba (by have := bw.size; omega))
    show Code.wp _ _ _ _ (w4.alloc (.cells #[.int .u8 x.op, str x.name, .slice a na ca, .slice b nb cb] 25))
    generalize w4.heap.size = h5 at A8 ⊢
    generalize w4.alloc (.cells #[.int .u8 x.op, str x.name, .slice a na ca, .slice b nb cb] 25) = W5 at A8 ⊢
    have q1 : W5.cell? ⟨I.S, 1, none⟩ = some (.func (.func 191) #[] #[one I.A, one I.L]) := (box_cell A8.out.rd.hS 1).trans rfl
    clear Q4 B3 TB RD LA BW R6 G6 RW HM
    obtain ⟨more, hmore⟩ : ∃ m : Bool, decide (k < (wordsOf s).length) = m := ⟨_, rfl⟩
    have HMO := Lib.hid hmore
    clear hmore
    cases f <;> cases more
    all_goals go_wp2_with (first
      | (go_at_call 191; refine (left_c I (wordsOf s) k _ W5 A8.out.rd).mono ?_; rintro e w6 ⟨he, hb6⟩; rw [HMO.out] at he; subst he; have B6 := Lib.hid hb6; have s2 := sfail (A8.out.rd.below hb6); obtain ⟨c0, c1, c2, c3, f0, f1, f2, f3⟩ := row25 ((hb6.block _ (Array.getElem?_eq_some_iff.1 A8.out.g).1).trans A8.out.g); obtain ⟨x0, x1, x2, x3, l0, l1, l2, l3⟩ := row25' ((hb6.block _ (Array.getElem?_eq_some_iff.1 A8.out.cell).1).trans A8.out.cell); clear hb6)
      | (go_at_call 85; refine (Right_yes x _ _ (A8.out.rows.keep (keeps_of_below B6.out)) ⟨_, _, _, _, _, _, rfl, A8.out.ht.keep ((hide_keeps _ _).trans (keeps_of_below B6.out)), A8.out.hs.keep ((hide_keeps _ _).trans (keeps_of_below B6.out))⟩ (read_right HR.out A8.out HMO.out)).mono ?_; rintro e w7 ⟨rfl, hb7⟩; clear c0 c1 c2 c3 f0 f1 f2 f3 x0 x1 x2 x3 l0 l1 l2 l3; have B7 := Lib.hid (belowThen B6.out hb7); obtain ⟨c0, c1, c2, c3, f0, f1, f2, f3⟩ := row25 ((B7.out.block _ (Array.getElem?_eq_some_iff.1 A8.out.g).1).trans A8.out.g); obtain ⟨x0, x1, x2, x3, l0, l1, l2, l3⟩ := row25' ((B7.out.block _ (Array.getElem?_eq_some_iff.1 A8.out.cell).1).trans A8.out.cell); clear hb7))
    · exact read_end (belowThen A8.out.bw B7.out) ((B7.out.block _ (Array.getElem?_eq_some_iff.1 A8.out.g).1).trans A8.out.g) rfl rfl rfl fun w' b K => A8.out.good HMO.out w' b ((hid_below B7.out).trans K)
    · exact read_end (belowThen A8.out.bw B6.out) ((B6.out.block _ (Array.getElem?_eq_some_iff.1 A8.out.g).1).trans A8.out.g) rfl rfl rfl fun w' b K => A8.out.bad (.inr HMO.out) w' b
    · exact read_end (belowThen A8.out.bw B6.out) ((B6.out.block _ (Array.getElem?_eq_some_iff.1 A8.out.g).1).trans A8.out.g) rfl rfl rfl fun w' b K => A8.out.bad (.inl rfl) w' b
    · exact read_end (belowThen A8.out.bw B6.out) ((B6.out.block _ (Array.getElem?_eq_some_iff.1 A8.out.g).1).trans A8.out.g) rfl rfl rfl fun w' b K => A8.out.bad (.inl rfl) w' b
  · have hne : s = [] := List.isEmpty_iff.1 hE
    subst hne
    go_upto_region 6 with fail
    have A6 : Hid (AtSix [] w (w.alloc (.cells #[.int .u8 0, str [], .slice none 0 0, .slice none 0 0] 25)) (.slice none 0 0)) := by
      refine ⟨⟨_, _, _, rfl, ?_, ?_, HB.out⟩, RW.out, HG.out⟩
      · unfold wordsOf; rw [if_pos rfl]; exact At.sl_nil (Nat.zero_le _)
      · rintro a h; cases h
    obtain ⟨⟨la, ln, lc, ev, hsa, hla, hbw⟩, rows6, row6⟩ := A6.out
    cases ev
    have LA := Lib.hid (And.intro hsa hla)
    have BW := Lib.hid hbw
    have R6 := Lib.hid rows6
    have G6 := Lib.hid row6
    clear hsa hla hbw rows6 row6 A6
    go_upto_region 8 with (first
      | (go_at_call 116; refine (newReader_c _ _ _ _ _ LA.out.1 LA.out.2 (by have := WL.out.1; have := HS.out; omega)).mono ?_; rintro e w3 ⟨I, rfl, rd, tb, bw, hA, hS⟩; have RD := Lib.hid rd; have TB := Lib.hid tb; have B3 := Lib.hid (And.intro bw (And.intro hA hS)); clear rd tb bw hA hS)
      | (go_at_call 117; refine (formula_all I _ WL.out.2 _ 0 false _ RD.out TB.out (fun _ => Nat.le_refl _)).mono ?_; rintro e w4 ⟨x, v, k, f, rfl, ⟨a, na, ca, b, nb, cb, rfl, ht, hs⟩, mv, r4, hp⟩; have Q4 := Lib.hid (And.intro ht (And.intro hs (And.intro mv (And.intro r4 hp)))); clear ht hs mv r4 hp))
    have A8 : Hid (At8 [] w I x k f a na ca b nb cb w4.heap.size (w4.alloc (.cells #[.int .u8 x.op, str x.name, .slice a na ca, .slice b nb cb] 25))) := by
      obtain ⟨ht, hs, mv, r4, hp⟩ := Q4.out
      obtain ⟨bw, hA, hS⟩ := B3.out
      have ba : Below w4.heap.size w4 (w4.alloc (.cells #[.int .u8 x.op, str x.name, .slice a na ca, .slice b nb cb] 25)) := (Below.refl _ _).alloc (Nat.le_refl _) _
      have b5 : Below w.heap.size w (w4.alloc (.cells #[.int .u8 x.op, str x.name, .slice a na ca, .slice b nb cb] 25)) := belowThen (below_moved (belowThen BW.out bw) mv (Nat.le_trans BW.out.size hA) (Nat.le_trans BW.out.size hS)) ba
      have gz := (Array.getElem?_eq_some_iff.1 G6.out).1
      refine ⟨r4.below ba, b5, ?_, heap_alloc_new _ _, hp, ?_, ?_, RO.out.keep (keeps_of_below b5)⟩
      · rw [ba.block _ (by have := mv.size; have := bw.size; omega), mv.block _ (by have := bw.size; omega) (by omega) (by omega), bw.block _ gz]
        exact G6.out
      · exact ht.keep (hid_one ba (by have := bw.size; omega))
      · exact hs.keep (hid_one ba (by have := bw.size; omega))
    show Code.wp _ _ _ _ (w4.alloc (.cells #[.int .u8 x.op, str x.name, .slice a na ca, .slice b nb cb] 25))
    generalize w4.heap.size = h5 at A8 ⊢
    generalize w4.alloc (.cells #[.int .u8 x.op, str x.name, .slice a na ca, .slice b nb cb] 25) = W5 at A8 ⊢
    have q1 : W5.cell? ⟨I.S, 1, none⟩ = some (.func (.func 191) #[] #[one I.A, one I.L]) := (box_cell A8.out.rd.hS 1).trans rfl
    clear Q4 B3 TB RD LA BW R6 G6 RW HM
    obtain ⟨more, hmore⟩ : ∃ m : Bool, decide (k < (wordsOf []).length) = m := ⟨_, rfl⟩
    have HMO := Lib.hid hmore
    clear hmore
    cases f <;> cases more
    all_goals go_wp2_with (first
      | (go_at_call 191; refine (left_c I (wordsOf []) k _ W5 A8.out.rd).mono ?_; rintro e w6 ⟨he, hb6⟩; rw [HMO.out] at he; subst he; have B6 := Lib.hid hb6; have s2 := sfail (A8.out.rd.below hb6); obtain ⟨c0, c1, c2, c3, f0, f1, f2, f3⟩ := row25 ((hb6.block _ (Array.getElem?_eq_some_iff.1 A8.out.g).1).trans A8.out.g); obtain ⟨x0, x1, x2, x3, l0, l1, l2, l3⟩ := row25' ((hb6.block _ (Array.getElem?_eq_some_iff.1 A8.out.cell).1).trans A8.out.cell); clear hb6)
      | (go_at_call 85; refine (Right_yes x _ _ (A8.out.rows.keep (keeps_of_below B6.out)) ⟨_, _, _, _, _, _, rfl, A8.out.ht.keep ((hide_keeps _ _).trans (keeps_of_below B6.out)), A8.out.hs.keep ((hide_keeps _ _).trans (keeps_of_below B6.out))⟩ (read_right HR.out A8.out HMO.out)).mono ?_; rintro e w7 ⟨rfl, hb7⟩; clear c0 c1 c2 c3 f0 f1 f2 f3 x0 x1 x2 x3 l0 l1 l2 l3; have B7 := Lib.hid (belowThen B6.out hb7); obtain ⟨c0, c1, c2, c3, f0, f1, f2, f3⟩ := row25 ((B7.out.block _ (Array.getElem?_eq_some_iff.1 A8.out.g).1).trans A8.out.g); obtain ⟨x0, x1, x2, x3, l0, l1, l2, l3⟩ := row25' ((B7.out.block _ (Array.getElem?_eq_some_iff.1 A8.out.cell).1).trans A8.out.cell); clear hb7))
    · exact read_end (belowThen A8.out.bw B7.out) ((B7.out.block _ (Array.getElem?_eq_some_iff.1 A8.out.g).1).trans A8.out.g) rfl rfl rfl fun w' b K => A8.out.good HMO.out w' b ((hid_below B7.out).trans K)
    · exact read_end (belowThen A8.out.bw B6.out) ((B6.out.block _ (Array.getElem?_eq_some_iff.1 A8.out.g).1).trans A8.out.g) rfl rfl rfl fun w' b K => A8.out.bad (.inr HMO.out) w' b
    · exact read_end (belowThen A8.out.bw B6.out) ((B6.out.block _ (Array.getElem?_eq_some_iff.1 A8.out.g).1).trans A8.out.g) rfl rfl rfl fun w' b K => A8.out.bad (.inl rfl) w' b
    · exact read_end (belowThen A8.out.bw B6.out) ((B6.out.block _ (Array.getElem?_eq_some_iff.1 A8.out.g).1).trans A8.out.g) rfl rfl rfl fun w' b K => A8.out.bad (.inl rfl) w' b
end Go.Proofs.YtcandidgaegghaaGreatDoor
