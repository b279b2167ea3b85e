/- describe.Read at any text: what is read of its words, and whether that is right. Conditions: the program's tables lie as laid; the text fits into memory. What describe.Read answers at any text, in one shape: the formula, the place, the code. Conditions: the text fits into memory; the program's tables lie as laid. -/
import Derived.Test.YtcandidgaegghaaGreatDoorRdG
import Derived.Test.YtcandidgaegghaaGreatDoorRightGZ
section
namespace Go.Proofs.YtcandidgaegghaaGreatDoor
open Go Go.RowKit Ly
set_option maxRecDepth 10000
set_option linter.unusedSimpArgs false
set_option linter.unusedVariables false
set_option maxHeartbeats 4000000
theorem nil_le (n : Nat) : ([] : Bs).length ≤ n := Nat.zero_le n
theorem pTerms_sz : ∀ n : Nat,
    (∀ (ws : List Bs) (t : Tm) (r : List Bs), (∀ y ∈ ws, y.length ≤ maxLen) → pTerm n ws = .good t r → t.sz ∧ ∀ y ∈ r, y ∈ ws) ∧
    (∀ (ws : List Bs) (t : List Tm) (r : List Bs), (∀ y ∈ ws, y.length ≤ maxLen) → pTerms n ws = .good t r → tmsSz t ∧ ∀ y ∈ r, y ∈ ws) ∧
    (∀ (ws : List Bs) (t : List Tm) (r : List Bs), (∀ y ∈ ws, y.length ≤ maxLen) → pArgs n ws = .good t r → tmsSz t ∧ ∀ y ∈ r, y ∈ ws) := by
  intro n
  induction n with
  | zero =>
    refine ⟨fun ws t r _ h => ?_, fun ws t r _ h => ?_, fun ws t r _ h => ?_⟩
    · simp [pTerm] at h
    · simp [pTerms] at h
    · simp [pArgs] at h
  | succ n ih =>
    obtain ⟨i1, i2, i3⟩ := ih
    refine ⟨fun ws t r hw h => ?_, fun ws t r hw h => ?_, fun ws t r hw h => ?_⟩
    · cases ws with
      | nil => simp [pTerm] at h
      | cons w ws =>
        simp only [pTerm] at h
        split at h
        · simp at h; obtain ⟨rfl, rfl⟩ := h
          exact ⟨by rw [Tm.sz]; exact ⟨hw w (by simp), trivial⟩, fun y hy => by simp [hy]⟩
        · split at h
          · split at h
            · cases h
            · rename_i l r' e
              obtain ⟨a, b⟩ := i2 ws l r' (fun y hy => hw y (by simp [hy])) e
              simp at h; obtain ⟨rfl, rfl⟩ := h
              exact ⟨by rw [Tm.sz]; exact ⟨hw w (by simp), a⟩, fun y hy => by simp [b y hy]⟩
          · cases h
    · cases ws with
      | nil => simp [pTerms] at h; obtain ⟨rfl, rfl⟩ := h; exact ⟨trivial, fun y hy => hy⟩
      | cons w ws =>
        simp only [pTerms] at h
        split at h
        · obtain ⟨a, b⟩ := i3 ws t r (fun y hy => hw y (by simp [hy])) h
          exact ⟨a, fun y hy => by simp [b y hy]⟩
        · simp at h; obtain ⟨rfl, rfl⟩ := h; exact ⟨trivial, fun y hy => hy⟩
    · simp only [pArgs] at h
      split at h
      · cases h
      · cases h
      · rename_i t' x r' e
        obtain ⟨a, b⟩ := i1 ws t' _ hw e
        split at h
        · split at h
          · cases h
          · rename_i ts s e2
            obtain ⟨c, d⟩ := i3 r' ts s (fun y hy => hw y (b y (by simp [hy]))) e2
            simp at h; obtain ⟨rfl, rfl⟩ := h
            exact ⟨⟨a, c⟩, fun y hy => b y (by simp [d y hy])⟩
        · split at h
          · simp at h; obtain ⟨rfl, rfl⟩ := h
            exact ⟨⟨a, trivial⟩, fun y hy => b y (by simp [hy])⟩
          · cases h
theorem oneOp_range (w : Bs) : 0 ≤ oneOp w ∧ oneOp w < 256 := by
  unfold oneOp
  repeat' split
  all_goals omega
theorem twoOp_range (w : Bs) : 0 ≤ twoOp w ∧ twoOp w < 256 := by
  unfold twoOp
  repeat' split
  all_goals omega
theorem pForm_sz : ∀ (n : Nat) (ws : List Bs) (t : Fm) (r : List Bs), (∀ y ∈ ws, y.length ≤ maxLen) → pForm n ws = .good t r → t.sz ∧ ∀ y ∈ r, y ∈ ws
  | 0, ws, t, r, hw, h => by simp [pForm] at h
  | n + 1, [], t, r, hw, h => by simp [pForm] at h
  | n + 1, w :: ws, t, r, hw, h => by
    simp only [pForm] at h
    split at h
    · simp at h; obtain ⟨rfl, rfl⟩ := h
      exact ⟨by rw [Fm.sz]; exact ⟨by omega, nil_le _, trivial, trivial⟩, fun y hy => by simp [hy]⟩
    split at h
    · split at h
      · cases h
      · rename_i f r' e
        obtain ⟨a, b⟩ := pForm_sz n ws f r' (fun y hy => hw y (by simp [hy])) e
        simp at h; obtain ⟨rfl, rfl⟩ := h
        exact ⟨by rw [Fm.sz]; exact ⟨oneOp_range w, nil_le _, trivial, a, trivial⟩, fun y hy => by simp [b y hy]⟩
    split at h
    · split at h
      · cases h
      · cases h
      · rename_i f x r' e
        obtain ⟨a, b⟩ := pForm_sz n ws f _ (fun y hy => hw y (by simp [hy])) e
        split at h
        · split at h
          · cases h
          · rename_i g s e2
            obtain ⟨c, d⟩ := pForm_sz n r' g s (fun y hy => hw y (by simp [b y (by simp [hy])])) e2
            simp at h; obtain ⟨rfl, rfl⟩ := h
            exact ⟨by rw [Fm.sz]; exact ⟨twoOp_range w, nil_le _, trivial, a, c, trivial⟩, fun y hy => by simp [b y (by simp [d y hy])]⟩
        · cases h
    split at h
    · split at h
      · cases h
      · rename_i q ws'
        split at h
        · split at h
          · cases h
          · rename_i v r'
            split at h
            · split at h
              · cases h
              · rename_i f s e
                obtain ⟨a, b⟩ := pForm_sz n r' f s (fun y hy => hw y (by simp [hy])) e
                simp at h; obtain ⟨rfl, rfl⟩ := h
                refine ⟨?_, fun y hy => by simp [b y hy]⟩
                rw [Fm.sz]
                refine ⟨?_, hw v (by simp), trivial, a, trivial⟩
                split <;> omega
            · cases h
        · cases h
    split at h
    · split at h
      · cases h
      · rename_i l r' e
        obtain ⟨a, b⟩ := (pTerms_sz n).2.1 ws l r' (fun y hy => hw y (by simp [hy])) e
        simp at h; obtain ⟨rfl, rfl⟩ := h
        exact ⟨by rw [Fm.sz]; exact ⟨by omega, hw w (by simp), a, trivial⟩, fun y hy => by simp [b y hy]⟩
    · cases h
theorem Right_any (f : Fm) (b : Bool) (hb : f.right = b) (hf : f.sz) (x : Value) (w : World) (hr : RowsAt w) (hrn : RowsNo w) (hx : FmVal w f x) : Calls Tryz.prog 85 #[x] w fun e w' => e = .returned (.bool b) ∧ Below w.heap.size w w' := by
  cases b with
  | true => exact Right_yes f x w hr hx hb
  | false => exact Right_no f hf (by rw [hb]; simp) x w hr hrn hx
/-- What Read answers to a text that is not too long. -/
def ReadAny (s : Bs) (w : World) (e : Ending) (w' : World) : Prop :=
  Below w.heap.size w w' ∧
  ((∃ f v, readPR s = .good f [] ∧ f.right = true ∧ e = .returned (.tuple #[v, .int .i64 0, .int .i64 0]) ∧ FmVal (hide (lo w) w') f v) ∨
   (∃ f, readPR s = .good f [] ∧ f.right = false ∧ e = .returned (.tuple #[.agg #[.int .u8 0, str [], .slice none 0 0, .slice none 0 0], .int .i64 0, .int .i64 2])) ∨
   (∃ r : List Bs, (readPR s = .bad r ∨ ∃ f, readPR s = .good f r ∧ r ≠ []) ∧ e = .returned (.tuple #[.agg #[.int .u8 0, str [], .slice none 0 0, .slice none 0 0], .int .i64 ((wordsOf s).length - r.length : Nat), .int .i64 410])))
theorem ReadAns.any {s : Bs} {w w' : World} {e : Ending} (h : ReadAns s w e w') (hr : ∀ f, readPR s = .good f [] → f.right = true) : ReadAny s w e w' := by
  obtain ⟨b, ⟨f, v, h1, h2⟩ | h⟩ := h
  · exact ⟨b, .inl ⟨f, v, h1, hr f h1, h2⟩⟩
  · exact ⟨b, .inr (.inr h)⟩
theorem read_end2 {s : Bs} {w w7 : World} {a b c d y z : Value} {tmps : Array Value} (B : Below w.heap.size w w7) (hg : w7.heap[w.heap.size]? = some (.cells #[.int .u8 0, str [], .slice none 0 0, .slice none 0 0] 25 (0, 0)))
    (h2 : tmps.getD 2 undef = one w.heap.size) (h3 : tmps.getD 3 undef = y) (h4 : tmps.getD 4 undef = z)
    (post : ∀ w', Below w.heap.size w w' → Keeps (hide (fun k => decide (k < w.heap.size + 1)) w7) (hide (lo w) w') → ReadAny s w (.returned (.tuple #[.agg #[a, b, c, d], y, z])) w') :
    bodyPost Tryz.prog Tryz.f43 (ReadAny s w) .ret ⟨tmps, []⟩ ((((w7.setCell ⟨w.heap.size, 0, none⟩ a).setCell ⟨w.heap.size, 1, none⟩ b).setCell ⟨w.heap.size, 2, none⟩ c).setCell ⟨w.heap.size, 3, none⟩ d) := by
  have g1 := set_block (o := 0) (u := a) hg
  have g2 := set_block (o := 1) (u := b) g1
  have g3 := set_block (o := 2) (u := c) g2
  have g4 := set_block (o := 3) (u := d) g3
  refine bodyPost_ret (res43 tmps _ w.heap.size a b c d y z (0, 0) h2 h3 h4 g4) rfl ?_
  refine post _ ((((B.setCell (by simp) _).setCell (by simp) _).setCell (by simp) _).setCell (by simp) _) (hide_keeps2 fun k h1 h2 => ?_)
  simp only [decide_eq_false_iff_not, Nat.not_lt, lo] at h2 ⊢
  have hne : k ≠ w.heap.size := by omega
  exact ⟨by omega, by rw [Below.heap_setCell _ _ _ _ hne, Below.heap_setCell _ _ _ _ hne, Below.heap_setCell _ _ _ _ hne, Below.heap_setCell _ _ _ _ hne]⟩
theorem At8.bad2 {s : Bs} {w wx : World} {I : RdIx} {x : Fm} {k : Nat} {f : Bool} {a : Option Addr} {na ca : Nat} {b : Option Addr} {nb cb : Nat} {h : Nat} (A : At8 s w I x k f a na ca b nb cb h wx) (hm : f = true ∨ decide (k < (wordsOf s).length) = true) (w' : World) (B : Below w.heap.size w w') :
    ReadAny s w (.returned (.tuple #[.agg #[.int .u8 0, str [], .slice none 0 0, .slice none 0 0], .int .i64 k, .int .i64 410])) w' := by
  obtain ⟨b, h | h⟩ := A.bad hm w' B
  · obtain ⟨f, v, h1, h2, h3⟩ := h
    simp at h2
  · exact ⟨b, .inr (.inr h)⟩
theorem At8.good2 {s : Bs} {w wx : World} {I : RdIx} {x : Fm} {k : Nat} {a : Option Addr} {na ca : Nat} {b : Option Addr} {nb cb : Nat} {h : Nat} (A : At8 s w I x k false a na ca b nb cb h wx) (hm : decide (k < (wordsOf s).length) = false) (hR : x.right = true) (w' : World) (B : Below w.heap.size w w') (K : Keeps (hide (fun k => decide (k < w.heap.size + 1)) wx) (hide (lo w) w')) :
    ReadAny s w (.returned (.tuple #[.agg #[.int .u8 x.op, str x.name, .slice a na ca, .slice b nb cb], .int .i64 0, .int .i64 0])) w' := by
  have e : readPR s = .good x [] := by rw [prok_good A.ok, List.drop_of_length_le (by simpa using hm)]
  exact ⟨B, .inl ⟨x, _, e, hR, rfl, ⟨_, _, _, _, _, _, rfl, A.ht.keep K, A.hs.keep K⟩⟩⟩
theorem At8.no2 {s : Bs} {w wx : World} {I : RdIx} {x : Fm} {k : Nat} {a : Option Addr} {na ca : Nat} {b : Option Addr} {nb cb : Nat} {h : Nat} (A : At8 s w I x k false a na ca b nb cb h wx) (hm : decide (k < (wordsOf s).length) = false) (hR : x.right = false) (w' : World) (B : Below w.heap.size w w') :
    ReadAny s w (.returned (.tuple #[.agg #[.int .u8 0, str [], .slice none 0 0, .slice none 0 0], .int .i64 0, .int .i64 2])) w' := by
  have e : readPR s = .good x [] := by rw [prok_good A.ok, List.drop_of_length_le (by simpa using hm)]
  exact ⟨B, .inr (.inl ⟨x, e, hR, rfl⟩)⟩
theorem At8.sz {s : Bs} {w wx : World} {I : RdIx} {x : Fm} {k : Nat} {a : Option Addr} {na ca : Nat} {b : Option Addr} {nb cb : Nat} {h : Nat} (A : At8 s w I x k false a na ca b nb cb h wx) (hw : ∀ y ∈ wordsOf s, y.length ≤ maxLen) : x.sz := (pForm_sz _ _ _ _ hw (prok_good A.ok)).1
theorem Read_short (s : Bs) (hs : s.length ≤ 16384) (w : World) (hm : MaxAt w) (rows : RowsAt w) (rowsn : RowsNo w) : Calls Tryz.prog 43 #[str s] w (ReadAny s w) := by
  have hB : Below w.heap.size w (w.alloc (.cells #[.int .u8 0, str [], .slice none 0 0, .slice none 0 0] 25)) := (Below.refl _ _).alloc (Nat.le_refl _) _
  have hrow : (w.alloc (.cells #[.int .u8 0, str [], .slice none 0 0, .slice none 0 0] 25)).heap[w.heap.size]? = some (.cells #[.int .u8 0, str [], .slice none 0 0, .slice none 0 0] 25 (0, 0)) := heap_alloc_new w _
  have HS := Lib.hid hs
  have RN := Lib.hid rowsn
  have HM := Lib.hid (hm.keep (keeps_of_below hB))
  have RW := Lib.hid (rows.keep (keeps_of_below hB))
  have RO := Lib.hid rows
  have HB := Lib.hid hB
  have HG := Lib.hid hrow
  have hl : (s.length : Int) ≤ 16384 := by omega
  have hl2 : ¬ (16384 : Int) < s.length := by omega
  have WL := Lib.hid (wordsOf_len s (by omega))
  clear hs rowsn hm rows hB hrow
  have cut : ∃ b : Bool, s.isEmpty = b := ⟨_, rfl⟩
  obtain ⟨bE, hE⟩ := cut
  have HE := Lib.hid hE
  go_enter Tryz.func43, Tryz.ntmps43
  cases bE
  · have hne : ¬ s = [] := by rw [← List.isEmpty_iff, hE]; simp
    have e2 : (s == []) = false := by simpa using hne
    have HN := Lib.hid hne
    go_upto_region 6 with (go_at_call 31; refine (split_c s (by have := HS.out; omega) _ HM.out).mono ?_; rintro e w2 ⟨⟨nl, cl, rfl, hsa, hlt⟩, hb2⟩; have B2 := Lib.hid (And.intro hsa (And.intro hlt hb2)); clear hsa hlt hb2)
    have A6 : Hid (AtSix s w w2 (.slice (some ⟨w.heap.size + 1, 0, none⟩) nl cl)) := by
      obtain ⟨hsa, hlt, hb2⟩ := B2.out
      refine ⟨⟨_, _, _, rfl, ?_, ?_, HB.out.trans (hb2.mono (by simp))⟩, RW.out.keep (keeps_of_below hb2), (hb2.block w.heap.size (by simp)).trans HG.out⟩
      · unfold wordsOf; rw [if_neg HN.out]; simpa using hsa
      · intro a h; cases h; simpa using hlt
    clear hE hne e2 HN B2
    obtain ⟨⟨la, ln, lc, ev, hsa, hla, hbw⟩, rows6, row6⟩ := A6.out
    cases ev
    have LA := Lib.hid (And.intro hsa hla)
    have BW := Lib.hid hbw
    have R6 := Lib.hid rows6
    have G6 := Lib.hid row6
    clear hsa hla hbw rows6 row6 A6
    go_upto_region 8 with (first
      | (go_at_call 116; refine (newReader_c _ _ _ _ _ LA.out.1 LA.out.2 (by have := WL.out.1; have := HS.out; omega)).mono ?_; rintro e w3 ⟨I, rfl, rd, tb, bw, hA, hS⟩; have RD := Lib.hid rd; have TB := Lib.hid tb; have B3 := Lib.hid (And.intro bw (And.intro hA hS)); clear rd tb bw hA hS)
      | (go_at_call 117; refine (formula_all I _ WL.out.2 _ 0 false _ RD.out TB.out (fun _ => Nat.le_refl _)).mono ?_; rintro e w4 ⟨x, v, k, f, rfl, ⟨a, na, ca, b, nb, cb, rfl, ht, hs⟩, mv, r4, hp⟩; have Q4 := Lib.hid (And.intro ht (And.intro hs (And.intro mv (And.intro r4 hp)))); clear ht hs mv r4 hp))
    have A8 : Hid (At8 s w I x k f a na ca b nb cb w4.heap.size (w4.alloc (.cells #[.int .u8 x.op, str x.name, .slice a na ca, .slice b nb cb] 25))) := by
      obtain ⟨ht, hs, mv, r4, hp⟩ := Q4.out
      obtain ⟨bw, hA, hS⟩ := B3.out
      have ba : Below w4.heap.size w4 (w4.alloc (.cells #[.int .u8 x.op, str x.name, .slice a na ca, .slice b nb cb] 25)) := (Below.refl _ _).alloc (Nat.le_refl _) _
      have b5 : Below w.heap.size w (w4.alloc (.cells #[.int .u8 x.op, str x.name, .slice a na ca, .slice b nb cb] 25)) := belowThen (below_moved (belowThen BW.out bw) mv (Nat.le_trans BW.out.size hA) (Nat.le_trans BW.out.size hS)) ba
      have gz := (Array.getElem?_eq_some_iff.1 G6.out).1
      refine ⟨r4.below ba, b5, ?_, heap_alloc_new _ _, hp, ?_, ?_, RO.out.keep (keeps_of_below b5)⟩
      · rw [ba.block _ (by have := mv.size; have := bw.size; omega), mv.block _ (by have := bw.size; omega) (by omega) (by omega), bw.block _ gz]
        exact G6.out
      · exact ht.keep (hid_one ba (by have := bw.size; omega))
      · exact hs.keep (hid_one ba (by have := bw.size; omega))
    show Code.wp _ _ _ _ (w4.alloc (.cells #[.int .u8 x.op, str x.name, .slice a na ca, .slice b nb cb] 25))
    generalize w4.heap.size = h5 at A8 ⊢
    generalize w4.alloc (.cells #[.int .u8 x.op, str x.name, .slice a na ca, .slice b nb cb] 25) = W5 at A8 ⊢
    have q1 : W5.cell? ⟨I.S, 1, none⟩ = some (.func (.func 191) #[] #[one I.A, one I.L]) := (box_cell A8.out.rd.hS 1).trans rfl
    clear Q4 B3 TB RD LA BW R6 G6 RW HM
    obtain ⟨more, hmore⟩ : ∃ m : Bool, decide (k < (wordsOf s).length) = m := ⟨_, rfl⟩
    have HMO := Lib.hid hmore
    clear hmore
    obtain ⟨br, hbr⟩ : ∃ b, x.right = b := ⟨_, rfl⟩
    have RB := Lib.hid hbr
    clear hbr
    cases f <;> cases more <;> cases br
    all_goals go_wp2_with (first
      | (go_at_call 191; refine (left_c I (wordsOf s) k _ W5 A8.out.rd).mono ?_; rintro e w6 ⟨he, hb6⟩; rw [HMO.out] at he; subst he; have B6 := Lib.hid hb6; have s2 := sfail (A8.out.rd.below hb6); obtain ⟨c0, c1, c2, c3, f0, f1, f2, f3⟩ := row25 ((hb6.block _ (Array.getElem?_eq_some_iff.1 A8.out.g).1).trans A8.out.g); obtain ⟨x0, x1, x2, x3, l0, l1, l2, l3⟩ := row25' ((hb6.block _ (Array.getElem?_eq_some_iff.1 A8.out.cell).1).trans A8.out.cell); clear hb6)
      | (go_at_call 85; refine (Right_any x _ RB.out (A8.out.sz WL.out.2) _ _ (A8.out.rows.keep (keeps_of_below B6.out)) (RN.out.keep (keeps_of_below (belowThen A8.out.bw B6.out))) ⟨_, _, _, _, _, _, rfl, A8.out.ht.keep ((hide_keeps _ _).trans (keeps_of_below B6.out)), A8.out.hs.keep ((hide_keeps _ _).trans (keeps_of_below B6.out))⟩).mono ?_; rintro e w7 ⟨rfl, hb7⟩; clear c0 c1 c2 c3 f0 f1 f2 f3 x0 x1 x2 x3 l0 l1 l2 l3; have B7 := Lib.hid (belowThen B6.out hb7); obtain ⟨c0, c1, c2, c3, f0, f1, f2, f3⟩ := row25 ((B7.out.block _ (Array.getElem?_eq_some_iff.1 A8.out.g).1).trans A8.out.g); obtain ⟨x0, x1, x2, x3, l0, l1, l2, l3⟩ := row25' ((B7.out.block _ (Array.getElem?_eq_some_iff.1 A8.out.cell).1).trans A8.out.cell); clear hb7))
    · exact read_end2 (belowThen A8.out.bw B7.out) ((B7.out.block _ (Array.getElem?_eq_some_iff.1 A8.out.g).1).trans A8.out.g) rfl rfl rfl fun w' b K => A8.out.no2 HMO.out RB.out w' b
    · exact read_end2 (belowThen A8.out.bw B7.out) ((B7.out.block _ (Array.getElem?_eq_some_iff.1 A8.out.g).1).trans A8.out.g) rfl rfl rfl fun w' b K => A8.out.good2 HMO.out RB.out w' b ((hid_below B7.out).trans K)
    · exact read_end2 (belowThen A8.out.bw B6.out) ((B6.out.block _ (Array.getElem?_eq_some_iff.1 A8.out.g).1).trans A8.out.g) rfl rfl rfl fun w' b K => A8.out.bad2 (.inr HMO.out) w' b
    · exact read_end2 (belowThen A8.out.bw B6.out) ((B6.out.block _ (Array.getElem?_eq_some_iff.1 A8.out.g).1).trans A8.out.g) rfl rfl rfl fun w' b K => A8.out.bad2 (.inr HMO.out) w' b
    · exact read_end2 (belowThen A8.out.bw B6.out) ((B6.out.block _ (Array.getElem?_eq_some_iff.1 A8.out.g).1).trans A8.out.g) rfl rfl rfl fun w' b K => A8.out.bad2 (.inl rfl) w' b
    · exact read_end2 (belowThen A8.out.bw B6.out) ((B6.out.block _ (Array.getElem?_eq_some_iff.1 A8.out.g).1).trans A8.out.g) rfl rfl rfl fun w' b K => A8.out.bad2 (.inl rfl) w' b
    · exact read_end2 (belowThen A8.out.bw B6.out) ((B6.out.block _ (Array.getElem?_eq_some_iff.1 A8.out.g).1).trans A8.out.g) rfl rfl rfl fun w' b K => A8.out.bad2 (.inl rfl) w' b
    · exact read_end2 (belowThen A8.out.bw B6.out) ((B6.out.block _ (Array.getElem?_eq_some_iff.1 A8.out.g).1).trans A8.out.g) rfl rfl rfl fun w' b K => A8.out.bad2 (.inl rfl) w' b
  · have hne : s = [] := List.isEmpty_iff.1 hE
    subst hne
    go_upto_region 6 with fail
    have A6 : Hid (AtSix [] w (w.alloc (.cells #[.int .u8 0, str [], .slice none 0 0, .slice none 0 0] 25)) (.slice none 0 0)) := by
      refine ⟨⟨_, _, _, rfl, ?_, ?_, HB.out⟩, RW.out, HG.out⟩
      · unfold wordsOf; rw [if_pos rfl]; exact At.sl_nil (Nat.zero_le _)
      · rintro a h; cases h
    obtain ⟨⟨la, ln, lc, ev, hsa, hla, hbw⟩, rows6, row6⟩ := A6.out
    cases ev
    have LA := Lib.hid (And.intro hsa hla)
    have BW := Lib.hid hbw
    have R6 := Lib.hid rows6
    have G6 := Lib.hid row6
    clear hsa hla hbw rows6 row6 A6
    go_upto_region 8 with (first
      | (go_at_call 116; refine (newReader_c _ _ _ _ _ LA.out.1 LA.out.2 (by have := WL.out.1; have := HS.out; omega)).mono ?_; rintro e w3 ⟨I, rfl, rd, tb, bw, hA, hS⟩; have RD := Lib.hid rd; have TB := Lib.hid tb; have B3 := Lib.hid (And.intro bw (And.intro hA hS)); clear rd tb bw hA hS)
      | (go_at_call 117; refine (formula_all I _ WL.out.2 _ 0 false _ RD.out TB.out (fun _ => Nat.le_refl _)).mono ?_; rintro e w4 ⟨x, v, k, f, rfl, ⟨a, na, ca, b, nb, cb, rfl, ht, hs⟩, mv, r4, hp⟩; have Q4 := Lib.hid (And.intro ht (And.intro hs (And.intro mv (And.intro r4 hp)))); clear ht hs mv r4 hp))
    have A8 : Hid (At8 [] w I x k f a na ca b nb cb w4.heap.size (w4.alloc (.cells #[.int .u8 x.op, str x.name, .slice a na ca, .slice b nb cb] 25))) := by
      obtain ⟨ht, hs, mv, r4, hp⟩ := Q4.out
      obtain ⟨bw, hA, hS⟩ := B3.out
      have ba : Below w4.heap.size w4 (w4.alloc (.cells #[.int .u8 x.op, str x.name, .slice a na ca, .slice b nb cb] 25)) := (Below.refl _ _).alloc (Nat.le_refl _) _
      have b5 : Below w.heap.size w (w4.alloc (.cells #[.int .u8 x.op, str x.name, .slice a na ca, .slice b nb cb] 25)) := belowThen (below_moved (belowThen BW.out bw) mv (Nat.le_trans BW.out.size hA) (Nat.le_trans BW.out.size hS)) ba
      have gz := (Array.getElem?_eq_some_iff.1 G6.out).1
      refine ⟨r4.below ba, b5, ?_, heap_alloc_new _ _, hp, ?_, ?_, RO.out.keep (keeps_of_below b5)⟩
      · rw [ba.block _ (by have := mv.size; have := bw.size; omega), mv.block _ (by have := bw.size; omega) (by omega) (by omega), bw.block _ gz]
        exact G6.out
      · exact ht.keep (hid_one ba (by have := bw.size; omega))
      · exact hs.keep (hid_one ba (by have := bw.size; omega))
    show Code.wp _ _ _ _ (w4.alloc (.cells #[.int .u8 x.op, str x.name, .slice a na ca, .slice b nb cb] 25))
    generalize w4.heap.size = h5 at A8 ⊢
    generalize w4.alloc (.cells #[.int .u8 x.op, str x.name, .slice a na ca, .slice b nb cb] 25) = W5 at A8 ⊢
    have q1 : W5.cell? ⟨I.S, 1, none⟩ = some (.func (.func 191) #[] #[one I.A, one I.L]) := (box_cell A8.out.rd.hS 1).trans rfl
    clear Q4 B3 TB RD LA BW R6 G6 RW HM
    obtain ⟨more, hmore⟩ : ∃ m : Bool, decide (k < (wordsOf []).length) = m := ⟨_, rfl⟩
    have HMO := Lib.hid hmore
    clear hmore
    obtain ⟨br, hbr⟩ : ∃ b, x.right = b := ⟨_, rfl⟩
    have RB := Lib.hid hbr
    clear hbr
    cases f <;> cases more <;> cases br
    all_goals go_wp2_with (first
      | (go_at_call 191; refine (left_c I (wordsOf []) k _ W5 A8.out.rd).mono ?_; rintro e w6 ⟨he, hb6⟩; rw [HMO.out] at he; subst he; have B6 := Lib.hid hb6; have s2 := sfail (A8.out.rd.below hb6); obtain ⟨c0, c1, c2, c3, f0, f1, f2, f3⟩ := row25 ((hb6.block _ (Array.getElem?_eq_some_iff.1 A8.out.g).1).trans A8.out.g); obtain ⟨x0, x1, x2, x3, l0, l1, l2, l3⟩ := row25' ((hb6.block _ (Array.getElem?_eq_some_iff.1 A8.out.cell).1).trans A8.out.cell); clear hb6)
      | (go_at_call 85; refine (Right_any x _ RB.out (A8.out.sz WL.out.2) _ _ (A8.out.rows.keep (keeps_of_below B6.out)) (RN.out.keep (keeps_of_below (belowThen A8.out.bw B6.out))) ⟨_, _, _, _, _, _, rfl, A8.out.ht.keep ((hide_keeps _ _).trans (keeps_of_below B6.out)), A8.out.hs.keep ((hide_keeps _ _).trans (keeps_of_below B6.out))⟩).mono ?_; rintro e w7 ⟨rfl, hb7⟩; clear c0 c1 c2 c3 f0 f1 f2 f3 x0 x1 x2 x3 l0 l1 l2 l3; have B7 := Lib.hid (belowThen B6.out hb7); obtain ⟨c0, c1, c2, c3, f0, f1, f2, f3⟩ := row25 ((B7.out.block _ (Array.getElem?_eq_some_iff.1 A8.out.g).1).trans A8.out.g); obtain ⟨x0, x1, x2, x3, l0, l1, l2, l3⟩ := row25' ((B7.out.block _ (Array.getElem?_eq_some_iff.1 A8.out.cell).1).trans A8.out.cell); clear hb7))
    · exact read_end2 (belowThen A8.out.bw B7.out) ((B7.out.block _ (Array.getElem?_eq_some_iff.1 A8.out.g).1).trans A8.out.g) rfl rfl rfl fun w' b K => A8.out.no2 HMO.out RB.out w' b
    · exact read_end2 (belowThen A8.out.bw B7.out) ((B7.out.block _ (Array.getElem?_eq_some_iff.1 A8.out.g).1).trans A8.out.g) rfl rfl rfl fun w' b K => A8.out.good2 HMO.out RB.out w' b ((hid_below B7.out).trans K)
    · exact read_end2 (belowThen A8.out.bw B6.out) ((B6.out.block _ (Array.getElem?_eq_some_iff.1 A8.out.g).1).trans A8.out.g) rfl rfl rfl fun w' b K => A8.out.bad2 (.inr HMO.out) w' b
    · exact read_end2 (belowThen A8.out.bw B6.out) ((B6.out.block _ (Array.getElem?_eq_some_iff.1 A8.out.g).1).trans A8.out.g) rfl rfl rfl fun w' b K => A8.out.bad2 (.inr HMO.out) w' b
    · exact read_end2 (belowThen A8.out.bw B6.out) ((B6.out.block _ (Array.getElem?_eq_some_iff.1 A8.out.g).1).trans A8.out.g) rfl rfl rfl fun w' b K => A8.out.bad2 (.inl rfl) w' b
    · exact read_end2 (belowThen A8.out.bw B6.out) ((B6.out.block _ (Array.getElem?_eq_some_iff.1 A8.out.g).1).trans A8.out.g) rfl rfl rfl fun w' b K => A8.out.bad2 (.inl rfl) w' b
    · exact read_end2 (belowThen A8.out.bw B6.out) ((B6.out.block _ (Array.getElem?_eq_some_iff.1 A8.out.g).1).trans A8.out.g) rfl rfl rfl fun w' b K => A8.out.bad2 (.inl rfl) w' b
    · exact read_end2 (belowThen A8.out.bw B6.out) ((B6.out.block _ (Array.getElem?_eq_some_iff.1 A8.out.g).1).trans A8.out.g) rfl rfl rfl fun w' b K => A8.out.bad2 (.inl rfl) w' b
theorem Read_long (s : Bs) (hs : 16384 < s.length) (hm : s.length ≤ maxLen) (w : World) : Calls Tryz.prog 43 #[str s] w fun e w' => e = .returned (.tuple #[.agg #[.int .u8 0, str [], .slice none 0 0, .slice none 0 0], .int .i64 0, .int .i64 3]) ∧ Below w.heap.size w w' := by
  have hl : (16384 : Int) < s.length := by omega
  have hl2 : (s.length : Int) ≤ 9223372036854775807 := by unfold maxLen at hm; omega
  have hB : Below w.heap.size w (w.alloc (.cells #[.int .u8 0, str [], .slice none 0 0, .slice none 0 0] 25)) := (Below.refl _ _).alloc (Nat.le_refl _) _
  have hrow : (w.alloc (.cells #[.int .u8 0, str [], .slice none 0 0, .slice none 0 0] 25)).heap[w.heap.size]? = some (.cells #[.int .u8 0, str [], .slice none 0 0, .slice none 0 0] 25 (0, 0)) := heap_alloc_new w _
  clear hs hm
  go_enter Tryz.func43, Tryz.ntmps43
  go_wp2_with fail
  exact bodyPost_ret (res43 _ _ w.heap.size _ _ _ _ _ _ (0, 0) rfl rfl rfl hrow) rfl ⟨rfl, hB⟩
end Go.Proofs.YtcandidgaegghaaGreatDoor
end
section
namespace Go.Proofs.YtcandidgaegghaaGreatDoor
open Go Go.RowKit Ly
set_option linter.unusedSimpArgs false
set_option linter.unusedVariables false
set_option maxHeartbeats 1600000
def fm0 : Fm := .mk 0 [] [] []
/-- What is read of a text: the formula, the place, the code. -/
def rGot (s : Bs) : Fm × Int × Int :=
  if 16384 < s.length then (fm0, 0, 3) else
  match readPR s with
  | .bad r => (fm0, (((wordsOf s).length - r.length : Nat) : Int), 410)
  | .good f [] => if f.right = true then (f, 0, 0) else (fm0, 0, 2)
  | .good _ (x :: r) => (fm0, (((wordsOf s).length - (x :: r).length : Nat) : Int), 410)
/-- A reader's answer. -/
def GotAns (s : Bs) (w : World) (e : Ending) (w' : World) : Prop :=
  ∃ ga gn gc ha hn hc, e = .returned (.tuple #[.agg #[.int .u8 (rGot s).1.op, str (rGot s).1.name, .slice ga gn gc, .slice ha hn hc], .int .i64 (rGot s).2.1, .int .i64 (rGot s).2.2]) ∧
    TmsAt (hide (lo w) w') (rGot s).1.args (.slice ga gn gc) ∧ FmsAt (hide (lo w) w') (rGot s).1.sub (.slice ha hn hc) ∧ Below w.heap.size w w'
theorem GotAns.zero {s : Bs} {w w' : World} {e : Ending} {i c : Int} (h : rGot s = (fm0, i, c)) (he : e = .returned (.tuple #[.agg #[.int .u8 0, str [], .slice none 0 0, .slice none 0 0], .int .i64 i, .int .i64 c])) (b : Below w.heap.size w w') : GotAns s w e w' := by
  unfold GotAns
  rw [h]
  exact ⟨none, 0, 0, none, 0, 0, he, At.sl_nil (Nat.zero_le _), At.sl_nil (Nat.zero_le _), b⟩
theorem ReadAny.got {s : Bs} {w w' : World} {e : Ending} (hs : s.length ≤ 16384) (h : ReadAny s w e w') : GotAns s w e w' := by
  have hl : ¬ 16384 < s.length := by omega
  obtain ⟨b, ⟨f, v, h1, h2, rfl, ⟨ga, gn, gc, ha, hn, hc, rfl, h4, h5⟩⟩ | ⟨f, h1, h2, rfl⟩ | ⟨r, h1, rfl⟩⟩ := h
  · have e : rGot s = (f, 0, 0) := by simp [rGot, hl, h1, h2]
    unfold GotAns
    rw [e]
    exact ⟨ga, gn, gc, ha, hn, hc, rfl, h4, h5, b⟩
  · exact GotAns.zero (by simp [rGot, hl, h1, h2]) rfl b
  · refine GotAns.zero ?_ rfl b
    rcases h1 with h1 | ⟨f, h1, hr⟩
    · simp [rGot, hl, h1]
    · cases r with
      | nil => exact absurd rfl hr
      | cons x r => simp [rGot, hl, h1]
theorem Read_got (s : Bs) (hm : s.length ≤ maxLen) (w : World) (hx : MaxAt w) (rows : RowsAt w) (rowsn : RowsNo w) : Calls Tryz.prog 43 #[str s] w (GotAns s w) := by
  by_cases hs : s.length ≤ 16384
  · exact (Read_short s hs w hx rows rowsn).mono fun e w' h => h.got hs
  · exact (Read_long s (by omega) hm w).mono fun e w' h => GotAns.zero (by simp [rGot, show 16384 < s.length by omega]) h.1 h.2
end Go.Proofs.YtcandidgaegghaaGreatDoor
end
