/- describe.ReadClaim at any text: the walk (printed by gen/genrc.py). Conditions: the text fits; the program's tables (rows, MaxLen) lie as laid. -/
import Derived.Test.YtcandidgaegghaaGreatDoorRdClZ
import Derived.Test.YtcandidgaegghaaGreatDoorPlMZ
import Derived.Test.YtcandidgaegghaaGreatDoorWrBZ
namespace Go.Proofs.YtcandidgaegghaaGreatDoor
open Go Go.RowKit Ly
set_option maxRecDepth 10000
set_option linter.unusedSimpArgs false
set_option linter.unusedVariables false
attribute [local go_sem] Oper.semAt_some
/- Plain. -/
theorem cFold_snoc : ∀ (l : List Bs) (G S : List Fm) (x : Bs), cFold G S (l ++ [x]) = match cFold G S l with
    | none => none
    | some (G', S') => cStep G' S' x
  | [], G, S, x => by
    show (match cStep G S x with | none => none | some (G', S') => cFold G' S' []) = _
    simp only [cFold]
    cases cStep G S x with
    | none => rfl
    | some p => rfl
  | y :: l, G, S, x => by
    show (match cStep G S y with | none => none | some (G', S') => cFold G' S' (l ++ [x])) = _
    simp only [cFold]
    cases cStep G S y with
    | none => rfl
    | some p => exact cFold_snoc l p.1 p.2 x
theorem cFold_none : ∀ (l r : List Bs) (G S : List Fm), cFold G S l = none → cFold G S (l ++ r) = none
  | [], r, G, S, h => by simp [cFold] at h
  | y :: l, r, G, S, h => by
    simp only [List.cons_append, cFold] at h ⊢
    cases e : cStep G S y with
    | none => rfl
    | some p => rw [e] at h; exact cFold_none l r p.1 p.2 h
theorem cStep_len {G S G' S' : List Fm} {x : Bs} (h : cStep G S x = some (G', S')) : G'.length + S'.length = G.length + S.length + 1 := by
  unfold cStep at h
  split at h
  · split at h
    · simp only [Option.some.injEq, Prod.mk.injEq] at h
      obtain ⟨rfl, rfl⟩ := h; simp; omega
    · split at h
      · simp only [Option.some.injEq, Prod.mk.injEq] at h
        obtain ⟨rfl, rfl⟩ := h; simp; omega
      · cases h
  · cases h
theorem cFold_len : ∀ (l : List Bs) (G S G' S' : List Fm), cFold G S l = some (G', S') → G'.length + S'.length = G.length + S.length + l.length
  | [], G, S, G', S', h => by simp only [cFold, Option.some.injEq, Prod.mk.injEq] at h; obtain ⟨rfl, rfl⟩ := h; simp
  | x :: l, G, S, G', S', h => by
    unfold cFold at h
    split at h
    · cases h
    · rename_i G1 S1 e
      have h1 := cStep_len e
      have h2 := cFold_len l G1 S1 G' S' h
      simp; omega
theorem joinBy_mem (sep : Bs) : ∀ (l : List Bs) (x : Bs), x ∈ l → x.length ≤ (joinBy sep l).length
  | [], x, h => by cases h
  | [y], x, h => by
    have : x = y := by simpa using h
    subst this; exact Nat.le_refl _
  | y :: z :: r, x, h => by
    rcases List.mem_cons.1 h with rfl | h
    · simp [joinBy]
    · have := joinBy_mem sep (z :: r) x h
      simp only [joinBy, List.length_append] at this ⊢
      omega
theorem cut_len (x : Bs) : (Lib.cut x [32]).2.1.length ≤ x.length := by
  unfold Lib.cut
  split
  · simp
  · simp
theorem rGot_code (s : Bs) : (rGot s).2.2 = 0 ∨ (rGot s).2.2 = 2 ∨ (rGot s).2.2 = 3 ∨ (rGot s).2.2 = 410 := by
  unfold rGot
  split
  · simp
  · split
    · simp
    · split <;> simp
    · simp
/-- What ReadClaim makes of a text: the two sides and the code. -/
def cAns (s : Bs) : List Fm × List Fm × Int :=
  if 16384 < s.length then ([], [], 3) else match cGot s with
    | none => ([], [], 2)
    | some (G, S) => (G, S, 0)
/-- Between two rounds. -/
structure CJ (w : World) (X Y : List Fm) (va : Option Addr) (vn vc : Nat) (ua : Option Addr) (un uc : Nat) (W : World) : Prop where
  bw : Below w.heap.size w W
  c2 : W.heap[w.heap.size]? = some (.cells #[.slice none 0 0, .slice none 0 0] 48 (0, 0))
  c3 : W.heap[w.heap.size + 1]? = some (.cells #[.int .i64 0] 37 (0, 0))
  c4 : W.heap[w.heap.size + 1 + 1]? = some (.cells #[.slice va vn vc, .slice ua un uc] 48 (0, 0))
  cl : CL (w.heap.size + 6) X Y (.slice va vn vc) (.slice ua un uc) W
  sz : w.heap.size + 6 ≤ W.heap.size
theorem CJ.ci {w W : World} {X Y : List Fm} {va ua : Option Addr} {vn vc un uc : Nat} (h : CJ w X Y va vn vc ua un uc W) : CI w X Y (X.length + Y.length) va vn vc ua un uc W :=
  ⟨h.bw, h.c2, h.c3, h.c4, by rw [List.take_of_length_le (Nat.le_add_right _ _), List.take_of_length_le (by omega)]; exact h.cl, h.sz⟩
theorem CJ.of {w W : World} {X Y : List Fm} {va ua : Option Addr} {vn vc un uc : Nat} (h : CI w X Y (X.length + Y.length) va vn vc ua un uc W) : CJ w X Y va vn vc ua un uc W := by
  have c := h.cl
  rw [List.take_of_length_le (Nat.le_add_right _ _), List.take_of_length_le (by omega)] at c
  exact ⟨h.bw, h.c2, h.c3, h.c4, c, h.sz⟩
theorem CJ.below {w A W : World} {X Y : List Fm} {va ua : Option Addr} {vn vc un uc : Nat} (h : CJ w X Y va vn vc ua un uc A) (b : Below A.heap.size A W) : CJ w X Y va vn vc ua un uc W := CJ.of (h.ci.below b)
theorem CJ.si {w W : World} {X Y : List Fm} {va ua : Option Addr} {vn vc un uc : Nat} (h : CJ w X Y va vn vc ua un uc W) : SI w 0 W := ⟨h.bw, h.c2, h.c3, h.sz⟩
/-- What holds between two rounds. -/
def InvC (w : World) (pre : List Bs) (W : World) : Prop := ∃ X Y va vn vc ua un uc, cFold [] [] pre = some (X, Y) ∧ CJ w X Y va vn vc ua un uc W
theorem InvC.lets {w : World} {B c : Nat} (hB : B = w.heap.size + 6) (hc : c = w.heap.size + 3) : Lets B c (InvC w) := by
  rintro s A X row ⟨G, S, va, vn, vc, ua, un, uc, e, h⟩ hg hr
  refine ⟨G, S, va, vn, vc, ua, un, uc, e, CJ.of (h.ci.turned hg.size hg.os hg.tape hg.output (fun i hi => hg.block i (by have := h.sz; omega) fun e => ?_) fun i o hi ho hcells => (hg.block i (Array.getElem?_eq_some_iff.1 ho).1 fun e => ?_).trans ho)⟩
  · rcases hr i e.symm with h1 | ⟨h1, _⟩ <;> omega
  · rcases hr i e.symm with h1 | ⟨h1, o', h2, h3⟩
    · omega
    · rw [ho] at h2; cases h2; rw [hcells] at h3; cases h3
theorem claim_J0 {w W w7 WA w5 W2 : World} {X Y : List Fm} {f : Fm} {pre : List Bs} {x : Bs} {B : Nat} {va ua fa fb : Option Addr} {vn vc un uc fn fc fm fd g5 c5 : Nat} {xs : List Value} {o : Obj} (hB : B = w.heap.size + 6)
    (cf : cFold [] [] (pre ++ [x]) = some (X ++ [f], Y)) (ci : CJ w X Y va vn vc ua un uc WA) (b : Below W.heap.size W WA) (zW : w.heap.size + 6 ≤ W.heap.size)
    (ox : ∀ g, (Value.slice va vn vc).ownBlock = some g → w.heap.size + 6 ≤ g ∧ g < w7.heap.size) (oy : ∀ g, (Value.slice ua un uc).ownBlock = some g → w.heap.size + 6 ≤ g ∧ g < w7.heap.size) (h7 : w.heap.size + 6 ≤ w7.heap.size)
    (ht : TmsAt (hide (lo w7) WA) f.args (.slice fa fn fc)) (hs : FmsAt (hide (lo w7) WA) f.sub (.slice fb fm fd))
    (hc : CellsAt (hide (fun k => pOf (w.heap.size + 6) (.slice ua un uc) k || decide ((Value.slice va vn vc).ownBlock = some k)) WA) (fmsDs X) xs) (xl : xs.length = X.length * 4) (xn : vn = X.length)
    (hg5 : (WA.alloc o).drew.grownBy w5 (Value.slice va vn vc).ownBlock) (hat : (Value.slice (some ⟨g5, 0, none⟩) (vn + 1) c5).ownBlock = (Value.slice va vn vc).ownBlock ∨ (Value.slice (some ⟨g5, 0, none⟩) (vn + 1) c5).ownBlock = some (WA.alloc o).drew.heap.size)
    (E : W2.ownsRow (w.heap.size + 6) 25 4 (.slice (some ⟨g5, 0, none⟩) (vn + 1) c5) (vn + 1) (xs ++ [.int .u8 f.op, str f.name, .slice fa fn fc, .slice fb fm fd]) ∧ W2.heap[w.heap.size + 1 + 1]? = some (.cells (#[.slice va vn vc, .slice ua un uc].setIfInBounds 0 (.slice (some ⟨g5, 0, none⟩) (vn + 1) c5)) 48 (0, 0)) ∧ (∀ i, i ≠ g5 → i ≠ w.heap.size + 1 + 1 → W2.heap[i]? = w5.heap[i]?) ∧ W2.heap.size = w5.heap.size)
    (hos : W2.os = w5.os) (hta : W2.tape = w5.tape) (hou : W2.output = w5.output) :
    KeepsFrom B W W2 ∧ SeqKp (w.heap.size + 1 + 1 + 1) W W2 ∧ InvC w (pre ++ [x]) W2 := by
  have F : Fin w.heap.size WA W2 (.slice va vn vc) (.slice (some ⟨g5, 0, none⟩) (vn + 1) c5) := fin_of (o := o) ⟨hg5.os, hg5.tape, hg5.output, hg5.size, hg5.block⟩ hat E.2.2.1 E.2.2.2 hos hta hou
  have h2 := E.1
  rw [xn] at h2
  have K := keep_part (w := w) (WA := WA) h7 ox oy
  obtain ⟨r1, r2, r3, r4, r5⟩ := claim_round (vx' := .slice (some ⟨g5, 0, none⟩) (vn + 1) c5) hB ci.bw b zW ci.cl hc (ht.keep K) (hs.keep K) F (by rw [xn]; exact h2)
  exact ⟨r1, r2, X ++ [f], Y, some ⟨g5, 0, none⟩, vn + 1, c5, ua, un, uc, cf, r4, (r5 _ (by omega)).trans ci.c2, (r5 _ (by omega)).trans ci.c3, E.2.1, r3, Nat.le_trans zW (Nat.le_trans b.size F.size)⟩
theorem claim_J1 {w W w7 WA w5 W2 : World} {X Y : List Fm} {f : Fm} {pre : List Bs} {x : Bs} {B : Nat} {va ua fa fb : Option Addr} {vn vc un uc fn fc fm fd g5 c5 : Nat} {xs : List Value} {o : Obj} (hB : B = w.heap.size + 6)
    (cf : cFold [] [] (pre ++ [x]) = some (X, Y ++ [f])) (ci : CJ w X Y va vn vc ua un uc WA) (b : Below W.heap.size W WA) (zW : w.heap.size + 6 ≤ W.heap.size)
    (ox : ∀ g, (Value.slice va vn vc).ownBlock = some g → w.heap.size + 6 ≤ g ∧ g < w7.heap.size) (oy : ∀ g, (Value.slice ua un uc).ownBlock = some g → w.heap.size + 6 ≤ g ∧ g < w7.heap.size) (h7 : w.heap.size + 6 ≤ w7.heap.size)
    (ht : TmsAt (hide (lo w7) WA) f.args (.slice fa fn fc)) (hs : FmsAt (hide (lo w7) WA) f.sub (.slice fb fm fd))
    (hc : CellsAt (hide (fun k => pOf (w.heap.size + 6) (.slice va vn vc) k || decide ((Value.slice ua un uc).ownBlock = some k)) WA) (fmsDs Y) xs) (xl : xs.length = Y.length * 4) (xn : un = Y.length)
    (hg5 : (WA.alloc o).drew.grownBy w5 (Value.slice ua un uc).ownBlock) (hat : (Value.slice (some ⟨g5, 0, none⟩) (un + 1) c5).ownBlock = (Value.slice ua un uc).ownBlock ∨ (Value.slice (some ⟨g5, 0, none⟩) (un + 1) c5).ownBlock = some (WA.alloc o).drew.heap.size)
    (E : W2.ownsRow (w.heap.size + 6) 25 4 (.slice (some ⟨g5, 0, none⟩) (un + 1) c5) (un + 1) (xs ++ [.int .u8 f.op, str f.name, .slice fa fn fc, .slice fb fm fd]) ∧ W2.heap[w.heap.size + 1 + 1]? = some (.cells (#[.slice va vn vc, .slice ua un uc].setIfInBounds 1 (.slice (some ⟨g5, 0, none⟩) (un + 1) c5)) 48 (0, 0)) ∧ (∀ i, i ≠ g5 → i ≠ w.heap.size + 1 + 1 → W2.heap[i]? = w5.heap[i]?) ∧ W2.heap.size = w5.heap.size)
    (hos : W2.os = w5.os) (hta : W2.tape = w5.tape) (hou : W2.output = w5.output) :
    KeepsFrom B W W2 ∧ SeqKp (w.heap.size + 1 + 1 + 1) W W2 ∧ InvC w (pre ++ [x]) W2 := by
  have F : Fin w.heap.size WA W2 (.slice ua un uc) (.slice (some ⟨g5, 0, none⟩) (un + 1) c5) := fin_of (o := o) ⟨hg5.os, hg5.tape, hg5.output, hg5.size, hg5.block⟩ hat E.2.2.1 E.2.2.2 hos hta hou
  have h2 := E.1
  rw [xn] at h2
  have K := keep_part (w := w) (WA := WA) h7 oy ox
  obtain ⟨r1, r2, r3, r4, r5⟩ := claim_round (vx' := .slice (some ⟨g5, 0, none⟩) (un + 1) c5) hB ci.bw b zW ci.cl.swap hc (ht.keep K) (hs.keep K) F (by rw [xn]; exact h2)
  exact ⟨r1, r2, X, Y ++ [f], va, vn, vc, some ⟨g5, 0, none⟩, un + 1, c5, cf, r4, (r5 _ (by omega)).trans ci.c2, (r5 _ (by omega)).trans ci.c3, E.2.1, r3.swap, Nat.le_trans zW (Nat.le_trans b.size F.size)⟩
/-- The answer. -/
def CmAns (T : Bs) (w : World) (e : Ending) (w' : World) : Prop :=
  ∃ a n c b m d, e = .returned (.tuple #[.agg #[.slice a n c, .slice b m d], .int .i64 (cAns T).2.2]) ∧ FmsAt w' (cAns T).1 (.slice a n c) ∧ FmsAt w' (cAns T).2.1 (.slice b m d) ∧ Below w.heap.size w w'
theorem CmAns.zero {T : Bs} {w w' : World} {c : Int} (h : cAns T = ([], [], c)) (b : Below w.heap.size w w') : CmAns T w (.returned (.tuple #[.agg #[.slice none 0 0, .slice none 0 0], .int .i64 c])) w' := by
  unfold CmAns
  rw [h]
  exact ⟨_, _, _, _, _, _, rfl, nilF _, nilF _, b⟩
set_option maxHeartbeats 20000000 in
theorem ReadClaim_any (T : Bs) (hlen : T.length ≤ 16384) (w : World) (hm : MaxAt w) (hr : RowsAt w) (hrn : RowsNo w) : Calls Tryz.prog 45 #[str T] w (CmAns T w) := by
  have HM := Lib.hid hm
  have HR := Lib.hid hr
  have HRN := Lib.hid hrn
  clear hm hr hrn
  refine (callsIn_wide (n := 100)).1 ?_
  refine callsIn_of_wp_marks Tryz.func45 rfl trivial ?_ rfl
  simp only [Tryz.ntmps45, List.size_toArray, List.length_cons, List.length_nil, Nat.reduceAdd, Nat.reduceSub, Array.replicate_succ, Array.replicate_zero, List.push_toArray, List.append_toArray, List.nil_append, List.cons_append]
  have hl : (T.length : Int) ≤ 16384 := by omega
  by_cases hT0 : T = []
  · subst hT0
    have zg := heap_alloc_new w (.cells #[.slice none 0 0, .slice none 0 0] 48)
    have zh := heap_alloc_new (w.alloc (.cells #[.slice none 0 0, .slice none 0 0] 48)) (.cells #[.int .i64 0] 37)
    rw [World.size_alloc] at zh
    gi_wp2
    refine ⟨_, res45 _ _ w.heap.size (w.heap.size + 1) _ _ _ rfl rfl (keep_new _ (keep_new _ zg)) (keep_new _ zh), ?_⟩
    exact CmAns.zero (c := 0) (by simp [cAns, cGot]) ((((Below.refl _ _).alloc (Nat.le_refl _) _).alloc (by simp) _).alloc (by simp; omega) _)
  have hem : T.isEmpty = false := by cases T with
    | nil => exact absurd rfl hT0
    | cons c t => rfl
  obtain ⟨L, hL⟩ : ∃ L, Lib.split T cs = L := ⟨_, rfl⟩
  have SPL := Lib.hid hL
  have LL : Hid (L.length ≤ 16385 ∧ ∀ x ∈ L, x.length ≤ 16384) := by
    refine ⟨?_, fun x hx => ?_⟩
    · have h1 := split_le T cs (by decide)
      rw [hL] at h1; omega
    · have h1 := joinBy_mem cs L x hx
      rw [← hL, join_split_by] at h1; omega
  have ANS : Hid (cAns T = match cFold [] [] L with | none => ([], [], 2) | some (G, S) => (G, S, 0)) := by
    show _ = _
    rw [← hL]; simp only [cAns, cGot, if_neg (show ¬ 16384 < T.length by omega), if_neg hT0]
  have HLN := Lib.hid hlen
  clear hL hlen hT0
  have B3 : Hid (Below w.heap.size w (((w.alloc (.cells #[.slice none 0 0, .slice none 0 0] 48)).alloc (.cells #[.int .i64 0] 37)).alloc (.cells #[.slice none 0 0, .slice none 0 0] 48))) := (((Below.refl _ _).alloc (Nat.le_refl _) _).alloc (by simp) _).alloc (by simp; omega) _
  have Z2 : Hid ((((w.alloc (.cells #[.slice none 0 0, .slice none 0 0] 48)).alloc (.cells #[.int .i64 0] 37)).alloc (.cells #[.slice none 0 0, .slice none 0 0] 48)).heap[w.heap.size]? = some (.cells #[.slice none 0 0, .slice none 0 0] 48 (0, 0))) := keep_new _ (keep_new _ (heap_alloc_new w _))
  have Z3 : Hid ((((w.alloc (.cells #[.slice none 0 0, .slice none 0 0] 48)).alloc (.cells #[.int .i64 0] 37)).alloc (.cells #[.slice none 0 0, .slice none 0 0] 48)).heap[w.heap.size + 1]? = some (.cells #[.int .i64 0] 37 (0, 0))) := by
    have := heap_alloc_new (w.alloc (.cells #[.slice none 0 0, .slice none 0 0] 48)) (.cells #[.int .i64 0] 37)
    rw [World.size_alloc] at this
    exact keep_new _ this
  have Z4 : Hid ((((w.alloc (.cells #[.slice none 0 0, .slice none 0 0] 48)).alloc (.cells #[.int .i64 0] 37)).alloc (.cells #[.slice none 0 0, .slice none 0 0] 48)).heap[w.heap.size + 2]? = some (.cells #[.slice none 0 0, .slice none 0 0] 48 (0, 0))) := by
    have := heap_alloc_new ((w.alloc (.cells #[.slice none 0 0, .slice none 0 0] 48)).alloc (.cells #[.int .i64 0] 37)) (.cells #[.slice none 0 0, .slice none 0 0] 48)
    rw [World.size_alloc, World.size_alloc] at this
    exact this
  have ZS : Hid ((((w.alloc (.cells #[.slice none 0 0, .slice none 0 0] 48)).alloc (.cells #[.int .i64 0] 37)).alloc (.cells #[.slice none 0 0, .slice none 0 0] 48)).heap.size = w.heap.size + 3) := by show _ = _; simp
  gi_wp2_with (refine ⟨trivial, ?_⟩; gi_at_call 119; refine (callsIn_wide.2 (SplitSeq_c T cs _)).mono ?_; rintro e w2 ⟨rfl, rfl⟩)
  generalize ((w.alloc (.cells #[.slice none 0 0, .slice none 0 0] 48)).alloc (.cells #[.int .i64 0] 37)).alloc (.cells #[.slice none 0 0, .slice none 0 0] 48) = W3 at *
  have Z1 : Hid (1 < w.heap.size) := by obtain ⟨m, hm⟩ := HM.out; exact World.block_lt_of_cell? w _ hm
  have SA : Hid (SeqAt cs (w.heap.size + 1 + 1 + 1) T (((W3.alloc (.cells #[str T] 9)).alloc (.cells #[str cs] 9)).alloc (.cells #[.int .i64 0] 3))) := by
    have := seqAt_new (s := T) (sep := cs) (HM.out.keep (keeps_of_below B3.out))
    rw [ZS.out] at this
    exact this
  have B36 : Hid (Below W3.heap.size W3 (((W3.alloc (.cells #[str T] 9)).alloc (.cells #[str cs] 9)).alloc (.cells #[.int .i64 0] 3))) := (((Below.refl _ _).alloc (Nat.le_refl _) _).alloc (by simp) _).alloc (by simp; omega) _
  have Z6 : Hid ((((W3.alloc (.cells #[str T] 9)).alloc (.cells #[str cs] 9)).alloc (.cells #[.int .i64 0] 3)).heap.size = w.heap.size + 6) := by show _ = _; have := ZS.out; simp; omega
  change Code.wpIn _ _ _ _ _ _ (((W3.alloc (.cells #[str T] 9)).alloc (.cells #[str cs] 9)).alloc (.cells #[.int .i64 0] 3))
  generalize ((W3.alloc (.cells #[str T] 9)).alloc (.cells #[str cs] 9)).alloc (.cells #[.int .i64 0] 3) = W6 at *
  refine wp_rangeCell rfl (by omega) (gf := 272) (lb := #[one (w.heap.size + 1 + 1 + 1 + 1), one (w.heap.size + 1 + 1 + 1), one (w.heap.size + 1 + 1 + 1 + 2)]) rfl trivial (enters_of Tryz.func272 (by kernel_rfl) rfl) (enc := str) (c := w.heap.size + 1 + 1 + 1) (Kp := SeqKp (w.heap.size + 1 + 1 + 1)) (l := L) (w0 := W6) (by have := Z6.out; omega)
    (seqCell _ T cs (by decide) (by have := HLN.out; omega) (by decide) (w.heap.size + 1 + 1 + 1) (by have := Z1.out; omega) _ SPL.out W6 SA.out) SeqKp.trans (fun W r o' hr k hk => World.putObj_heap_other (by have := Z1.out; have := Z6.out; omega)) (Below.refl _ _) rfl
    (InvC w) (fun j pre W => (j = .ret ∧ cFold [] [] pre = none) ∧ SI w 2 W) (InvC.lets Z6.out rfl) (fun j => SI.lets (P := fun pre => j = .ret ∧ cFold [] [] pre = none) Z6.out rfl) ?start
    (fun a x => { tmps := (a.tmps.setIfInBounds 21 (str x)).setIfInBounds 5 (str x), defers := [] }) ?assign ?body ?done ?stop
  case start =>
    refine ⟨[], [], none, 0, 0, none, 0, 0, rfl, B3.out.trans (B36.out.mono B3.out.size), (B36.out.block _ (by have := ZS.out; omega)).trans Z2.out, (B36.out.block _ (by have := ZS.out; omega)).trans Z3.out, (B36.out.block _ (by have := ZS.out; omega)).trans Z4.out, CL.nil (w.heap.size + 6) W6, by rw [Z6.out]; exact Nat.le_refl _⟩
  case assign =>
    intro r x W K hK
    simp only [List.setIfInBounds_toArray, List.set_cons_zero, List.set_cons_succ] at hK ⊢
    gi_wp2
    exact hK
  case body =>
    rintro r pre x W hr ⟨q, hq⟩ ⟨X, Y, va, vn, vc, ua, un, uc, cf, ci⟩ hpre
    simp only [List.setIfInBounds_toArray, List.set_cons_zero, List.set_cons_succ]
    have hx := prefix_get hpre
    have XB := LL.out.2 x (List.mem_of_getElem? hx)
    have XL : Hid (x.length ≤ 1000000000) := by show _ ≤ _; omega
    have GL : Hid (X.length + Y.length ≤ 20000) := by
      have h1 := cFold_len _ _ _ _ _ cf
      have h2 := hpre.length_le
      have h3 := LL.out.1
      show _ ≤ _
      simp at h1 h2; omega
    obtain ⟨p, b, t, hcut⟩ : ∃ p b t, Lib.cut x [32] = (p, b, t) := ⟨_, _, _, rfl⟩
    have CU := Lib.hid hcut
    have bl : b.length ≤ 16384 := by have := cut_len x; rw [hcut] at this; exact Nat.le_trans this XB
    obtain ⟨f, fi, fcd, hg⟩ : ∃ f fi fcd, rGot b = (f, fi, fcd) := ⟨_, _, _, rfl⟩
    have FC : fcd = 0 ∨ fcd = 2 ∨ fcd = 3 ∨ fcd = 410 := by have := rGot_code b; rwa [hg] at this
    have RD : Hid (∀ W, Below w.heap.size w W → Calls Tryz.prog 43 #[str b] W fun e w' => ∃ fa fn fc fb fm fd, e = .returned (.tuple #[.agg #[.int .u8 f.op, str f.name, .slice fa fn fc, .slice fb fm fd], .int .i64 fi, .int .i64 fcd]) ∧ TmsAt (hide (lo W) w') f.args (.slice fa fn fc) ∧ FmsAt (hide (lo W) w') f.sub (.slice fb fm fd) ∧ Below W.heap.size W w') := fun W hW => by
      have := Read_got b (by unfold maxLen; omega) W (HM.out.keep (keeps_of_below hW)) (HR.out.keep (keeps_of_below hW)) (HRN.out.keep (keeps_of_below hW))
      unfold GotAns at this
      rwa [hg] at this
    have ST : Hid (cFold [] [] (pre ++ [x]) = if t = true ∧ fcd = 0 then if p = wGiven0 ∧ Y = [] then some (X ++ [f], Y) else if p = [115, 104, 111, 119] then some (X, Y ++ [f]) else none else none) := by
      show _ = _
      rw [cFold_snoc, cf]
      show cStep X Y x = _
      unfold cStep
      rw [hcut]
      show (if t = true ∧ (rGot b).2.2 = 0 then if p = wGiven0 ∧ Y = [] then some (X ++ [(rGot b).1], Y) else if p = [115, 104, 111, 119] then some (X, Y ++ [(rGot b).1]) else none else none) = _
      rw [hg]
    have CIH := Lib.hid ci
    have z6 := ci.sz
    clear ci hq hpre cf hx XB hcut bl hg
    by_cases hbad : t = true ∧ fcd = 0
    · obtain ⟨rfl, rfl⟩ := hbad
      clear FC
      by_cases hpg : p = wGiven0 ∧ Y = []
      · obtain ⟨rfl, rfl⟩ := hpg
        have CF : Hid (cFold [] [] (pre ++ [x]) = some (X ++ [f], [])) := by show _ = _; rw [ST.out]; simp
        have un0 : un = 0 := by
          obtain ⟨xs, ho, _⟩ := CIH.out.cl.oy
          rcases ho.2 with ⟨h, _⟩ | ⟨g, cap, cur, h, _⟩ <;> (simp only [Value.slice.injEq, List.length_nil] at h; exact h.2.1)
        clear ST
        gi_wp2_with (first
          | (refine ⟨trivial, ?_⟩; gi_at_call 32; refine (CallsIn.inRound r (callsIn_wide.2 (cut_c x [32] _ _ _ XL.out CU.out _ (HM.out.keep (keeps_of_below CIH.out.bw))))).mono ?_; rintro e w7 ⟨rfl, b7⟩; have C7 := Lib.hid (CIH.out.below b7); have B7 := Lib.hid b7; clear b7)
          | (refine ⟨trivial, ?_⟩; gi_at_call 43; refine (CallsIn.inRound r (callsIn_wide.2 (RD.out _ C7.out.bw))).mono ?_; rintro e w8 ⟨fa, fn, fc, fb, fm, fd, rfl, h1, h2, b8⟩; have C8 := Lib.hid (C7.out.below b8); have H1 := Lib.hid h1; have H2 := Lib.hid h2; have B8 := Lib.hid b8; obtain ⟨d0, d1, e0, e1⟩ := row48' C8.out.c4; have z8 : w.heap.size + 1 + 1 < w8.heap.size := (by have := C8.out.sz; omega); clear h1 h2 b8))
        have G9 : Hid ((Value.slice va vn vc).ownBlock ≠ some w8.heap.size) := fun e => by have := own_lt C8.out.cl.ox _ e; omega
        have zr := heap_alloc_new w8 (.cells #[.int .u8 f.op, str f.name, .slice fa fn fc, .slice fb fm fd] 25)
        have bA : Below w8.heap.size w8 (w8.alloc (.cells #[.int .u8 f.op, str f.name, .slice fa fn fc, .slice fb fm fd] 25)) := (Below.refl _ _).alloc (Nat.le_refl _) _
        have CA := Lib.hid (C8.out.below bA)
        have HA1 := Lib.hid (H1.out.keep (hide_keeps2 (p := lo w7) (q := lo w7) fun k h1 h2 => ⟨h2, bA.block k h1⟩))
        have HA2 := Lib.hid (H2.out.keep (hide_keeps2 (p := lo w7) (q := lo w7) fun k h1 h2 => ⟨h2, bA.block k h1⟩))
        have BA : Hid (Below W.heap.size W (w8.alloc (.cells #[.int .u8 f.op, str f.name, .slice fa fn fc, .slice fb fm fd] 25))) := belowThen (belowThen B7.out B8.out) bA
        have Z7 : Hid (w7.heap.size ≤ w8.heap.size) := B8.out.size
        have z9 : w8.heap.size < (w8.alloc (.cells #[.int .u8 f.op, str f.name, .slice fa fn fc, .slice fb fm fd] 25)).heap.size := by simp
        change Code.wpIn _ _ _ _ _ _ (w8.alloc (.cells #[.int .u8 f.op, str f.name, .slice fa fn fc, .slice fb fm fd] 25))
        have Z76 := Lib.hid C7.out.sz
        have OX := Lib.hid (own_lt C7.out.cl.ox)
        have OY := Lib.hid (own_lt C7.out.cl.oy)
        clear bA C8 H1 H2 B7 B8 C7 d0 d1 e0 e1 z8
        generalize hWA : w8.alloc (.cells #[.int .u8 f.op, str f.name, .slice fa fn fc, .slice fb fm fd] 25) = WA at *
        clear hWA
        generalize hg9 : w8.heap.size = g9 at *
        clear hg9
        obtain ⟨d0, d1, e0, e1⟩ := row48' CA.out.c4
        obtain ⟨p0, p1, p2, p3, -, -, -, -⟩ := row25' zr
        have z4 := (Array.getElem?_eq_some_iff.1 CA.out.c4).1
        obtain ⟨xs, ho, hc⟩ := CA.out.cl.ox
        obtain ⟨i0, hi0, hz0, hs0, hb0⟩ := info_parts info25
        have xl : xs.length = X.length * 4 := ho.1
        have xn : vn = X.length := by rcases ho.2 with ⟨h, h0⟩ | ⟨g, cap, cur, h, _⟩ <;> (simp only [Value.slice.injEq] at h; omega)
        have nl : vn ≤ 20000 := by have := GL.out; omega
        have OW : Hid ((WA.alloc (.cells #[.int .u8 0, .string ⟨#[]⟩, .slice none 0 0, .slice none 0 0] 25)).drew.ownsRow (w.heap.size + 6) 25 4 (Value.slice va vn vc) vn xs) := by have h := ho.alloc (.cells #[.int .u8 0, .string ⟨#[]⟩, .slice none 0 0, .slice none 0 0] 25); rw [← xn] at h; exact h
        have HC := Lib.hid hc
        have XL := Lib.hid xl
        have XN := Lib.hid xn
        have hz := own_lt CA.out.cl.ox
        have HZ := Lib.hid hz
        clear ho hc xl xn hz
        refine region_in_held (S := fun w' => w'.heap[g9]? = WA.heap[g9]?) (by kernel_rfl) (by kernel_rfl) (by rintro ⟨a0, w0, h⟩; exact h) rfl (fun hHeld => ?_)
        refine wpAnyH_take (i := 0) (v := ?_) rfl (by kernel_rfl) (by kernel_rfl) (by kernel_rfl) (fun _ _ _ h => h) (Or.inl ⟨by rfl, ?_⟩) (by assumption) ?_
        rotate_left
        · (intro w hSw; go_simp; (try with_reducible rfl))
        try simp only [Act.put, List.getElem_toArray, List.getElem_cons_succ, List.getElem_cons_zero, List.setIfInBounds_toArray, List.set_cons_zero, List.set_cons_succ]
        refine wpAnyH_take (i := 2) (v := ?_) rfl (by kernel_rfl) (by kernel_rfl) (by kernel_rfl) (fun _ _ _ h => h) (Or.inl ⟨by rfl, ?_⟩) (by assumption) ?_
        rotate_left
        · (intro w hSw; have := (World.cell?_of_block (a := ⟨g9, 0, none⟩) hSw).trans p0; have := (World.cell?_of_block (a := ⟨g9, 1, none⟩) hSw).trans p1; have := (World.cell?_of_block (a := ⟨g9, 2, none⟩) hSw).trans p2; have := (World.cell?_of_block (a := ⟨g9, 3, none⟩) hSw).trans p3; go_simp; (try with_reducible rfl))
        try simp only [Act.put, List.getElem_toArray, List.getElem_cons_succ, List.getElem_cons_zero, List.setIfInBounds_toArray, List.set_cons_zero, List.set_cons_succ]
        refine wpAnyH_ready (rs := [1, 4]) (by kernel_rfl) (by simp) ?_
        refine AllReadyH.cons rfl (fun K hK => ?_) ?_
        · go_simp
          refine hK.out _ _ (hHeld) (fun hHeld1 => ?_)
          clear hK K
          try simp only [Act.put, List.getElem_toArray, List.getElem_cons_succ, List.getElem_cons_zero, List.setIfInBounds_toArray, List.set_cons_zero, List.set_cons_succ]
          refine wpAnyH_take (i := 3) (v := ?_) rfl (by kernel_rfl) (by kernel_rfl) (by kernel_rfl) (fun _ _ _ h => h) (Or.inl ⟨by rfl, ?_⟩) (by assumption) ?_
          rotate_left
          · (intro w hSw; go_simp; (try with_reducible rfl))
          try simp only [Act.put, List.getElem_toArray, List.getElem_cons_succ, List.getElem_cons_zero, List.setIfInBounds_toArray, List.set_cons_zero, List.set_cons_succ]
          refine wpAnyH_ready (rs := [4]) (by kernel_rfl) (by simp) ?_
          refine AllReadyH.cons rfl (fun K hK => ?_) AllReadyH.nil
          go_simp
          refine hK.out _ _ (Below.heap_alloc WA _ g9 z9) (fun hHeld2 => ?_)
          clear hK K
          try simp only [Act.put, List.getElem_toArray, List.getElem_cons_succ, List.getElem_cons_zero, List.setIfInBounds_toArray, List.set_cons_zero, List.set_cons_succ]
          refine wpAnyH_ready (rs := [5]) (by kernel_rfl) (by simp) ?_
          refine AllReadyH.cons rfl (fun K hK => ?_) AllReadyH.nil
          refine step_append_own rfl _ _ 23 rfl (w.heap.size + 6) 25 i0 (.agg #[.int .u8 0, .string ⟨#[]⟩, .slice none 0 0, .slice none 0 0]) 4 72 Tryz.underlying23 hi0 hz0 hs0 hb0 rfl (by decide) _ vn xs (by rfl) OW.out ⟨WA.heap.size, 0, none⟩ 1 1 [.int .u8 0, .string ⟨#[]⟩, .slice none 0 0, .slice none 0 0] (by rfl) rfl (news4 _ _ _ _ _ _) (by intro u hu; simp at hu; rcases hu with rfl | rfl | rfl | rfl <;> rfl) (by unfold maxLen; omega) (by omega) (by have := CA.out.sz; simp; omega) ?_
          intro v5 w5 h5 hg5 hat5
          obtain ⟨g5, c5, rfl⟩ := ownsRow_succ h5
          have hk5 : w5.heap[g9]? = WA.heap[g9]? := (hg5.block g9 (by simp; omega) (fun e => G9.out e.symm)).trans (Below.heap_alloc WA _ g9 z9)
          have z5 : Hid (w.heap.size + 6 ≤ g5) := (h5.lt g5 rfl).1
          have H5 := Lib.hid h5
          have HG5 := Lib.hid hg5
          have HA5 := Lib.hid hat5
          have c45 : w5.heap[w.heap.size + 1 + 1]? = some (.cells #[.slice va vn vc, .slice ua un uc] 48 (0, 0)) := (hg5.block _ (by simp; omega) (fun e => by have := HZ.out _ e.symm; omega)).trans ((Below.heap_alloc WA _ _ z4).trans CA.out.c4)
          have zz5 : (vn : Int) < (vn : Int) + 1 := by omega
          have f5 := row_thaw h5
          obtain ⟨x0, x1, x2, x3⟩ := row_last h5 (by rw [XL.out, XN.out])
          have zz6 := (h5.lt g5 rfl).2
          have N59 : Hid (g5 ≠ g9) := ne_new hat5 G9.out z9
          have ne1 : w.heap.size + 1 + 1 ≠ g5 := by have := z5.out; omega
          have ne2 : g5 ≠ w.heap.size + 1 + 1 := fun e => ne1 e.symm
          have n94 : Hid (g9 ≠ w.heap.size + 1 + 1) := fun e => by rw [e, CA.out.c4] at zr; simp at zr
          obtain ⟨q0, q1, r0', r1'⟩ := row48' c45
          have C45 := Lib.hid c45
          have zz7 := (Array.getElem?_eq_some_iff.1 c45).1
          clear c45
          clear h5 hg5 hat5
          refine hK.out _ _ hk5 (fun hHeld3 => ?_)
          clear hK K
          try simp only [Act.put, List.getElem_toArray, List.getElem_cons_succ, List.getElem_cons_zero, List.setIfInBounds_toArray, List.set_cons_zero, List.set_cons_succ]
          refine wpAnyH_take (i := 6) (v := ?_) rfl (by kernel_rfl) (by kernel_rfl) (by kernel_rfl) (fun _ _ _ h => h) (Or.inl ⟨by rfl, ?_⟩) (by assumption) ?_
          rotate_left
          · (intro w hSw; go_simp; (try with_reducible rfl))
          try simp only [Act.put, List.getElem_toArray, List.getElem_cons_succ, List.getElem_cons_zero, List.setIfInBounds_toArray, List.set_cons_zero, List.set_cons_succ]
          refine wpAnyH_take (i := 8) (v := ?_) rfl (by kernel_rfl) (by kernel_rfl) (by kernel_rfl) (fun _ _ _ h => h) (Or.inl ⟨by rfl, ?_⟩) (by assumption) ?_
          rotate_left
          · (intro w hSw; go_simp; (try with_reducible rfl))
          try simp only [Act.put, List.getElem_toArray, List.getElem_cons_succ, List.getElem_cons_zero, List.setIfInBounds_toArray, List.set_cons_zero, List.set_cons_succ]
          refine wpAnyH_ready (rs := [7, 9]) (by kernel_rfl) (by simp) ?_
          refine AllReadyH.cons rfl (fun K hK => ?_) ?_
          · go_simp
            refine hK.out _ _ ((Below.heap_setCell _ _ _ _ (Ne.symm N59.out)).trans ((Below.heap_setCell _ _ _ _ (Ne.symm N59.out)).trans ((Below.heap_setCell _ _ _ _ (Ne.symm N59.out)).trans ((Below.heap_setCell _ _ _ _ (Ne.symm N59.out)).trans hHeld3)))) (fun hHeld4 => ?_)
            clear hK K
            try simp only [Act.put, List.getElem_toArray, List.getElem_cons_succ, List.getElem_cons_zero, List.setIfInBounds_toArray, List.set_cons_zero, List.set_cons_succ]
            refine wpAnyH_ready (rs := [9]) (by kernel_rfl) (by simp) ?_
            refine AllReadyH.cons rfl (fun K hK => ?_) AllReadyH.nil
            go_simp
            refine hK.out _ _ ((Below.heap_setCell _ _ _ _ n94.out).trans hHeld4) (fun hHeld5 => ?_)
            clear hK K
            try simp only [Act.put, List.getElem_toArray, List.getElem_cons_succ, List.getElem_cons_zero, List.setIfInBounds_toArray, List.set_cons_zero, List.set_cons_succ]
            refine wpAnyH_done (by kernel_rfl) ?_ _
            gi_wp2
            exact claim_J0 Z6.out CF.out CA.out BA.out z6 OX.out OY.out Z76.out HA1.out HA2.out HC.out XL.out XN.out HG5.out HA5.out (fin_A H5.out (by rw [XL.out, XN.out]) z5.out C45.out rfl) rfl rfl rfl
          · refine AllReadyH.cons rfl (fun K hK => ?_) AllReadyH.nil
            go_simp
            refine hK.out _ _ ((Below.heap_setCell _ _ _ _ n94.out).trans hHeld3) (fun hHeld4 => ?_)
            clear hK K
            try simp only [Act.put, List.getElem_toArray, List.getElem_cons_succ, List.getElem_cons_zero, List.setIfInBounds_toArray, List.set_cons_zero, List.set_cons_succ]
            refine wpAnyH_ready (rs := [7]) (by kernel_rfl) (by simp) ?_
            refine AllReadyH.cons rfl (fun K hK => ?_) AllReadyH.nil
            go_simp
            refine hK.out _ _ ((Below.heap_setCell _ _ _ _ (Ne.symm N59.out)).trans ((Below.heap_setCell _ _ _ _ (Ne.symm N59.out)).trans ((Below.heap_setCell _ _ _ _ (Ne.symm N59.out)).trans ((Below.heap_setCell _ _ _ _ (Ne.symm N59.out)).trans hHeld4)))) (fun hHeld5 => ?_)
            clear hK K
            try simp only [Act.put, List.getElem_toArray, List.getElem_cons_succ, List.getElem_cons_zero, List.setIfInBounds_toArray, List.set_cons_zero, List.set_cons_succ]
            refine wpAnyH_done (by kernel_rfl) ?_ _
            gi_wp2
            exact claim_J0 Z6.out CF.out CA.out BA.out z6 OX.out OY.out Z76.out HA1.out HA2.out HC.out XL.out XN.out HG5.out HA5.out (fin_B H5.out (by rw [XL.out, XN.out]) z5.out C45.out rfl) rfl rfl rfl
        · refine AllReadyH.cons rfl (fun K hK => ?_) AllReadyH.nil
          go_simp
          refine hK.out _ _ (Below.heap_alloc WA _ g9 z9) (fun hHeld1 => ?_)
          clear hK K
          try simp only [Act.put, List.getElem_toArray, List.getElem_cons_succ, List.getElem_cons_zero, List.setIfInBounds_toArray, List.set_cons_zero, List.set_cons_succ]
          refine wpAnyH_ready (rs := [1]) (by kernel_rfl) (by simp) ?_
          refine AllReadyH.cons rfl (fun K hK => ?_) AllReadyH.nil
          go_simp
          refine hK.out _ _ (Below.heap_alloc WA _ g9 z9) (fun hHeld2 => ?_)
          clear hK K
          try simp only [Act.put, List.getElem_toArray, List.getElem_cons_succ, List.getElem_cons_zero, List.setIfInBounds_toArray, List.set_cons_zero, List.set_cons_succ]
          refine wpAnyH_take (i := 3) (v := ?_) rfl (by kernel_rfl) (by kernel_rfl) (by kernel_rfl) (fun _ _ _ h => h) (Or.inl ⟨by rfl, ?_⟩) (by assumption) ?_
          rotate_left
          · (intro w hSw; go_simp; (try with_reducible rfl))
          try simp only [Act.put, List.getElem_toArray, List.getElem_cons_succ, List.getElem_cons_zero, List.setIfInBounds_toArray, List.set_cons_zero, List.set_cons_succ]
          refine wpAnyH_ready (rs := [5]) (by kernel_rfl) (by simp) ?_
          refine AllReadyH.cons rfl (fun K hK => ?_) AllReadyH.nil
          refine step_append_own rfl _ _ 23 rfl (w.heap.size + 6) 25 i0 (.agg #[.int .u8 0, .string ⟨#[]⟩, .slice none 0 0, .slice none 0 0]) 4 72 Tryz.underlying23 hi0 hz0 hs0 hb0 rfl (by decide) _ vn xs (by rfl) OW.out ⟨WA.heap.size, 0, none⟩ 1 1 [.int .u8 0, .string ⟨#[]⟩, .slice none 0 0, .slice none 0 0] (by rfl) rfl (news4 _ _ _ _ _ _) (by intro u hu; simp at hu; rcases hu with rfl | rfl | rfl | rfl <;> rfl) (by unfold maxLen; omega) (by omega) (by have := CA.out.sz; simp; omega) ?_
          intro v5 w5 h5 hg5 hat5
          obtain ⟨g5, c5, rfl⟩ := ownsRow_succ h5
          have hk5 : w5.heap[g9]? = WA.heap[g9]? := (hg5.block g9 (by simp; omega) (fun e => G9.out e.symm)).trans (Below.heap_alloc WA _ g9 z9)
          have z5 : Hid (w.heap.size + 6 ≤ g5) := (h5.lt g5 rfl).1
          have H5 := Lib.hid h5
          have HG5 := Lib.hid hg5
          have HA5 := Lib.hid hat5
          have c45 : w5.heap[w.heap.size + 1 + 1]? = some (.cells #[.slice va vn vc, .slice ua un uc] 48 (0, 0)) := (hg5.block _ (by simp; omega) (fun e => by have := HZ.out _ e.symm; omega)).trans ((Below.heap_alloc WA _ _ z4).trans CA.out.c4)
          have zz5 : (vn : Int) < (vn : Int) + 1 := by omega
          have f5 := row_thaw h5
          obtain ⟨x0, x1, x2, x3⟩ := row_last h5 (by rw [XL.out, XN.out])
          have zz6 := (h5.lt g5 rfl).2
          have N59 : Hid (g5 ≠ g9) := ne_new hat5 G9.out z9
          have ne1 : w.heap.size + 1 + 1 ≠ g5 := by have := z5.out; omega
          have ne2 : g5 ≠ w.heap.size + 1 + 1 := fun e => ne1 e.symm
          have n94 : Hid (g9 ≠ w.heap.size + 1 + 1) := fun e => by rw [e, CA.out.c4] at zr; simp at zr
          obtain ⟨q0, q1, r0', r1'⟩ := row48' c45
          have C45 := Lib.hid c45
          have zz7 := (Array.getElem?_eq_some_iff.1 c45).1
          clear c45
          clear h5 hg5 hat5
          refine hK.out _ _ hk5 (fun hHeld3 => ?_)
          clear hK K
          try simp only [Act.put, List.getElem_toArray, List.getElem_cons_succ, List.getElem_cons_zero, List.setIfInBounds_toArray, List.set_cons_zero, List.set_cons_succ]
          refine wpAnyH_take (i := 6) (v := ?_) rfl (by kernel_rfl) (by kernel_rfl) (by kernel_rfl) (fun _ _ _ h => h) (Or.inl ⟨by rfl, ?_⟩) (by assumption) ?_
          rotate_left
          · (intro w hSw; go_simp; (try with_reducible rfl))
          try simp only [Act.put, List.getElem_toArray, List.getElem_cons_succ, List.getElem_cons_zero, List.setIfInBounds_toArray, List.set_cons_zero, List.set_cons_succ]
          refine wpAnyH_take (i := 8) (v := ?_) rfl (by kernel_rfl) (by kernel_rfl) (by kernel_rfl) (fun _ _ _ h => h) (Or.inl ⟨by rfl, ?_⟩) (by assumption) ?_
          rotate_left
          · (intro w hSw; go_simp; (try with_reducible rfl))
          try simp only [Act.put, List.getElem_toArray, List.getElem_cons_succ, List.getElem_cons_zero, List.setIfInBounds_toArray, List.set_cons_zero, List.set_cons_succ]
          refine wpAnyH_ready (rs := [7, 9]) (by kernel_rfl) (by simp) ?_
          refine AllReadyH.cons rfl (fun K hK => ?_) ?_
          · go_simp
            refine hK.out _ _ ((Below.heap_setCell _ _ _ _ (Ne.symm N59.out)).trans ((Below.heap_setCell _ _ _ _ (Ne.symm N59.out)).trans ((Below.heap_setCell _ _ _ _ (Ne.symm N59.out)).trans ((Below.heap_setCell _ _ _ _ (Ne.symm N59.out)).trans hHeld3)))) (fun hHeld4 => ?_)
            clear hK K
            try simp only [Act.put, List.getElem_toArray, List.getElem_cons_succ, List.getElem_cons_zero, List.setIfInBounds_toArray, List.set_cons_zero, List.set_cons_succ]
            refine wpAnyH_ready (rs := [9]) (by kernel_rfl) (by simp) ?_
            refine AllReadyH.cons rfl (fun K hK => ?_) AllReadyH.nil
            go_simp
            refine hK.out _ _ ((Below.heap_setCell _ _ _ _ n94.out).trans hHeld4) (fun hHeld5 => ?_)
            clear hK K
            try simp only [Act.put, List.getElem_toArray, List.getElem_cons_succ, List.getElem_cons_zero, List.setIfInBounds_toArray, List.set_cons_zero, List.set_cons_succ]
            refine wpAnyH_done (by kernel_rfl) ?_ _
            gi_wp2
            exact claim_J0 Z6.out CF.out CA.out BA.out z6 OX.out OY.out Z76.out HA1.out HA2.out HC.out XL.out XN.out HG5.out HA5.out (fin_A H5.out (by rw [XL.out, XN.out]) z5.out C45.out rfl) rfl rfl rfl
          · refine AllReadyH.cons rfl (fun K hK => ?_) AllReadyH.nil
            go_simp
            refine hK.out _ _ ((Below.heap_setCell _ _ _ _ n94.out).trans hHeld3) (fun hHeld4 => ?_)
            clear hK K
            try simp only [Act.put, List.getElem_toArray, List.getElem_cons_succ, List.getElem_cons_zero, List.setIfInBounds_toArray, List.set_cons_zero, List.set_cons_succ]
            refine wpAnyH_ready (rs := [7]) (by kernel_rfl) (by simp) ?_
            refine AllReadyH.cons rfl (fun K hK => ?_) AllReadyH.nil
            go_simp
            refine hK.out _ _ ((Below.heap_setCell _ _ _ _ (Ne.symm N59.out)).trans ((Below.heap_setCell _ _ _ _ (Ne.symm N59.out)).trans ((Below.heap_setCell _ _ _ _ (Ne.symm N59.out)).trans ((Below.heap_setCell _ _ _ _ (Ne.symm N59.out)).trans hHeld4)))) (fun hHeld5 => ?_)
            clear hK K
            try simp only [Act.put, List.getElem_toArray, List.getElem_cons_succ, List.getElem_cons_zero, List.setIfInBounds_toArray, List.set_cons_zero, List.set_cons_succ]
            refine wpAnyH_done (by kernel_rfl) ?_ _
            gi_wp2
            exact claim_J0 Z6.out CF.out CA.out BA.out z6 OX.out OY.out Z76.out HA1.out HA2.out HC.out XL.out XN.out HG5.out HA5.out (fin_B H5.out (by rw [XL.out, XN.out]) z5.out C45.out rfl) rfl rfl rfl
      · by_cases hps : p = [115, 104, 111, 119]
        · have CF : Hid (cFold [] [] (pre ++ [x]) = some (X, Y ++ [f])) := by show _ = _; rw [ST.out, if_pos ⟨rfl, rfl⟩, if_neg hpg, if_pos hps]
          subst hps
          clear ST hpg
          gi_wp2_with (first
            | (refine ⟨trivial, ?_⟩; gi_at_call 32; refine (CallsIn.inRound r (callsIn_wide.2 (cut_c x [32] _ _ _ XL.out CU.out _ (HM.out.keep (keeps_of_below CIH.out.bw))))).mono ?_; rintro e w7 ⟨rfl, b7⟩; have C7 := Lib.hid (CIH.out.below b7); have B7 := Lib.hid b7; clear b7)
            | (refine ⟨trivial, ?_⟩; gi_at_call 43; refine (CallsIn.inRound r (callsIn_wide.2 (RD.out _ C7.out.bw))).mono ?_; rintro e w8 ⟨fa, fn, fc, fb, fm, fd, rfl, h1, h2, b8⟩; have C8 := Lib.hid (C7.out.below b8); have H1 := Lib.hid h1; have H2 := Lib.hid h2; have B8 := Lib.hid b8; obtain ⟨d0, d1, e0, e1⟩ := row48' C8.out.c4; have z8 : w.heap.size + 1 + 1 < w8.heap.size := (by have := C8.out.sz; omega); clear h1 h2 b8))
          have G9 : Hid ((Value.slice ua un uc).ownBlock ≠ some w8.heap.size) := fun e => by have := own_lt C8.out.cl.oy _ e; omega
          have zr := heap_alloc_new w8 (.cells #[.int .u8 f.op, str f.name, .slice fa fn fc, .slice fb fm fd] 25)
          have bA : Below w8.heap.size w8 (w8.alloc (.cells #[.int .u8 f.op, str f.name, .slice fa fn fc, .slice fb fm fd] 25)) := (Below.refl _ _).alloc (Nat.le_refl _) _
          have CA := Lib.hid (C8.out.below bA)
          have HA1 := Lib.hid (H1.out.keep (hide_keeps2 (p := lo w7) (q := lo w7) fun k h1 h2 => ⟨h2, bA.block k h1⟩))
          have HA2 := Lib.hid (H2.out.keep (hide_keeps2 (p := lo w7) (q := lo w7) fun k h1 h2 => ⟨h2, bA.block k h1⟩))
          have BA : Hid (Below W.heap.size W (w8.alloc (.cells #[.int .u8 f.op, str f.name, .slice fa fn fc, .slice fb fm fd] 25))) := belowThen (belowThen B7.out B8.out) bA
          have Z7 : Hid (w7.heap.size ≤ w8.heap.size) := B8.out.size
          have z9 : w8.heap.size < (w8.alloc (.cells #[.int .u8 f.op, str f.name, .slice fa fn fc, .slice fb fm fd] 25)).heap.size := by simp
          change Code.wpIn _ _ _ _ _ _ (w8.alloc (.cells #[.int .u8 f.op, str f.name, .slice fa fn fc, .slice fb fm fd] 25))
          have Z76 := Lib.hid C7.out.sz
          have OX := Lib.hid (own_lt C7.out.cl.ox)
          have OY := Lib.hid (own_lt C7.out.cl.oy)
          clear bA C8 H1 H2 B7 B8 C7 d0 d1 e0 e1 z8
          generalize hWA : w8.alloc (.cells #[.int .u8 f.op, str f.name, .slice fa fn fc, .slice fb fm fd] 25) = WA at *
          clear hWA
          generalize hg9 : w8.heap.size = g9 at *
          clear hg9
          obtain ⟨d0, d1, e0, e1⟩ := row48' CA.out.c4
          obtain ⟨p0, p1, p2, p3, -, -, -, -⟩ := row25' zr
          have z4 := (Array.getElem?_eq_some_iff.1 CA.out.c4).1
          obtain ⟨xs, ho, hc⟩ := CA.out.cl.oy
          obtain ⟨i0, hi0, hz0, hs0, hb0⟩ := info_parts info25
          have xl : xs.length = Y.length * 4 := ho.1
          have xn : un = Y.length := by rcases ho.2 with ⟨h, h0⟩ | ⟨g, cap, cur, h, _⟩ <;> (simp only [Value.slice.injEq] at h; omega)
          have nl : un ≤ 20000 := by have := GL.out; omega
          have OW : Hid ((WA.alloc (.cells #[.int .u8 0, .string ⟨#[]⟩, .slice none 0 0, .slice none 0 0] 25)).drew.ownsRow (w.heap.size + 6) 25 4 (Value.slice ua un uc) un xs) := by have h := ho.alloc (.cells #[.int .u8 0, .string ⟨#[]⟩, .slice none 0 0, .slice none 0 0] 25); rw [← xn] at h; exact h
          have HC := Lib.hid hc
          have XL := Lib.hid xl
          have XN := Lib.hid xn
          have hz := own_lt CA.out.cl.oy
          have HZ := Lib.hid hz
          clear ho hc xl xn hz
          refine region_in_held (S := fun w' => w'.heap[g9]? = WA.heap[g9]?) (by kernel_rfl) (by kernel_rfl) (by rintro ⟨a0, w0, h⟩; exact h) rfl (fun hHeld => ?_)
          refine wpAnyH_take (i := 0) (v := ?_) rfl (by kernel_rfl) (by kernel_rfl) (by kernel_rfl) (fun _ _ _ h => h) (Or.inl ⟨by rfl, ?_⟩) (by assumption) ?_
          rotate_left
          · (intro w hSw; go_simp; (try with_reducible rfl))
          try simp only [Act.put, List.getElem_toArray, List.getElem_cons_succ, List.getElem_cons_zero, List.setIfInBounds_toArray, List.set_cons_zero, List.set_cons_succ]
          refine wpAnyH_take (i := 2) (v := ?_) rfl (by kernel_rfl) (by kernel_rfl) (by kernel_rfl) (fun _ _ _ h => h) (Or.inl ⟨by rfl, ?_⟩) (by assumption) ?_
          rotate_left
          · (intro w hSw; have := (World.cell?_of_block (a := ⟨g9, 0, none⟩) hSw).trans p0; have := (World.cell?_of_block (a := ⟨g9, 1, none⟩) hSw).trans p1; have := (World.cell?_of_block (a := ⟨g9, 2, none⟩) hSw).trans p2; have := (World.cell?_of_block (a := ⟨g9, 3, none⟩) hSw).trans p3; go_simp; (try with_reducible rfl))
          try simp only [Act.put, List.getElem_toArray, List.getElem_cons_succ, List.getElem_cons_zero, List.setIfInBounds_toArray, List.set_cons_zero, List.set_cons_succ]
          refine wpAnyH_ready (rs := [1, 4]) (by kernel_rfl) (by simp) ?_
          refine AllReadyH.cons rfl (fun K hK => ?_) ?_
          · go_simp
            refine hK.out _ _ (hHeld) (fun hHeld1 => ?_)
            clear hK K
            try simp only [Act.put, List.getElem_toArray, List.getElem_cons_succ, List.getElem_cons_zero, List.setIfInBounds_toArray, List.set_cons_zero, List.set_cons_succ]
            refine wpAnyH_take (i := 3) (v := ?_) rfl (by kernel_rfl) (by kernel_rfl) (by kernel_rfl) (fun _ _ _ h => h) (Or.inl ⟨by rfl, ?_⟩) (by assumption) ?_
            rotate_left
            · (intro w hSw; go_simp; (try with_reducible rfl))
            try simp only [Act.put, List.getElem_toArray, List.getElem_cons_succ, List.getElem_cons_zero, List.setIfInBounds_toArray, List.set_cons_zero, List.set_cons_succ]
            refine wpAnyH_ready (rs := [4]) (by kernel_rfl) (by simp) ?_
            refine AllReadyH.cons rfl (fun K hK => ?_) AllReadyH.nil
            go_simp
            refine hK.out _ _ (Below.heap_alloc WA _ g9 z9) (fun hHeld2 => ?_)
            clear hK K
            try simp only [Act.put, List.getElem_toArray, List.getElem_cons_succ, List.getElem_cons_zero, List.setIfInBounds_toArray, List.set_cons_zero, List.set_cons_succ]
            refine wpAnyH_ready (rs := [5]) (by kernel_rfl) (by simp) ?_
            refine AllReadyH.cons rfl (fun K hK => ?_) AllReadyH.nil
            refine step_append_own rfl _ _ 23 rfl (w.heap.size + 6) 25 i0 (.agg #[.int .u8 0, .string ⟨#[]⟩, .slice none 0 0, .slice none 0 0]) 4 72 Tryz.underlying23 hi0 hz0 hs0 hb0 rfl (by decide) _ un xs (by rfl) OW.out ⟨WA.heap.size, 0, none⟩ 1 1 [.int .u8 0, .string ⟨#[]⟩, .slice none 0 0, .slice none 0 0] (by rfl) rfl (news4 _ _ _ _ _ _) (by intro u hu; simp at hu; rcases hu with rfl | rfl | rfl | rfl <;> rfl) (by unfold maxLen; omega) (by omega) (by have := CA.out.sz; simp; omega) ?_
            intro v5 w5 h5 hg5 hat5
            obtain ⟨g5, c5, rfl⟩ := ownsRow_succ h5
            have hk5 : w5.heap[g9]? = WA.heap[g9]? := (hg5.block g9 (by simp; omega) (fun e => G9.out e.symm)).trans (Below.heap_alloc WA _ g9 z9)
            have z5 : Hid (w.heap.size + 6 ≤ g5) := (h5.lt g5 rfl).1
            have H5 := Lib.hid h5
            have HG5 := Lib.hid hg5
            have HA5 := Lib.hid hat5
            have c45 : w5.heap[w.heap.size + 1 + 1]? = some (.cells #[.slice va vn vc, .slice ua un uc] 48 (0, 0)) := (hg5.block _ (by simp; omega) (fun e => by have := HZ.out _ e.symm; omega)).trans ((Below.heap_alloc WA _ _ z4).trans CA.out.c4)
            have zz5 : (un : Int) < (un : Int) + 1 := by omega
            have f5 := row_thaw h5
            obtain ⟨x0, x1, x2, x3⟩ := row_last h5 (by rw [XL.out, XN.out])
            have zz6 := (h5.lt g5 rfl).2
            have N59 : Hid (g5 ≠ g9) := ne_new hat5 G9.out z9
            have ne1 : w.heap.size + 1 + 1 ≠ g5 := by have := z5.out; omega
            have ne2 : g5 ≠ w.heap.size + 1 + 1 := fun e => ne1 e.symm
            have n94 : Hid (g9 ≠ w.heap.size + 1 + 1) := fun e => by rw [e, CA.out.c4] at zr; simp at zr
            obtain ⟨q0, q1, r0', r1'⟩ := row48' c45
            have C45 := Lib.hid c45
            have zz7 := (Array.getElem?_eq_some_iff.1 c45).1
            clear c45
            clear h5 hg5 hat5
            refine hK.out _ _ hk5 (fun hHeld3 => ?_)
            clear hK K
            try simp only [Act.put, List.getElem_toArray, List.getElem_cons_succ, List.getElem_cons_zero, List.setIfInBounds_toArray, List.set_cons_zero, List.set_cons_succ]
            refine wpAnyH_take (i := 6) (v := ?_) rfl (by kernel_rfl) (by kernel_rfl) (by kernel_rfl) (fun _ _ _ h => h) (Or.inl ⟨by rfl, ?_⟩) (by assumption) ?_
            rotate_left
            · (intro w hSw; go_simp; (try with_reducible rfl))
            try simp only [Act.put, List.getElem_toArray, List.getElem_cons_succ, List.getElem_cons_zero, List.setIfInBounds_toArray, List.set_cons_zero, List.set_cons_succ]
            refine wpAnyH_take (i := 8) (v := ?_) rfl (by kernel_rfl) (by kernel_rfl) (by kernel_rfl) (fun _ _ _ h => h) (Or.inl ⟨by rfl, ?_⟩) (by assumption) ?_
            rotate_left
            · (intro w hSw; go_simp; (try with_reducible rfl))
            try simp only [Act.put, List.getElem_toArray, List.getElem_cons_succ, List.getElem_cons_zero, List.setIfInBounds_toArray, List.set_cons_zero, List.set_cons_succ]
            refine wpAnyH_ready (rs := [7, 9]) (by kernel_rfl) (by simp) ?_
            refine AllReadyH.cons rfl (fun K hK => ?_) ?_
            · go_simp
              refine hK.out _ _ ((Below.heap_setCell _ _ _ _ (Ne.symm N59.out)).trans ((Below.heap_setCell _ _ _ _ (Ne.symm N59.out)).trans ((Below.heap_setCell _ _ _ _ (Ne.symm N59.out)).trans ((Below.heap_setCell _ _ _ _ (Ne.symm N59.out)).trans hHeld3)))) (fun hHeld4 => ?_)
              clear hK K
              try simp only [Act.put, List.getElem_toArray, List.getElem_cons_succ, List.getElem_cons_zero, List.setIfInBounds_toArray, List.set_cons_zero, List.set_cons_succ]
              refine wpAnyH_ready (rs := [9]) (by kernel_rfl) (by simp) ?_
              refine AllReadyH.cons rfl (fun K hK => ?_) AllReadyH.nil
              go_simp
              refine hK.out _ _ ((Below.heap_setCell _ _ _ _ n94.out).trans hHeld4) (fun hHeld5 => ?_)
              clear hK K
              try simp only [Act.put, List.getElem_toArray, List.getElem_cons_succ, List.getElem_cons_zero, List.setIfInBounds_toArray, List.set_cons_zero, List.set_cons_succ]
              refine wpAnyH_done (by kernel_rfl) ?_ _
              gi_wp2
              exact claim_J1 Z6.out CF.out CA.out BA.out z6 OX.out OY.out Z76.out HA1.out HA2.out HC.out XL.out XN.out HG5.out HA5.out (fin_A H5.out (by rw [XL.out, XN.out]) z5.out C45.out rfl) rfl rfl rfl
            · refine AllReadyH.cons rfl (fun K hK => ?_) AllReadyH.nil
              go_simp
              refine hK.out _ _ ((Below.heap_setCell _ _ _ _ n94.out).trans hHeld3) (fun hHeld4 => ?_)
              clear hK K
              try simp only [Act.put, List.getElem_toArray, List.getElem_cons_succ, List.getElem_cons_zero, List.setIfInBounds_toArray, List.set_cons_zero, List.set_cons_succ]
              refine wpAnyH_ready (rs := [7]) (by kernel_rfl) (by simp) ?_
              refine AllReadyH.cons rfl (fun K hK => ?_) AllReadyH.nil
              go_simp
              refine hK.out _ _ ((Below.heap_setCell _ _ _ _ (Ne.symm N59.out)).trans ((Below.heap_setCell _ _ _ _ (Ne.symm N59.out)).trans ((Below.heap_setCell _ _ _ _ (Ne.symm N59.out)).trans ((Below.heap_setCell _ _ _ _ (Ne.symm N59.out)).trans hHeld4)))) (fun hHeld5 => ?_)
              clear hK K
              try simp only [Act.put, List.getElem_toArray, List.getElem_cons_succ, List.getElem_cons_zero, List.setIfInBounds_toArray, List.set_cons_zero, List.set_cons_succ]
              refine wpAnyH_done (by kernel_rfl) ?_ _
              gi_wp2
              exact claim_J1 Z6.out CF.out CA.out BA.out z6 OX.out OY.out Z76.out HA1.out HA2.out HC.out XL.out XN.out HG5.out HA5.out (fin_B H5.out (by rw [XL.out, XN.out]) z5.out C45.out rfl) rfl rfl rfl
          · refine AllReadyH.cons rfl (fun K hK => ?_) AllReadyH.nil
            go_simp
            refine hK.out _ _ (Below.heap_alloc WA _ g9 z9) (fun hHeld1 => ?_)
            clear hK K
            try simp only [Act.put, List.getElem_toArray, List.getElem_cons_succ, List.getElem_cons_zero, List.setIfInBounds_toArray, List.set_cons_zero, List.set_cons_succ]
            refine wpAnyH_ready (rs := [1]) (by kernel_rfl) (by simp) ?_
            refine AllReadyH.cons rfl (fun K hK => ?_) AllReadyH.nil
            go_simp
            refine hK.out _ _ (Below.heap_alloc WA _ g9 z9) (fun hHeld2 => ?_)
            clear hK K
            try simp only [Act.put, List.getElem_toArray, List.getElem_cons_succ, List.getElem_cons_zero, List.setIfInBounds_toArray, List.set_cons_zero, List.set_cons_succ]
            refine wpAnyH_take (i := 3) (v := ?_) rfl (by kernel_rfl) (by kernel_rfl) (by kernel_rfl) (fun _ _ _ h => h) (Or.inl ⟨by rfl, ?_⟩) (by assumption) ?_
            rotate_left
            · (intro w hSw; go_simp; (try with_reducible rfl))
            try simp only [Act.put, List.getElem_toArray, List.getElem_cons_succ, List.getElem_cons_zero, List.setIfInBounds_toArray, List.set_cons_zero, List.set_cons_succ]
            refine wpAnyH_ready (rs := [5]) (by kernel_rfl) (by simp) ?_
            refine AllReadyH.cons rfl (fun K hK => ?_) AllReadyH.nil
            refine step_append_own rfl _ _ 23 rfl (w.heap.size + 6) 25 i0 (.agg #[.int .u8 0, .string ⟨#[]⟩, .slice none 0 0, .slice none 0 0]) 4 72 Tryz.underlying23 hi0 hz0 hs0 hb0 rfl (by decide) _ un xs (by rfl) OW.out ⟨WA.heap.size, 0, none⟩ 1 1 [.int .u8 0, .string ⟨#[]⟩, .slice none 0 0, .slice none 0 0] (by rfl) rfl (news4 _ _ _ _ _ _) (by intro u hu; simp at hu; rcases hu with rfl | rfl | rfl | rfl <;> rfl) (by unfold maxLen; omega) (by omega) (by have := CA.out.sz; simp; omega) ?_
            intro v5 w5 h5 hg5 hat5
            obtain ⟨g5, c5, rfl⟩ := ownsRow_succ h5
            have hk5 : w5.heap[g9]? = WA.heap[g9]? := (hg5.block g9 (by simp; omega) (fun e => G9.out e.symm)).trans (Below.heap_alloc WA _ g9 z9)
            have z5 : Hid (w.heap.size + 6 ≤ g5) := (h5.lt g5 rfl).1
            have H5 := Lib.hid h5
            have HG5 := Lib.hid hg5
            have HA5 := Lib.hid hat5
            have c45 : w5.heap[w.heap.size + 1 + 1]? = some (.cells #[.slice va vn vc, .slice ua un uc] 48 (0, 0)) := (hg5.block _ (by simp; omega) (fun e => by have := HZ.out _ e.symm; omega)).trans ((Below.heap_alloc WA _ _ z4).trans CA.out.c4)
            have zz5 : (un : Int) < (un : Int) + 1 := by omega
            have f5 := row_thaw h5
            obtain ⟨x0, x1, x2, x3⟩ := row_last h5 (by rw [XL.out, XN.out])
            have zz6 := (h5.lt g5 rfl).2
            have N59 : Hid (g5 ≠ g9) := ne_new hat5 G9.out z9
            have ne1 : w.heap.size + 1 + 1 ≠ g5 := by have := z5.out; omega
            have ne2 : g5 ≠ w.heap.size + 1 + 1 := fun e => ne1 e.symm
            have n94 : Hid (g9 ≠ w.heap.size + 1 + 1) := fun e => by rw [e, CA.out.c4] at zr; simp at zr
            obtain ⟨q0, q1, r0', r1'⟩ := row48' c45
            have C45 := Lib.hid c45
            have zz7 := (Array.getElem?_eq_some_iff.1 c45).1
            clear c45
            clear h5 hg5 hat5
            refine hK.out _ _ hk5 (fun hHeld3 => ?_)
            clear hK K
            try simp only [Act.put, List.getElem_toArray, List.getElem_cons_succ, List.getElem_cons_zero, List.setIfInBounds_toArray, List.set_cons_zero, List.set_cons_succ]
            refine wpAnyH_take (i := 6) (v := ?_) rfl (by kernel_rfl) (by kernel_rfl) (by kernel_rfl) (fun _ _ _ h => h) (Or.inl ⟨by rfl, ?_⟩) (by assumption) ?_
            rotate_left
            · (intro w hSw; go_simp; (try with_reducible rfl))
            try simp only [Act.put, List.getElem_toArray, List.getElem_cons_succ, List.getElem_cons_zero, List.setIfInBounds_toArray, List.set_cons_zero, List.set_cons_succ]
            refine wpAnyH_take (i := 8) (v := ?_) rfl (by kernel_rfl) (by kernel_rfl) (by kernel_rfl) (fun _ _ _ h => h) (Or.inl ⟨by rfl, ?_⟩) (by assumption) ?_
            rotate_left
            · (intro w hSw; go_simp; (try with_reducible rfl))
            try simp only [Act.put, List.getElem_toArray, List.getElem_cons_succ, List.getElem_cons_zero, List.setIfInBounds_toArray, List.set_cons_zero, List.set_cons_succ]
            refine wpAnyH_ready (rs := [7, 9]) (by kernel_rfl) (by simp) ?_
            refine AllReadyH.cons rfl (fun K hK => ?_) ?_
            · go_simp
              refine hK.out _ _ ((Below.heap_setCell _ _ _ _ (Ne.symm N59.out)).trans ((Below.heap_setCell _ _ _ _ (Ne.symm N59.out)).trans ((Below.heap_setCell _ _ _ _ (Ne.symm N59.out)).trans ((Below.heap_setCell _ _ _ _ (Ne.symm N59.out)).trans hHeld3)))) (fun hHeld4 => ?_)
              clear hK K
              try simp only [Act.put, List.getElem_toArray, List.getElem_cons_succ, List.getElem_cons_zero, List.setIfInBounds_toArray, List.set_cons_zero, List.set_cons_succ]
              refine wpAnyH_ready (rs := [9]) (by kernel_rfl) (by simp) ?_
              refine AllReadyH.cons rfl (fun K hK => ?_) AllReadyH.nil
              go_simp
              refine hK.out _ _ ((Below.heap_setCell _ _ _ _ n94.out).trans hHeld4) (fun hHeld5 => ?_)
              clear hK K
              try simp only [Act.put, List.getElem_toArray, List.getElem_cons_succ, List.getElem_cons_zero, List.setIfInBounds_toArray, List.set_cons_zero, List.set_cons_succ]
              refine wpAnyH_done (by kernel_rfl) ?_ _
              gi_wp2
              exact claim_J1 Z6.out CF.out CA.out BA.out z6 OX.out OY.out Z76.out HA1.out HA2.out HC.out XL.out XN.out HG5.out HA5.out (fin_A H5.out (by rw [XL.out, XN.out]) z5.out C45.out rfl) rfl rfl rfl
            · refine AllReadyH.cons rfl (fun K hK => ?_) AllReadyH.nil
              go_simp
              refine hK.out _ _ ((Below.heap_setCell _ _ _ _ n94.out).trans hHeld3) (fun hHeld4 => ?_)
              clear hK K
              try simp only [Act.put, List.getElem_toArray, List.getElem_cons_succ, List.getElem_cons_zero, List.setIfInBounds_toArray, List.set_cons_zero, List.set_cons_succ]
              refine wpAnyH_ready (rs := [7]) (by kernel_rfl) (by simp) ?_
              refine AllReadyH.cons rfl (fun K hK => ?_) AllReadyH.nil
              go_simp
              refine hK.out _ _ ((Below.heap_setCell _ _ _ _ (Ne.symm N59.out)).trans ((Below.heap_setCell _ _ _ _ (Ne.symm N59.out)).trans ((Below.heap_setCell _ _ _ _ (Ne.symm N59.out)).trans ((Below.heap_setCell _ _ _ _ (Ne.symm N59.out)).trans hHeld4)))) (fun hHeld5 => ?_)
              clear hK K
              try simp only [Act.put, List.getElem_toArray, List.getElem_cons_succ, List.getElem_cons_zero, List.setIfInBounds_toArray, List.set_cons_zero, List.set_cons_succ]
              refine wpAnyH_done (by kernel_rfl) ?_ _
              gi_wp2
              exact claim_J1 Z6.out CF.out CA.out BA.out z6 OX.out OY.out Z76.out HA1.out HA2.out HC.out XL.out XN.out HG5.out HA5.out (fin_B H5.out (by rw [XL.out, XN.out]) z5.out C45.out rfl) rfl rfl rfl
        · have NO : Hid (cFold [] [] (pre ++ [x]) = none) := by show _ = _; rw [ST.out]; simp [hpg, hps]
          by_cases hp : p = wGiven0
          · subst hp
            have hY : Y ≠ [] := fun e => hpg ⟨rfl, e⟩
            obtain ⟨m, rfl⟩ : ∃ m, un = m + 1 := by
              have hl : 0 < Y.length := List.length_pos_iff.2 hY
              obtain ⟨xs, ho, _⟩ := CIH.out.cl.oy
              have : un = Y.length := by rcases ho.2 with ⟨h, h0⟩ | ⟨g, cap, cur, h, _⟩ <;> (simp only [Value.slice.injEq] at h; omega)
              exact ⟨un - 1, by omega⟩
            have t5 : ((m : Int) + 1 == 0) = false := by simp; omega
            have t6 : ¬ ((m : Int) + 1 = 0) := by omega
            clear ST hpg hps hY
            gi_wp2_with (first
              | (refine ⟨trivial, ?_⟩; gi_at_call 43; refine (CallsIn.inRound r (callsIn_wide.2 (RD.out _ C7.out.bw))).mono ?_; rintro e w8 ⟨fa, fn, fc, fb, fm, fd, rfl, -, -, b8⟩; have C9 := Lib.hid ((C7.out.below b8).below ((Below.refl _ _).alloc (Nat.le_refl _) (.cells #[.int .u8 f.op, str f.name, .slice fa fn fc, .slice fb fm fd] 25))); have B9 := Lib.hid (belowThen (belowThen B7.out b8) ((Below.refl _ _).alloc (Nat.le_refl _) (.cells #[.int .u8 f.op, str f.name, .slice fa fn fc, .slice fb fm fd] 25))); obtain ⟨d0, d1, e0, e1⟩ := row48' C9.out.c2; obtain ⟨c0, g0⟩ := row9 C9.out.c3; obtain ⟨y0, y1, y2, y3⟩ := row48' C9.out.c4; have z8 := C9.out.sz)
              | (refine ⟨trivial, ?_⟩; gi_at_call 32; refine (CallsIn.inRound r (callsIn_wide.2 (cut_c x [32] _ _ _ XL.out CU.out _ (HM.out.keep (keeps_of_below CIH.out.bw))))).mono ?_; rintro e w7 ⟨rfl, b7⟩; have C7 := Lib.hid (CIH.out.below b7); have B7 := Lib.hid b7; clear b7))
            obtain ⟨q1, q2, q3⟩ := C9.out.si.done rfl
            exact ⟨⟨by rw [q2]; exact B9.out.size, fun i o hi ho _ => (q3 i (by have := Z6.out; omega)).trans ((B9.out.block i (Array.getElem?_eq_some_iff.1 ho).1).trans ho)⟩, ⟨rfl, NO.out⟩, q1⟩
          · have t7 : (p == ([103, 105, 118, 101, 110] : Bs)) = false := beq_eq_false_iff_ne.2 hp
            have t8 : (p == ([115, 104, 111, 119] : Bs)) = false := beq_eq_false_iff_ne.2 hps
            clear ST hpg hp hps
            gi_wp2_with (first
              | (refine ⟨trivial, ?_⟩; gi_at_call 43; refine (CallsIn.inRound r (callsIn_wide.2 (RD.out _ C7.out.bw))).mono ?_; rintro e w8 ⟨fa, fn, fc, fb, fm, fd, rfl, -, -, b8⟩; have C9 := Lib.hid ((C7.out.below b8).below ((Below.refl _ _).alloc (Nat.le_refl _) (.cells #[.int .u8 f.op, str f.name, .slice fa fn fc, .slice fb fm fd] 25))); have B9 := Lib.hid (belowThen (belowThen B7.out b8) ((Below.refl _ _).alloc (Nat.le_refl _) (.cells #[.int .u8 f.op, str f.name, .slice fa fn fc, .slice fb fm fd] 25))); obtain ⟨d0, d1, e0, e1⟩ := row48' C9.out.c2; obtain ⟨c0, g0⟩ := row9 C9.out.c3; obtain ⟨y0, y1, y2, y3⟩ := row48' C9.out.c4; have z8 := C9.out.sz)
              | (refine ⟨trivial, ?_⟩; gi_at_call 32; refine (CallsIn.inRound r (callsIn_wide.2 (cut_c x [32] _ _ _ XL.out CU.out _ (HM.out.keep (keeps_of_below CIH.out.bw))))).mono ?_; rintro e w7 ⟨rfl, b7⟩; have C7 := Lib.hid (CIH.out.below b7); have B7 := Lib.hid b7; clear b7))
            obtain ⟨q1, q2, q3⟩ := C9.out.si.done rfl
            exact ⟨⟨by rw [q2]; exact B9.out.size, fun i o hi ho _ => (q3 i (by have := Z6.out; omega)).trans ((B9.out.block i (Array.getElem?_eq_some_iff.1 ho).1).trans ho)⟩, ⟨rfl, NO.out⟩, q1⟩
    · have NO : Hid (cFold [] [] (pre ++ [x]) = none) := by show _ = _; rw [ST.out, if_neg hbad]
      have hb2 : t = false ∨ fcd = 2 ∨ fcd = 3 ∨ fcd = 410 := by
        cases t with
        | false => exact .inl rfl
        | true => exact .inr (FC.resolve_left fun e => hbad ⟨rfl, e⟩)
      clear ST FC hbad
      rcases hb2 with rfl | rfl | rfl | rfl
      all_goals first | skip
      all_goals try cases t
      all_goals
        gi_wp2_with (first
          | (refine ⟨trivial, ?_⟩; gi_at_call 43; refine (CallsIn.inRound r (callsIn_wide.2 (RD.out _ C7.out.bw))).mono ?_; rintro e w8 ⟨fa, fn, fc, fb, fm, fd, rfl, -, -, b8⟩; have C9 := Lib.hid ((C7.out.below b8).below ((Below.refl _ _).alloc (Nat.le_refl _) (.cells #[.int .u8 f.op, str f.name, .slice fa fn fc, .slice fb fm fd] 25))); have B9 := Lib.hid (belowThen (belowThen B7.out b8) ((Below.refl _ _).alloc (Nat.le_refl _) (.cells #[.int .u8 f.op, str f.name, .slice fa fn fc, .slice fb fm fd] 25))); obtain ⟨d0, d1, e0, e1⟩ := row48' C9.out.c2; obtain ⟨c0, g0⟩ := row9 C9.out.c3; have z8 := C9.out.sz)
          | (refine ⟨trivial, ?_⟩; gi_at_call 32; refine (CallsIn.inRound r (callsIn_wide.2 (cut_c x [32] _ _ _ XL.out CU.out _ (HM.out.keep (keeps_of_below CIH.out.bw))))).mono ?_; rintro e w7 ⟨rfl, b7⟩; have C7 := Lib.hid (CIH.out.below b7); have B7 := Lib.hid b7; clear b7))
        obtain ⟨q1, q2, q3⟩ := C9.out.si.done rfl
        exact ⟨⟨by rw [q2]; exact B9.out.size, fun i o hi ho _ => (q3 i (by have := Z6.out; omega)).trans ((B9.out.block i (Array.getElem?_eq_some_iff.1 ho).1).trans ho)⟩, ⟨rfl, NO.out⟩, q1⟩
  case done =>
    rintro D W hD ⟨X, Y, va, vn, vc, ua, un, uc, cf, ci⟩ hK
    have cl := ci.cl
    have EQ : Hid (cAns T = (X, Y, 0)) := by show _ = _; rw [ANS.out, cf]
    obtain ⟨d0, d1, -, -⟩ := row48' ci.c4
    obtain ⟨-, -, f0, f1⟩ := row48' ci.c2
    obtain ⟨c0, g0⟩ := row9 ci.c3
    obtain ⟨b0, b1, -, -⟩ := row48' ci.c2
    have CIH := Lib.hid ci
    have CLH := Lib.hid cl
    have HK := Lib.hid hK
    have HD := Lib.hid hD
    have z6 := ci.sz
    clear ci cl hK hD cf
    gi_wp2
    obtain ⟨x1, x2, x2', x3, x4, x5⟩ := claim_done CIH.out.ci CLH.out (Nat.le_trans (Nat.le_of_eq Z6.out.symm) HD.out) HK.out rfl rfl
    refine ⟨by simp, .inl ⟨_, _, rfl, run_takeDeferred x1, _, res45 _ _ _ _ _ _ _ rfl rfl x2 x2', ?_⟩⟩
    unfold CmAns
    rw [EQ.out]
    exact ⟨_, _, _, _, _, _, rfl, x3, x4, x5⟩
  case stop =>
    rintro D j pre W hD hpre ⟨⟨rfl, hno⟩, si⟩ hK
    have EQ : Hid (cAns T = ([], [], 2)) := by
      show _ = _
      obtain ⟨r, hr⟩ := hpre
      rw [ANS.out, ← hr, cFold_none _ _ _ _ hno]
    have SIH := Lib.hid si
    have HK := Lib.hid hK
    have HD := Lib.hid hD
    have z6 := si.sz
    clear si hK hD hno hpre
    gi_wp2
    have hd : w.heap.size + 6 ≤ D := Nat.le_trans (Nat.le_of_eq Z6.out.symm) HD.out
    have low : ∀ i, i < w.heap.size + 6 → (W.putObj D (.deferred none)).heap[i]? = W.heap[i]? := fun i hi => World.putObj_heap_other (by omega)
    exact ⟨by simp, .inl ⟨_, _, rfl, run_takeDeferred HK.out, _, res45 _ _ _ _ _ _ _ rfl rfl ((low _ (by omega)).trans SIH.out.c2) ((low _ (by omega)).trans SIH.out.c3), CmAns.zero EQ.out ⟨SIH.out.bw.os, SIH.out.bw.tape, SIH.out.bw.output, by have := SIH.out.bw.size; simpa using this, fun i hi => (low i (by omega)).trans (SIH.out.bw.block i hi)⟩⟩⟩
theorem ReadClaim_long (T : Bs) (hlen : 16384 < T.length) (hm : T.length ≤ maxLen) (w : World) : Calls Tryz.prog 45 #[str T] w (CmAns T w) := by
  have EQ : Hid (cAns T = ([], [], 3)) := by show _ = _; simp [cAns, hlen]
  have hl : ¬ ((T.length : Int) ≤ 16384) := by omega
  have hl' : (16384 : Int) < T.length := by omega
  have zg := heap_alloc_new w (.cells #[.slice none 0 0, .slice none 0 0] 48)
  have zh := heap_alloc_new (w.alloc (.cells #[.slice none 0 0, .slice none 0 0] 48)) (.cells #[.int .i64 3] 37)
  rw [World.size_alloc] at zh
  refine (callsIn_wide (n := 100)).1 ?_
  refine callsIn_of_wp_marks Tryz.func45 rfl trivial ?_ rfl
  simp only [Tryz.ntmps45, List.size_toArray, List.length_cons, List.length_nil, Nat.reduceAdd, Nat.reduceSub, Array.replicate_succ, Array.replicate_zero, List.push_toArray, List.append_toArray, List.nil_append, List.cons_append]
  gi_wp2
  exact ⟨_, res45 _ _ w.heap.size (w.heap.size + 1) _ _ _ rfl rfl (keep_new _ zg) zh, CmAns.zero EQ.out (((Below.refl _ _).alloc (Nat.le_refl _) _).alloc (by simp) _)⟩
end Go.Proofs.YtcandidgaegghaaGreatDoor
