/- DERIVED: THE SHELF's CONTRACTS AT THIS DUMP, IN PLAIN WORDS (tools/lay-plain.mjs out of 'TryzShelf.lean', which tools/lay-shelf.mjs wrote): THE SAME DECLARATIONS UNDER THE SAME NAMES: 'import', 'namespace', 'open', 'def', 'theorem' AND NOTHING ELSE: no command of the shelf's: FOR A HAND-IN. Each laying: the table of numbers ('.._ren') and one theorem, a field a fact of the dump's own or the kernel's comparison; each contract: ONE APPLICATION. strings.Repeat of a space; describe.ReadClaim at the word show with spaces behind it: no claim. Conditions: those of each statement; the program's tables (rows, MaxLen) lie as laid. -/
import Derived.Test.YtcandidgaegghaaGreatDoorShelf
import Derived.Shelf.Strings.Repeat
import Derived.Test.YtcandidgaegghaaGreatDoorProg
import Derived.Test.YtcandidgaegghaaGreatDoorRdClZ
import Derived.Test.YtcandidgaegghaaGreatDoorPlG
section
namespace Go.Proofs
open Go.Shelf
def Tryz.lays105_ren : Go.Shelf.Ren := ⟨fun | 105 => 48 | 212 => 123 | 99 => 36 | 165 => 105 | 166 => 106 | 170 => 124 | 169 => 107 | 263 => 202 | 264 => 203 | 206 => 104 | 240 => 179 | 241 => 180 | 276 => 258 | 277 => 259 | n => n, fun | 9 => 9 | 3 => 3 | 4 => 4 | 20 => 20 | 0 => 0 | 46 => 169 | 109 => 170 | 5 => 5 | 72 => 146 | 76 => 68 | 51 => 108 | 146 => 232 | 53 => 234 | 148 => 235 | 70 => 144 | 37 => 43 | 75 => 67 | 127 => 218 | 164 => 287 | 80 => 148 | n => n, fun | n => n⟩
theorem Tryz.lays105 : Go.Proofs.Lays.n105 Tryz.prog Tryz.lays105_ren := {
  mixed := by kernel_rfl
  f99 := Tryz.func36.trans (congrArg some (by kernel_rfl))
  f105 := Tryz.func48.trans (congrArg some (by kernel_rfl))
  f165 := Tryz.func105.trans (congrArg some (by kernel_rfl))
  f166 := Tryz.func106.trans (congrArg some (by kernel_rfl))
  f169 := Tryz.func107.trans (congrArg some (by kernel_rfl))
  f170 := Tryz.func124.trans (congrArg some (by kernel_rfl))
  f206 := Tryz.func104.trans (congrArg some (by kernel_rfl))
  f212 := Tryz.func123.trans (congrArg some (by kernel_rfl))
  f240 := Tryz.func179.trans (congrArg some (by kernel_rfl))
  f241 := Tryz.func180.trans (congrArg some (by kernel_rfl))
  f263 := Tryz.func202.trans (congrArg some (by kernel_rfl))
  f264 := Tryz.func203.trans (congrArg some (by kernel_rfl))
  f276 := Tryz.func258.trans (congrArg some (by kernel_rfl))
  f277 := Tryz.func259.trans (congrArg some (by kernel_rfl))
  t0 := Tryz.underlying0
  a0 := Tryz.isAgg0
  z0 := Tryz.sizeOf0
  v0 := Tryz.zeroValue0
  t3 := Tryz.underlying3
  a3 := Tryz.isAgg3
  z3 := Tryz.sizeOf3
  v3 := Tryz.zeroValue3
  t4 := Tryz.underlying4
  a4 := Tryz.isAgg4
  z4 := Tryz.sizeOf4
  v4 := Tryz.zeroValue4
  t5 := Tryz.underlying5
  a5 := Tryz.isAgg5
  z5 := Tryz.sizeOf5
  v5 := Tryz.zeroValue5
  t9 := Tryz.underlying9
  a9 := Tryz.isAgg9
  z9 := Tryz.sizeOf9
  v9 := Tryz.zeroValue9
  t20 := Tryz.underlying20
  a20 := Tryz.isAgg20
  z20 := Tryz.sizeOf20
  v20 := Tryz.zeroValue20
  t37 := Tryz.underlying43
  a37 := Tryz.isAgg43
  z37 := Tryz.sizeOf43
  v37 := Tryz.zeroValue43
  t46 := Tryz.underlying169
  a46 := Tryz.isAgg169
  z46 := Tryz.sizeOf169
  v46 := Tryz.zeroValue169
  t51 := Tryz.underlying108
  a51 := Tryz.isAgg108
  z51 := Tryz.sizeOf108
  v51 := Tryz.zeroValue108
  t53 := Tryz.underlying234
  a53 := Tryz.isAgg234
  z53 := Tryz.sizeOf234
  v53 := Tryz.zeroValue234
  t70 := Tryz.underlying144
  a70 := Tryz.isAgg144
  z70 := Tryz.sizeOf144
  v70 := Tryz.zeroValue144
  t72 := Tryz.underlying146
  a72 := Tryz.isAgg146
  z72 := Tryz.sizeOf146
  v72 := Tryz.zeroValue146
  t75 := Tryz.underlying67
  a75 := Tryz.isAgg67
  z75 := Tryz.sizeOf67
  v75 := Tryz.zeroValue67
  t76 := Tryz.underlying68
  a76 := Tryz.isAgg68
  z76 := Tryz.sizeOf68
  v76 := Tryz.zeroValue68
  t109 := Tryz.underlying170
  a109 := Tryz.isAgg170
  z109 := Tryz.sizeOf170
  v109 := Tryz.zeroValue170
  t127 := Tryz.underlying218
  a127 := Tryz.isAgg218
  z127 := Tryz.sizeOf218
  v127 := Tryz.zeroValue218
  t146 := Tryz.underlying232
  a146 := Tryz.isAgg232
  z146 := Tryz.sizeOf232
  v146 := Tryz.zeroValue232
  t148 := Tryz.underlying235
  a148 := Tryz.isAgg235
  z148 := Tryz.sizeOf235
  v148 := Tryz.zeroValue235
  t164 := Tryz.underlying287
  a164 := Tryz.isAgg287
  z164 := Tryz.sizeOf287
  v164 := Tryz.zeroValue287 }
theorem Tryz.Builder_Extra_105 : Builder.Extra Tryz.prog Tryz.lays105_ren := {
  sizeBuilder := by kernel_rfl
  liesBuilder := by kernel_rfl
  t5 := Tryz.underlying5
  a5 := Tryz.isAgg5
  z5 := Tryz.sizeOf5
  v5 := Tryz.zeroValue5
  infoByte := by kernel_rfl
  cellsByte := by kernel_rfl
  sizeByte := by kernel_rfl
  neB5 := by decide }
open Go.RowKit Go.Lib in
/-- THE MAIN CASE: at least two copies of a string that is not empty. (LAID: no walk: one application.) -/
theorem Tryz.strings_Repeat_main (s : ByteArray) (c : Nat) (w : World) (hc2 : 2 ≤ c) (hc : c ≤ 9223372036854775807) (hlen : s.size * c ≤ 140737488355328) (h0 : 0 < s.size) :
    Calls Tryz.prog 48 #[.string s, .int .i64 c] w fun e w' => e = .returned (.string ⟨(Lib.repeatL s.data.toList c).toArray⟩) ∧ Below w.heap.size w w' := Any.strings_Repeat_main Tryz.lays105 Tryz.Builder_Extra_105 s c w hc2 hc hlen h0
open Go.RowKit Go.Lib in
theorem Tryz.strings_Repeat_zero (s : ByteArray) (w : World) :
    Calls Tryz.prog 48 #[.string s, .int .i64 0] w fun e w' => e = .returned (.string ⟨#[]⟩) ∧ w' = w := Any.strings_Repeat_zero Tryz.lays105 s w
open Go.RowKit Go.Lib in
theorem Tryz.strings_Repeat_one (s : ByteArray) (w : World) :
    Calls Tryz.prog 48 #[.string s, .int .i64 1] w fun e w' => e = .returned (.string s) ∧ w' = w := Any.strings_Repeat_one Tryz.lays105 s w
end Go.Proofs
end
section
namespace Go.Proofs.YtcandidgaegghaaGreatDoor
open Go Go.RowKit Ly
set_option maxRecDepth 10000
set_option linter.unusedSimpArgs false
set_option linter.unusedVariables false
attribute [local go_sem] Oper.semAt_some
theorem repeatL_one (c : UInt8) : ∀ k, Lib.repeatL [c] k = List.replicate k c
  | 0 => rfl
  | k + 1 => by rw [Lib.repeatL, repeatL_one c k]; rfl
theorem repeat_c (k : Nat) (hk : k ≤ 255) (w : World) : Calls Tryz.prog 48 #[str [32], .int .i64 k] w fun e w' => e = .returned (str (List.replicate k 32)) ∧ Below w.heap.size w w' := by
  match k, hk with
  | 0, _ => exact (Tryz.strings_Repeat_zero ⟨#[32]⟩ w).mono fun e w' ⟨h1, h2⟩ => ⟨h1, by rw [h2]; exact Below.refl _ _⟩
  | 1, _ => exact (Tryz.strings_Repeat_one ⟨#[32]⟩ w).mono fun e w' ⟨h1, h2⟩ => ⟨h1, by rw [h2]; exact Below.refl _ _⟩
  | k + 2, hk => exact (Tryz.strings_Repeat_main ⟨#[32]⟩ (k + 2) w (by omega) (by omega) (by simp [ByteArray.size]; omega) (by decide)).mono fun e w' ⟨h1, h2⟩ => ⟨by rw [h1]; show Ending.returned (.string ⟨(Lib.repeatL [32] (k + 2)).toArray⟩) = _; rw [repeatL_one], h2⟩
/-- Words that are not read. -/
theorem Read_wrong (s : Bs) (hs : s.length ≤ 16384) (k : Nat) (h : WrongRead (wordsOf s) k) (w : World) (hm : MaxAt w) (rows : RowsAt w) :
    Calls Tryz.prog 43 #[str s] w fun e w' => e = .returned (.tuple #[.agg #[.int .u8 0, str [], .slice none 0 0, .slice none 0 0], .int .i64 k, .int .i64 410]) ∧ Below w.heap.size w w' := by
  obtain ⟨r, hr, hl⟩ := h
  have hr' : readPR s = .bad r ∨ ∃ g, readPR s = .good g r ∧ r ≠ [] := hr
  have ng : ∀ f, readPR s = .good f [] → f.right = true := fun f e => by
    rcases hr' with h | ⟨g, h, h2⟩
    · rw [h] at e; cases e
    · rw [h] at e; cases e; exact absurd rfl h2
  refine (Read_c s hs ng w hm rows).mono fun e w' ⟨hb, ha⟩ => ⟨?_, hb⟩
  rcases ha with ⟨g, v, e1, _⟩ | ⟨r', e1, e2⟩
  · have h0 : readPR s = .good g [] := e1
    rcases hr' with h | ⟨g', h, h2⟩
    · rw [h] at h0; cases h0
    · rw [h] at h0; cases h0; exact absurd rfl h2
  · have er : r' = r := by
      rcases hr' with h | ⟨g, h, h2⟩ <;> rcases e1 with h' | ⟨g', h', h2'⟩ <;> rw [h] at h' <;> cases h' <;> rfl
    subst er
    rw [e2, show (wordsOf s).length - r'.length = k by omega]
theorem split_spaces (j : Nat) : Lib.split (List.replicate j 32) [32] = List.replicate (j + 1) [] := by
  have e : ∀ j : Nat, joinBy [32] (List.replicate (j + 1) ([] : Bs)) = List.replicate j 32 := by
    intro j
    induction j with
    | zero => rfl
    | succ j ih =>
      rw [List.replicate_succ (n := j + 1), List.replicate_succ (n := j)]
      rw [List.replicate_succ (n := j)] at ih
      simp only [joinBy, List.nil_append]
      rw [ih, List.replicate_succ]
      rfl
  have := split_join (c := 32) (t := []) (List.replicate (j + 1) ([] : Bs)) (by simp) (fun x hx => by rw [List.eq_of_mem_replicate hx]; simp)
  rw [e] at this
  exact this
theorem wrong_spaces (j : Nat) : WrongRead (wordsOf (List.replicate j 32)) 0 := by
  unfold wordsOf
  cases j with
  | zero => exact wrong_nil
  | succ j =>
    rw [if_neg (by simp), split_spaces]
    refine ⟨List.replicate (j + 1 + 1) [], .inl ?_, by simp⟩
    rw [List.replicate_succ]
    exact pForm_stop (.inr ⟨[], _, rfl, dead_nil⟩) (by omega)
def wShow0 : Bs := [115, 104, 111, 119]
theorem cut_show (k : Nat) : ∃ b t, Lib.cut (wShow0 ++ List.replicate k 32) [32] = (wShow0, b, t) ∧ ∃ j, b = List.replicate j 32 ∧ j ≤ k := by
  cases k with
  | zero => exact ⟨[], false, by decide +kernel, 0, rfl, Nat.le_refl _⟩
  | succ k =>
    refine ⟨List.replicate k 32, true, ?_, k, rfl, by omega⟩
    have := cut_word wShow0 (List.replicate k 32) (by decide)
    rw [← this, List.replicate_succ]
    simp
/-- The state of ReadClaim where nothing was put. -/
structure SI (w : World) (ec : Int) (W : World) : Prop where
  bw : Below w.heap.size w W
  c2 : W.heap[w.heap.size]? = some (.cells #[.slice none 0 0, .slice none 0 0] 48 (0, 0))
  c3 : W.heap[w.heap.size + 1]? = some (.cells #[.int .i64 ec] 37 (0, 0))
  sz : w.heap.size + 6 ≤ W.heap.size
theorem SI.turned {w A W : World} {ec : Int} (h : SI w ec A) (hs : A.heap.size ≤ W.heap.size) (ho : W.os = A.os) (ht : W.tape = A.tape) (hu : W.output = A.output) (k1 : ∀ i, i < w.heap.size + 3 → W.heap[i]? = A.heap[i]?) : SI w ec W :=
  ⟨⟨ho.trans h.bw.os, ht.trans h.bw.tape, hu.trans h.bw.output, Nat.le_trans h.bw.size hs, fun i hi => (k1 i (by omega)).trans (h.bw.block i hi)⟩, (k1 _ (by omega)).trans h.c2, (k1 _ (by omega)).trans h.c3, Nat.le_trans h.sz hs⟩
theorem SI.below {w A W : World} {ec : Int} (h : SI w ec A) (b : Below A.heap.size A W) : SI w ec W := h.turned b.size b.os b.tape b.output fun i hi => b.block i (by have := h.sz; omega)
theorem SI.lets {w : World} {ec : Int} {B c : Nat} {β : Type} {P : β → Prop} (hB : B = w.heap.size + 6) (hc : c = w.heap.size + 3) : Lets B c (fun (s : β) W => P s ∧ SI w ec W) := by
  rintro s A X row ⟨h0, h⟩ hg hr
  refine ⟨h0, h.turned hg.size hg.os hg.tape hg.output fun i hi => hg.block i (by have := h.sz; omega) fun e => ?_⟩
  rcases hr i e.symm with h1 | ⟨h1, _⟩ <;> omega
theorem SI.done {w A W : World} (h : SI w 0 A) (e : W = ((A.setCell ⟨w.heap.size, 0, none⟩ (.slice none 0 0)).setCell ⟨w.heap.size, 1, none⟩ (.slice none 0 0)).setCell ⟨w.heap.size + 1, 0, none⟩ (.int .i64 2)) :
    SI w 2 W ∧ W.heap.size = A.heap.size ∧ ∀ i, w.heap.size + 2 ≤ i → W.heap[i]? = A.heap[i]? := by
  have low : ∀ i, i ≠ w.heap.size → i ≠ w.heap.size + 1 → W.heap[i]? = A.heap[i]? := fun i h0 h1 => by
    rw [e, Below.heap_setCell _ _ _ _ h1, Below.heap_setCell _ _ _ _ h0, Below.heap_setCell _ _ _ _ h0]
  have e0 : W.heap[w.heap.size]? = some (.cells #[.slice none 0 0, .slice none 0 0] 48 (0, 0)) := by
    rw [e, Below.heap_setCell _ _ _ _ (by show w.heap.size ≠ w.heap.size + 1; omega)]
    exact set_block (set_block h.c2)
  have e1 : W.heap[w.heap.size + 1]? = some (.cells #[.int .i64 2] 37 (0, 0)) := by
    have h : ((A.setCell ⟨w.heap.size, 0, none⟩ (.slice none 0 0)).setCell ⟨w.heap.size, 1, none⟩ (.slice none 0 0)).heap[w.heap.size + 1]? = some (.cells #[.int .i64 0] 37 (0, 0)) := by
      rw [Below.heap_setCell _ _ _ _ (by show w.heap.size + 1 ≠ w.heap.size; omega), Below.heap_setCell _ _ _ _ (by show w.heap.size + 1 ≠ w.heap.size; omega)]
      exact h.c3
    rw [e]
    exact set_block h
  have hs : W.heap.size = A.heap.size := by rw [e]; simp
  have ho : W.os = A.os ∧ W.tape = A.tape ∧ W.output = A.output := by rw [e]; exact ⟨rfl, rfl, rfl⟩
  exact ⟨⟨⟨ho.1.trans h.bw.os, ho.2.1.trans h.bw.tape, ho.2.2.trans h.bw.output, by rw [hs]; exact h.bw.size, fun i hi => (low i (by omega) (by omega)).trans (h.bw.block i hi)⟩, e0, e1, by rw [hs]; exact h.sz⟩, hs, fun i hi => low i (by omega) (by omega)⟩
set_option maxHeartbeats 8000000 in
theorem ReadClaim_show (k : Nat) (hk : k ≤ 255) (w : World) (hm : MaxAt w) (hr : RowsAt w) :
    Calls Tryz.prog 45 #[str (wShow0 ++ List.replicate k 32)] w fun e w' => e = .returned (.tuple #[.agg #[.slice none 0 0, .slice none 0 0], .int .i64 2]) ∧ Below w.heap.size w w' := by
  have HM := Lib.hid hm
  have HR := Lib.hid hr
  clear hm hr
  obtain ⟨b, t, hcut, j, hb, hj⟩ := cut_show k
  refine (callsIn_wide (n := 100)).1 ?_
  refine callsIn_of_wp_marks Tryz.func45 rfl trivial ?_ rfl
  simp only [Tryz.ntmps45, List.size_toArray, List.length_cons, List.length_nil, Nat.reduceAdd, Nat.reduceSub, Array.replicate_succ, Array.replicate_zero, List.push_toArray, List.append_toArray, List.nil_append, List.cons_append]
  obtain ⟨T, hT⟩ : ∃ T, wShow0 ++ List.replicate k 32 = T := ⟨_, rfl⟩
  rw [hT] at hcut ⊢
  have tl : T.length ≤ 300 := by rw [← hT]; simp [wShow0]; omega
  have hl : (T.length : Int) ≤ 16384 := by omega
  have hne : ¬ T = [] := by rw [← hT]; simp [wShow0]
  have hem : T.isEmpty = false := by cases T with
    | nil => exact absurd rfl hne
    | cons c t => rfl
  have SPL : Hid (Lib.split T cs = [T]) := by
    show _ = _
    exact split_join (c := 44) (t := [32]) [T] (by simp) (fun x hx => by
      have : x = T := by simpa using hx
      subst this
      rw [← hT]; intro h
      rcases List.mem_append.1 h with h | h
      · exact absurd h (by decide)
      · have := List.eq_of_mem_replicate h; cases this)
  have RB : Hid (∀ w, MaxAt w → RowsAt w → Calls Tryz.prog 43 #[str b] w fun e w' => e = .returned (.tuple #[.agg #[.int .u8 0, str [], .slice none 0 0, .slice none 0 0], .int .i64 0, .int .i64 410]) ∧ Below w.heap.size w w') := fun w h1 h2 => by
    rw [hb]; exact Read_wrong _ (by simp; omega) 0 (wrong_spaces j) w h1 h2
  have CU := Lib.hid hcut
  have TL : Hid (T.length ≤ 1000000000) := by show _ ≤ _; omega
  clear hT hne hb hj hcut
  have B3 : Hid (Below w.heap.size w (((w.alloc (.cells #[.slice none 0 0, .slice none 0 0] 48)).alloc (.cells #[.int .i64 0] 37)).alloc (.cells #[.slice none 0 0, .slice none 0 0] 48))) := (((Below.refl _ _).alloc (Nat.le_refl _) _).alloc (by simp) _).alloc (by simp; omega) _
  have Z2 : Hid ((((w.alloc (.cells #[.slice none 0 0, .slice none 0 0] 48)).alloc (.cells #[.int .i64 0] 37)).alloc (.cells #[.slice none 0 0, .slice none 0 0] 48)).heap[w.heap.size]? = some (.cells #[.slice none 0 0, .slice none 0 0] 48 (0, 0))) := keep_new _ (keep_new _ (heap_alloc_new w _))
  have Z3 : Hid ((((w.alloc (.cells #[.slice none 0 0, .slice none 0 0] 48)).alloc (.cells #[.int .i64 0] 37)).alloc (.cells #[.slice none 0 0, .slice none 0 0] 48)).heap[w.heap.size + 1]? = some (.cells #[.int .i64 0] 37 (0, 0))) := by
    have := heap_alloc_new (w.alloc (.cells #[.slice none 0 0, .slice none 0 0] 48)) (.cells #[.int .i64 0] 37)
    rw [World.size_alloc] at this
    exact keep_new _ this
  have ZS : Hid ((((w.alloc (.cells #[.slice none 0 0, .slice none 0 0] 48)).alloc (.cells #[.int .i64 0] 37)).alloc (.cells #[.slice none 0 0, .slice none 0 0] 48)).heap.size = w.heap.size + 3) := by show _ = _; simp
  gi_wp2_with (refine ⟨trivial, ?_⟩; gi_at_call 119; refine (callsIn_wide.2 (SplitSeq_c T cs _)).mono ?_; rintro e w2 ⟨rfl, rfl⟩)
  generalize ((w.alloc (.cells #[.slice none 0 0, .slice none 0 0] 48)).alloc (.cells #[.int .i64 0] 37)).alloc (.cells #[.slice none 0 0, .slice none 0 0] 48) = W3 at *
  have Z1 : Hid (1 < w.heap.size) := by obtain ⟨m, hm⟩ := HM.out; exact World.block_lt_of_cell? w _ hm
  have SA : Hid (SeqAt cs (w.heap.size + 1 + 1 + 1) T (((W3.alloc (.cells #[str T] 9)).alloc (.cells #[str cs] 9)).alloc (.cells #[.int .i64 0] 3))) := by
    have := seqAt_new (s := T) (sep := cs) (HM.out.keep (keeps_of_below B3.out))
    rw [ZS.out] at this
    exact this
  have B36 : Hid (Below W3.heap.size W3 (((W3.alloc (.cells #[str T] 9)).alloc (.cells #[str cs] 9)).alloc (.cells #[.int .i64 0] 3))) := (((Below.refl _ _).alloc (Nat.le_refl _) _).alloc (by simp) _).alloc (by simp; omega) _
  have Z6 : Hid ((((W3.alloc (.cells #[str T] 9)).alloc (.cells #[str cs] 9)).alloc (.cells #[.int .i64 0] 3)).heap.size = w.heap.size + 6) := by show _ = _; have := ZS.out; simp; omega
  change Code.wpIn _ _ _ _ _ _ (((W3.alloc (.cells #[str T] 9)).alloc (.cells #[str cs] 9)).alloc (.cells #[.int .i64 0] 3))
  generalize ((W3.alloc (.cells #[str T] 9)).alloc (.cells #[str cs] 9)).alloc (.cells #[.int .i64 0] 3) = W6 at *
  refine wp_rangeCell rfl (by omega) (gf := 272) (lb := #[one (w.heap.size + 1 + 1 + 1 + 1), one (w.heap.size + 1 + 1 + 1), one (w.heap.size + 1 + 1 + 1 + 2)]) rfl trivial (enters_of Tryz.func272 (by kernel_rfl) rfl) (enc := str) (c := w.heap.size + 1 + 1 + 1) (Kp := SeqKp (w.heap.size + 1 + 1 + 1)) (l := [T]) (w0 := W6) (by have := Z6.out; omega)
    (seqCell _ T cs (by decide) (by omega) (by decide) (w.heap.size + 1 + 1 + 1) (by have := Z1.out; omega) _ SPL.out W6 SA.out) SeqKp.trans (fun W r o' hr k hk => World.putObj_heap_other (by have := Z1.out; have := Z6.out; omega)) (Below.refl _ _) rfl
    (fun pre W => pre = [] ∧ SI w 0 W) (fun j pre W => j = .ret ∧ SI w 2 W) (SI.lets Z6.out rfl) (fun j => SI.lets (P := fun _ => j = .ret) Z6.out rfl) ?start
    (fun a x => { tmps := (a.tmps.setIfInBounds 21 (str x)).setIfInBounds 5 (str x), defers := [] }) ?assign ?body ?done ?stop
  case start =>
    exact ⟨rfl, B3.out.trans (B36.out.mono B3.out.size), (B36.out.block _ (by have := ZS.out; omega)).trans Z2.out, (B36.out.block _ (by have := ZS.out; omega)).trans Z3.out, by rw [Z6.out]; exact Nat.le_refl _⟩
  case assign =>
    intro r x W K hK
    simp only [List.setIfInBounds_toArray, List.set_cons_zero, List.set_cons_succ] at hK ⊢
    gi_wp2
    exact hK
  case body =>
    rintro r pre x W hr ⟨q, hq⟩ ⟨rfl, si⟩ hpre
    obtain rfl : x = T := by
      have := prefix_get hpre
      simpa using this.symm
    simp only [List.setIfInBounds_toArray, List.set_cons_zero, List.set_cons_succ]
    have SIH := Lib.hid si
    have z6 := si.sz
    clear si hq hpre
    cases t
    all_goals
      gi_wp2_with (first
        | (refine ⟨trivial, ?_⟩; gi_at_call 43; refine (CallsIn.inRound r (callsIn_wide.2 (RB.out _ (HM.out.keep (keeps_of_below C7.out.bw)) (HR.out.keep (keeps_of_below C7.out.bw))))).mono ?_; rintro e w8 ⟨rfl, b8⟩; have C9 := Lib.hid ((C7.out.below b8).below ((Below.refl _ _).alloc (Nat.le_refl _) (.cells #[.int .u8 0, str [], .slice none 0 0, .slice none 0 0] 25))); have B9 := Lib.hid (belowThen (belowThen B7.out b8) ((Below.refl _ _).alloc (Nat.le_refl _) (.cells #[.int .u8 0, str [], .slice none 0 0, .slice none 0 0] 25))); obtain ⟨d0, d1, e0, e1⟩ := row48' C9.out.c2; obtain ⟨c0, g0⟩ := row9 C9.out.c3; have z8 := C9.out.sz)
        | (refine ⟨trivial, ?_⟩; gi_at_call 32; refine (CallsIn.inRound r (callsIn_wide.2 (cut_c x [32] _ _ _ TL.out CU.out _ (HM.out.keep (keeps_of_below SIH.out.bw))))).mono ?_; rintro e w7 ⟨rfl, b7⟩; have C7 := Lib.hid (SIH.out.below b7); have B7 := Lib.hid b7; clear b7))
      obtain ⟨q1, q2, q3⟩ := C9.out.done rfl
      exact ⟨⟨by rw [q2]; exact B9.out.size, fun i o hi ho _ => (q3 i (by have := Z6.out; omega)).trans ((B9.out.block i (Array.getElem?_eq_some_iff.1 ho).1).trans ho)⟩, rfl, q1⟩
  case done =>
    rintro D W hD ⟨h, _⟩
    cases h
  case stop =>
    rintro D j pre W hD hpre ⟨rfl, si⟩ hK
    have SIH := Lib.hid si
    have HK := Lib.hid hK
    have HD := Lib.hid hD
    have z6 := si.sz
    clear si hK hD
    gi_wp2
    have hd : w.heap.size + 6 ≤ D := Nat.le_trans (Nat.le_of_eq Z6.out.symm) HD.out
    have low : ∀ i, i < w.heap.size + 6 → (W.putObj D (.deferred none)).heap[i]? = W.heap[i]? := fun i hi => World.putObj_heap_other (by omega)
    exact ⟨by simp, .inl ⟨_, _, rfl, run_takeDeferred HK.out, _, res45 _ _ _ _ _ _ _ rfl rfl ((low _ (by omega)).trans SIH.out.c2) ((low _ (by omega)).trans SIH.out.c3), rfl, SIH.out.bw.os, SIH.out.bw.tape, SIH.out.bw.output, by have := SIH.out.bw.size; simpa using this, fun i hi => (low i (by omega)).trans (SIH.out.bw.block i hi)⟩⟩
end Go.Proofs.YtcandidgaegghaaGreatDoor
end
