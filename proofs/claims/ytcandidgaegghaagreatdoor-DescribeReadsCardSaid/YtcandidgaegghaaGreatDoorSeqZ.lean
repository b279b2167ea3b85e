/- strings.SplitSeq: the iterator's contract at a separator that is not empty. Conditions: those of each statement; bytealg.MaxLen lies as some number. -/
import Derived.Test.YtcandidgaegghaaGreatDoorRngZ
import Derived.Test.YtcandidgaegghaaGreatDoorShCZ
import Derived.RangeFuncBound
import Derived.RangeFuncCalls
import Derived.RangeFuncLeaves
import Derived.Shelf.Abstract
import Derived.Shelf.RegionOpen
import Derived.WalkKit
import Derived.OwnWalkIn
import Derived.TacticsInMore
import Derived.LoopNIn
import Derived.LoopIn
namespace Go.Proofs.YtcandidgaegghaaGreatDoor
open Go Go.RowKit Ly
set_option maxRecDepth 10000
set_option linter.unusedSimpArgs false
set_option linter.unusedVariables false
attribute [local go_sem] Oper.semAt_some
/-- The pieces of a text, cut at a separator. -/
inductive Cuts (sep : Bs) : Bs → List Bs → Prop where
  | last (r : Bs) (h : Lib.index r sep = -1) : Cuts sep r [r]
  | more (r : Bs) (i : Nat) (l : List Bs) (h : Lib.index r sep = i) (h' : Cuts sep (r.drop (i + sep.length)) l) : Cuts sep r (r.take i :: l)
theorem cuts_of (sep : Bs) (hn : sep ≠ []) : ∀ (k : Nat) (s : Bs), Lib.count s sep = k → Cuts sep s (Lib.splitK sep 0 k s)
  | 0, s, h => by
    have hi : Lib.index s sep = -1 := by
      have h1 := Lib.index_ge s sep
      rcases Int.lt_or_le (Lib.index s sep) 0 with h2 | h2
      · omega
      · have := Lib.count_hit (s := s) (i := (Lib.index s sep).toNat) hn (by omega)
        omega
    exact .last s hi
  | k + 1, s, h => by
    have h1 := Lib.index_ge s sep
    have hi : 0 ≤ Lib.index s sep := by
      rcases Int.lt_or_le (Lib.index s sep) 0 with h2 | h2
      · have e : Lib.index s sep = -1 := by omega
        rw [Lib.count_miss e] at h; cases h
      · exact h2
    obtain ⟨i, e⟩ : ∃ i : Nat, Lib.index s sep = i := ⟨(Lib.index s sep).toNat, by omega⟩
    have hc := Lib.count_hit hn e
    rw [Lib.splitK, e]
    have e1 : ((i : Int) == -1) = false := by simp
    rw [e1]
    simp only [Bool.false_eq_true, if_false, Nat.add_zero, Int.toNat_natCast]
    exact .more s i _ e (cuts_of sep hn k _ (by omega))
theorem cuts_split (s sep : Bs) (hn : sep ≠ []) : Cuts sep s (Lib.split s sep) := cuts_of sep hn _ s rfl
theorem Cuts.ne {sep r : Bs} {l : List Bs} (h : Cuts sep r l) : l ≠ [] := by cases h <;> simp
/-- The iterator's own blocks: the rest of the text (b), the separator, how much of the separator is kept (0). -/
def SeqAt (sep : Bs) (b : Nat) (r : Bs) (w : World) : Prop :=
  w.heap[b]? = some (.cells #[str r] 9 (0, 0)) ∧ w.heap[b + 1]? = some (.cells #[str sep] 9 (0, 0)) ∧ w.heap[b + 2]? = some (.cells #[.int .i64 0] 3 (0, 0)) ∧ MaxAt w
/-- What a round must leave as it is. -/
def SeqKp (b : Nat) (A X : World) : Prop := ∀ k, k = 1 ∨ k = b ∨ k = b + 1 ∨ k = b + 2 → X.heap[k]? = A.heap[k]?
theorem SeqKp.trans {b : Nat} {A B C : World} (h : SeqKp b A B) (k : SeqKp b B C) : SeqKp b A C := fun i hi => (k i hi).trans (h i hi)
theorem SeqAt.kept {sep : Bs} {b : Nat} {r : Bs} {A X : World} (h : SeqAt sep b r A) (k : SeqKp b A X) : SeqAt sep b r X := by
  obtain ⟨h1, h2, h3, m, h4⟩ := h
  refine ⟨(k _ (.inr (.inl rfl))).trans h1, (k _ (.inr (.inr (.inl rfl)))).trans h2, (k _ (.inr (.inr (.inr rfl)))).trans h3, m, ?_⟩
  unfold World.cell? at h4 ⊢
  rw [show X.heap[(⟨1, 0, none⟩ : Addr).block]? = A.heap[(⟨1, 0, none⟩ : Addr).block]? from k 1 (.inl rfl)]
  exact h4
def strLen (w : World) (b : Nat) : Nat := match w.heap[b]? with
  | some (Obj.cells cs _ _) => match cs[0]? with
    | some (Value.string x) => x.size
    | _ => 0
  | _ => 0
theorem strLen_at {sep : Bs} {b : Nat} {r : Bs} {w : World} (h : SeqAt sep b r w) : strLen w b = r.length := by
  unfold strLen
  rw [h.1]
  simp [ByteArray.size]
theorem index_c (s sep : Bs) (hs : s.length ≤ 1000000000) (w : World) (hm : MaxAt w) :
    Calls Tryz.prog 109 #[str s, str sep] w fun e w' => e = .returned (.int .i64 (Lib.index s sep)) ∧ w' = w := by
  obtain ⟨m, hm⟩ := hm
  exact Tryz.strings_Index ⟨s.toArray⟩ ⟨sep.toArray⟩ m w (by simp [ByteArray.size]; omega) hm
theorem SeqAt.next {sep : Bs} {b : Nat} {r : Bs} {w : World} (h : SeqAt sep b r w) (hb : b ≠ 1) (r' : Bs) : SeqAt sep b r' (w.setCell ⟨b, 0, none⟩ (str r')) := by
  obtain ⟨h1, h2, h3, m, h4⟩ := h
  refine ⟨(set_block (o := 0) (u := str r') h1).trans rfl, by rw [Below.heap_setCell _ _ _ _ (by simp)]; exact h2, by rw [Below.heap_setCell _ _ _ _ (by simp)]; exact h3, m, ?_⟩
  unfold World.cell? at h4 ⊢
  rw [show (w.setCell ⟨b, 0, none⟩ (str r')).heap[(⟨1, 0, none⟩ : Addr).block]? = w.heap[(⟨1, 0, none⟩ : Addr).block]? from Below.heap_setCell _ _ _ _ (fun e => hb e.symm)]
  exact h4
theorem row9 {w : World} {b : Nat} {x : Value} {t : TypeId} (h : w.heap[b]? = some (.cells #[x] t (0, 0))) : w.cell? ⟨b, 0, none⟩ = some x ∧ w.frozen? ⟨b, 0, none⟩ = false :=
  ⟨(box_cell h 0).trans rfl, by simp [World.frozen?, h]⟩
set_option maxHeartbeats 4000000 in
theorem splitSeq_in (n : Nat) (s sep : Bs) (hn : sep ≠ []) (hs : s.length ≤ 1000000000) (hsep : sep.length ≤ 100) (b : Nat) (hb : b ≠ 1) (l : List Bs) (hl : Cuts sep s l) (r : Nat) (J Jx : List Bs → World → Prop)
    (hJ : ∀ s A X, J s A → A.grownBy X (some b) → J s X)
    (hY : ∀ pre x W1, J pre W1 → pre ++ [x] <+: l → YieldAt Fence.wide (n - 1) Tryz.prog r #[str x] W1 fun e W' => (e = .returned (.bool true) ∧ J (pre ++ [x]) W' ∧ SeqKp b W1 W') ∨ (e = .returned (.bool false) ∧ Jx (pre ++ [x]) W'))
    (W : World) (hA : SeqAt sep b s W) (h0 : J [] W) :
    CallsIn Fence.wide n Tryz.prog 272 #[.func (.yield r) #[] #[], one (b + 1), one b, one (b + 2)] W fun e W' => (∃ v, e = .returned v) ∧ (J l W' ∨ ∃ pre, pre <+: l ∧ Jx pre W') := by
  have HJ := Lib.hid hJ
  have HY := Lib.hid hY
  have HL := Lib.hid hl
  have HA := Lib.hid hA
  have H0 := Lib.hid h0
  have HN := Lib.hid hn
  have HS := Lib.hid hs
  have HB := Lib.hid hb
  have sp : ((sep.length : Int) == 0) = false := by
    cases sep with
    | nil => exact absurd rfl hn
    | cons c t => simp; omega
  clear hJ hY hl hA h0 hn hs hb
  obtain ⟨a0, -⟩ := row9 HA.out.1
  obtain ⟨a1, -⟩ := row9 HA.out.2.1
  refine callsIn_of_wp Tryz.func272 rfl trivial ?_ rfl
  simp only [Tryz.ntmps272, List.size_toArray, List.length_cons, List.length_nil, Nat.reduceAdd, Nat.reduceSub, Array.replicate_succ, Array.replicate_zero, List.push_toArray, List.append_toArray, List.nil_append, List.cons_append]
  gi_wp2
  gi_loopw [7] (fun i wr => Hid (∃ pre rest q, l = pre ++ rest ∧ Cuts sep q rest ∧ q.length ≤ 1000000000 ∧ SeqAt sep b q wr ∧ J pre wr)) (fun _ wr => strLen wr b)
  case atStart => exact ⟨[], l, s, rfl, HL.out, HS.out, HA.out, H0.out⟩
  case round =>
    obtain ⟨pre, rest, q, hl, hq, hql, hA, hJ⟩ := hrel.out
    clear hrel
    have EL := Lib.hid hl
    have QL := Lib.hid hql
    have A := Lib.hid hA
    have JJ := Lib.hid hJ
    clear hl hA hJ
    clear a0 a1
    obtain ⟨a0, f0⟩ := row9 A.out.1
    obtain ⟨a1, -⟩ := row9 A.out.2.1
    obtain ⟨a2, -⟩ := row9 A.out.2.2.1
    rcases hq with ⟨_, hi⟩ | ⟨_, i, l', hi, hq'⟩
    · have HI := Lib.hid hi
      clear hi
      obtain ⟨fn, tmps, assign, body, hy, hR⟩ := HY.out pre q wr JJ.out ⟨[], by rw [EL.out]; simp⟩
      gi_wp2_with (refine ⟨trivial, fun h => absurd h (by decide), ?_⟩; gi_at_call 109; refine (callsIn_wide.2 (index_c q sep QL.out _ A.out.2.2.2)).mono ?_; rintro e w2 ⟨rfl, rfl⟩; rw [HI.out])
      refine ⟨fun h => absurd h (by decide), hR.mono ?_⟩
      rintro e W3 (⟨rfl, hJ3, hk3⟩ | ⟨rfl, hJx3⟩)
      · gi_wp2
        go_end0
        exact ⟨⟨_, rfl⟩, .inl (by rw [EL.out]; exact hJ3)⟩
      · gi_wp2
        go_end0
        exact ⟨⟨_, rfl⟩, .inr ⟨pre ++ [q], ⟨[], by rw [EL.out]; simp⟩, hJx3⟩⟩
    · have HI := Lib.hid hi
      have HQ := Lib.hid hq'
      have IL : i + sep.length ≤ q.length := by
        have := Lib.index_room q sep (by rw [HI.out]; omega)
        rw [HI.out] at this; omega
      clear hi hq'
      have s1 : i ≤ 1000000000 := by have := QL.out; omega
      obtain ⟨x, hx⟩ : ∃ x, q.take i = x := ⟨_, rfl⟩
      obtain ⟨y, hy'⟩ : ∃ y, q.drop (i + sep.length) = y := ⟨_, rfl⟩
      have ex : (⟨q.toArray⟩ : ByteArray).extract 0 i = ⟨x.toArray⟩ := by rw [← hx]; apply ByteArray.ext; simp
      have ey : (⟨q.toArray⟩ : ByteArray).extract (i + sep.length) q.length = ⟨y.toArray⟩ := by rw [← hy']; apply ByteArray.ext; simp; exact List.take_of_length_le (by simp)
      rw [hx] at EL
      rw [hy'] at HQ
      have HX := Lib.hid hx
      have HYY := Lib.hid hy'
      clear hx hy'
      obtain ⟨fn, tmps, assign, body, hy, hR⟩ := HY.out pre x wr JJ.out (by rw [EL.out]; exact ⟨l', by simp⟩)
      gi_wp2_with (refine ⟨trivial, fun h => absurd h (by decide), ?_⟩; gi_at_call 109; refine (callsIn_wide.2 (index_c q sep QL.out _ A.out.2.2.2)).mono ?_; rintro e w2 ⟨rfl, rfl⟩; rw [HI.out])
      refine ⟨fun h => absurd h (by decide), hR.mono ?_⟩
      rintro e W3 (⟨rfl, hJ3, hk3⟩ | ⟨rfl, hJx3⟩)
      · have A3 := Lib.hid (A.out.kept hk3)
        clear a0 a1 a2 f0
        obtain ⟨a0, f0⟩ := row9 A3.out.1
        obtain ⟨a1, -⟩ := row9 A3.out.2.1
        obtain ⟨a2, -⟩ := row9 A3.out.2.2.1
        have J3 := Lib.hid hJ3
        clear hJ3 hk3
        have YL : y.length + sep.length ≤ q.length := by rw [← HYY.out]; simp; omega
        have N3 := Lib.hid (A3.out.next HB.out y)
        have SL : 0 < sep.length := List.length_pos_iff.2 HN.out
        gi_wp2
        go_roundw
        case rel => exact ⟨pre ++ [x], l', y, by rw [EL.out]; simp, HQ.out, by have := QL.out; omega, N3.out, HJ.out _ _ _ J3.out (grownBy_setCell' _ _ _)⟩
        case measure =>
          rw [strLen_at N3.out, strLen_at A.out]
          omega
      · gi_wp2
        refine bodyPost_ret (results_none rfl _ _ _) rfl ?_
        exact ⟨⟨_, rfl⟩, .inr ⟨pre ++ [x], ⟨l', by rw [EL.out]; simp⟩, hJx3⟩⟩
theorem SeqKp.of_below {sep : Bs} {b : Nat} {r : Bs} {A X : World} (h : SeqAt sep b r A) (k : Below A.heap.size A X) : SeqKp b A X := fun i hi => by
  refine k.block i ?_
  rcases hi with rfl | rfl | rfl | rfl
  · obtain ⟨m, hm⟩ := h.2.2.2; exact World.block_lt_of_cell? A _ hm
  · exact (Array.getElem?_eq_some_iff.1 h.1).1
  · exact (Array.getElem?_eq_some_iff.1 h.2.1).1
  · exact (Array.getElem?_eq_some_iff.1 h.2.2.1).1
theorem SeqAt.below {sep : Bs} {b : Nat} {r : Bs} {A X : World} (h : SeqAt sep b r A) (k : Below A.heap.size A X) : SeqAt sep b r X := h.kept (SeqKp.of_below h k)
/-- The iterator that SplitSeq hands back keeps its contract. -/
theorem seqCell (n : Nat) (s sep : Bs) (hn : sep ≠ []) (hs : s.length ≤ 1000000000) (hsep : sep.length ≤ 100) (b : Nat) (hb : b ≠ 1) (l : List Bs) (hl : Lib.split s sep = l) (w0 : World) (hA : SeqAt sep b s w0) :
    SeqCell Fence.wide n Tryz.prog 272 #[one (b + 1), one b, one (b + 2)] str b (SeqKp b) l w0 := fun r J Jx W hW hJ hY h0 =>
  splitSeq_in n s sep hn hs hsep b hb l (by rw [← hl]; exact cuts_split s sep hn) r J Jx hJ hY W (hA.below hW) h0
theorem SplitSeq_c (s sep : Bs) (w : World) : Calls Tryz.prog 119 #[str s, str sep] w fun e w' =>
    e = .returned (.func (.func 272) #[] #[one (w.heap.size + 1), one w.heap.size, one (w.heap.size + 2)]) ∧ w' = ((w.alloc (.cells #[str s] 9)).alloc (.cells #[str sep] 9)).alloc (.cells #[.int .i64 0] 3) := by
  go_enter Tryz.func119, Tryz.ntmps119
  go_wp2
  go_ret
  exact ⟨rfl, rfl⟩
theorem keep_new {w : World} {g : Nat} {o : Obj} (o' : Obj) (h : w.heap[g]? = some o) : (w.alloc o').heap[g]? = some o := (Below.heap_alloc w o' g (Array.getElem?_eq_some_iff.1 h).1).trans h
theorem seqAt_new {s sep : Bs} {w : World} (hm : MaxAt w) : SeqAt sep w.heap.size s (((w.alloc (.cells #[str s] 9)).alloc (.cells #[str sep] 9)).alloc (.cells #[.int .i64 0] 3)) := by
  refine ⟨keep_new _ (keep_new _ (heap_alloc_new w _)), keep_new _ ?_, ?_, hm.keep (keeps_of_below (((Below.refl _ w).alloc (Nat.le_refl _) _).alloc (by simp) _ |>.alloc (by simp; omega) _))⟩
  · have := heap_alloc_new (w.alloc (.cells #[str s] 9)) (.cells #[str sep] 9)
    rwa [World.size_alloc] at this
  · have := heap_alloc_new ((w.alloc (.cells #[str s] 9)).alloc (.cells #[str sep] 9)) (.cells #[.int .i64 0] 3)
    rwa [World.size_alloc, World.size_alloc] at this
end Go.Proofs.YtcandidgaegghaaGreatDoor
