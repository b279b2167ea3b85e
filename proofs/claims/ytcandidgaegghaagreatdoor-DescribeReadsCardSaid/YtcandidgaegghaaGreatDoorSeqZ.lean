/- Plain laws for the describe family: numerals are read back, prefixes, cuts, what a line of a proof says. Nothing of the program is imported. Contracts of strings.Cut, CutPrefix, Contains, HasPrefix, TrimPrefix, Split and strconv.Atoi, in this seat's words. Conditions: those of each statement; bytealg.MaxLen lies as some number. strings.SplitSeq: the iterator's contract at a separator that is not empty. Conditions: those of each statement; bytealg.MaxLen lies as some number. -/
import Derived.Test.YtcandidgaegghaaGreatDoorPlC
import Derived.Lib.Atoi
import Derived.Lib.IndexMore
import Derived.Lib.Strings
import Derived.Test.YtcandidgaegghaaGreatDoorShelf2Z
import Derived.Test.YtcandidgaegghaaGreatDoorRdGZ
import Derived.Test.YtcandidgaegghaaGreatDoorProofBZ
import Derived.Lib.AtoiErrMem
import Derived.WalkSmall
import Derived.Test.YtcandidgaegghaaGreatDoorRngZ
import Derived.RangeFuncBound
import Derived.RangeFuncCalls
import Derived.RangeFuncLeaves
import Derived.Shelf.Abstract
import Derived.Shelf.RegionOpen
import Derived.WalkKit
import Derived.OwnWalkIn
import Derived.TacticsInMore
import Derived.LoopNIn
import Derived.LoopIn
section
namespace Ly
open Go.Lib (decDigits itoa index cut atoi decFrom decNat digitVal hasPrefix trimPrefix contains split)

theorem decFrom_append : ∀ (a b : Bs) (n : Nat), decFrom n (a ++ b) = (decFrom n a).bind fun m => decFrom m b
  | [], b, n => rfl
  | c :: a, b, n => by
    simp only [List.cons_append, decFrom]
    cases digitVal c with
    | none => rfl
    | some d => exact decFrom_append a b _
theorem digitVal_ofNat {k : Nat} (h : k < 10) : digitVal (UInt8.ofNat (48 + k)) = some k := by
  have e : (UInt8.ofNat (48 + k)).toNat = 48 + k := by simp only [UInt8.toNat_ofNat']; omega
  unfold digitVal
  rw [e, if_pos (by omega)]
  congr 1; omega
theorem decFrom_digits (n : Nat) : decFrom 0 (decDigits n) = some n := by
  induction n using Nat.strongRecOn with
  | _ n ih =>
    rw [decDigits]
    split
    · rename_i h
      simp only [decFrom, digitVal_ofNat h]
      simp
    · rename_i h
      rw [decFrom_append, ih (n / 10) (by omega)]
      simp only [Option.bind_some, decFrom, digitVal_ofNat (Nat.mod_lt n (by decide : 0 < 10))]
      congr 1; omega
theorem atoi_itoa (n : Nat) : atoi (itoa (n : Int)) = some (n : Int) := by
  have hne : itoa (n : Int) ≠ [] := itoa_ne
  have hd : ∀ c ∈ itoa (n : Int), 48 ≤ c.toNat ∧ c.toNat ≤ 57 := itoa_digit (by omega)
  have hf := decFrom_digits n
  rw [← itoa_nat] at hf
  generalize itoa (n : Int) = l at *
  cases l with
  | nil => exact absurd rfl hne
  | cons c r =>
    have hc := hd c (by simp)
    have h45 : (c == 45) = false := by
      cases e : c == 45 with
      | false => rfl
      | true => have := beq_iff_eq.1 e; subst this; simp at hc
    have h43 : (c == 43) = false := by
      cases e : c == 43 with
      | false => rfl
      | true => have := beq_iff_eq.1 e; subst this; simp at hc
    have hdn : decNat (c :: r) = some n := by unfold decNat; exact hf
    simp only [atoi, h45, h43, hdn, Bool.false_eq_true, if_false, Option.map_some]
theorem cut_of_index {s sep : Bs} {k : Nat} (h : index s sep = k) : cut s sep = (s.take k, s.drop (k + sep.length), true) := by
  unfold cut
  rw [h, if_pos (by omega)]
  simp
theorem cut_none {s sep : Bs} (h : index s sep = -1) : cut s sep = (s, [], false) := by
  unfold cut
  rw [h, if_neg (by omega)]
theorem cut_mid {a b sep : Bs} (h : index (a ++ sep ++ b) sep = a.length) : cut (a ++ sep ++ b) sep = (a, b, true) := by
  rw [cut_of_index h]
  have e1 : (a ++ sep ++ b).take a.length = a := by rw [List.append_assoc, List.take_left]
  have e2 : (a ++ sep ++ b).drop (a.length + sep.length) = b := by rw [← List.length_append, List.drop_left]
  rw [e1, e2]
theorem hasPrefix_append (a b : Bs) : hasPrefix (a ++ b) a = true := by
  unfold hasPrefix
  rw [List.isPrefixOf_iff_prefix]
  exact ⟨b, rfl⟩
theorem trimPrefix_append (a b : Bs) : trimPrefix (a ++ b) a = b := by
  unfold trimPrefix
  rw [hasPrefix_append, if_pos rfl, List.drop_left]
theorem contains_mid (a t b : Bs) : contains (a ++ t ++ b) t = true := by
  unfold contains
  rw [decide_eq_true_eq]
  rcases Go.Lib.index_spec (a ++ t ++ b) t with ⟨h, h'⟩ | ⟨i, h, _⟩
  · have := h' a.length (by simp)
    unfold Go.Lib.occAt at this
    rw [List.append_assoc, List.drop_left] at this
    have h2 : t.isPrefixOf (t ++ b) = true := by rw [List.isPrefixOf_iff_prefix]; exact ⟨b, rfl⟩
    rw [h2] at this; cases this
  · rw [h]; omega
/-- A number, and what stands behind the space. -/
theorem cut_num {n : Nat} {x : Bs} (h : x = itoa (n : Int) ∨ ∃ t, x = itoa (n : Int) ++ 32 :: t) : ∃ r b, cut x [32] = (itoa (n : Int), r, b) := by
  have hn : (32 : UInt8) ∉ itoa (n : Int) := itoa_not (by omega) (by decide)
  rcases h with rfl | ⟨t, rfl⟩
  · exact ⟨_, _, cut_none (index_none (t := []) _ hn)⟩
  · have e : itoa (n : Int) ++ 32 :: t = itoa (n : Int) ++ [32] ++ t := by simp
    rw [e]
    exact ⟨_, _, cut_mid (index_sep (t := []) _ _ hn)⟩
/-- One line of a proof, for the law of its order. -/
theorem order_line {P : Pf} (hok : P.ok = true) (hro : P.ro) {i : Nat} {ln : Bs} (h : (P.lines 0)[i]? = some ln) :
    ∃ nums body, (P.uses 0)[i]? = some nums ∧ ln = (itoa ((i : Int) + 1) ++ colon) ++ body ∧
      ((nums = [] ∧ cut body wFrom = (body, [], false)) ∨
       (nums ≠ [] ∧ ∃ s ps, cut body wFrom = (s, joinBy cs ps, true) ∧ split (joinBy cs ps) cs = ps ∧ ps.length = nums.length ∧ (joinBy cs ps).length ≤ ln.length ∧
         ∀ (j : Nat) (x : Bs), ps[j]? = some x → ∃ n, nums[j]? = some n ∧ 1 ≤ n ∧ n ≤ i ∧ ∃ r b, cut x [32] = (itoa (n : Int), r, b))) := by
  have hi : i < (P.lines 0).length := (List.getElem?_eq_some_iff.1 h).1
  have hl : (P.uses 0).length = (P.lines 0).length := by rw [Pf.uses_length, Pf.lines_length]
  obtain ⟨nums, hu⟩ : ∃ nums, (P.uses 0)[i]? = some nums := ⟨_, List.getElem?_eq_getElem (by omega)⟩
  have hla := Pf.line_at P 0 i nums ln hok hro hu h
  rw [Nat.zero_add] at hla
  obtain ⟨body, hb, hc⟩ := line_body hla
  have hbd := Pf.uses_bd P 0 i nums hu
  refine ⟨nums, body, hu, by rw [hb]; rfl, ?_⟩
  rcases hc with ⟨h1, h2⟩ | ⟨h1, s, ps, h2, h3, h4, h5, h6⟩
  · exact .inl ⟨h1, cut_none h2⟩
  · have hps : ps ≠ [] := fun e => h1 (List.eq_nil_of_length_eq_zero (by rw [← h4, e]; rfl))
    refine .inr ⟨h1, s, ps, ?_, split_join (c := 44) (t := [32]) ps hps h5, h4, ?_, fun j x hx => ?_⟩
    · rw [h2] at h3 ⊢
      exact cut_mid h3
    · rw [hb, h2]; simp only [List.length_append]; omega
    · obtain ⟨n, e1, e2⟩ := h6 j x hx
      have := hbd n (List.mem_of_getElem? e1)
      exact ⟨n, e1, by omega, by omega, cut_num e2⟩
/-- The last line has the formula's text. -/
theorem order_last (P : Pf) : ∃ i ln, i + 1 = (P.lines 0).length ∧ (P.lines 0)[i]? = some ln ∧ contains ln P.form.text = true := by
  obtain ⟨r, f, lb, sub, ms⟩ := P
  refine ⟨(pfsLines 0 sub).length, itoa (0 + pfsSteps sub + 1 : Nat) ++ colon ++ bodyText r f lb (premTexts 0 sub ms), by simp [Pf.lines], by simp [Pf.lines], ?_⟩
  show contains _ f.text = true
  unfold bodyText
  generalize itoa (0 + pfsSteps sub + 1 : Nat) ++ colon = A
  split
  · have e : A ++ (wAssume ++ itoa lb ++ cs ++ f.text) = (A ++ (wAssume ++ itoa lb ++ cs)) ++ f.text ++ [] := by simp
    rw [e]; exact contains_mid _ _ _
  · split
    · have e : A ++ (f.text ++ wStill) = A ++ f.text ++ wStill := by simp
      rw [e]; exact contains_mid _ _ _
    · generalize (if (premTexts 0 sub ms).isEmpty = true then [] else wFrom ++ joinBy cs (premTexts 0 sub ms)) = B
      have e : A ++ (f.text ++ wBy ++ r ++ B) = A ++ f.text ++ (wBy ++ r ++ B) := by simp
      rw [e]; exact contains_mid _ _ _
/-- How often a line is used: each but the last one once. -/
theorem order_count (P : Pf) (n : Nat) : (P.uses 0).flatten.count n = if 0 < n ∧ n < (P.lines 0).length then 1 else 0 := by
  rw [Pf.uses_count, Pf.lines_length]
  simp
theorem flatten_take_succ {α : Type} {l : List (List α)} {i : Nat} {x : List α} (h : l[i]? = some x) : (l.take (i + 1)).flatten = (l.take i).flatten ++ x := by
  rw [List.take_add_one, h]; simp
end Ly
end
section
namespace Go.Proofs.YtcandidgaegghaaGreatDoor
open Go Go.RowKit Ly
set_option maxRecDepth 10000
set_option linter.unusedSimpArgs false
set_option linter.unusedVariables false
theorem cut_c (s sep a b : Bs) (t : Bool) (hs : s.length ≤ 1000000000) (h : Lib.cut s sep = (a, b, t)) (w : World) (hm : MaxAt w) :
    Calls Tryz.prog 32 #[str s, str sep] w fun e w' => e = .returned (.tuple #[str a, str b, .bool t]) ∧ Below w.heap.size w w' := by
  obtain ⟨m, hm⟩ := hm
  refine (Tryz.strings_Cut ⟨s.toArray⟩ ⟨sep.toArray⟩ m w (by simp [ByteArray.size]; omega) hm).mono fun e w' ⟨h1, n, h2⟩ => ⟨?_, ?_⟩
  · rw [h1]
    simp only [h]
  · subst h2
    exact below_drewN (Below.refl _ _) n
theorem contains_c (s t : Bs) (hs : s.length ≤ 1000000000) (w : World) (hm : MaxAt w) :
    Calls Tryz.prog 40 #[str s, str t] w fun e w' => e = .returned (.bool (Lib.contains s t)) ∧ w' = w := by
  obtain ⟨m, hm⟩ := hm
  exact Tryz.strings_Contains ⟨s.toArray⟩ ⟨t.toArray⟩ m w (by simp [ByteArray.size]; omega) hm
theorem mk_app (a b : Bs) : (⟨a.toArray⟩ ++ ⟨b.toArray⟩ : ByteArray) = ⟨(a ++ b).toArray⟩ := by
  apply ByteArray.ext
  simp
theorem cutPrefix_c {ln T body : Bs} (h : ln = (T ++ colon) ++ body) (w : World) :
    Calls Tryz.prog 39 #[str ln, .string (⟨T.toArray⟩ ++ ⟨#[58, 32]⟩)] w fun e w' => e = .returned (.tuple #[str body, .bool true]) ∧ w' = w := by
  have e0 : (⟨T.toArray⟩ ++ ⟨#[58, 32]⟩ : ByteArray) = ⟨(T ++ colon).toArray⟩ := mk_app T colon
  rw [e0]
  refine (Tryz.strings_CutPrefix ⟨ln.toArray⟩ ⟨(T ++ colon).toArray⟩ w).mono fun e w' ⟨h1, h2⟩ => ⟨?_, h2⟩
  rw [h1]
  simp only [h, hasPrefix_append, trimPrefix_append]
theorem hasPrefix_c (s p : Bs) (w : World) :
    Calls Tryz.prog 36 #[str s, str p] w fun e w' => e = .returned (.bool (Lib.hasPrefix s p)) ∧ w' = w :=
  Tryz.strings_HasPrefix ⟨s.toArray⟩ ⟨p.toArray⟩ w
theorem trimPrefix_c (s p : Bs) (w : World) :
    Calls Tryz.prog 34 #[str s, str p] w fun e w' => e = .returned (str (Lib.trimPrefix s p)) ∧ w' = w :=
  Tryz.strings_TrimPrefix ⟨s.toArray⟩ ⟨p.toArray⟩ w
theorem Atoi_c (n : Nat) (hn : n ≤ 1000000) (w : World) :
    Calls Tryz.prog 33 #[str (Lib.itoa (n : Int))] w fun e w' => e = .returned (.tuple #[.int .i64 n, .nilIface]) ∧ Below w.heap.size w w' := by
  have hl : (Lib.itoa (n : Int)).length ≤ 18 := by
    have := itoa_len (n := (n : Int)) (by omega) (by omega)
    omega
  refine (Tryz.strconv_Atoi ⟨(Lib.itoa (n : Int)).toArray⟩ n (by simpa [ByteArray.size] using hl) (by simpa using atoi_itoa n) w).mono fun e w' ⟨h1, t, h2⟩ => ⟨h1, ?_⟩
  subst h2
  exact Lib.bytesWorld_below w 5 t
theorem splitB_sep (s sep : Bs) : (Lib.splitB ⟨sep.toArray⟩ 0 (Lib.countB ⟨s.toArray⟩ ⟨sep.toArray⟩) ⟨s.toArray⟩).map Value.string = (Lib.split s sep).map str := by
  have h := Lib.splitB_data ⟨sep.toArray⟩ 0 (Lib.countB ⟨s.toArray⟩ ⟨sep.toArray⟩) ⟨s.toArray⟩
  have e : Lib.split s sep = Lib.splitK sep 0 (Lib.countB ⟨s.toArray⟩ ⟨sep.toArray⟩) s := by unfold Lib.split Lib.countB; simp
  rw [e]
  have h' : (Lib.splitB ⟨sep.toArray⟩ 0 (Lib.countB ⟨s.toArray⟩ ⟨sep.toArray⟩) ⟨s.toArray⟩).map (·.data.toList) = Lib.splitK sep 0 (Lib.countB ⟨s.toArray⟩ ⟨sep.toArray⟩) s := by simpa using h
  rw [← h', List.map_map]
  refine List.map_congr_left fun b _ => ?_
  simp [str]
/-- strings.Split at a separator that is not empty: the pieces, in a new block. -/
theorem splitAt_c (s sep : Bs) (hs : s.length ≤ 1000000000) (hn : sep ≠ []) (l : List Bs) (hl : Lib.split s sep = l) (w : World) (hm : MaxAt w) :
    Calls Tryz.prog 31 #[str s, str sep] w fun e w' => e = .returned (.slice (some ⟨w.heap.size, 0, none⟩) l.length l.length) ∧ w'.heap[w.heap.size]? = some (.cells (l.map str).toArray 9 (0, 0)) ∧ Below w.heap.size w w' := by
  obtain ⟨m, hm⟩ := hm
  have h1 : 1 ≤ (⟨sep.toArray⟩ : ByteArray).size := by
    cases sep with
    | nil => exact absurd rfl hn
    | cons c t => simp [ByteArray.size]
  refine (Tryz.strings_Split ⟨s.toArray⟩ ⟨sep.toArray⟩ m w (by simp [ByteArray.size]; omega) hm h1).mono fun e w' ⟨h2, h3⟩ => ?_
  have e1 := splitB_sep s sep
  rw [hl] at e1
  have e2 : l.length = Lib.countB ⟨s.toArray⟩ ⟨sep.toArray⟩ + 1 := by
    have h := congrArg List.length e1
    simp only [List.length_map] at h
    rw [← h, Lib.splitB_all _ h1 0 _ _ rfl]
  rw [e1] at h3
  subst h3
  refine ⟨by rw [h2, e2], heap_alloc_new w _, (Below.refl _ _).alloc (Nat.le_refl _) _⟩
end Go.Proofs.YtcandidgaegghaaGreatDoor
end
section
namespace Go.Proofs.YtcandidgaegghaaGreatDoor
open Go Go.RowKit Ly
set_option maxRecDepth 10000
set_option linter.unusedSimpArgs false
set_option linter.unusedVariables false
attribute [local go_sem] Oper.semAt_some
/-- The pieces of a text, cut at a separator. -/
inductive Cuts (sep : Bs) : Bs → List Bs → Prop where
  | last (r : Bs) (h : Lib.index r sep = -1) : Cuts sep r [r]
  | more (r : Bs) (i : Nat) (l : List Bs) (h : Lib.index r sep = i) (h' : Cuts sep (r.drop (i + sep.length)) l) : Cuts sep r (r.take i :: l)
theorem cuts_of (sep : Bs) (hn : sep ≠ []) : ∀ (k : Nat) (s : Bs), Lib.count s sep = k → Cuts sep s (Lib.splitK sep 0 k s)
  | 0, s, h => by
    have hi : Lib.index s sep = -1 := by
      have h1 := Lib.index_ge s sep
      rcases Int.lt_or_le (Lib.index s sep) 0 with h2 | h2
      · omega
      · have := Lib.count_hit (s := s) (i := (Lib.index s sep).toNat) hn (by omega)
        omega
    exact .last s hi
  | k + 1, s, h => by
    have h1 := Lib.index_ge s sep
    have hi : 0 ≤ Lib.index s sep := by
      rcases Int.lt_or_le (Lib.index s sep) 0 with h2 | h2
      · have e : Lib.index s sep = -1 := by omega
        rw [Lib.count_miss e] at h; cases h
      · exact h2
    obtain ⟨i, e⟩ : ∃ i : Nat, Lib.index s sep = i := ⟨(Lib.index s sep).toNat, by omega⟩
    have hc := Lib.count_hit hn e
    rw [Lib.splitK, e]
    have e1 : ((i : Int) == -1) = false := by simp
    rw [e1]
    simp only [Bool.false_eq_true, if_false, Nat.add_zero, Int.toNat_natCast]
    exact .more s i _ e (cuts_of sep hn k _ (by omega))
theorem cuts_split (s sep : Bs) (hn : sep ≠ []) : Cuts sep s (Lib.split s sep) := cuts_of sep hn _ s rfl
theorem Cuts.ne {sep r : Bs} {l : List Bs} (h : Cuts sep r l) : l ≠ [] := by cases h <;> simp
/-- The iterator's own blocks: the rest of the text (b), the separator, how much of the separator is kept (0). -/
def SeqAt (sep : Bs) (b : Nat) (r : Bs) (w : World) : Prop :=
  w.heap[b]? = some (.cells #[str r] 9 (0, 0)) ∧ w.heap[b + 1]? = some (.cells #[str sep] 9 (0, 0)) ∧ w.heap[b + 2]? = some (.cells #[.int .i64 0] 3 (0, 0)) ∧ MaxAt w
/-- What a round must leave as it is. -/
def SeqKp (b : Nat) (A X : World) : Prop := ∀ k, k = 1 ∨ k = b ∨ k = b + 1 ∨ k = b + 2 → X.heap[k]? = A.heap[k]?
theorem SeqKp.trans {b : Nat} {A B C : World} (h : SeqKp b A B) (k : SeqKp b B C) : SeqKp b A C := fun i hi => (k i hi).trans (h i hi)
theorem SeqAt.kept {sep : Bs} {b : Nat} {r : Bs} {A X : World} (h : SeqAt sep b r A) (k : SeqKp b A X) : SeqAt sep b r X := by
  obtain ⟨h1, h2, h3, m, h4⟩ := h
  refine ⟨(k _ (.inr (.inl rfl))).trans h1, (k _ (.inr (.inr (.inl rfl)))).trans h2, (k _ (.inr (.inr (.inr rfl)))).trans h3, m, ?_⟩
  unfold World.cell? at h4 ⊢
  rw [show X.heap[(⟨1, 0, none⟩ : Addr).block]? = A.heap[(⟨1, 0, none⟩ : Addr).block]? from k 1 (.inl rfl)]
  exact h4
def strLen (w : World) (b : Nat) : Nat := match w.heap[b]? with
  | some (Obj.cells cs _ _) => match cs[0]? with
    | some (Value.string x) => x.size
    | _ => 0
  | _ => 0
theorem strLen_at {sep : Bs} {b : Nat} {r : Bs} {w : World} (h : SeqAt sep b r w) : strLen w b = r.length := by
  unfold strLen
  rw [h.1]
  simp [ByteArray.size]
theorem index_c (s sep : Bs) (hs : s.length ≤ 1000000000) (w : World) (hm : MaxAt w) :
    Calls Tryz.prog 109 #[str s, str sep] w fun e w' => e = .returned (.int .i64 (Lib.index s sep)) ∧ w' = w := by
  obtain ⟨m, hm⟩ := hm
  exact Tryz.strings_Index ⟨s.toArray⟩ ⟨sep.toArray⟩ m w (by simp [ByteArray.size]; omega) hm
theorem SeqAt.next {sep : Bs} {b : Nat} {r : Bs} {w : World} (h : SeqAt sep b r w) (hb : b ≠ 1) (r' : Bs) : SeqAt sep b r' (w.setCell ⟨b, 0, none⟩ (str r')) := by
  obtain ⟨h1, h2, h3, m, h4⟩ := h
  refine ⟨(set_block (o := 0) (u := str r') h1).trans rfl, by rw [Below.heap_setCell _ _ _ _ (by simp)]; exact h2, by rw [Below.heap_setCell _ _ _ _ (by simp)]; exact h3, m, ?_⟩
  unfold World.cell? at h4 ⊢
  rw [show (w.setCell ⟨b, 0, none⟩ (str r')).heap[(⟨1, 0, none⟩ : Addr).block]? = w.heap[(⟨1, 0, none⟩ : Addr).block]? from Below.heap_setCell _ _ _ _ (fun e => hb e.symm)]
  exact h4
theorem row9 {w : World} {b : Nat} {x : Value} {t : TypeId} (h : w.heap[b]? = some (.cells #[x] t (0, 0))) : w.cell? ⟨b, 0, none⟩ = some x ∧ w.frozen? ⟨b, 0, none⟩ = false :=
  ⟨(box_cell h 0).trans rfl, by simp [World.frozen?, h]⟩
set_option maxHeartbeats 4000000 in
theorem splitSeq_in (n : Nat) (s sep : Bs) (hn : sep ≠ []) (hs : s.length ≤ 1000000000) (hsep : sep.length ≤ 100) (b : Nat) (hb : b ≠ 1) (l : List Bs) (hl : Cuts sep s l) (r : Nat) (J Jx : List Bs → World → Prop)
    (hJ : ∀ s A X, J s A → A.grownBy X (some b) → J s X)
    (hY : ∀ pre x W1, J pre W1 → pre ++ [x] <+: l → YieldAt Fence.wide (n - 1) Tryz.prog r #[str x] W1 fun e W' => (e = .returned (.bool true) ∧ J (pre ++ [x]) W' ∧ SeqKp b W1 W') ∨ (e = .returned (.bool false) ∧ Jx (pre ++ [x]) W'))
    (W : World) (hA : SeqAt sep b s W) (h0 : J [] W) :
    CallsIn Fence.wide n Tryz.prog 272 #[.func (.yield r) #[] #[], one (b + 1), one b, one (b + 2)] W fun e W' => (∃ v, e = .returned v) ∧ (J l W' ∨ ∃ pre, pre <+: l ∧ Jx pre W') := by
  have HJ := Lib.hid hJ
  have HY := Lib.hid hY
  have HL := Lib.hid hl
  have HA := Lib.hid hA
  have H0 := Lib.hid h0
  have HN := Lib.hid hn
  have HS := Lib.hid hs
  have HB := Lib.hid hb
  have sp : ((sep.length : Int) == 0) = false := by
    cases sep with
    | nil => exact absurd rfl hn
    | cons c t => simp; omega
  clear hJ hY hl hA h0 hn hs hb
  obtain ⟨a0, -⟩ := row9 HA.out.1
  obtain ⟨a1, -⟩ := row9 HA.out.2.1
  refine callsIn_of_wp Tryz.func272 rfl trivial ?_ rfl
  simp only [Tryz.ntmps272, List.size_toArray, List.length_cons, List.length_nil, Nat.reduceAdd, Nat.reduceSub, Array.replicate_succ, Array.replicate_zero, List.push_toArray, List.append_toArray, List.nil_append, List.cons_append]
  gi_wp2
  gi_loopw [7] (fun i wr => Hid (∃ pre rest q, l = pre ++ rest ∧ Cuts sep q rest ∧ q.length ≤ 1000000000 ∧ SeqAt sep b q wr ∧ J pre wr)) (fun _ wr => strLen wr b)
  case atStart => exact ⟨[], l, s, rfl, HL.out, HS.out, HA.out, H0.out⟩
  case round =>
    obtain ⟨pre, rest, q, hl, hq, hql, hA, hJ⟩ := hrel.out
    clear hrel
    have EL := Lib.hid hl
    have QL := Lib.hid hql
    have A := Lib.hid hA
    have JJ := Lib.hid hJ
    clear hl hA hJ
    clear a0 a1
    obtain ⟨a0, f0⟩ := row9 A.out.1
    obtain ⟨a1, -⟩ := row9 A.out.2.1
    obtain ⟨a2, -⟩ := row9 A.out.2.2.1
    rcases hq with ⟨_, hi⟩ | ⟨_, i, l', hi, hq'⟩
    · have HI := Lib.hid hi
      clear hi
      obtain ⟨fn, tmps, assign, body, hy, hR⟩ := HY.out pre q wr JJ.out ⟨[], by rw [EL.out]; simp⟩
      gi_wp2_with (refine ⟨trivial, fun h => absurd h (by decide), ?_⟩; gi_at_call 109; refine (callsIn_wide.2 (index_c q sep QL.out _ A.out.2.2.2)).mono ?_; rintro e w2 ⟨rfl, rfl⟩; rw [HI.out])
      refine ⟨fun h => absurd h (by decide), hR.mono ?_⟩
      rintro e W3 (⟨rfl, hJ3, hk3⟩ | ⟨rfl, hJx3⟩)
      · gi_wp2
        go_end0
        exact ⟨⟨_, rfl⟩, .inl (by rw [EL.out]; exact hJ3)⟩
      · gi_wp2
        go_end0
        exact ⟨⟨_, rfl⟩, .inr ⟨pre ++ [q], ⟨[], by rw [EL.out]; simp⟩, hJx3⟩⟩
    · have HI := Lib.hid hi
      have HQ := Lib.hid hq'
      have IL : i + sep.length ≤ q.length := by
        have := Lib.index_room q sep (by rw [HI.out]; omega)
        rw [HI.out] at this; omega
      clear hi hq'
      have s1 : i ≤ 1000000000 := by have := QL.out; omega
      obtain ⟨x, hx⟩ : ∃ x, q.take i = x := ⟨_, rfl⟩
      obtain ⟨y, hy'⟩ : ∃ y, q.drop (i + sep.length) = y := ⟨_, rfl⟩
      have ex : (⟨q.toArray⟩ : ByteArray).extract 0 i = ⟨x.toArray⟩ := by rw [← hx]; apply ByteArray.ext; simp
      have ey : (⟨q.toArray⟩ : ByteArray).extract (i + sep.length) q.length = ⟨y.toArray⟩ := by rw [← hy']; apply ByteArray.ext; simp; exact List.take_of_length_le (by simp)
      rw [hx] at EL
      rw [hy'] at HQ
      have HX := Lib.hid hx
      have HYY := Lib.hid hy'
      clear hx hy'
      obtain ⟨fn, tmps, assign, body, hy, hR⟩ := HY.out pre x wr JJ.out (by rw [EL.out]; exact ⟨l', by simp⟩)
      gi_wp2_with (refine ⟨trivial, fun h => absurd h (by decide), ?_⟩; gi_at_call 109; refine (callsIn_wide.2 (index_c q sep QL.out _ A.out.2.2.2)).mono ?_; rintro e w2 ⟨rfl, rfl⟩; rw [HI.out])
      refine ⟨fun h => absurd h (by decide), hR.mono ?_⟩
      rintro e W3 (⟨rfl, hJ3, hk3⟩ | ⟨rfl, hJx3⟩)
      · have A3 := Lib.hid (A.out.kept hk3)
        clear a0 a1 a2 f0
        obtain ⟨a0, f0⟩ := row9 A3.out.1
        obtain ⟨a1, -⟩ := row9 A3.out.2.1
        obtain ⟨a2, -⟩ := row9 A3.out.2.2.1
        have J3 := Lib.hid hJ3
        clear hJ3 hk3
        have YL : y.length + sep.length ≤ q.length := by rw [← HYY.out]; simp; omega
        have N3 := Lib.hid (A3.out.next HB.out y)
        have SL : 0 < sep.length := List.length_pos_iff.2 HN.out
        gi_wp2
        go_roundw
        case rel => exact ⟨pre ++ [x], l', y, by rw [EL.out]; simp, HQ.out, by have := QL.out; omega, N3.out, HJ.out _ _ _ J3.out (grownBy_setCell' _ _ _)⟩
        case measure =>
          rw [strLen_at N3.out, strLen_at A.out]
          omega
      · gi_wp2
        refine bodyPost_ret (results_none rfl _ _ _) rfl ?_
        exact ⟨⟨_, rfl⟩, .inr ⟨pre ++ [x], ⟨l', by rw [EL.out]; simp⟩, hJx3⟩⟩
theorem SeqKp.of_below {sep : Bs} {b : Nat} {r : Bs} {A X : World} (h : SeqAt sep b r A) (k : Below A.heap.size A X) : SeqKp b A X := fun i hi => by
  refine k.block i ?_
  rcases hi with rfl | rfl | rfl | rfl
  · obtain ⟨m, hm⟩ := h.2.2.2; exact World.block_lt_of_cell? A _ hm
  · exact (Array.getElem?_eq_some_iff.1 h.1).1
  · exact (Array.getElem?_eq_some_iff.1 h.2.1).1
  · exact (Array.getElem?_eq_some_iff.1 h.2.2.1).1
theorem SeqAt.below {sep : Bs} {b : Nat} {r : Bs} {A X : World} (h : SeqAt sep b r A) (k : Below A.heap.size A X) : SeqAt sep b r X := h.kept (SeqKp.of_below h k)
/-- The iterator that SplitSeq hands back keeps its contract. -/
theorem seqCell (n : Nat) (s sep : Bs) (hn : sep ≠ []) (hs : s.length ≤ 1000000000) (hsep : sep.length ≤ 100) (b : Nat) (hb : b ≠ 1) (l : List Bs) (hl : Lib.split s sep = l) (w0 : World) (hA : SeqAt sep b s w0) :
    SeqCell Fence.wide n Tryz.prog 272 #[one (b + 1), one b, one (b + 2)] str b (SeqKp b) l w0 := fun r J Jx W hW hJ hY h0 =>
  splitSeq_in n s sep hn hs hsep b hb l (by rw [← hl]; exact cuts_split s sep hn) r J Jx hJ hY W (hA.below hW) h0
theorem SplitSeq_c (s sep : Bs) (w : World) : Calls Tryz.prog 119 #[str s, str sep] w fun e w' =>
    e = .returned (.func (.func 272) #[] #[one (w.heap.size + 1), one w.heap.size, one (w.heap.size + 2)]) ∧ w' = ((w.alloc (.cells #[str s] 9)).alloc (.cells #[str sep] 9)).alloc (.cells #[.int .i64 0] 3) := by
  go_enter Tryz.func119, Tryz.ntmps119
  go_wp2
  go_ret
  exact ⟨rfl, rfl⟩
theorem keep_new {w : World} {g : Nat} {o : Obj} (o' : Obj) (h : w.heap[g]? = some o) : (w.alloc o').heap[g]? = some o := (Below.heap_alloc w o' g (Array.getElem?_eq_some_iff.1 h).1).trans h
theorem seqAt_new {s sep : Bs} {w : World} (hm : MaxAt w) : SeqAt sep w.heap.size s (((w.alloc (.cells #[str s] 9)).alloc (.cells #[str sep] 9)).alloc (.cells #[.int .i64 0] 3)) := by
  refine ⟨keep_new _ (keep_new _ (heap_alloc_new w _)), keep_new _ ?_, ?_, hm.keep (keeps_of_below (((Below.refl _ w).alloc (Nat.le_refl _) _).alloc (by simp) _ |>.alloc (by simp; omega) _))⟩
  · have := heap_alloc_new (w.alloc (.cells #[str s] 9)) (.cells #[str sep] 9)
    rwa [World.size_alloc] at this
  · have := heap_alloc_new ((w.alloc (.cells #[str s] 9)).alloc (.cells #[str sep] 9)) (.cells #[.int .i64 0] 3)
    rwa [World.size_alloc, World.size_alloc] at this
end Go.Proofs.YtcandidgaegghaaGreatDoor
end
