/- Contracts of strings.Cut, CutPrefix, Contains, HasPrefix, TrimPrefix, Split and strconv.Atoi, in this seat's words. Conditions: those of each statement; bytealg.MaxLen lies as some number. -/
import Derived.Test.YtcandidgaegghaaGreatDoorPlDZ
import Derived.Test.YtcandidgaegghaaGreatDoorRdG
import Derived.Test.YtcandidgaegghaaGreatDoorProofB
import Derived.Lib.AtoiErrMem
import Derived.WalkSmall
namespace Go.Proofs.YtcandidgaegghaaGreatDoor
open Go Go.RowKit Ly
set_option maxRecDepth 10000
set_option linter.unusedSimpArgs false
set_option linter.unusedVariables false
theorem cut_c (s sep a b : Bs) (t : Bool) (hs : s.length ≤ 1000000000) (h : Lib.cut s sep = (a, b, t)) (w : World) (hm : MaxAt w) :
    Calls Tryz.prog 32 #[str s, str sep] w fun e w' => e = .returned (.tuple #[str a, str b, .bool t]) ∧ Below w.heap.size w w' := by
  obtain ⟨m, hm⟩ := hm
  refine (Tryz.strings_Cut ⟨s.toArray⟩ ⟨sep.toArray⟩ m w (by simp [ByteArray.size]; omega) hm).mono fun e w' ⟨h1, n, h2⟩ => ⟨?_, ?_⟩
  · rw [h1]
    simp only [h]
  · subst h2
    exact below_drewN (Below.refl _ _) n
theorem contains_c (s t : Bs) (hs : s.length ≤ 1000000000) (w : World) (hm : MaxAt w) :
    Calls Tryz.prog 40 #[str s, str t] w fun e w' => e = .returned (.bool (Lib.contains s t)) ∧ w' = w := by
  obtain ⟨m, hm⟩ := hm
  exact Tryz.strings_Contains ⟨s.toArray⟩ ⟨t.toArray⟩ m w (by simp [ByteArray.size]; omega) hm
theorem mk_app (a b : Bs) : (⟨a.toArray⟩ ++ ⟨b.toArray⟩ : ByteArray) = ⟨(a ++ b).toArray⟩ := by
  apply ByteArray.ext
  simp
theorem cutPrefix_c {ln T body : Bs} (h : ln = (T ++ colon) ++ body) (w : World) :
    Calls Tryz.prog 39 #[str ln, .string (⟨T.toArray⟩ ++ ⟨#[58, 32]⟩)] w fun e w' => e = .returned (.tuple #[str body, .bool true]) ∧ w' = w := by
  have e0 : (⟨T.toArray⟩ ++ ⟨#[58, 32]⟩ : ByteArray) = ⟨(T ++ colon).toArray⟩ := mk_app T colon
  rw [e0]
  refine (Tryz.strings_CutPrefix ⟨ln.toArray⟩ ⟨(T ++ colon).toArray⟩ w).mono fun e w' ⟨h1, h2⟩ => ⟨?_, h2⟩
  rw [h1]
  simp only [h, hasPrefix_append, trimPrefix_append]
theorem hasPrefix_c (s p : Bs) (w : World) :
    Calls Tryz.prog 36 #[str s, str p] w fun e w' => e = .returned (.bool (Lib.hasPrefix s p)) ∧ w' = w :=
  Tryz.strings_HasPrefix ⟨s.toArray⟩ ⟨p.toArray⟩ w
theorem trimPrefix_c (s p : Bs) (w : World) :
    Calls Tryz.prog 34 #[str s, str p] w fun e w' => e = .returned (str (Lib.trimPrefix s p)) ∧ w' = w :=
  Tryz.strings_TrimPrefix ⟨s.toArray⟩ ⟨p.toArray⟩ w
theorem Atoi_c (n : Nat) (hn : n ≤ 1000000) (w : World) :
    Calls Tryz.prog 33 #[str (Lib.itoa (n : Int))] w fun e w' => e = .returned (.tuple #[.int .i64 n, .nilIface]) ∧ Below w.heap.size w w' := by
  have hl : (Lib.itoa (n : Int)).length ≤ 18 := by
    have := itoa_len (n := (n : Int)) (by omega) (by omega)
    omega
  refine (Tryz.strconv_Atoi ⟨(Lib.itoa (n : Int)).toArray⟩ n (by simpa [ByteArray.size] using hl) (by simpa using atoi_itoa n) w).mono fun e w' ⟨h1, t, h2⟩ => ⟨h1, ?_⟩
  subst h2
  exact Lib.bytesWorld_below w 5 t
theorem splitB_sep (s sep : Bs) : (Lib.splitB ⟨sep.toArray⟩ 0 (Lib.countB ⟨s.toArray⟩ ⟨sep.toArray⟩) ⟨s.toArray⟩).map Value.string = (Lib.split s sep).map str := by
  have h := Lib.splitB_data ⟨sep.toArray⟩ 0 (Lib.countB ⟨s.toArray⟩ ⟨sep.toArray⟩) ⟨s.toArray⟩
  have e : Lib.split s sep = Lib.splitK sep 0 (Lib.countB ⟨s.toArray⟩ ⟨sep.toArray⟩) s := by unfold Lib.split Lib.countB; simp
  rw [e]
  have h' : (Lib.splitB ⟨sep.toArray⟩ 0 (Lib.countB ⟨s.toArray⟩ ⟨sep.toArray⟩) ⟨s.toArray⟩).map (·.data.toList) = Lib.splitK sep 0 (Lib.countB ⟨s.toArray⟩ ⟨sep.toArray⟩) s := by simpa using h
  rw [← h', List.map_map]
  refine List.map_congr_left fun b _ => ?_
  simp [str]
/-- strings.Split at a separator that is not empty: the pieces, in a new block. -/
theorem splitAt_c (s sep : Bs) (hs : s.length ≤ 1000000000) (hn : sep ≠ []) (l : List Bs) (hl : Lib.split s sep = l) (w : World) (hm : MaxAt w) :
    Calls Tryz.prog 31 #[str s, str sep] w fun e w' => e = .returned (.slice (some ⟨w.heap.size, 0, none⟩) l.length l.length) ∧ w'.heap[w.heap.size]? = some (.cells (l.map str).toArray 9 (0, 0)) ∧ Below w.heap.size w w' := by
  obtain ⟨m, hm⟩ := hm
  have h1 : 1 ≤ (⟨sep.toArray⟩ : ByteArray).size := by
    cases sep with
    | nil => exact absurd rfl hn
    | cons c t => simp [ByteArray.size]
  refine (Tryz.strings_Split ⟨s.toArray⟩ ⟨sep.toArray⟩ m w (by simp [ByteArray.size]; omega) hm h1).mono fun e w' ⟨h2, h3⟩ => ?_
  have e1 := splitB_sep s sep
  rw [hl] at e1
  have e2 : l.length = Lib.countB ⟨s.toArray⟩ ⟨sep.toArray⟩ + 1 := by
    have h := congrArg List.length e1
    simp only [List.length_map] at h
    rw [← h, Lib.splitB_all _ h1 0 _ _ rfl]
  rw [e1] at h3
  subst h3
  refine ⟨by rw [h2, e2], heap_alloc_new w _, (Below.refl _ _).alloc (Nat.le_refl _) _⟩
end Go.Proofs.YtcandidgaegghaaGreatDoor
