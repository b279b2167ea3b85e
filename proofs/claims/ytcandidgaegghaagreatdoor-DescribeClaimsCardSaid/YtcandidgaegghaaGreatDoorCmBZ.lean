/- How lent lists lie in memory (lyceumkit.LentTerms, LentForms): behind the elements twelve marks, and so in the lists of each element. Nothing of the program is walked. lyceumkit.LentTerm, LentTerms, LentForm, LentForms: what they make. Conditions: at most a thousand nodes. lyceumkit.LentForm, LentForms: what they make. Conditions: at most a thousand nodes. lyceumkit.KeptTerm, KeptTerms: true at what has been lent and is as it was. Conditions: none but those of each statement. lyceumkit.KeptForm, KeptForms: true at what has been lent and is as it was. Conditions: none but those of each statement. lyceumkit.LentSeq, KeptSeq. Conditions: at most a thousand nodes on each side. -/
import Derived.Test.YtcandidgaegghaaGreatDoorRightGZ
import Derived.Test.YtcandidgaegghaaGreatDoorRdC
import Derived.Test.YtcandidgaegghaaGreatDoorRdD
import Derived.Test.YtcandidgaegghaaGreatDoorRowZ
import Derived.Test.YtcandidgaegghaaGreatDoorAwakeZ
import Derived.Test.YtcandidgaegghaaGreatDoorRdF
import Derived.OwnWalk
import Derived.Test.YtcandidgaegghaaGreatDoorSameB
section
namespace Go.Proofs.YtcandidgaegghaaGreatDoor
open Go Go.RowKit Ly
set_option linter.unusedSimpArgs false
set_option linter.unusedVariables false
def mkText (i : Nat) : Bs := [35, 1, 0, 0, 47, UInt8.ofNat i, 0, 0]
def tmMark (i : Nat) : List Value := [.bool false, str (mkText i), .slice none 0 0]
def tmMarks (n : Nat) : List Value := (List.range n).flatMap tmMark
def fmMark (i : Nat) : List Value := [.int .u8 0, str (mkText i), .slice none 0 0, .slice none 0 0]
def fmMarks (n : Nat) : List Value := (List.range n).flatMap fmMark
/-- Cells that lie one behind the other from a block's beginning on. -/
def RowAt (W : World) (b : Nat) (ys : List Value) : Prop := ∀ (j : Nat) (u : Value), ys[j]? = some u → W.cell? ⟨b, j, none⟩ = some u
theorem RowAt.keep {W W' : World} {b : Nat} {ys : List Value} (h : RowAt W b ys) (k : Keeps W W') : RowAt W' b ys := fun j u hu => k _ _ (h j u hu)
theorem RowAt.left {W : World} {b : Nat} {xs ys : List Value} (h : RowAt W b (xs ++ ys)) : RowAt W b xs := fun j u hu => h j u (by rw [List.getElem?_append_left (List.getElem?_eq_some_iff.1 hu).1]; exact hu)
mutual
/-- A lent term, as three cells. -/
def TmL (W : World) : Tm → List Value → Prop
  | .mk v n l, cs => ∃ (b cap : Nat) (zs : List Value), cs = [.bool v, str n, .slice (some ⟨b, 0, none⟩) l.length cap] ∧ l.length + 12 ≤ cap ∧ cap ≤ maxLen ∧ RowAt W b (zs ++ tmMarks 12) ∧ TmsC W l zs
def TmsC (W : World) : List Tm → List Value → Prop
  | [], ys => ys = []
  | t :: ts, ys => ∃ c r, ys = c ++ r ∧ TmL W t c ∧ TmsC W ts r
end
def TmsLent (W : World) (l : List Tm) (u : Value) : Prop := ∃ (b cap : Nat) (zs : List Value), u = .slice (some ⟨b, 0, none⟩) l.length cap ∧ l.length + 12 ≤ cap ∧ cap ≤ maxLen ∧ RowAt W b (zs ++ tmMarks 12) ∧ TmsC W l zs
mutual
def FmL (W : World) : Fm → List Value → Prop
  | .mk op n l sub, cs => ∃ (a : Value) (b cap : Nat) (zs : List Value), cs = [.int .u8 op, str n, a, .slice (some ⟨b, 0, none⟩) sub.length cap] ∧ TmsLent W l a ∧ sub.length + 12 ≤ cap ∧ cap ≤ maxLen ∧ RowAt W b (zs ++ fmMarks 12) ∧ FmsC W sub zs
def FmsC (W : World) : List Fm → List Value → Prop
  | [], ys => ys = []
  | t :: ts, ys => ∃ c r, ys = c ++ r ∧ FmL W t c ∧ FmsC W ts r
end
def FmsLent (W : World) (l : List Fm) (u : Value) : Prop := ∃ (b cap : Nat) (zs : List Value), u = .slice (some ⟨b, 0, none⟩) l.length cap ∧ l.length + 12 ≤ cap ∧ cap ≤ maxLen ∧ RowAt W b (zs ++ fmMarks 12) ∧ FmsC W l zs
theorem TmL_iff {W : World} {t : Tm} {cs : List Value} : TmL W t cs ↔ ∃ u, cs = [.bool t.v, str t.name, u] ∧ TmsLent W t.args u := by
  obtain ⟨v, n, l⟩ := t
  rw [TmL]
  constructor
  · rintro ⟨b, cap, zs, rfl, h⟩
    exact ⟨_, rfl, b, cap, zs, rfl, h⟩
  · rintro ⟨u, rfl, b, cap, zs, rfl, h⟩
    exact ⟨b, cap, zs, rfl, h⟩
theorem FmL_iff {W : World} {t : Fm} {cs : List Value} : FmL W t cs ↔ ∃ a u, cs = [.int .u8 t.op, str t.name, a, u] ∧ TmsLent W t.args a ∧ FmsLent W t.sub u := by
  obtain ⟨op, n, l, sub⟩ := t
  rw [FmL]
  constructor
  · rintro ⟨a, b, cap, zs, rfl, h1, h⟩
    exact ⟨_, _, rfl, h1, b, cap, zs, rfl, h⟩
  · rintro ⟨a, u, rfl, h1, b, cap, zs, rfl, h⟩
    exact ⟨a, b, cap, zs, rfl, h1, h⟩
mutual
theorem TmL.keep {W W' : World} (k : Keeps W W') : ∀ (t : Tm) (cs : List Value), TmL W t cs → TmL W' t cs
  | .mk v n l, cs, h => by
    rw [TmL] at h ⊢
    obtain ⟨b, cap, zs, h1, h2, h3, h4, h5⟩ := h
    exact ⟨b, cap, zs, h1, h2, h3, h4.keep k, TmsC.keep k l zs h5⟩
theorem TmsC.keep {W W' : World} (k : Keeps W W') : ∀ (l : List Tm) (ys : List Value), TmsC W l ys → TmsC W' l ys
  | [], ys, h => by rw [TmsC] at h ⊢; exact h
  | t :: ts, ys, h => by
    rw [TmsC] at h ⊢
    obtain ⟨c, r, e, h1, h2⟩ := h
    exact ⟨c, r, e, TmL.keep k t c h1, TmsC.keep k ts r h2⟩
end
theorem TmsLent.keep {W W' : World} {l : List Tm} {u : Value} (h : TmsLent W l u) (k : Keeps W W') : TmsLent W' l u := by
  obtain ⟨b, cap, zs, h1, h2, h3, h4, h5⟩ := h
  exact ⟨b, cap, zs, h1, h2, h3, h4.keep k, TmsC.keep k l zs h5⟩
mutual
theorem FmL.keep {W W' : World} (k : Keeps W W') : ∀ (t : Fm) (cs : List Value), FmL W t cs → FmL W' t cs
  | .mk op n l sub, cs, h => by
    rw [FmL] at h ⊢
    obtain ⟨a, b, cap, zs, h1, h0, h2, h3, h4, h5⟩ := h
    exact ⟨a, b, cap, zs, h1, h0.keep k, h2, h3, h4.keep k, FmsC.keep k sub zs h5⟩
theorem FmsC.keep {W W' : World} (k : Keeps W W') : ∀ (l : List Fm) (ys : List Value), FmsC W l ys → FmsC W' l ys
  | [], ys, h => by rw [FmsC] at h ⊢; exact h
  | t :: ts, ys, h => by
    rw [FmsC] at h ⊢
    obtain ⟨c, r, e, h1, h2⟩ := h
    exact ⟨c, r, e, FmL.keep k t c h1, FmsC.keep k ts r h2⟩
end
theorem FmsLent.keep {W W' : World} {l : List Fm} {u : Value} (h : FmsLent W l u) (k : Keeps W W') : FmsLent W' l u := by
  obtain ⟨b, cap, zs, h1, h2, h3, h4, h5⟩ := h
  exact ⟨b, cap, zs, h1, h2, h3, h4.keep k, FmsC.keep k l zs h5⟩
/- A lent list is a list. -/
theorem row_sl {W : World} {ds : List D} {zs ms : List Value} {b size n cap : Nat} (h : CellsAt W ds zs) (hr : RowAt W b (zs ++ ms)) (hl : ds.length = n * size) (h1 : n ≤ cap) (h2 : cap ≤ maxLen) : At W (.sl size n ds) (.slice (some ⟨b, 0, none⟩) n cap) :=
  At.sl_mk hl h1 h2 fun j d hd => by
    obtain ⟨u, h3, h4⟩ := h.2 j d hd
    exact ⟨u, by rw [Nat.zero_add]; exact hr.left j u h3, h4⟩
mutual
theorem TmL.cells {W : World} : ∀ (t : Tm) (cs : List Value), TmL W t cs → CellsAt W t.ds cs
  | .mk v n l, cs, h => by
    rw [TmL] at h
    obtain ⟨b, cap, zs, rfl, h2, h3, h4, h5⟩ := h
    rw [tm_ds]
    exact CellsAt.cons rfl (CellsAt.cons rfl (CellsAt.cons (row_sl (TmsC.cells l zs h5) h4 (tmsDs_len l) (by omega) h3) (CellsAt.nil _)))
theorem TmsC.cells {W : World} : ∀ (l : List Tm) (ys : List Value), TmsC W l ys → CellsAt W (tmsDs l) ys
  | [], ys, h => by rw [TmsC] at h; subst h; exact CellsAt.nil _
  | t :: ts, ys, h => by
    rw [TmsC] at h
    obtain ⟨c, r, rfl, h1, h2⟩ := h
    exact (TmL.cells t c h1).append (TmsC.cells ts r h2)
end
theorem TmsLent.at {W : World} {l : List Tm} {u : Value} (h : TmsLent W l u) : TmsAt W l u := by
  obtain ⟨b, cap, zs, rfl, h2, h3, h4, h5⟩ := h
  exact row_sl (TmsC.cells l zs h5) h4 (tmsDs_len l) (by omega) h3
mutual
theorem FmL.cells {W : World} : ∀ (t : Fm) (cs : List Value), FmL W t cs → CellsAt W t.ds cs
  | .mk op n l sub, cs, h => by
    rw [FmL] at h
    obtain ⟨a, b, cap, zs, rfl, h0, h2, h3, h4, h5⟩ := h
    rw [fm_ds]
    exact CellsAt.cons rfl (CellsAt.cons rfl (CellsAt.cons h0.at (CellsAt.cons (row_sl (FmsC.cells sub zs h5) h4 (fmsDs_len sub) (by omega) h3) (CellsAt.nil _))))
theorem FmsC.cells {W : World} : ∀ (l : List Fm) (ys : List Value), FmsC W l ys → CellsAt W (fmsDs l) ys
  | [], ys, h => by rw [FmsC] at h; subst h; exact CellsAt.nil _
  | t :: ts, ys, h => by
    rw [FmsC] at h
    obtain ⟨c, r, rfl, h1, h2⟩ := h
    exact (FmL.cells t c h1).append (FmsC.cells ts r h2)
end
theorem FmsLent.at {W : World} {l : List Fm} {u : Value} (h : FmsLent W l u) : FmsAt W l u := by
  obtain ⟨b, cap, zs, rfl, h2, h3, h4, h5⟩ := h
  exact row_sl (FmsC.cells l zs h5) h4 (fmsDs_len l) (by omega) h3
/- The elements. -/
theorem TmL.len {W : World} {t : Tm} {cs : List Value} (h : TmL W t cs) : cs.length = 3 := by rw [TmL_iff] at h; obtain ⟨u, rfl, _⟩ := h; rfl
theorem FmL.len {W : World} {t : Fm} {cs : List Value} (h : FmL W t cs) : cs.length = 4 := by rw [FmL_iff] at h; obtain ⟨a, u, rfl, _⟩ := h; rfl
theorem TmsC.len {W : World} : ∀ {l : List Tm} {ys : List Value}, TmsC W l ys → ys.length = l.length * 3
  | [], ys, h => by rw [TmsC] at h; subst h; rfl
  | t :: ts, ys, h => by
    rw [TmsC] at h
    obtain ⟨c, r, rfl, h1, h2⟩ := h
    simp only [List.length_append, h1.len, TmsC.len h2, List.length_cons]; omega
theorem FmsC.len {W : World} : ∀ {l : List Fm} {ys : List Value}, FmsC W l ys → ys.length = l.length * 4
  | [], ys, h => by rw [FmsC] at h; subst h; rfl
  | t :: ts, ys, h => by
    rw [FmsC] at h
    obtain ⟨c, r, rfl, h1, h2⟩ := h
    simp only [List.length_append, h1.len, FmsC.len h2, List.length_cons]; omega
theorem TmsC.put {W : World} : ∀ {l : List Tm} {ys : List Value} {t : Tm} {c : List Value}, TmsC W l ys → TmL W t c → TmsC W (l ++ [t]) (ys ++ c)
  | [], ys, t, c, h, h' => by rw [TmsC] at h; subst h; rw [List.nil_append, TmsC]; exact ⟨c, [], by simp, h', by rw [TmsC]⟩
  | x :: l, ys, t, c, h, h' => by
    rw [TmsC] at h
    obtain ⟨d, r, rfl, h1, h2⟩ := h
    rw [List.cons_append, TmsC]
    exact ⟨d, r ++ c, by simp, h1, TmsC.put h2 h'⟩
theorem FmsC.put {W : World} : ∀ {l : List Fm} {ys : List Value} {t : Fm} {c : List Value}, FmsC W l ys → FmL W t c → FmsC W (l ++ [t]) (ys ++ c)
  | [], ys, t, c, h, h' => by rw [FmsC] at h; subst h; rw [List.nil_append, FmsC]; exact ⟨c, [], by simp, h', by rw [FmsC]⟩
  | x :: l, ys, t, c, h, h' => by
    rw [FmsC] at h
    obtain ⟨d, r, rfl, h1, h2⟩ := h
    rw [List.cons_append, FmsC]
    exact ⟨d, r ++ c, by simp, h1, FmsC.put h2 h'⟩
theorem TmsC.get {W : World} : ∀ {l : List Tm} {ys : List Value} {j : Nat} {t : Tm}, TmsC W l ys → l[j]? = some t → ∃ u, ys[j * 3]? = some (.bool t.v) ∧ ys[j * 3 + 1]? = some (str t.name) ∧ ys[j * 3 + 2]? = some u ∧ TmsLent W t.args u
  | [], ys, j, t, h, e => by simp at e
  | x :: l, ys, 0, t, h, e => by
    rw [TmsC] at h
    obtain ⟨d, r, rfl, h1, h2⟩ := h
    simp at e; subst e
    rw [TmL_iff] at h1
    obtain ⟨u, rfl, h3⟩ := h1
    exact ⟨u, rfl, rfl, rfl, h3⟩
  | x :: l, ys, j + 1, t, h, e => by
    rw [TmsC] at h
    obtain ⟨d, r, rfl, h1, h2⟩ := h
    obtain ⟨u, e0, e1, e2, h3⟩ := TmsC.get (j := j) h2 (by simpa using e)
    have hd := h1.len
    refine ⟨u, ?_, ?_, ?_, h3⟩
    · rw [List.getElem?_append_right (by omega), hd, show (j + 1) * 3 - 3 = j * 3 by omega]; exact e0
    · rw [List.getElem?_append_right (by omega), hd, show (j + 1) * 3 + 1 - 3 = j * 3 + 1 by omega]; exact e1
    · rw [List.getElem?_append_right (by omega), hd, show (j + 1) * 3 + 2 - 3 = j * 3 + 2 by omega]; exact e2
theorem FmsC.get {W : World} : ∀ {l : List Fm} {ys : List Value} {j : Nat} {t : Fm}, FmsC W l ys → l[j]? = some t → ∃ a u, ys[j * 4]? = some (.int .u8 t.op) ∧ ys[j * 4 + 1]? = some (str t.name) ∧ ys[j * 4 + 2]? = some a ∧ ys[j * 4 + 3]? = some u ∧ TmsLent W t.args a ∧ FmsLent W t.sub u
  | [], ys, j, t, h, e => by simp at e
  | x :: l, ys, 0, t, h, e => by
    rw [FmsC] at h
    obtain ⟨d, r, rfl, h1, h2⟩ := h
    simp at e; subst e
    rw [FmL_iff] at h1
    obtain ⟨a, u, rfl, h3, h4⟩ := h1
    exact ⟨a, u, rfl, rfl, rfl, rfl, h3, h4⟩
  | x :: l, ys, j + 1, t, h, e => by
    rw [FmsC] at h
    obtain ⟨d, r, rfl, h1, h2⟩ := h
    obtain ⟨a, u, e0, e1, e2, e3, h3⟩ := FmsC.get (j := j) h2 (by simpa using e)
    have hd := h1.len
    refine ⟨a, u, ?_, ?_, ?_, ?_, h3⟩
    · rw [List.getElem?_append_right (by omega), hd, show (j + 1) * 4 - 4 = j * 4 by omega]; exact e0
    · rw [List.getElem?_append_right (by omega), hd, show (j + 1) * 4 + 1 - 4 = j * 4 + 1 by omega]; exact e1
    · rw [List.getElem?_append_right (by omega), hd, show (j + 1) * 4 + 2 - 4 = j * 4 + 2 by omega]; exact e2
    · rw [List.getElem?_append_right (by omega), hd, show (j + 1) * 4 + 3 - 4 = j * 4 + 3 by omega]; exact e3
theorem tmMarks_succ (n : Nat) : tmMarks (n + 1) = tmMarks n ++ tmMark n := by simp [tmMarks, List.range_succ]
theorem fmMarks_succ (n : Nat) : fmMarks (n + 1) = fmMarks n ++ fmMark n := by simp [fmMarks, List.range_succ]
theorem tmMarks_get {i : Nat} (h : i < 12) : (tmMarks 12)[i * 3]? = some (.bool false) ∧ (tmMarks 12)[i * 3 + 1]? = some (str (mkText i)) ∧ (tmMarks 12)[i * 3 + 2]? = some (.slice none 0 0) := by
  rcases (show i = 0 ∨ i = 1 ∨ i = 2 ∨ i = 3 ∨ i = 4 ∨ i = 5 ∨ i = 6 ∨ i = 7 ∨ i = 8 ∨ i = 9 ∨ i = 10 ∨ i = 11 by omega) with rfl | rfl | rfl | rfl | rfl | rfl | rfl | rfl | rfl | rfl | rfl | rfl <;> exact ⟨rfl, rfl, rfl⟩
theorem fmMarks_get {i : Nat} (h : i < 12) : (fmMarks 12)[i * 4]? = some (.int .u8 0) ∧ (fmMarks 12)[i * 4 + 1]? = some (str (mkText i)) ∧ (fmMarks 12)[i * 4 + 2]? = some (.slice none 0 0) ∧ (fmMarks 12)[i * 4 + 3]? = some (.slice none 0 0) := by
  rcases (show i = 0 ∨ i = 1 ∨ i = 2 ∨ i = 3 ∨ i = 4 ∨ i = 5 ∨ i = 6 ∨ i = 7 ∨ i = 8 ∨ i = 9 ∨ i = 10 ∨ i = 11 by omega) with rfl | rfl | rfl | rfl | rfl | rfl | rfl | rfl | rfl | rfl | rfl | rfl <;> exact ⟨rfl, rfl, rfl, rfl⟩
end Go.Proofs.YtcandidgaegghaaGreatDoor
end
section
namespace Go.Proofs.YtcandidgaegghaaGreatDoor
open Go Go.RowKit Ly
set_option maxRecDepth 10000
set_option linter.unusedSimpArgs false
set_option linter.unusedVariables false
set_option maxHeartbeats 1600000
theorem mark_run (i : Nat) (hi : i < 12) (w : World) : (convert 43 9 (.slice (some ⟨w.heap.size, 0, none⟩) 8 8)).run Tryz.prog (w.alloc (.cells #[.int .u8 35, .int .u8 1, .int .u8 0, .int .u8 0, .int .u8 47, .int .u8 i, .int .u8 0, .int .u8 0] 5)) = .ok (str (mkText i)) (w.alloc (.cells #[.int .u8 35, .int .u8 1, .int .u8 0, .int .u8 0, .int .u8 47, .int .u8 i, .int .u8 0, .int .u8 0] 5)) := by
  have h := run_convert_bytes_back (P := Tryz.prog) (w.alloc (.cells #[.int .u8 35, .int .u8 1, .int .u8 0, .int .u8 0, .int .u8 47, .int .u8 i, .int .u8 0, .int .u8 0] 5)) 43 9 5 ⟨w.heap.size, 0, none⟩ 8 (mkText i) Tryz.underlying43 Tryz.underlying5 Tryz.underlying9 (fun j hj => by
    have hl : (mkText i).length = 8 := rfl
    rw [show ((⟨w.heap.size, 0, none⟩ : Addr).add j) = ⟨w.heap.size, j, none⟩ by simp [Addr.add]; omega, box_cell (heap_alloc_new w _)]
    rcases (show j = 0 ∨ j = 1 ∨ j = 2 ∨ j = 3 ∨ j = 4 ∨ j = 5 ∨ j = 6 ∨ j = 7 by omega) with rfl | rfl | rfl | rfl | rfl | rfl | rfl | rfl
    all_goals first
      | rfl
      | (show some (Value.int .u8 i) = some (.int .u8 ((UInt8.ofNat i).toNat : Int))
         have : (UInt8.ofNat i).toNat = i := by simp; omega
         rw [this]))
  exact h
theorem markText_c (i : Nat) (hi : i < 12) (w : World) : Calls Tryz.prog 182 #[.int .i64 1, .int .i64 i] w fun e w' => e = .returned (str (mkText i)) ∧ Below w.heap.size w w' := by
  rcases (show i = 0 ∨ i = 1 ∨ i = 2 ∨ i = 3 ∨ i = 4 ∨ i = 5 ∨ i = 6 ∨ i = 7 ∨ i = 8 ∨ i = 9 ∨ i = 10 ∨ i = 11 by omega) with rfl | rfl | rfl | rfl | rfl | rfl | rfl | rfl | rfl | rfl | rfl | rfl
  all_goals
    have hrun := mark_run _ hi w
    push_cast at hrun
    clear hi
    go_enter Tryz.func182, Tryz.ntmps182
    go_wp2_with fail
    go_ret
    exact ⟨rfl, (Below.refl _ _).alloc (Nat.le_refl _) _⟩
theorem markTerm_c (i : Nat) (hi : i < 12) (w : World) : Calls Tryz.prog 206 #[.int .i64 1, .int .i64 i] w fun e w' => e = .returned (.agg #[.bool false, str (mkText i), .slice none 0 0]) ∧ Below w.heap.size w w' := by
  have HB : Hid (Below w.heap.size w (w.alloc (.cells #[.bool false, str [], .slice none 0 0] 95))) := (Below.refl _ _).alloc (Nat.le_refl _) _
  have HG := Lib.hid (heap_alloc_new w (.cells #[.bool false, str [], .slice none 0 0] 95))
  have R : Hid (∀ W, Calls Tryz.prog 182 #[.int .i64 1, .int .i64 i] W fun e w' => e = .returned (str (mkText i)) ∧ Below W.heap.size W w') := fun W => markText_c i hi W
  generalize mkText i = M at R
  go_enter Tryz.func206, Tryz.ntmps206
  go_wp2_with (go_at_call 182; refine (R.out _).mono ?_; rintro e w1 ⟨rfl, b1⟩; have B1 := Lib.hid (belowThen HB.out b1); have G1 := Lib.hid (kc b1 HG.out); clear b1; obtain ⟨c0, c1, c2, f0, f1, f2⟩ := row95 G1.out)
  have g1 := set_block (o := 0) (u := .bool false) G1.out
  have g2 := set_block (o := 1) (u := str M) g1
  have g3 := set_block (o := 2) (u := .slice none 0 0) g2
  refine bodyPost_ret (res95 rfl _ _ w.heap.size _ _ _ (0, 0) rfl g3) rfl ?_
  exact ⟨rfl, ((B1.out.setCell (by simp) _).setCell (by simp) _).setCell (by simp) _⟩
theorem markForm_c (i : Nat) (hi : i < 12) (w : World) : Calls Tryz.prog 207 #[.int .i64 1, .int .i64 i] w fun e w' => e = .returned (.agg #[.int .u8 0, str (mkText i), .slice none 0 0, .slice none 0 0]) ∧ Below w.heap.size w w' := by
  have HB : Hid (Below w.heap.size w (w.alloc (.cells #[.int .u8 0, str [], .slice none 0 0, .slice none 0 0] 25))) := (Below.refl _ _).alloc (Nat.le_refl _) _
  have HG := Lib.hid (heap_alloc_new w (.cells #[.int .u8 0, str [], .slice none 0 0, .slice none 0 0] 25))
  have R : Hid (∀ W, Calls Tryz.prog 182 #[.int .i64 1, .int .i64 i] W fun e w' => e = .returned (str (mkText i)) ∧ Below W.heap.size W w') := fun W => markText_c i hi W
  generalize mkText i = M at R
  go_enter Tryz.func207, Tryz.ntmps207
  go_wp2_with (go_at_call 182; refine (R.out _).mono ?_; rintro e w1 ⟨rfl, b1⟩; have B1 := Lib.hid (belowThen HB.out b1); have G1 := Lib.hid (kc b1 HG.out); clear b1; obtain ⟨c0, c1, c2, c3, f0, f1, f2, f3⟩ := row25 G1.out)
  have g1 := set_block (o := 0) (u := .int .u8 0) G1.out
  have g2 := set_block (o := 1) (u := str M) g1
  have g3 := set_block (o := 2) (u := .slice none 0 0) g2
  have g4 := set_block (o := 3) (u := .slice none 0 0) g3
  refine bodyPost_ret (res25 rfl _ _ w.heap.size _ _ _ _ (0, 0) rfl g4) rfl ?_
  exact ⟨rfl, (((B1.out.setCell (by simp) _).setCell (by simp) _).setCell (by simp) _).setCell (by simp) _⟩
theorem own_other {w w' : World} {B g n c size : Nat} {e : TypeId} {xs : List Value} (h : w.ownsRow B e size (.slice (some ⟨g, 0, none⟩) n c) n xs) (hb : w'.heap[g]? = w.heap[g]?) : w'.ownsRow B e size (.slice (some ⟨g, 0, none⟩) n c) n xs := by
  refine ⟨h.1, ?_⟩
  rcases h.2 with ⟨h1, _⟩ | ⟨g', cap, cur, h1, h2, h3, h4⟩
  · cases h1
  · simp only [Value.slice.injEq, Option.some.injEq, Addr.mk.injEq, and_true, true_and] at h1
    obtain ⟨rfl, rfl⟩ := h1
    exact .inr ⟨g, c, cur, rfl, h2, hb.trans h3, h4⟩
theorem below_grown {w w' : World} {B : Nat} {row : Option Nat} (h : w.grownBy w' row) (hr : ∀ g, row = some g → B ≤ g) (hB : B ≤ w.heap.size) : Below B w w' :=
  ⟨h.os, h.tape, h.output, h.size, fun k hk => h.block k (Nat.lt_of_lt_of_le hk hB) (fun e => by have := hr k e.symm; omega)⟩
/-- What has been laid: the elements so far, in a row at the block g, and then marks. -/
structure LtRel (w : World) (l : List Tm) (g k j i : Nat) (W : World) : Prop where
  own : ∃ xs, W.ownsRow g 95 3 (.slice (some ⟨g, 0, none⟩) (j + i) (k + 12)) (j + i) (xs ++ tmMarks i) ∧ TmsC (hide (fun n => decide (n < g + 1)) W) (l.take j) xs
  bw : Below w.heap.size w W
  lt : g < W.heap.size
  ge : w.heap.size ≤ g
theorem keep_above {W W' : World} {g : Nat} (b : ∀ k, k < W.heap.size → g < k → W'.heap[k]? = W.heap[k]?) : Keeps (hide (fun n => decide (n < g + 1)) W) (hide (fun n => decide (n < g + 1)) W') :=
  hide_keeps2 fun k h1 h2 => ⟨h2, b k h1 (by simp at h2; omega)⟩
theorem LtRel.moved {w : World} {l : List Tm} {g k j i : Nat} {W W' : World} (h : LtRel w l g k j i W) (b : Below W.heap.size W W') : LtRel w l g k j i W' := by
  obtain ⟨⟨xs, h1, h2⟩, h3, h4, h5⟩ := h
  exact ⟨⟨xs, own_other h1 (b.block g h4), TmsC.keep (keep_above fun k h _ => b.block k h) _ _ h2⟩, belowThen h3 b, Nat.lt_of_lt_of_le h4 b.size, h5⟩
theorem LtRel.put {w : World} {l : List Tm} {g k j : Nat} {W W' : World} {T : Tm} {c xs : List Value} (h2 : TmsC (hide (fun n => decide (n < g + 1)) W) (l.take j) xs) (h3 : Below w.heap.size w W) (h4 : g < W.heap.size) (h5 : w.heap.size ≤ g) (hT : l[j]? = some T) (hc : TmL (hide (fun n => decide (n < g + 1)) W) T c)
    (ho : W'.ownsRow g 95 3 (.slice (some ⟨g, 0, none⟩) (j + 1) (k + 12)) (j + 1) (xs ++ c)) (hg : W.grownBy W' (some g)) : LtRel w l g k (j + 1) 0 W' := by
  have K : Keeps (hide (fun n => decide (n < g + 1)) W) (hide (fun n => decide (n < g + 1)) W') := keep_above fun k h h' => hg.block k h (by simp; omega)
  refine ⟨⟨xs ++ c, by simpa [tmMarks] using ho, ?_⟩, h3.trans (below_grown hg (fun x e => by cases e; exact h5) (Nat.le_trans h5 (Nat.le_of_lt h4))), Nat.lt_of_lt_of_le h4 hg.size, h5⟩
  have e : l.take (j + 1) = l.take j ++ [T] := by rw [List.take_add_one, hT]; rfl
  rw [e]
  exact TmsC.put (TmsC.keep K _ _ h2) (TmL.keep K _ _ hc)
theorem LtRel.mark {w : World} {l : List Tm} {g k i : Nat} {W W' : World} {xs : List Value} (h2 : TmsC (hide (fun n => decide (n < g + 1)) W) (l.take k) xs) (h3 : Below w.heap.size w W) (h4 : g < W.heap.size) (h5 : w.heap.size ≤ g)
    (ho : W'.ownsRow g 95 3 (.slice (some ⟨g, 0, none⟩) (k + i + 1) (k + 12)) (k + i + 1) (xs ++ tmMarks i ++ [.bool false, str (mkText i), .slice none 0 0])) (hg : W.grownBy W' (some g)) : LtRel w l g k k (i + 1) W' := by
  have K : Keeps (hide (fun n => decide (n < g + 1)) W) (hide (fun n => decide (n < g + 1)) W') := keep_above fun k h h' => hg.block k h (by simp; omega)
  refine ⟨⟨xs, ?_, TmsC.keep K _ _ h2⟩, h3.trans (below_grown hg (fun x e => by cases e; exact h5) (Nat.le_trans h5 (Nat.le_of_lt h4))), Nat.lt_of_lt_of_le h4 hg.size, h5⟩
  rw [tmMarks_succ, ← List.append_assoc]
  exact ho
theorem LtRel.lent {w : World} {l : List Tm} {g k : Nat} {W : World} (h : LtRel w l g k k 12 W) (hk : k = l.length) (hm : k + 12 ≤ maxLen) : TmsLent (hide (lo w) W) l (.slice (some ⟨g, 0, none⟩) k (k + 12)) := by
  obtain ⟨⟨xs, h1, h2⟩, h3, h4, h5⟩ := h
  rw [List.take_of_length_le (by omega)] at h2
  subst hk
  refine ⟨g, _, xs, rfl, Nat.le_refl _, hm, ?_, ?_⟩
  · intro j u hu
    have := h1.cells (g := g) rfl j u hu
    rw [show ((⟨g, 0, none⟩ : Addr).add j) = ⟨g, j, none⟩ by simp [Addr.add]; omega] at this
    rw [hide_cell (by simp [lo]; omega)]
    exact this
  · exact TmsC.keep (hide_keeps2 fun k h6 h7 => ⟨by simp at h7; simp [lo]; omega, rfl⟩) _ _ h2
theorem LtRel.new {w w1 : World} {l : List Tm} {k : Nat} (h : w1.ownsRow w.heap.size 95 3 (.slice (some ⟨w.heap.size, 0, none⟩) 0 (k + 12)) 0 []) (hg : w.grownBy w1 none) : LtRel w l w.heap.size k 0 0 w1 :=
  ⟨⟨[], by simpa [tmMarks] using h, by rw [List.take_zero, TmsC]⟩, below_grown hg (fun _ e => by cases e) (Nat.le_refl _), (h.lt _ rfl).2, Nat.le_refl _⟩
theorem LtRel.first {w W : World} {l : List Tm} {g k j : Nat} (h : LtRel w l g k j 0 W) : ∃ xs, W.ownsRow g 95 3 (.slice (some ⟨g, 0, none⟩) j (k + 12)) j xs ∧ TmsC (hide (fun n => decide (n < g + 1)) W) (l.take j) xs := by
  obtain ⟨xs, h1, h2⟩ := h.own
  exact ⟨xs, by simpa [tmMarks] using h1, h2⟩
theorem news3' (w : World) (o : Obj) (a b c : Value) (t : TypeId) : ∀ (j : Nat) (u : Value), [a, b, c][j]? = some u → ((w.alloc o).alloc (.cells #[a, b, c] t)).cell? ((⟨w.heap.size + 1, 0, none⟩ : Addr).add j) = some u := by
  have := news3 (w.alloc o) a b c t
  rwa [World.size_alloc] at this
def LtS (l : List Tm) : Prop := ∀ (w : World) (a : Option Addr) (k c : Nat), TmsAt w l (.slice a k c) → tmsNodes l ≤ 1000 → Calls Tryz.prog 126 #[.slice a k c] w fun e w' => ∃ b cap, e = .returned (.slice (some ⟨b, 0, none⟩) k cap) ∧ TmsLent (hide (lo w) w') l (.slice (some ⟨b, 0, none⟩) k cap) ∧ Below w.heap.size w w'
def LtT (t : Tm) : Prop := ∀ (w : World) (x : Value), TmVal w t x → t.nodes ≤ 1000 → Calls Tryz.prog 205 #[x] w fun e w' => ∃ b n cap, e = .returned (.agg #[.bool t.v, str t.name, .slice (some ⟨b, 0, none⟩) n cap]) ∧ TmsLent (hide (lo w) w') t.args (.slice (some ⟨b, 0, none⟩) n cap) ∧ Below w.heap.size w w'
theorem lt_of (t : Tm) (h : LtS t.args) : LtT t := by
  intro w x hx hn
  obtain ⟨a, k, c, rfl, hx⟩ := hx
  have hna : tmsNodes t.args ≤ 1000 := by cases t; rw [Tm.nodes] at hn; simp only [Tm.args]; omega
  have K2 := keeps2 w (.cells #[.bool t.v, str t.name, .slice a k c] 95) (.cells #[.bool false, str [], .slice none 0 0] 95)
  have R := Lib.hid (h ((w.alloc (.cells #[.bool t.v, str t.name, .slice a k c] 95)).alloc (.cells #[.bool false, str [], .slice none 0 0] 95)) a k c (hx.keep K2) hna)
  have G0 : Hid (((w.alloc (.cells #[.bool t.v, str t.name, .slice a k c] 95)).alloc (.cells #[.bool false, str [], .slice none 0 0] 95)).heap[w.heap.size]? = some (.cells #[.bool t.v, str t.name, .slice a k c] 95 (0, 0))) := kc ((Below.refl _ _).alloc (Nat.le_refl _) _) (heap_alloc_new w _)
  have G1 : Hid (((w.alloc (.cells #[.bool t.v, str t.name, .slice a k c] 95)).alloc (.cells #[.bool false, str [], .slice none 0 0] 95)).heap[w.heap.size + 1]? = some (.cells #[.bool false, str [], .slice none 0 0] 95 (0, 0))) := by
    have := heap_alloc_new (w.alloc (.cells #[.bool t.v, str t.name, .slice a k c] 95)) (.cells #[.bool false, str [], .slice none 0 0] 95)
    rwa [World.size_alloc] at this
  clear h hx hn hna K2
  go_enter Tryz.func205, Tryz.ntmps205
  go_wp2_with (go_at_call 126; refine R.out.mono ?_; rintro e w1 ⟨b, cap, rfl, hl, b1⟩; have HL := Lib.hid (And.intro hl b1); have E0 := Lib.hid (kc b1 G0.out); have E1 := Lib.hid (kc b1 G1.out); clear hl b1; obtain ⟨c0, c1, c2, f0, f1, f2⟩ := row95' E0.out; obtain ⟨d0, d1, d2, h0, h1, h2⟩ := row95' E1.out)
  obtain ⟨hl, b1⟩ := HL.out
  have g0 : (w1.setCell ⟨w.heap.size, 2, none⟩ (.slice (some ⟨b, 0, none⟩) k cap)).heap[w.heap.size + 1]? = some (.cells #[.bool false, str [], .slice none 0 0] 95 (0, 0)) := (Below.heap_setCell _ _ _ _ (by simp)).trans E1.out
  have g1 := set_block (o := 0) (u := .bool t.v) g0
  have g2 := set_block (o := 1) (u := str t.name) g1
  have g3 := set_block (o := 2) (u := .slice (some ⟨b, 0, none⟩) k cap) g2
  have B : Below w.heap.size w w1 := below2 b1
  refine bodyPost_ret (res95 rfl _ _ (w.heap.size + 1) _ _ _ (0, 0) rfl g3) rfl ?_
  refine ⟨b, k, cap, rfl, TmsLent.keep hl (hide_keeps2 fun i h1 h2 => ?_), (((B.setCell (by simp) _).setCell (by simp) _).setCell (by simp) _).setCell (by simp) _⟩
  simp only [lo, World.size_alloc, decide_eq_false_iff_not, Nat.not_lt] at h2 ⊢
  exact ⟨by omega, by rw [Below.heap_setCell _ _ _ _ (by simp; omega), Below.heap_setCell _ _ _ _ (by simp; omega), Below.heap_setCell _ _ _ _ (by simp; omega), Below.heap_setCell _ _ _ _ (by simp; omega)]⟩
theorem tmsNodes_len : ∀ l : List Tm, l.length ≤ tmsNodes l
  | [] => Nat.le_refl _
  | t :: ts => by have := tmsNodes_len ts; cases t; rw [tmsNodes, Tm.nodes, List.length_cons]; omega
theorem tmsNodes_mem {l : List Tm} {t : Tm} (h : t ∈ l) : t.nodes ≤ tmsNodes l := by
  induction l with
  | nil => cases h
  | cons x l ih =>
    rw [tmsNodes]
    rcases List.mem_cons.1 h with rfl | h
    · omega
    · have := ih h; omega
theorem one95 (v : Bool) (n : Bs) (u : Value) (hu : u.oneCell' = true) : ∀ x ∈ [Value.bool v, str n, u], x.oneCell' = true := by
  intro x hx
  simp only [List.mem_cons, List.not_mem_nil, or_false] at hx
  rcases hx with rfl | rfl | rfl
  · rfl
  · rfl
  · exact hu
theorem lts_step (l : List Tm) (hh : ∀ t ∈ l, LtT t) : LtS l := by
  intro w a k c hx hn
  have hk := hx.len
  have hlen : k ≤ 1000 := by have := tmsNodes_len l; omega
  have L1 := Lib.hid hk.1
  have H := Lib.hid hh
  have HX := Lib.hid hx
  have HN : Hid (∀ t ∈ l, t.nodes ≤ 1000) := fun t ht => Nat.le_trans (tmsNodes_mem ht) hn
  obtain ⟨i0, hi0, hz0, hs0, hb0⟩ := info_parts info95
  clear hk hh hx hn
  go_enter Tryz.func126, Tryz.ntmps126
  go_wp2_with (at_make; refine wpList_make_own _ rfl _ _ 22 rfl w.heap.size 95 i0 (.agg #[.bool false, .string ⟨#[]⟩, .slice none 0 0]) 3 Tryz.underlying22 hi0 hz0 hs0 _ _ _ (k + 12) rfl rfl (by first | rfl | omega) (by rw [hb0]; omega) (by unfold maxLen; omega) (Nat.le_refl _) ?_; intro w1 hown1 hgrow1)
  go_loopw [3, 4] (fun u i wr => ∃ j : Nat, j ≤ k ∧ i = .int .i64 j ∧ u = .slice (some ⟨w.heap.size, 0, none⟩) j (k + 12) ∧ Hid (LtRel w l w.heap.size k j 0 wr)) (fun _ i _ => k - (intOf i).toNat)
  case atStart => exact ⟨0, Nat.zero_le _, rfl, rfl, LtRel.new hown1 hgrow1⟩
  case round =>
    clear hown1 hgrow1
    obtain ⟨j, hj, rfl, rfl, hs⟩ := hrel
    by_cases hlt : j < k
    · obtain ⟨T, hT⟩ := get_of_lt (l := l) (j := j) (by rw [← L1.out]; exact hlt)
      obtain ⟨bb, off, rfl, hc⟩ := HX.out.get (ne_of_get hT)
      obtain ⟨y0, y1, y2, hy⟩ := hc j _ hT
      have hK := keeps_of_below hs.out.bw
      have c0 := hK _ _ hy.c0; have c1 := hK _ _ hy.c1; have c2 := hK _ _ hy.c2
      have X : Hid (TmVal wr T (.agg #[.bool T.v, str T.name, .slice y0 y1 y2])) := ⟨_, _, _, rfl, hy.at_.keep hK⟩
      have HT := Lib.hid hT
      clear hc hy hT hK
      go_wp2_with (first
        | (go_at_call 205; refine (H.out T (List.mem_of_getElem? HT.out) _ _ X.out (HN.out T (List.mem_of_getElem? HT.out))).mono ?_; rintro e w3 ⟨b, n, cap, rfl, hl, b3⟩; obtain ⟨xs, o3, t3⟩ := (hs.out.moved b3).first; have OW := Lib.hid o3; have TC := Lib.hid t3; have HL := Lib.hid (And.intro hl b3); clear hl b3 o3 t3)
        | (at_builtin; refine wpList_append_fits _ rfl _ _ 22 rfl w.heap.size 95 i0 3 Tryz.underlying22 hi0 hs0 w.heap.size j (k + 12) _ rfl ((OW.out.alloc _).alloc _) ⟨w3.heap.size + 1, 0, none⟩ 1 1 [.bool T.v, str T.name, .slice (some ⟨b, 0, none⟩) n cap] rfl rfl (news3' _ _ _ _ _ _) (one95 _ _ _ rfl) (by omega) ?_; intro w4 hown4 hgrow4))
      go_roundw
      case rel =>
        refine ⟨j + 1, by omega, by go_num, rfl, ?_⟩
        obtain ⟨hl, b3⟩ := HL.out
        have LR := hs.out.moved b3
        have bA : ∀ o o', Below w3.heap.size w3 ((w3.alloc o).alloc o') := fun o o' => ((Below.refl _ _).alloc (Nat.le_refl _) _).alloc (by simp) _
        have e1 := LR.lt
        have e2 := LR.ge
        have e3 := hs.out.lt
        exact LtRel.put (TmsC.keep (keep_above fun i h _ => (bA _ _).block i h) _ _ TC.out) (belowThen LR.bw (bA _ _)) (by simp; omega) e2 HT.out
          (TmL_iff.2 ⟨_, rfl, TmsLent.keep hl (hide_keeps2 fun i h1 h2 => by simp only [lo, decide_eq_false_iff_not, Nat.not_lt] at h2 ⊢; exact ⟨by omega, (bA _ _).block i h1⟩)⟩) hown4 hgrow4
      case measure => simp [intOf]; omega
    · have hjk : j = k := by omega
      have LR := Lib.hid hs.out
      subst hjk
      clear hs H HX HN
      go_wp2_with fail
      go_loopw [3, 6] (fun u i wr => ∃ p : Nat, p ≤ 12 ∧ i = .int .i64 p ∧ u = .slice (some ⟨w.heap.size, 0, none⟩) (j + p) (j + 12) ∧ Hid (LtRel w l w.heap.size j j p wr)) (fun _ i _ => 12 - (intOf i).toNat)
      case atStart => exact ⟨0, by omega, rfl, rfl, LR.out⟩
      case round =>
        clear LR
        obtain ⟨p, hp, rfl, rfl, hs⟩ := hrel
        by_cases hlt : p < 12
        · go_wp2_with (first
            | (go_at_call 206; refine (markTerm_c p hlt _).mono ?_; rintro e w3 ⟨rfl, b3⟩; obtain ⟨xs, o3, t3⟩ := (hs.out.moved b3).own; have OW := Lib.hid o3; have TC := Lib.hid t3; have B3 := Lib.hid b3; clear b3 o3 t3)
            | (at_builtin; refine wpList_append_fits _ rfl _ _ 22 rfl w.heap.size 95 i0 3 Tryz.underlying22 hi0 hs0 w.heap.size (j + p) (j + 12) _ rfl (OW.out.alloc _) ⟨w3.heap.size, 0, none⟩ 1 1 [.bool false, str (mkText p), .slice none 0 0] rfl rfl (news3 _ _ _ _ _) (one95 _ _ _ rfl) (by omega) ?_; intro w4 hown4 hgrow4))
          go_roundw
          case rel =>
            refine ⟨p + 1, by omega, by go_num, rfl, ?_⟩
            have LR := hs.out.moved B3.out
            have bA : ∀ o, Below w3.heap.size w3 (w3.alloc o) := fun o => (Below.refl _ _).alloc (Nat.le_refl _) _
            have e1 := LR.lt
            have e2 := LR.ge
            exact LtRel.mark (TmsC.keep (keep_above fun i h _ => (bA _).block i h) _ _ TC.out) (belowThen LR.bw (bA _)) (by simp; omega) e2 hown4 hgrow4
          case measure => simp [intOf]; omega
        · have hp12 : p = 12 := by omega
          subst hp12
          have LE := Lib.hid (hs.out.lent L1.out (by unfold maxLen; omega))
          have LB := Lib.hid hs.out.bw
          clear hs
          go_wp2_with fail
          go_ret
          exact ⟨_, _, rfl, LE.out, LB.out⟩
mutual
theorem lentTerm_c : ∀ t : Tm, LtT t
  | .mk v n ts => lt_of _ (lts_step ts (lentAll ts))
theorem lentAll : ∀ l : List Tm, ∀ t ∈ l, LtT t
  | [], _, h => by cases h
  | x :: xs, t, h => by
    rcases List.mem_cons.1 h with e | e
    · rw [e]; exact lentTerm_c x
    · exact lentAll xs t e
end
theorem lentTerms_c (l : List Tm) : LtS l := lts_step l (lentAll l)
end Go.Proofs.YtcandidgaegghaaGreatDoor
end
section
namespace Go.Proofs.YtcandidgaegghaaGreatDoor
open Go Go.RowKit Ly
set_option maxRecDepth 10000
set_option linter.unusedSimpArgs false
set_option linter.unusedVariables false
set_option maxHeartbeats 1600000
/-- What has been laid: the elements so far, in a row at the block g, and then marks. -/
structure LfRel (w : World) (l : List Fm) (g k j i : Nat) (W : World) : Prop where
  own : ∃ xs, W.ownsRow g 25 4 (.slice (some ⟨g, 0, none⟩) (j + i) (k + 12)) (j + i) (xs ++ fmMarks i) ∧ FmsC (hide (fun n => decide (n < g + 1)) W) (l.take j) xs
  bw : Below w.heap.size w W
  lt : g < W.heap.size
  ge : w.heap.size ≤ g
theorem LfRel.moved {w : World} {l : List Fm} {g k j i : Nat} {W W' : World} (h : LfRel w l g k j i W) (b : Below W.heap.size W W') : LfRel w l g k j i W' := by
  obtain ⟨⟨xs, h1, h2⟩, h3, h4, h5⟩ := h
  exact ⟨⟨xs, own_other h1 (b.block g h4), FmsC.keep (keep_above fun k h _ => b.block k h) _ _ h2⟩, belowThen h3 b, Nat.lt_of_lt_of_le h4 b.size, h5⟩
theorem LfRel.put {w : World} {l : List Fm} {g k j : Nat} {W W' : World} {T : Fm} {c xs : List Value} (h2 : FmsC (hide (fun n => decide (n < g + 1)) W) (l.take j) xs) (h3 : Below w.heap.size w W) (h4 : g < W.heap.size) (h5 : w.heap.size ≤ g) (hT : l[j]? = some T) (hc : FmL (hide (fun n => decide (n < g + 1)) W) T c)
    (ho : W'.ownsRow g 25 4 (.slice (some ⟨g, 0, none⟩) (j + 1) (k + 12)) (j + 1) (xs ++ c)) (hg : W.grownBy W' (some g)) : LfRel w l g k (j + 1) 0 W' := by
  have K : Keeps (hide (fun n => decide (n < g + 1)) W) (hide (fun n => decide (n < g + 1)) W') := keep_above fun k h h' => hg.block k h (by simp; omega)
  refine ⟨⟨xs ++ c, by simpa [fmMarks] using ho, ?_⟩, h3.trans (below_grown hg (fun x e => by cases e; exact h5) (Nat.le_trans h5 (Nat.le_of_lt h4))), Nat.lt_of_lt_of_le h4 hg.size, h5⟩
  have e : l.take (j + 1) = l.take j ++ [T] := by rw [List.take_add_one, hT]; rfl
  rw [e]
  exact FmsC.put (FmsC.keep K _ _ h2) (FmL.keep K _ _ hc)
theorem LfRel.mark {w : World} {l : List Fm} {g k i : Nat} {W W' : World} {xs : List Value} (h2 : FmsC (hide (fun n => decide (n < g + 1)) W) (l.take k) xs) (h3 : Below w.heap.size w W) (h4 : g < W.heap.size) (h5 : w.heap.size ≤ g)
    (ho : W'.ownsRow g 25 4 (.slice (some ⟨g, 0, none⟩) (k + i + 1) (k + 12)) (k + i + 1) (xs ++ fmMarks i ++ [.int .u8 0, str (mkText i), .slice none 0 0, .slice none 0 0])) (hg : W.grownBy W' (some g)) : LfRel w l g k k (i + 1) W' := by
  have K : Keeps (hide (fun n => decide (n < g + 1)) W) (hide (fun n => decide (n < g + 1)) W') := keep_above fun k h h' => hg.block k h (by simp; omega)
  refine ⟨⟨xs, ?_, FmsC.keep K _ _ h2⟩, h3.trans (below_grown hg (fun x e => by cases e; exact h5) (Nat.le_trans h5 (Nat.le_of_lt h4))), Nat.lt_of_lt_of_le h4 hg.size, h5⟩
  rw [fmMarks_succ, ← List.append_assoc]
  exact ho
theorem LfRel.lent {w : World} {l : List Fm} {g k : Nat} {W : World} (h : LfRel w l g k k 12 W) (hk : k = l.length) (hm : k + 12 ≤ maxLen) : FmsLent (hide (lo w) W) l (.slice (some ⟨g, 0, none⟩) k (k + 12)) := by
  obtain ⟨⟨xs, h1, h2⟩, h3, h4, h5⟩ := h
  rw [List.take_of_length_le (by omega)] at h2
  subst hk
  refine ⟨g, _, xs, rfl, Nat.le_refl _, hm, ?_, ?_⟩
  · intro j u hu
    have := h1.cells (g := g) rfl j u hu
    rw [show ((⟨g, 0, none⟩ : Addr).add j) = ⟨g, j, none⟩ by simp [Addr.add]; omega] at this
    rw [hide_cell (by simp [lo]; omega)]
    exact this
  · exact FmsC.keep (hide_keeps2 fun k h6 h7 => ⟨by simp at h7; simp [lo]; omega, rfl⟩) _ _ h2
theorem LfRel.new {w w1 : World} {l : List Fm} {k : Nat} (h : w1.ownsRow w.heap.size 25 4 (.slice (some ⟨w.heap.size, 0, none⟩) 0 (k + 12)) 0 []) (hg : w.grownBy w1 none) : LfRel w l w.heap.size k 0 0 w1 :=
  ⟨⟨[], by simpa [fmMarks] using h, by rw [List.take_zero, FmsC]⟩, below_grown hg (fun _ e => by cases e) (Nat.le_refl _), (h.lt _ rfl).2, Nat.le_refl _⟩
theorem LfRel.first {w W : World} {l : List Fm} {g k j : Nat} (h : LfRel w l g k j 0 W) : ∃ xs, W.ownsRow g 25 4 (.slice (some ⟨g, 0, none⟩) j (k + 12)) j xs ∧ FmsC (hide (fun n => decide (n < g + 1)) W) (l.take j) xs := by
  obtain ⟨xs, h1, h2⟩ := h.own
  exact ⟨xs, by simpa [fmMarks] using h1, h2⟩
theorem news4 (w : World) (a b c d : Value) (t : TypeId) : ∀ (j : Nat) (u : Value), [a, b, c, d][j]? = some u → (w.alloc (.cells #[a, b, c, d] t)).cell? ((⟨w.heap.size, 0, none⟩ : Addr).add j) = some u := by
  intro j u hu
  have hg := heap_alloc_new w (.cells #[a, b, c, d] t)
  rw [show ((⟨w.heap.size, 0, none⟩ : Addr).add j) = ⟨w.heap.size, j, none⟩ by simp [Addr.add]; omega, box_cell hg]
  simpa using hu
theorem news4' (w : World) (o : Obj) (a b c d : Value) (t : TypeId) : ∀ (j : Nat) (u : Value), [a, b, c, d][j]? = some u → ((w.alloc o).alloc (.cells #[a, b, c, d] t)).cell? ((⟨w.heap.size + 1, 0, none⟩ : Addr).add j) = some u := by
  have := news4 (w.alloc o) a b c d t
  rwa [World.size_alloc] at this
theorem one25 (v : Int) (n : Bs) (u u' : Value) (hu : u.oneCell' = true) (hu' : u'.oneCell' = true) : ∀ x ∈ [Value.int .u8 v, str n, u, u'], x.oneCell' = true := by
  intro x hx
  simp only [List.mem_cons, List.not_mem_nil, or_false] at hx
  rcases hx with rfl | rfl | rfl | rfl
  · rfl
  · rfl
  · exact hu
  · exact hu'
theorem fmsNodes_len : ∀ l : List Fm, l.length ≤ fmsNodes l
  | [] => Nat.le_refl _
  | t :: ts => by have := fmsNodes_len ts; cases t; rw [fmsNodes, Fm.nodes, List.length_cons]; omega
theorem fmsNodes_mem {l : List Fm} {t : Fm} (h : t ∈ l) : t.nodes ≤ fmsNodes l := by
  induction l with
  | nil => cases h
  | cons x l ih =>
    rw [fmsNodes]
    rcases List.mem_cons.1 h with rfl | h
    · omega
    · have := ih h; omega
def LfS (l : List Fm) : Prop := ∀ (w : World) (a : Option Addr) (k c : Nat), FmsAt w l (.slice a k c) → fmsNodes l ≤ 1000 → Calls Tryz.prog 127 #[.slice a k c] w fun e w' => ∃ b cap, e = .returned (.slice (some ⟨b, 0, none⟩) k cap) ∧ FmsLent (hide (lo w) w') l (.slice (some ⟨b, 0, none⟩) k cap) ∧ Below w.heap.size w w'
def LfT (t : Fm) : Prop := ∀ (w : World) (x : Value), FmVal w t x → t.nodes ≤ 1000 → Calls Tryz.prog 50 #[x] w fun e w' => ∃ b n cap b' n' cap', e = .returned (.agg #[.int .u8 t.op, str t.name, .slice (some ⟨b, 0, none⟩) n cap, .slice (some ⟨b', 0, none⟩) n' cap']) ∧ TmsLent (hide (lo w) w') t.args (.slice (some ⟨b, 0, none⟩) n cap) ∧ FmsLent (hide (lo w) w') t.sub (.slice (some ⟨b', 0, none⟩) n' cap') ∧ Below w.heap.size w w'
theorem lf_of (t : Fm) (h : LfS t.sub) : LfT t := by
  intro w x hx hn
  obtain ⟨a, k, c, a', m, d, rfl, hx, hx'⟩ := hx
  have hna : tmsNodes t.args ≤ 1000 ∧ fmsNodes t.sub ≤ 1000 := by cases t; rw [Fm.nodes] at hn; simp only [Fm.args, Fm.sub]; omega
  have K2 := keeps2 w (.cells #[.int .u8 t.op, str t.name, .slice a k c, .slice a' m d] 25) (.cells #[.int .u8 0, str [], .slice none 0 0, .slice none 0 0] 25)
  have HB : Hid (Below w.heap.size w ((w.alloc (.cells #[.int .u8 t.op, str t.name, .slice a k c, .slice a' m d] 25)).alloc (.cells #[.int .u8 0, str [], .slice none 0 0, .slice none 0 0] 25))) := ((Below.refl _ _).alloc (Nat.le_refl _) _).alloc (by simp) _
  have R := Lib.hid (lentTerms_c t.args ((w.alloc (.cells #[.int .u8 t.op, str t.name, .slice a k c, .slice a' m d] 25)).alloc (.cells #[.int .u8 0, str [], .slice none 0 0, .slice none 0 0] 25)) a k c (hx.keep K2) hna.1)
  have R2 : Hid (∀ W, FmsAt W t.sub (.slice a' m d) → Calls Tryz.prog 127 #[.slice a' m d] W fun e w' => ∃ b cap, e = .returned (.slice (some ⟨b, 0, none⟩) m cap) ∧ FmsLent (hide (lo W) w') t.sub (.slice (some ⟨b, 0, none⟩) m cap) ∧ Below W.heap.size W w') := fun W hW => h W a' m d hW hna.2
  have HX2 := Lib.hid hx'
  have G0 : Hid (((w.alloc (.cells #[.int .u8 t.op, str t.name, .slice a k c, .slice a' m d] 25)).alloc (.cells #[.int .u8 0, str [], .slice none 0 0, .slice none 0 0] 25)).heap[w.heap.size]? = some (.cells #[.int .u8 t.op, str t.name, .slice a k c, .slice a' m d] 25 (0, 0))) := kc ((Below.refl _ _).alloc (Nat.le_refl _) _) (heap_alloc_new w _)
  have G1 : Hid (((w.alloc (.cells #[.int .u8 t.op, str t.name, .slice a k c, .slice a' m d] 25)).alloc (.cells #[.int .u8 0, str [], .slice none 0 0, .slice none 0 0] 25)).heap[w.heap.size + 1]? = some (.cells #[.int .u8 0, str [], .slice none 0 0, .slice none 0 0] 25 (0, 0))) := by
    have := heap_alloc_new (w.alloc (.cells #[.int .u8 t.op, str t.name, .slice a k c, .slice a' m d] 25)) (.cells #[.int .u8 0, str [], .slice none 0 0, .slice none 0 0] 25)
    rwa [World.size_alloc] at this
  clear h hx hx' hn hna K2
  go_enter Tryz.func50, Tryz.ntmps50
  go_wp2_with (first
    | (go_at_call 126; refine R.out.mono ?_; rintro e w1 ⟨b, cap, rfl, hl, b1⟩; have HL := Lib.hid (And.intro hl b1); have E0 := Lib.hid (kc b1 G0.out); have E1 := Lib.hid (kc b1 G1.out); have S0 := Lib.hid (set_block (o := 2) (u := .slice (some ⟨b, 0, none⟩) k cap) E0.out); have S1 : Hid ((w1.setCell ⟨w.heap.size, 2, none⟩ (.slice (some ⟨b, 0, none⟩) k cap)).heap[w.heap.size + 1]? = _) := (Below.heap_setCell _ _ _ _ (by simp)).trans E1.out; clear hl b1; obtain ⟨c0, c1, c2, c3, f0, f1, f2, f3⟩ := row25' E0.out; obtain ⟨d0, d1, d2, d3, h0, h1, h2, h3⟩ := row25' E1.out)
    | (go_at_call 127; refine (R2.out _ (HX2.out.keep (keeps_of_below ((belowThen HB.out HL.out.2).setCell (by simp) _)))).mono ?_; rintro e w2 ⟨b', cap', rfl, hl, b2⟩; have HL2 := Lib.hid (And.intro hl b2); have E20 := Lib.hid (kc b2 S0.out); have E21 := Lib.hid (kc b2 S1.out); clear hl b2; clear c0 c1 c2 c3 f0 f1 f2 f3 d0 d1 d2 d3 h0 h1 h2 h3; obtain ⟨c0, c1, c2, c3, f0, f1, f2, f3⟩ := row25' E20.out; obtain ⟨d0, d1, d2, d3, h0, h1, h2, h3⟩ := row25' E21.out))
  obtain ⟨hl, b1⟩ := HL.out
  obtain ⟨hl2, b2⟩ := HL2.out
  have B1 : Below w.heap.size w w1 := below2 b1
  have B1' : Below w.heap.size w (w1.setCell ⟨w.heap.size, 2, none⟩ (.slice (some ⟨b, 0, none⟩) k cap)) := B1.setCell (by simp) _
  have B2 : Below w.heap.size w w2 := belowThen B1' b2
  have sz1 := b1.size
  have sz2 := b2.size
  simp only [World.size_alloc] at sz1
  have g0 : (w2.setCell ⟨w.heap.size, 3, none⟩ (.slice (some ⟨b', 0, none⟩) m cap')).heap[w.heap.size + 1]? = some (.cells #[.int .u8 0, str [], .slice none 0 0, .slice none 0 0] 25 (0, 0)) := (Below.heap_setCell _ _ _ _ (by simp)).trans E21.out
  have g1 := set_block (o := 0) (u := .int .u8 t.op) g0
  have g2 := set_block (o := 1) (u := str t.name) g1
  have g3 := set_block (o := 2) (u := .slice (some ⟨b, 0, none⟩) k cap) g2
  have g4 := set_block (o := 3) (u := .slice (some ⟨b', 0, none⟩) m cap') g3
  have E : ∀ i, i ≠ w.heap.size → i ≠ w.heap.size + 1 → (((((w2.setCell ⟨w.heap.size, 3, none⟩ (.slice (some ⟨b', 0, none⟩) m cap')).setCell ⟨w.heap.size + 1, 0, none⟩ (.int .u8 t.op)).setCell ⟨w.heap.size + 1, 1, none⟩ (str t.name)).setCell ⟨w.heap.size + 1, 2, none⟩ (.slice (some ⟨b, 0, none⟩) k cap)).setCell ⟨w.heap.size + 1, 3, none⟩ (.slice (some ⟨b', 0, none⟩) m cap')).heap[i]? = w2.heap[i]? := fun i h h' => by
    rw [Below.heap_setCell _ _ _ _ h', Below.heap_setCell _ _ _ _ h', Below.heap_setCell _ _ _ _ h', Below.heap_setCell _ _ _ _ h', Below.heap_setCell _ _ _ _ h]
  refine bodyPost_ret (res25 rfl _ _ (w.heap.size + 1) _ _ _ _ (0, 0) rfl g4) rfl ?_
  refine ⟨b, k, cap, b', m, cap', rfl, TmsLent.keep hl (hide_keeps2 fun i h1 h2 => ?_), FmsLent.keep hl2 (hide_keeps2 fun i h1 h2 => ?_), ((((B2.setCell (by simp) _).setCell (by simp) _).setCell (by simp) _).setCell (by simp) _).setCell (by simp) _⟩
  · simp only [lo, World.size_alloc, decide_eq_false_iff_not, Nat.not_lt] at h2 ⊢
    refine ⟨by omega, ?_⟩
    rw [E i (by omega) (by omega), b2.block i (by simpa [World.setCell] using h1)]
    exact Below.heap_setCell _ _ _ _ (by simp; omega)
  · simp only [lo, decide_eq_false_iff_not, Nat.not_lt] at h2 ⊢
    have : w.heap.size + 2 ≤ i := by simp [World.setCell] at h2; omega
    exact ⟨by omega, E i (by omega) (by omega)⟩
theorem lfs_step (l : List Fm) (hh : ∀ t ∈ l, LfT t) : LfS l := by
  intro w a k c hx hn
  have hk := hx.len
  have hlen : k ≤ 1000 := by have := fmsNodes_len l; omega
  have L1 := Lib.hid hk.1
  have H := Lib.hid hh
  have HX := Lib.hid hx
  have HN : Hid (∀ t ∈ l, t.nodes ≤ 1000) := fun t ht => Nat.le_trans (fmsNodes_mem ht) hn
  obtain ⟨i0, hi0, hz0, hs0, hb0⟩ := info_parts info25
  clear hk hh hx hn
  go_enter Tryz.func127, Tryz.ntmps127
  go_wp2_with (at_make; refine wpList_make_own _ rfl _ _ 23 rfl w.heap.size 25 i0 (.agg #[.int .u8 0, .string ⟨#[]⟩, .slice none 0 0, .slice none 0 0]) 4 Tryz.underlying23 hi0 hz0 hs0 _ _ _ (k + 12) rfl rfl (by first | rfl | omega) (by rw [hb0]; omega) (by unfold maxLen; omega) (Nat.le_refl _) ?_; intro w1 hown1 hgrow1)
  go_loopw [3, 4] (fun u i wr => ∃ j : Nat, j ≤ k ∧ i = .int .i64 j ∧ u = .slice (some ⟨w.heap.size, 0, none⟩) j (k + 12) ∧ Hid (LfRel w l w.heap.size k j 0 wr)) (fun _ i _ => k - (intOf i).toNat)
  case atStart => exact ⟨0, Nat.zero_le _, rfl, rfl, LfRel.new hown1 hgrow1⟩
  case round =>
    clear hown1 hgrow1
    obtain ⟨j, hj, rfl, rfl, hs⟩ := hrel
    by_cases hlt : j < k
    · obtain ⟨T, hT⟩ := get_of_lt (l := l) (j := j) (by rw [← L1.out]; exact hlt)
      obtain ⟨bb, off, rfl, hc⟩ := HX.out.get (ne_of_get hT)
      obtain ⟨y0, y1, y2, y3, y4, y5, hy⟩ := hc j _ hT
      have hK := keeps_of_below hs.out.bw
      have c0 := hK _ _ hy.c0; have c1 := hK _ _ hy.c1; have c2 := hK _ _ hy.c2; have c3 := hK _ _ hy.c3
      have X : Hid (FmVal wr T (.agg #[.int .u8 T.op, str T.name, .slice y0 y1 y2, .slice y3 y4 y5])) := ⟨_, _, _, _, _, _, rfl, hy.at_.keep hK, hy.at'.keep hK⟩
      have HT := Lib.hid hT
      clear hc hy hT hK
      go_wp2_with (first
        | (go_at_call 50; refine (H.out T (List.mem_of_getElem? HT.out) _ _ X.out (HN.out T (List.mem_of_getElem? HT.out))).mono ?_; rintro e w3 ⟨b, n, cap, b', n', cap', rfl, hl1, hl2, b3⟩; have hl := And.intro hl1 hl2; clear hl1 hl2; obtain ⟨xs, o3, t3⟩ := (hs.out.moved b3).first; have OW := Lib.hid o3; have TC := Lib.hid t3; have HL := Lib.hid (And.intro hl b3); clear hl b3 o3 t3)
        | (at_builtin; refine wpList_append_fits _ rfl _ _ 23 rfl w.heap.size 25 i0 4 Tryz.underlying23 hi0 hs0 w.heap.size j (k + 12) _ rfl ((OW.out.alloc _).alloc _) ⟨w3.heap.size + 1, 0, none⟩ 1 1 [.int .u8 T.op, str T.name, .slice (some ⟨b, 0, none⟩) n cap, .slice (some ⟨b', 0, none⟩) n' cap'] rfl rfl (news4' _ _ _ _ _ _ _) (one25 _ _ _ _ rfl rfl) (by omega) ?_; intro w4 hown4 hgrow4))
      go_roundw
      case rel =>
        refine ⟨j + 1, by omega, by go_num, rfl, ?_⟩
        obtain ⟨hl, b3⟩ := HL.out
        have LR := hs.out.moved b3
        have bA : ∀ o o', Below w3.heap.size w3 ((w3.alloc o).alloc o') := fun o o' => ((Below.refl _ _).alloc (Nat.le_refl _) _).alloc (by simp) _
        have e1 := LR.lt
        have e2 := LR.ge
        have e3 := hs.out.lt
        exact LfRel.put (FmsC.keep (keep_above fun i h _ => (bA _ _).block i h) _ _ TC.out) (belowThen LR.bw (bA _ _)) (by simp; omega) e2 HT.out
          (FmL_iff.2 ⟨_, _, rfl, TmsLent.keep hl.1 (hide_keeps2 fun i h1 h2 => by simp only [lo, decide_eq_false_iff_not, Nat.not_lt] at h2 ⊢; exact ⟨by omega, (bA _ _).block i h1⟩), FmsLent.keep hl.2 (hide_keeps2 fun i h1 h2 => by simp only [lo, decide_eq_false_iff_not, Nat.not_lt] at h2 ⊢; exact ⟨by omega, (bA _ _).block i h1⟩)⟩) hown4 hgrow4
      case measure => simp [intOf]; omega
    · have hjk : j = k := by omega
      have LR := Lib.hid hs.out
      subst hjk
      clear hs H HX HN
      go_wp2_with fail
      go_loopw [3, 6] (fun u i wr => ∃ p : Nat, p ≤ 12 ∧ i = .int .i64 p ∧ u = .slice (some ⟨w.heap.size, 0, none⟩) (j + p) (j + 12) ∧ Hid (LfRel w l w.heap.size j j p wr)) (fun _ i _ => 12 - (intOf i).toNat)
      case atStart => exact ⟨0, by omega, rfl, rfl, LR.out⟩
      case round =>
        clear LR
        obtain ⟨p, hp, rfl, rfl, hs⟩ := hrel
        by_cases hlt : p < 12
        · go_wp2_with (first
            | (go_at_call 207; refine (markForm_c p hlt _).mono ?_; rintro e w3 ⟨rfl, b3⟩; obtain ⟨xs, o3, t3⟩ := (hs.out.moved b3).own; have OW := Lib.hid o3; have TC := Lib.hid t3; have B3 := Lib.hid b3; clear b3 o3 t3)
            | (at_builtin; refine wpList_append_fits _ rfl _ _ 23 rfl w.heap.size 25 i0 4 Tryz.underlying23 hi0 hs0 w.heap.size (j + p) (j + 12) _ rfl (OW.out.alloc _) ⟨w3.heap.size, 0, none⟩ 1 1 [.int .u8 0, str (mkText p), .slice none 0 0, .slice none 0 0] rfl rfl (news4 _ _ _ _ _ _) (one25 _ _ _ _ rfl rfl) (by omega) ?_; intro w4 hown4 hgrow4))
          go_roundw
          case rel =>
            refine ⟨p + 1, by omega, by go_num, rfl, ?_⟩
            have LR := hs.out.moved B3.out
            have bA : ∀ o, Below w3.heap.size w3 (w3.alloc o) := fun o => (Below.refl _ _).alloc (Nat.le_refl _) _
            have e1 := LR.lt
            have e2 := LR.ge
            exact LfRel.mark (FmsC.keep (keep_above fun i h _ => (bA _).block i h) _ _ TC.out) (belowThen LR.bw (bA _)) (by simp; omega) e2 hown4 hgrow4
          case measure => simp [intOf]; omega
        · have hp12 : p = 12 := by omega
          subst hp12
          have LE := Lib.hid (hs.out.lent L1.out (by unfold maxLen; omega))
          have LB := Lib.hid hs.out.bw
          clear hs
          go_wp2_with fail
          go_ret
          exact ⟨_, _, rfl, LE.out, LB.out⟩
mutual
theorem lentForm_c : ∀ t : Fm, LfT t
  | .mk o n ts fs => lf_of _ (lfs_step fs (lentForms_all fs))
theorem lentForms_all : ∀ l : List Fm, ∀ t ∈ l, LfT t
  | [], _, h => by cases h
  | x :: xs, t, h => by
    rcases List.mem_cons.1 h with e | e
    · rw [e]; exact lentForm_c x
    · exact lentForms_all xs t e
end
theorem lentForms_c (l : List Fm) : LfS l := lfs_step l (lentForms_all l)
end Go.Proofs.YtcandidgaegghaaGreatDoor
end
section
namespace Go.Proofs.YtcandidgaegghaaGreatDoor
open Go Go.RowKit Go.Sort Ly
set_option maxRecDepth 10000
set_option linter.unusedSimpArgs false
set_option linter.unusedVariables false
set_option maxHeartbeats 1600000
theorem tm_same_self (t : Tm) : t.same t = true := (Tm.same_iff t t).2 rfl
theorem fm_same_self (t : Fm) : t.same t = true := (Fm.same_iff t t).2 rfl
def KpS (l : List Tm) : Prop := ∀ (u : Value) (a : Option Addr) (k c : Nat) (w : World), TmsLent w l u → TmsAt w l (.slice a k c) → Calls Tryz.prog 128 #[u, .slice a k c] w fun e w' => e = .returned (.bool true) ∧ Below w.heap.size w w'
def KpT (t : Tm) : Prop := ∀ (u y : Value) (w : World), TmsLent w t.args u → TmVal w t y → Calls Tryz.prog 208 #[.agg #[.bool t.v, str t.name, u], y] w fun e w' => e = .returned (.bool true) ∧ Below w.heap.size w w'
theorem kp_of (t : Tm) (h : KpS t.args) : KpT t := by
  intro u y w hu hy
  obtain ⟨a, k, c, rfl, hy⟩ := hy
  obtain ⟨b, cap, zs, rfl, e1, e2, e3, e4⟩ := id hu
  have G0 := Lib.hid (heap_alloc_new w (.cells #[.bool t.v, str t.name, .slice (some ⟨b, 0, none⟩) t.args.length cap] 95))
  have HB : Hid (Below w.heap.size w ((w.alloc (.cells #[.bool t.v, str t.name, .slice (some ⟨b, 0, none⟩) t.args.length cap] 95)).alloc (.cells #[.bool t.v, str t.name, .slice a k c] 95))) := ((Below.refl _ _).alloc (Nat.le_refl _) _).alloc (by simp) _
  have HU := Lib.hid hu
  have HY := Lib.hid hy
  have R : Hid (∀ W, Below w.heap.size w W → Calls Tryz.prog 200 #[.agg #[.bool t.v, str t.name, .slice (some ⟨b, 0, none⟩) t.args.length cap], .agg #[.bool t.v, str t.name, .slice a k c]] W fun e w' => e = .returned (.bool true) ∧ Below W.heap.size W w') := fun W hW => by
    have := SameTerm_c t t _ _ W ⟨_, _, _, rfl, hu.at.keep (keeps_of_below hW)⟩ ⟨_, _, _, rfl, hy.keep (keeps_of_below hW)⟩
    rwa [tm_same_self] at this
  have R2 : Hid (∀ W, Below w.heap.size w W → Calls Tryz.prog 128 #[.slice (some ⟨b, 0, none⟩) t.args.length cap, .slice a k c] W fun e w' => e = .returned (.bool true) ∧ Below W.heap.size W w') := fun W hW =>
    h _ a k c W (hu.keep (keeps_of_below hW)) (hy.keep (keeps_of_below hW))
  generalize t.args.length = n at *
  clear h hu hy e1 e2 e3 e4
  have G1 : Hid (((w.alloc (.cells #[.bool t.v, str t.name, .slice (some ⟨b, 0, none⟩) n cap] 95)).alloc (.cells #[.bool t.v, str t.name, .slice a k c] 95)).heap[w.heap.size]? = some (.cells #[.bool t.v, str t.name, .slice (some ⟨b, 0, none⟩) n cap] 95 (0, 0))) := kc ((Below.refl _ _).alloc (Nat.le_refl _) _) G0.out
  have G2 : Hid (((w.alloc (.cells #[.bool t.v, str t.name, .slice (some ⟨b, 0, none⟩) n cap] 95)).alloc (.cells #[.bool t.v, str t.name, .slice a k c] 95)).heap[w.heap.size + 1]? = some (.cells #[.bool t.v, str t.name, .slice a k c] 95 (0, 0))) := by
    have := heap_alloc_new (w.alloc (.cells #[.bool t.v, str t.name, .slice (some ⟨b, 0, none⟩) n cap] 95)) (.cells #[.bool t.v, str t.name, .slice a k c] 95)
    rwa [World.size_alloc] at this
  go_enter Tryz.func208, Tryz.ntmps208
  go_wp2_with (first
    | (go_at_call 200; refine (R.out _ HB.out).mono ?_; rintro e w1 ⟨rfl, b1⟩; have B1 := Lib.hid (belowThen HB.out b1); have E1 := Lib.hid (kc b1 G1.out); have E2 := Lib.hid (kc b1 G2.out); clear b1; obtain ⟨c0, c1, c2, f0, f1, f2⟩ := row95' E1.out; obtain ⟨d0, d1, d2, h0, h1, h2⟩ := row95' E2.out)
    | (go_at_call 128; refine (R2.out _ B1.out).mono ?_; rintro e w2 ⟨rfl, b2⟩; have B2 := Lib.hid (belowThen B1.out b2); clear b2))
  go_ret
  exact ⟨rfl, B2.out⟩
theorem kps_step (l : List Tm) (hh : ∀ t ∈ l, KpT t) : KpS l := by
  intro u a k c w hu hy
  have hk := hy.len
  obtain ⟨b, cap, zs, rfl, e1, e2, e3, e4⟩ := id hu
  have L1 := Lib.hid hk.1
  have ZL := Lib.hid e4.len
  have HC := Lib.hid e4
  have HR := Lib.hid e3
  have HY := Lib.hid hy
  have H := Lib.hid hh
  have hcap : k + 12 ≤ cap := by rw [hk.1]; exact e1
  have hmax : cap ≤ 9223372036854775807 := by have := le63 e2; omega
  rw [← hk.1]
  clear hk hu hy hh e1 e2 e3 e4
  go_enter Tryz.func128, Tryz.ntmps128
  go_wp2_with fail
  go_loopw [6] (fun i wr => ∃ j : Nat, j ≤ k + 12 ∧ i = .int .i64 j ∧ Hid (Below w.heap.size w wr)) (fun i _ => k + 12 - (intOf i).toNat)
  case atStart => exact ⟨0, Nat.zero_le _, rfl, Below.refl _ _⟩
  case round =>
    obtain ⟨j, hj, rfl, hs⟩ := hrel
    by_cases hlt : j < k
    · obtain ⟨T, hT⟩ := get_of_lt (l := l) (j := j) (by rw [← L1.out]; exact hlt)
      obtain ⟨bb, off, rfl, hc⟩ := HY.out.get (ne_of_get hT)
      obtain ⟨y0, y1, y2, hy⟩ := hc j _ hT
      obtain ⟨v, z0, z1, z2, hl⟩ := HC.out.get hT
      obtain ⟨b', cap', zs', rfl, -⟩ := id hl
      have hK := keeps_of_below hs.out
      have hr : ∀ (i : Nat) (x : Value), zs[i]? = some x → wr.cell? ⟨b, i, none⟩ = some x := fun i x h => hK _ _ (HR.out.left i x h)
      have c0 := cell_regrown (hr _ _ z0); have c1 := cell_regrown (hr _ _ z1); have c2 := cell_regrown (hr _ _ z2)
      have d0 := cell_regrown (hK _ _ hy.c0); have d1 := cell_regrown (hK _ _ hy.c1); have d2 := cell_regrown (hK _ _ hy.c2)
      have hm := List.mem_of_getElem? hT
      have cK : Hid (∀ d os, Calls Tryz.prog 208 #[.agg #[.bool T.v, str T.name, .slice (some ⟨b', 0, none⟩) T.args.length cap'], .agg #[.bool T.v, str T.name, .slice y0 y1 y2]] (grow (redrawn wr d) os) fun e w'' => e = .returned (.bool true) ∧ ∃ p : Regrown, w'' = grow (redrawn wr p.d) p.os) := fun d os =>
        have K : Keeps w (grow (redrawn wr d) os) := hK.trans (keeps_of_below (below_regrown wr d os))
        Calls.regrown_of (H.out T hm _ _ _ (hl.keep K) ⟨_, _, _, rfl, hy.at_.keep K⟩)
      have g1 : decide ((j : Int) < (k : Int)) = true := by simp; omega
      have g2 : decide (k ≤ j) = false := by simp; omega
      generalize T.args.length = n at *
      clear hc hy hT hl hK hr z0 z1 z2 hm
      go_wp2_with fail
      refine wp_region_quiet_below (by kernel_rfl) (by kernel_rfl) ?_
      repeat (go_big_quiet_step (first | (go_at_call 208; exact cK.out _ _)))
      refine wpQuiet_nil ?_
      intro wq hw'
      have WQ : Hid (Below wr.heap.size wr wq) := by
        obtain ⟨⟨dq, osq⟩, hw''⟩ := hw'
        rw [hw'']; exact below_regrown wr dq osq
      clear hw'
      go_wp2_with fail
      go_roundw
      case rel => exact ⟨j + 1, by omega, by go_num, belowThen hs.out WQ.out⟩
      case measure => simp [intOf]; omega
    · by_cases hlt2 : j < k + 12
      · obtain ⟨p, hp⟩ : ∃ p, j = k + p := ⟨j - k, by omega⟩
        have hp12 : p < 12 := by omega
        obtain ⟨z0, z1, z2⟩ := tmMarks_get hp12
        have hK := keeps_of_below hs.out
        have hr : ∀ (i : Nat) (x : Value), (tmMarks 12)[i]? = some x → wr.cell? ⟨b, k * 3 + i, none⟩ = some x := fun i x h => hK _ _ (HR.out _ x (by rw [List.getElem?_append_right (by rw [ZL.out, ← L1.out]; omega), ZL.out, ← L1.out, Nat.add_sub_cancel_left]; exact h))
        have ej : j * 3 = k * 3 + p * 3 := by omega
        have c0 := cell_regrown (hr _ _ z0); have c1 := cell_regrown (hr _ _ z1); have c2 := cell_regrown (hr _ _ z2)
        rw [← Nat.add_assoc, ← ej] at c1 c2
        rw [← ej] at c0
        have cM : Hid (∀ d os, Calls Tryz.prog 206 #[.int .i64 1, .int .i64 p] (grow (redrawn wr d) os) fun e w'' => e = .returned (.agg #[.bool false, str (mkText p), .slice none 0 0]) ∧ ∃ q : Regrown, w'' = grow (redrawn wr q.d) q.os) := fun d os =>
          Calls.regrown_of (markTerm_c p hp12 _)
        have cS : Hid (∀ d os, Calls Tryz.prog 200 #[.agg #[.bool false, str (mkText p), .slice none 0 0], .agg #[.bool false, str (mkText p), .slice none 0 0]] (grow (redrawn wr d) os) fun e w'' => e = .returned (.bool true) ∧ ∃ q : Regrown, w'' = grow (redrawn wr q.d) q.os) := fun d os =>
          Calls.regrown_of (by
            have := SameTerm_c (.mk false (mkText p) []) (.mk false (mkText p) []) (.agg #[.bool false, str (mkText p), .slice none 0 0]) (.agg #[.bool false, str (mkText p), .slice none 0 0]) (grow (redrawn wr d) os) ⟨_, _, _, rfl, At.sl_nil (Nat.zero_le _)⟩ ⟨_, _, _, rfl, At.sl_nil (Nat.zero_le _)⟩
            rwa [tm_same_self] at this)
        have g1 : decide ((j : Int) < (k : Int)) = false := by simp; omega
        have g2 : decide (k ≤ j) = true := by simp; omega
        have g3 : (j : Int) - (k : Int) = p := by omega
        generalize mkText p = M at *
        clear hr hK z0 z1 z2 ej hp
        go_wp2_with fail
        refine wp_region_quiet_below (by kernel_rfl) (by kernel_rfl) ?_
        repeat (go_big_quiet_step (first | (go_at_call 206; exact cM.out _ _) | (go_at_call 200; exact cS.out _ _)))
        refine wpQuiet_nil ?_
        intro wq hw'
        have WQ : Hid (Below wr.heap.size wr wq) := by
          obtain ⟨⟨dq, osq⟩, hw''⟩ := hw'
          rw [hw'']; exact below_regrown wr dq osq
        clear hw'
        go_wp2_with fail
        go_roundw
        case rel => exact ⟨j + 1, by omega, by go_num, belowThen hs.out WQ.out⟩
        case measure => simp [intOf]; omega
      · go_wp2_with fail
        go_ret
        exact ⟨rfl, hs.out⟩
mutual
theorem keptTerm_c : ∀ t : Tm, KpT t
  | .mk v n ts => kp_of _ (kps_step ts (keptAll ts))
theorem keptAll : ∀ l : List Tm, ∀ t ∈ l, KpT t
  | [], _, h => by cases h
  | x :: xs, t, h => by
    rcases List.mem_cons.1 h with e | e
    · rw [e]; exact keptTerm_c x
    · exact keptAll xs t e
end
theorem keptTerms_c (l : List Tm) : KpS l := kps_step l (keptAll l)
end Go.Proofs.YtcandidgaegghaaGreatDoor
end
section
namespace Go.Proofs.YtcandidgaegghaaGreatDoor
open Go Go.RowKit Go.Sort Ly
set_option maxRecDepth 10000
set_option linter.unusedSimpArgs false
set_option linter.unusedVariables false
set_option maxHeartbeats 1600000
def KfS (l : List Fm) : Prop := ∀ (u : Value) (a : Option Addr) (k c : Nat) (w : World), FmsLent w l u → FmsAt w l (.slice a k c) → Calls Tryz.prog 129 #[u, .slice a k c] w fun e w' => e = .returned (.bool true) ∧ Below w.heap.size w w'
def KfT (t : Fm) : Prop := ∀ (u v y : Value) (w : World), TmsLent w t.args u → FmsLent w t.sub v → FmVal w t y → Calls Tryz.prog 51 #[.agg #[.int .u8 t.op, str t.name, u, v], y] w fun e w' => e = .returned (.bool true) ∧ Below w.heap.size w w'
theorem kf_of (t : Fm) (h : KfS t.sub) : KfT t := by
  intro u v y w hu hv hy
  obtain ⟨a, k, c, a', m, d, rfl, hy, hy'⟩ := hy
  obtain ⟨b, cap, zs, rfl, -⟩ := id hu
  obtain ⟨b', cap', zs', rfl, -⟩ := id hv
  have R : Hid (∀ W, Below w.heap.size w W → Calls Tryz.prog 44 #[.agg #[.int .u8 t.op, str t.name, .slice (some ⟨b, 0, none⟩) t.args.length cap, .slice (some ⟨b', 0, none⟩) t.sub.length cap'], .agg #[.int .u8 t.op, str t.name, .slice a k c, .slice a' m d]] W fun e w' => e = .returned (.bool true) ∧ Below W.heap.size W w') := fun W hW => by
    have := SameForm_c t t _ _ W ⟨_, _, _, _, _, _, rfl, hu.at.keep (keeps_of_below hW), hv.at.keep (keeps_of_below hW)⟩ ⟨_, _, _, _, _, _, rfl, hy.keep (keeps_of_below hW), hy'.keep (keeps_of_below hW)⟩
    rwa [fm_same_self] at this
  have R2 : Hid (∀ W, Below w.heap.size w W → Calls Tryz.prog 128 #[.slice (some ⟨b, 0, none⟩) t.args.length cap, .slice a k c] W fun e w' => e = .returned (.bool true) ∧ Below W.heap.size W w') := fun W hW =>
    keptTerms_c _ _ a k c W (hu.keep (keeps_of_below hW)) (hy.keep (keeps_of_below hW))
  have R3 : Hid (∀ W, Below w.heap.size w W → Calls Tryz.prog 129 #[.slice (some ⟨b', 0, none⟩) t.sub.length cap', .slice a' m d] W fun e w' => e = .returned (.bool true) ∧ Below W.heap.size W w') := fun W hW =>
    h _ a' m d W (hv.keep (keeps_of_below hW)) (hy'.keep (keeps_of_below hW))
  generalize t.args.length = n at *
  generalize t.sub.length = n' at *
  clear h hu hv hy hy'
  have HB : Hid (Below w.heap.size w ((w.alloc (.cells #[.int .u8 t.op, str t.name, .slice (some ⟨b, 0, none⟩) n cap, .slice (some ⟨b', 0, none⟩) n' cap'] 25)).alloc (.cells #[.int .u8 t.op, str t.name, .slice a k c, .slice a' m d] 25))) := ((Below.refl _ _).alloc (Nat.le_refl _) _).alloc (by simp) _
  have G1 : Hid (((w.alloc (.cells #[.int .u8 t.op, str t.name, .slice (some ⟨b, 0, none⟩) n cap, .slice (some ⟨b', 0, none⟩) n' cap'] 25)).alloc (.cells #[.int .u8 t.op, str t.name, .slice a k c, .slice a' m d] 25)).heap[w.heap.size]? = some (.cells #[.int .u8 t.op, str t.name, .slice (some ⟨b, 0, none⟩) n cap, .slice (some ⟨b', 0, none⟩) n' cap'] 25 (0, 0))) := kc ((Below.refl _ _).alloc (Nat.le_refl _) _) (heap_alloc_new _ _)
  have G2 : Hid (((w.alloc (.cells #[.int .u8 t.op, str t.name, .slice (some ⟨b, 0, none⟩) n cap, .slice (some ⟨b', 0, none⟩) n' cap'] 25)).alloc (.cells #[.int .u8 t.op, str t.name, .slice a k c, .slice a' m d] 25)).heap[w.heap.size + 1]? = some (.cells #[.int .u8 t.op, str t.name, .slice a k c, .slice a' m d] 25 (0, 0))) := by
    have := heap_alloc_new (w.alloc (.cells #[.int .u8 t.op, str t.name, .slice (some ⟨b, 0, none⟩) n cap, .slice (some ⟨b', 0, none⟩) n' cap'] 25)) (.cells #[.int .u8 t.op, str t.name, .slice a k c, .slice a' m d] 25)
    rwa [World.size_alloc] at this
  go_enter Tryz.func51, Tryz.ntmps51
  go_wp2_with (first
    | (go_at_call 44; refine (R.out _ HB.out).mono ?_; rintro e w1 ⟨rfl, b1⟩; have B1 := Lib.hid (belowThen HB.out b1); have E1 := Lib.hid (kc b1 G1.out); have E2 := Lib.hid (kc b1 G2.out); clear b1; obtain ⟨c0, c1, c2, c3, f0, f1, f2, f3⟩ := row25' E1.out; obtain ⟨d0, d1, d2, d3, h0, h1, h2, h3⟩ := row25' E2.out)
    | (go_at_call 128; refine (R2.out _ B1.out).mono ?_; rintro e w2 ⟨rfl, b2⟩; have B2 := Lib.hid (belowThen B1.out b2); have E21 := Lib.hid (kc b2 E1.out); have E22 := Lib.hid (kc b2 E2.out); clear b2 c0 c1 c2 c3 f0 f1 f2 f3 d0 d1 d2 d3 h0 h1 h2 h3; obtain ⟨c0, c1, c2, c3, f0, f1, f2, f3⟩ := row25' E21.out; obtain ⟨d0, d1, d2, d3, h0, h1, h2, h3⟩ := row25' E22.out)
    | (go_at_call 129; refine (R3.out _ B2.out).mono ?_; rintro e w3 ⟨rfl, b3⟩; have B3 := Lib.hid (belowThen B2.out b3); clear b3))
  go_ret
  exact ⟨rfl, B3.out⟩
theorem kfs_step (l : List Fm) (hh : ∀ t ∈ l, KfT t) : KfS l := by
  intro u a k c w hu hy
  have hk := hy.len
  obtain ⟨b, cap, zs, rfl, e1, e2, e3, e4⟩ := id hu
  have L1 := Lib.hid hk.1
  have ZL := Lib.hid e4.len
  have HC := Lib.hid e4
  have HR := Lib.hid e3
  have HY := Lib.hid hy
  have H := Lib.hid hh
  have hcap : k + 12 ≤ cap := by rw [hk.1]; exact e1
  have hmax : cap ≤ 9223372036854775807 := by have := le63 e2; omega
  rw [← hk.1]
  clear hk hu hy hh e1 e2 e3 e4
  go_enter Tryz.func129, Tryz.ntmps129
  go_wp2_with fail
  go_loopw [6] (fun i wr => ∃ j : Nat, j ≤ k + 12 ∧ i = .int .i64 j ∧ Hid (Below w.heap.size w wr)) (fun i _ => k + 12 - (intOf i).toNat)
  case atStart => exact ⟨0, Nat.zero_le _, rfl, Below.refl _ _⟩
  case round =>
    obtain ⟨j, hj, rfl, hs⟩ := hrel
    by_cases hlt : j < k
    · obtain ⟨T, hT⟩ := get_of_lt (l := l) (j := j) (by rw [← L1.out]; exact hlt)
      obtain ⟨bb, off, rfl, hc⟩ := HY.out.get (ne_of_get hT)
      obtain ⟨y0, y1, y2, y3, y4, y5, hy⟩ := hc j _ hT
      obtain ⟨v, v', z0, z1, z2, z3, hl, hl2⟩ := HC.out.get hT
      obtain ⟨b', cap', zs', rfl, -⟩ := id hl
      obtain ⟨b'', cap'', zs'', rfl, -⟩ := id hl2
      have hK := keeps_of_below hs.out
      have hr : ∀ (i : Nat) (x : Value), zs[i]? = some x → wr.cell? ⟨b, i, none⟩ = some x := fun i x h => hK _ _ (HR.out.left i x h)
      have c0 := cell_regrown (hr _ _ z0); have c1 := cell_regrown (hr _ _ z1); have c2 := cell_regrown (hr _ _ z2); have c3 := cell_regrown (hr _ _ z3)
      have d0 := cell_regrown (hK _ _ hy.c0); have d1 := cell_regrown (hK _ _ hy.c1); have d2 := cell_regrown (hK _ _ hy.c2); have d3 := cell_regrown (hK _ _ hy.c3)
      have hm := List.mem_of_getElem? hT
      have cK : Hid (∀ d os, Calls Tryz.prog 51 #[.agg #[.int .u8 T.op, str T.name, .slice (some ⟨b', 0, none⟩) T.args.length cap', .slice (some ⟨b'', 0, none⟩) T.sub.length cap''], .agg #[.int .u8 T.op, str T.name, .slice y0 y1 y2, .slice y3 y4 y5]] (grow (redrawn wr d) os) fun e w'' => e = .returned (.bool true) ∧ ∃ p : Regrown, w'' = grow (redrawn wr p.d) p.os) := fun d os =>
        have K : Keeps w (grow (redrawn wr d) os) := hK.trans (keeps_of_below (below_regrown wr d os))
        Calls.regrown_of (H.out T hm _ _ _ _ (hl.keep K) (hl2.keep K) ⟨_, _, _, _, _, _, rfl, hy.at_.keep K, hy.at'.keep K⟩)
      have g1 : decide ((j : Int) < (k : Int)) = true := by simp; omega
      have g2 : decide (k ≤ j) = false := by simp; omega
      generalize T.args.length = n at *
      generalize T.sub.length = n' at *
      clear hc hy hT hl hl2 hK hr z0 z1 z2 z3 hm
      go_wp2_with fail
      refine wp_region_quiet_below (by kernel_rfl) (by kernel_rfl) ?_
      repeat (go_big_quiet_step (first | (go_at_call 51; exact cK.out _ _)))
      refine wpQuiet_nil ?_
      intro wq hw'
      have WQ : Hid (Below wr.heap.size wr wq) := by
        obtain ⟨⟨dq, osq⟩, hw''⟩ := hw'
        rw [hw'']; exact below_regrown wr dq osq
      clear hw'
      go_wp2_with fail
      go_roundw
      case rel => exact ⟨j + 1, by omega, by go_num, belowThen hs.out WQ.out⟩
      case measure => simp [intOf]; omega
    · by_cases hlt2 : j < k + 12
      · obtain ⟨p, hp⟩ : ∃ p, j = k + p := ⟨j - k, by omega⟩
        have hp12 : p < 12 := by omega
        obtain ⟨z0, z1, z2, z3⟩ := fmMarks_get hp12
        have hK := keeps_of_below hs.out
        have hr : ∀ (i : Nat) (x : Value), (fmMarks 12)[i]? = some x → wr.cell? ⟨b, k * 4 + i, none⟩ = some x := fun i x h => hK _ _ (HR.out _ x (by rw [List.getElem?_append_right (by rw [ZL.out, ← L1.out]; omega), ZL.out, ← L1.out, Nat.add_sub_cancel_left]; exact h))
        have ej : j * 4 = k * 4 + p * 4 := by omega
        have c0 := cell_regrown (hr _ _ z0); have c1 := cell_regrown (hr _ _ z1); have c2 := cell_regrown (hr _ _ z2); have c3 := cell_regrown (hr _ _ z3)
        rw [← Nat.add_assoc, ← ej] at c1 c2 c3
        rw [← ej] at c0
        have cM : Hid (∀ d os, Calls Tryz.prog 207 #[.int .i64 1, .int .i64 p] (grow (redrawn wr d) os) fun e w'' => e = .returned (.agg #[.int .u8 0, str (mkText p), .slice none 0 0, .slice none 0 0]) ∧ ∃ q : Regrown, w'' = grow (redrawn wr q.d) q.os) := fun d os =>
          Calls.regrown_of (markForm_c p hp12 _)
        have cS : Hid (∀ d os, Calls Tryz.prog 44 #[.agg #[.int .u8 0, str (mkText p), .slice none 0 0, .slice none 0 0], .agg #[.int .u8 0, str (mkText p), .slice none 0 0, .slice none 0 0]] (grow (redrawn wr d) os) fun e w'' => e = .returned (.bool true) ∧ ∃ q : Regrown, w'' = grow (redrawn wr q.d) q.os) := fun d os =>
          Calls.regrown_of (by
            have := SameForm_c (.mk 0 (mkText p) [] []) (.mk 0 (mkText p) [] []) (.agg #[.int .u8 0, str (mkText p), .slice none 0 0, .slice none 0 0]) (.agg #[.int .u8 0, str (mkText p), .slice none 0 0, .slice none 0 0]) (grow (redrawn wr d) os) ⟨_, _, _, _, _, _, rfl, At.sl_nil (Nat.zero_le _), At.sl_nil (Nat.zero_le _)⟩ ⟨_, _, _, _, _, _, rfl, At.sl_nil (Nat.zero_le _), At.sl_nil (Nat.zero_le _)⟩
            rwa [fm_same_self] at this)
        have g1 : decide ((j : Int) < (k : Int)) = false := by simp; omega
        have g2 : decide (k ≤ j) = true := by simp; omega
        have g3 : (j : Int) - (k : Int) = p := by omega
        generalize mkText p = M at *
        clear hr hK z0 z1 z2 z3 ej hp
        go_wp2_with fail
        refine wp_region_quiet_below (by kernel_rfl) (by kernel_rfl) ?_
        repeat (go_big_quiet_step (first | (go_at_call 207; exact cM.out _ _) | (go_at_call 44; exact cS.out _ _)))
        refine wpQuiet_nil ?_
        intro wq hw'
        have WQ : Hid (Below wr.heap.size wr wq) := by
          obtain ⟨⟨dq, osq⟩, hw''⟩ := hw'
          rw [hw'']; exact below_regrown wr dq osq
        clear hw'
        go_wp2_with fail
        go_roundw
        case rel => exact ⟨j + 1, by omega, by go_num, belowThen hs.out WQ.out⟩
        case measure => simp [intOf]; omega
      · go_wp2_with fail
        go_ret
        exact ⟨rfl, hs.out⟩
mutual
theorem keptForm_c : ∀ t : Fm, KfT t
  | .mk o n ts fs => kf_of _ (kfs_step fs (keptForms_all fs))
theorem keptForms_all : ∀ l : List Fm, ∀ t ∈ l, KfT t
  | [], _, h => by cases h
  | x :: xs, t, h => by
    rcases List.mem_cons.1 h with e | e
    · rw [e]; exact keptForm_c x
    · exact keptForms_all xs t e
end
theorem keptForms_c (l : List Fm) : KfS l := kfs_step l (keptForms_all l)
end Go.Proofs.YtcandidgaegghaaGreatDoor
end
section
namespace Go.Proofs.YtcandidgaegghaaGreatDoor
open Go Go.RowKit Ly
set_option maxRecDepth 10000
set_option linter.unusedSimpArgs false
set_option linter.unusedVariables false
set_option maxHeartbeats 1600000
theorem row48z {w : World} {b : Nat} {x y : Value} (h : w.heap[b]? = some (.cells #[x, y] 48 (0, 0))) :
    w.cell? ⟨b, 0, none⟩ = some x ∧ w.cell? ⟨b, 1, none⟩ = some y ∧ w.frozen? ⟨b, 0, none⟩ = false ∧ w.frozen? ⟨b, 1, none⟩ = false :=
  ⟨(box_cell h 0).trans rfl, (box_cell h 1).trans rfl, by simp [World.frozen?, h], by simp [World.frozen?, h]⟩
theorem res48 {fn : Func} {p : Tmp} (h : fn.results = #[.cell p 48]) (tmps : Array Value) (w : World) (g : Nat) (a b : Value) (fr : Nat × Nat)
    (hp : tmps.getD p undef = one g) (hg : w.heap[g]? = some (.cells #[a, b] 48 fr)) : (results fn tmps).run Tryz.prog w = .ok (.agg #[a, b]) w := by
  exact results_cell_row h tmps w g 48 #[a, b] fr _ hp hg Tryz.underlying48 rfl (by kernel_rfl)
theorem lentSeq_c (G S : List Fm) (a : Option Addr) (k c : Nat) (a' : Option Addr) (m d : Nat) (w : World) (hx : FmsAt w G (.slice a k c)) (hx' : FmsAt w S (.slice a' m d)) (hG : fmsNodes G ≤ 1000) (hS : fmsNodes S ≤ 1000) :
    Calls Tryz.prog 94 #[.agg #[.slice a k c, .slice a' m d]] w fun e w' => ∃ b n cap b' n' cap', e = .returned (.agg #[.slice (some ⟨b, 0, none⟩) n cap, .slice (some ⟨b', 0, none⟩) n' cap']) ∧ FmsLent (hide (lo w) w') G (.slice (some ⟨b, 0, none⟩) n cap) ∧ FmsLent (hide (lo w) w') S (.slice (some ⟨b', 0, none⟩) n' cap') ∧ Below w.heap.size w w' := by
  have K2 := keeps2 w (.cells #[.slice a k c, .slice a' m d] 48) (.cells #[.slice none 0 0, .slice none 0 0] 48)
  have HB : Hid (Below w.heap.size w ((w.alloc (.cells #[.slice a k c, .slice a' m d] 48)).alloc (.cells #[.slice none 0 0, .slice none 0 0] 48))) := ((Below.refl _ _).alloc (Nat.le_refl _) _).alloc (by simp) _
  have R := Lib.hid (lentForms_c G ((w.alloc (.cells #[.slice a k c, .slice a' m d] 48)).alloc (.cells #[.slice none 0 0, .slice none 0 0] 48)) a k c (hx.keep K2) hG)
  have R2 : Hid (∀ W, FmsAt W S (.slice a' m d) → Calls Tryz.prog 127 #[.slice a' m d] W fun e w' => ∃ b cap, e = .returned (.slice (some ⟨b, 0, none⟩) m cap) ∧ FmsLent (hide (lo W) w') S (.slice (some ⟨b, 0, none⟩) m cap) ∧ Below W.heap.size W w') := fun W hW => lentForms_c S W a' m d hW hS
  have HX2 := Lib.hid hx'
  have G0 : Hid (((w.alloc (.cells #[.slice a k c, .slice a' m d] 48)).alloc (.cells #[.slice none 0 0, .slice none 0 0] 48)).heap[w.heap.size]? = some (.cells #[.slice a k c, .slice a' m d] 48 (0, 0))) := kc ((Below.refl _ _).alloc (Nat.le_refl _) _) (heap_alloc_new w _)
  have G1 : Hid (((w.alloc (.cells #[.slice a k c, .slice a' m d] 48)).alloc (.cells #[.slice none 0 0, .slice none 0 0] 48)).heap[w.heap.size + 1]? = some (.cells #[.slice none 0 0, .slice none 0 0] 48 (0, 0))) := by
    have := heap_alloc_new (w.alloc (.cells #[.slice a k c, .slice a' m d] 48)) (.cells #[.slice none 0 0, .slice none 0 0] 48)
    rwa [World.size_alloc] at this
  clear hx hx' hG hS K2
  go_enter Tryz.func94, Tryz.ntmps94
  go_upto_region 2 with (first
    | (go_at_call 127; refine R.out.mono ?_; rintro e w1 ⟨b, cap, rfl, hl, b1⟩; have HL := Lib.hid (And.intro hl b1); have E0 := Lib.hid (kc b1 G0.out); have E1 := Lib.hid (kc b1 G1.out); have S0 := Lib.hid (set_block (o := 0) (u := .slice (some ⟨b, 0, none⟩) k cap) E0.out); have S1 : Hid ((w1.setCell ⟨w.heap.size, 0, none⟩ (.slice (some ⟨b, 0, none⟩) k cap)).heap[w.heap.size + 1]? = _) := (Below.heap_setCell _ _ _ _ (by simp)).trans E1.out; clear hl b1; obtain ⟨c0, c1, f0, f1⟩ := row48z E0.out; obtain ⟨d0, d1, h0, h1⟩ := row48z E1.out))
  go_wp2_with (first
    | (go_at_call 127; refine (R2.out _ (HX2.out.keep (keeps_of_below ((belowThen HB.out HL.out.2).setCell (by simp) _)))).mono ?_; rintro e w2 ⟨b', cap', rfl, hl, b2⟩; have HL2 := Lib.hid (And.intro hl b2); have E20 := Lib.hid (kc b2 S0.out); have E21 := Lib.hid (kc b2 S1.out); clear hl b2; clear c0 c1 f0 f1 d0 d1 h0 h1; obtain ⟨c0, c1, f0, f1⟩ := row48z E20.out; obtain ⟨d0, d1, h0, h1⟩ := row48z E21.out))
  obtain ⟨hl, b1⟩ := HL.out
  obtain ⟨hl2, b2⟩ := HL2.out
  have B1 : Below w.heap.size w w1 := below2 b1
  have B1' : Below w.heap.size w (w1.setCell ⟨w.heap.size, 0, none⟩ (.slice (some ⟨b, 0, none⟩) k cap)) := B1.setCell (by simp) _
  have B2 : Below w.heap.size w w2 := belowThen B1' b2
  have sz1 := b1.size
  have sz2 := b2.size
  simp only [World.size_alloc] at sz1
  have g0 : (w2.setCell ⟨w.heap.size, 1, none⟩ (.slice (some ⟨b', 0, none⟩) m cap')).heap[w.heap.size + 1]? = some (.cells #[.slice none 0 0, .slice none 0 0] 48 (0, 0)) := (Below.heap_setCell _ _ _ _ (by simp)).trans E21.out
  have g1 := set_block (o := 0) (u := .slice (some ⟨b, 0, none⟩) k cap) g0
  have g2 := set_block (o := 1) (u := .slice (some ⟨b', 0, none⟩) m cap') g1
  have E : ∀ i, i ≠ w.heap.size → i ≠ w.heap.size + 1 → (((w2.setCell ⟨w.heap.size, 1, none⟩ (.slice (some ⟨b', 0, none⟩) m cap')).setCell ⟨w.heap.size + 1, 0, none⟩ (.slice (some ⟨b, 0, none⟩) k cap)).setCell ⟨w.heap.size + 1, 1, none⟩ (.slice (some ⟨b', 0, none⟩) m cap')).heap[i]? = w2.heap[i]? := fun i h h' => by
    rw [Below.heap_setCell _ _ _ _ h', Below.heap_setCell _ _ _ _ h', Below.heap_setCell _ _ _ _ h]
  refine bodyPost_ret (res48 rfl _ _ (w.heap.size + 1) _ _ (0, 0) rfl g2) rfl ?_
  refine ⟨b, k, cap, b', m, cap', rfl, FmsLent.keep hl (hide_keeps2 fun i h1 h2 => ?_), FmsLent.keep hl2 (hide_keeps2 fun i h1 h2 => ?_), ((B2.setCell (by simp) _).setCell (by simp) _).setCell (by simp) _⟩
  · simp only [lo, World.size_alloc, decide_eq_false_iff_not, Nat.not_lt] at h2 ⊢
    refine ⟨by omega, ?_⟩
    rw [E i (by omega) (by omega), b2.block i (by simpa [World.setCell] using h1)]
    exact Below.heap_setCell _ _ _ _ (by simp; omega)
  · simp only [lo, decide_eq_false_iff_not, Nat.not_lt] at h2 ⊢
    have : w.heap.size + 2 ≤ i := by simp [World.setCell] at h2; omega
    exact ⟨by omega, E i (by omega) (by omega)⟩
theorem keptSeq_c (G S : List Fm) (b n cap b' n' cap' : Nat) (a : Option Addr) (k c : Nat) (a' : Option Addr) (m d : Nat) (w : World) (hu : FmsLent w G (.slice (some ⟨b, 0, none⟩) n cap)) (hv : FmsLent w S (.slice (some ⟨b', 0, none⟩) n' cap'))
    (hx : FmsAt w G (.slice a k c)) (hx' : FmsAt w S (.slice a' m d)) :
    Calls Tryz.prog 95 #[.agg #[.slice (some ⟨b, 0, none⟩) n cap, .slice (some ⟨b', 0, none⟩) n' cap'], .agg #[.slice a k c, .slice a' m d]] w fun e w' => e = .returned (.bool true) ∧ Below w.heap.size w w' := by
  have R : Hid (∀ W, Below w.heap.size w W → Calls Tryz.prog 26 #[.agg #[.slice (some ⟨b, 0, none⟩) n cap, .slice (some ⟨b', 0, none⟩) n' cap'], .agg #[.slice a k c, .slice a' m d]] W fun e w' => e = .returned (.bool true) ∧ Below W.heap.size W w') := fun W hW => by
    have := SameSeq_c G S G S _ _ W ⟨_, _, _, _, _, _, rfl, hu.at.keep (keeps_of_below hW), hv.at.keep (keeps_of_below hW)⟩ ⟨_, _, _, _, _, _, rfl, hx.keep (keeps_of_below hW), hx'.keep (keeps_of_below hW)⟩
    rwa [(fmsSame_iff G G).2 rfl, (fmsSame_iff S S).2 rfl] at this
  have R2 : Hid (∀ W, Below w.heap.size w W → Calls Tryz.prog 129 #[.slice (some ⟨b, 0, none⟩) n cap, .slice a k c] W fun e w' => e = .returned (.bool true) ∧ Below W.heap.size W w') := fun W hW =>
    keptForms_c G _ a k c W (hu.keep (keeps_of_below hW)) (hx.keep (keeps_of_below hW))
  have R3 : Hid (∀ W, Below w.heap.size w W → Calls Tryz.prog 129 #[.slice (some ⟨b', 0, none⟩) n' cap', .slice a' m d] W fun e w' => e = .returned (.bool true) ∧ Below W.heap.size W w') := fun W hW =>
    keptForms_c S _ a' m d W (hv.keep (keeps_of_below hW)) (hx'.keep (keeps_of_below hW))
  clear hu hv hx hx'
  have HB : Hid (Below w.heap.size w ((w.alloc (.cells #[.slice (some ⟨b, 0, none⟩) n cap, .slice (some ⟨b', 0, none⟩) n' cap'] 48)).alloc (.cells #[.slice a k c, .slice a' m d] 48))) := ((Below.refl _ _).alloc (Nat.le_refl _) _).alloc (by simp) _
  have G1 : Hid (((w.alloc (.cells #[.slice (some ⟨b, 0, none⟩) n cap, .slice (some ⟨b', 0, none⟩) n' cap'] 48)).alloc (.cells #[.slice a k c, .slice a' m d] 48)).heap[w.heap.size]? = some (.cells #[.slice (some ⟨b, 0, none⟩) n cap, .slice (some ⟨b', 0, none⟩) n' cap'] 48 (0, 0))) := kc ((Below.refl _ _).alloc (Nat.le_refl _) _) (heap_alloc_new _ _)
  have G2 : Hid (((w.alloc (.cells #[.slice (some ⟨b, 0, none⟩) n cap, .slice (some ⟨b', 0, none⟩) n' cap'] 48)).alloc (.cells #[.slice a k c, .slice a' m d] 48)).heap[w.heap.size + 1]? = some (.cells #[.slice a k c, .slice a' m d] 48 (0, 0))) := by
    have := heap_alloc_new (w.alloc (.cells #[.slice (some ⟨b, 0, none⟩) n cap, .slice (some ⟨b', 0, none⟩) n' cap'] 48)) (.cells #[.slice a k c, .slice a' m d] 48)
    rwa [World.size_alloc] at this
  go_enter Tryz.func95, Tryz.ntmps95
  go_wp2_with (first
    | (go_at_call 26; refine (R.out _ HB.out).mono ?_; rintro e w1 ⟨rfl, b1⟩; have B1 := Lib.hid (belowThen HB.out b1); have E1 := Lib.hid (kc b1 G1.out); have E2 := Lib.hid (kc b1 G2.out); clear b1; obtain ⟨c0, c1, f0, f1⟩ := row48z E1.out; obtain ⟨d0, d1, h0, h1⟩ := row48z E2.out)
    | (go_at_call_of 129 (Value.slice (some ⟨b, 0, none⟩) n cap); refine (R2.out _ B1.out).mono ?_; rintro e w2 ⟨rfl, b2⟩; have B2 := Lib.hid (belowThen B1.out b2); have E21 := Lib.hid (kc b2 E1.out); have E22 := Lib.hid (kc b2 E2.out); clear b2 c0 c1 f0 f1 d0 d1 h0 h1; obtain ⟨c0, c1, f0, f1⟩ := row48z E21.out; obtain ⟨d0, d1, h0, h1⟩ := row48z E22.out)
    | (go_at_call 129; refine (R3.out _ B2.out).mono ?_; rintro e w3 ⟨rfl, b3⟩; have B3 := Lib.hid (belowThen B2.out b3); clear b3))
  go_ret
  exact ⟨rfl, B3.out⟩
end Go.Proofs.YtcandidgaegghaaGreatDoor
end
