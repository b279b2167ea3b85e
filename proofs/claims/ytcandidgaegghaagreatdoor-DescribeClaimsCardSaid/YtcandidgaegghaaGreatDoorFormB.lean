/- Contracts of describe.words, text and Form, at formulas that are ok. -/
import Derived.Test.YtcandidgaegghaaGreatDoorForm
import Derived.Test.YtcandidgaegghaaGreatDoorShelf
namespace Go.Proofs.YtcandidgaegghaaGreatDoor
open Go Go.RowKit Ly
set_option linter.unusedSimpArgs false

theorem own_at (w : World) (s : Bs) {B C : Nat} (hC : w.heap.size = C) (hB : B ≤ C) : OwnStrs B (w.alloc (.cells #[str s] 9)) [s] (.slice (some ⟨C, 0, none⟩) 1 1) := by
  subst hC; exact (own_one w s).mono hB
theorem sub_words_le (op : Int) : ∀ (b : Bool) (l : List Fm), ∀ g ∈ l, g.words.length ≤ (fmsWords op b l).length
  | _, [], g, h => by cases h
  | b, x :: xs, g, h => by
    simp only [fmsWords, List.length_append]
    rcases List.mem_cons.1 h with e | e
    · rw [e]; omega
    · have := sub_words_le op false xs g e; omega

set_option maxHeartbeats 800000 in
theorem words_atom (n : Bs) (ts : List Tm) (a : Option Addr) (k c : Nat) (a' : Option Addr) (m d : Nat) (w : World) (ht : TmsAt w ts (.slice a k c)) (hl : (termWords n ts).length ≤ 1000000) :
    Calls Tryz.prog 161 #[.agg #[.int .u8 1, str n, .slice a k c, .slice a' m d]] w (RetStrs (termWords n ts) w) := by
  have HT := Lib.hid ht
  have HL := Lib.hid hl
  clear ht hl
  go_enter Tryz.func161, Tryz.ntmps161
  go_wp2_with fail
  refine (termWords_any n ts _ _ _ _ (HT.out.keep (keeps1 _ _)) HL.out).mono ?_
  rintro e w1 ⟨v, rfl, h1, h2⟩
  have R : Hid (RetStrs (termWords n ts) w (.returned v) w1) := ⟨v, rfl, h1.mono (by simp), below1 h2⟩
  clear h1 h2
  go_wp2_with fail
  go_ret
  exact R.out

set_option maxHeartbeats 800000 in
theorem words_false (n : Bs) (a : Option Addr) (k c : Nat) (a' : Option Addr) (m d : Nat) (w : World) :
    Calls Tryz.prog 161 #[.agg #[.int .u8 2, str n, .slice a k c, .slice a' m d]] w (RetStrs [wFalse] w) := by
  go_enter Tryz.func161, Tryz.ntmps161
  go_wp2_with fail
  go_ret
  exact ⟨_, rfl, own_at (w.alloc _) wFalse (C := w.heap.size + 1) (by simp) (by omega), ((Below.refl _ _).alloc (Nat.le_refl _) _).alloc (by simp) _⟩

theorem words_step (op : Int) (n : Bs) (ts : List Tm) (sub : List Fm) (hok : (Fm.mk op n ts sub).ok = true) (hsub : ∀ g ∈ sub, FW g) : FW (.mk op n ts sub) := by
  intro a k c a' m d w ht hf hl
  simp only [Fm.ok, Bool.and_eq_true, decide_eq_true_eq] at hok
  obtain ⟨⟨⟨⟨h1, h2⟩, h3⟩, _⟩, _⟩ := hok
  unfold Fm.words at hl ⊢
  show Calls Tryz.prog 161 #[.agg #[.int .u8 op, str n, .slice a k c, .slice a' m d]] w _
  by_cases e1 : op = 1
  · subst e1
    rw [if_pos rfl] at hl ⊢
    exact words_atom n ts a k c a' m d w ht hl
  rw [if_neg e1] at hl ⊢
  by_cases e2 : op = 2
  · subst e2
    rw [if_pos rfl] at hl ⊢
    exact words_false n a k c a' m d w
  rw [if_neg e2] at hl ⊢
  have hop : 3 ≤ op ∧ op ≤ 14 := by
    unfold arity at h1
    repeat (split at h1 <;> first | omega | skip)
  have hn : n.length ≤ 1000000 := by
    rw [if_neg e1] at h3
    simp only [Bool.and_eq_true] at h3
    have h4 := h3.2
    split at h4
    · have := name_len h4; omega
    · simp at h4; subst h4; simp
  cases sub with
  | nil =>
    exfalso
    unfold arity at h1
    simp only [List.length_nil] at h1
    repeat (split at h1 <;> first | omega | skip)
  | cons g gs =>
    have hf' : FmsAt w (g :: gs) (.slice a' m d) := hf
    have hlen := hf'.len
    obtain ⟨b, off, rfl, hc⟩ := hf'.get (by simp)
    obtain ⟨x, x1, x2, y, y1, y2, c0⟩ := hc 0 g rfl
    have hle := sub_words_le op true (g :: gs)
    have hlen1 : gs.length ≤ 1 := Nat.le_of_succ_le_succ h2
    have e : fmsWords op true (g :: gs) = g.words ++ fmsWords op false gs := by rw [fmsWords]; rfl
    rw [e]
    refine words_sub op n hop hn g gs (hsub g (by simp)) (fun h hh => ⟨hsub h (by simp [hh]), Fm.words_ne h, ?_⟩) hlen1 ?_ (Fm.words_ne g) a k c b off m d w x x1 x2 y y1 y2 (by simpa using c0) ?_ (by simpa using hlen.1) hlen.2.1
    · have := hle h (by simp [hh]); simp only [List.length_cons] at hl; omega
    · have := hle g (by simp); simp only [List.length_cons] at hl; omega
    · intro h hh
      have : gs = [h] := by
        match gs, hlen1, hh with
        | [z], _, hh => simp at hh; rw [hh]
      subst this
      obtain ⟨x, x1, x2, y, y1, y2, c1⟩ := hc 1 h rfl
      exact ⟨x, x1, x2, y, y1, y2, by simpa using c1⟩

mutual
theorem words_c : ∀ f : Fm, f.ok = true → FW f
  | .mk op n ts sub, h => words_step op n ts sub h (words_all sub (by simp only [Fm.ok, Bool.and_eq_true] at h; exact h.2))
theorem words_all : ∀ l : List Fm, fmsOk l = true → ∀ g ∈ l, FW g
  | [], _, _, h => by cases h
  | x :: xs, h0, g, h => by
    simp only [fmsOk, Bool.and_eq_true] at h0
    rcases List.mem_cons.1 h with e | e
    · rw [e]; exact words_c x h0.1
    · exact words_all xs h0.2 g e
end

/-- The bytes of pieces, with a space each. -/
def wlen : List Bs → Nat
  | [] => 0
  | x :: r => x.length + 1 + wlen r
theorem wlen_app : ∀ l m : List Bs, wlen (l ++ m) = wlen l + wlen m
  | [], m => by simp [wlen]
  | x :: l, m => by simp [wlen, wlen_app l m]; omega
theorem length_le_wlen : ∀ l : List Bs, l.length ≤ wlen l
  | [] => by simp [wlen]
  | x :: l => by have := length_le_wlen l; simp [wlen]; omega
theorem joinSp_le : ∀ l : List Bs, (joinSp l).length ≤ wlen l
  | [] => by simp [joinSp]
  | [x] => by simp [joinSp, wlen]
  | x :: y :: r => by
    have := joinSp_le (y :: r)
    simp only [joinSp, wlen, List.length_append, List.length_cons] at this ⊢
    omega
mutual
theorem Tm.wlen_le : ∀ t : Tm, t.ok = true → wlen t.words + 10 ≤ 40 * t.nodes
  | .mk v n ts, h => by
    have hn : n.length ≤ 16 := by
      simp only [Tm.ok] at h
      split at h
      · simp only [Bool.and_eq_true] at h; exact name_len h.2
      · simp only [Bool.and_eq_true] at h; exact name_len h.1.2
    have ht : tmsOk ts = true := by
      simp only [Tm.ok] at h
      split at h
      · simp only [Bool.and_eq_true, List.isEmpty_iff] at h; rw [h.1]; rfl
      · simp only [Bool.and_eq_true] at h; exact h.2
    have := tms_wlen true ts ht
    have hc : wlen (if ts.isEmpty then ([] : List Bs) else [wClose]) ≤ 12 := by split <;> simp [wlen, wClose]
    simp only [Tm.words, wlen, wlen_app, Tm.nodes]
    omega
theorem tms_wlen : ∀ (b : Bool) (l : List Tm), tmsOk l = true → wlen (tmsWords b l) ≤ 40 * tmsNodes l
  | _, [], _ => by simp [tmsWords, wlen]
  | b, t :: ts, h => by
    simp only [tmsOk, Bool.and_eq_true] at h
    have h1 := Tm.wlen_le t h.1
    have h2 := tms_wlen false ts h.2
    have hw : (if b = true then wOf else wAnd).length ≤ 4 := by split <;> simp [wOf, wAnd]
    simp only [tmsWords, wlen, wlen_app, tmsNodes]
    omega
end
theorem sign_len (op : Int) (n : Bs) : (signFirst op n).length ≤ 12 + n.length ∧ (signBetween op).length ≤ 8 := by
  constructor
  · unfold signFirst
    repeat' split
    all_goals first | exact Nat.le_trans (m := 12) (by decide) (Nat.le_add_right _ _) | (simp only [wNot, wNec, wPos, wNext, wAlways, wFor, wAll, wSome, wBoth, wEither, wIf, wAs, wWhile, List.length_append, List.length_cons, List.length_nil]; omega)
  · unfold signBetween
    repeat' split
    all_goals decide
mutual
theorem Fm.wlen_le : ∀ f : Fm, f.ok = true → wlen f.words + 10 ≤ 40 * f.nodes
  | .mk op n ts sub, h => by
    simp only [Fm.ok, Bool.and_eq_true, decide_eq_true_eq] at h
    obtain ⟨⟨⟨⟨h1, h2⟩, h3⟩, h4⟩, h5⟩ := h
    have hn : n.length ≤ 16 := by
      split at h3
      · simp only [Bool.and_eq_true] at h3; exact name_len h3.1
      · simp only [Bool.and_eq_true] at h3
        have h6 := h3.2
        split at h6
        · exact name_len h6
        · simp at h6; subst h6; simp
    have a1 := tms_wlen true ts h4
    have a2 := fms_wlen op true sub h5
    have a3 := (sign_len op n).1
    have hc : wlen (if ts.isEmpty then ([] : List Bs) else [wClose]) ≤ 12 := by split <;> simp [wlen, wClose]
    have hf : wlen [wFalse] ≤ 8 := by simp [wlen, wFalse]
    simp only [Fm.words, Fm.nodes]
    split
    · simp only [termWords, wlen, wlen_app]; omega
    · split
      · omega
      · simp only [wlen]; omega
theorem fms_wlen (op : Int) : ∀ (b : Bool) (l : List Fm), fmsOk l = true → wlen (fmsWords op b l) ≤ 40 * fmsNodes l
  | _, [], _ => by simp [fmsWords, wlen]
  | b, f :: fs, h => by
    simp only [fmsOk, Bool.and_eq_true] at h
    have h1 := Fm.wlen_le f h.1
    have h2 := fms_wlen op false fs h.2
    have hw : wlen (if b = true then ([] : List Bs) else [signBetween op]) ≤ 9 := by
      have := (sign_len op []).2
      split <;> simp [wlen]; omega
    simp only [fmsWords, wlen_app, fmsNodes]
    omega
end
theorem right_len {f : Fm} (h : f.right = true) : f.words.length ≤ 16000 ∧ f.text.length ≤ 16000 := by
  simp only [Fm.right, Bool.and_eq_true, decide_eq_true_eq] at h
  have := Fm.wlen_le f h.1.1
  have h1 := length_le_wlen f.words
  have h2 := joinSp_le f.words
  unfold Fm.text
  omega

theorem join_eq : ∀ l : List Bs, Lib.join l [32] = joinSp l
  | [] => rfl
  | [x] => by simp [Lib.join, joinSp]
  | x :: y :: r => by
    have := join_eq (y :: r)
    simp [Lib.join, joinSp] at this ⊢
    exact this

theorem join_own {w : World} {l : List Bs} {v : Value} {B : Nat} (h : OwnStrs B w l v) (hne : l ≠ []) (h1 : l.length ≤ 1000000) (h2 : (joinSp l).length ≤ 1000000) :
    Calls Tryz.prog 37 #[v, .string ⟨#[32]⟩] w fun e w' => e = .returned (str (joinSp l)) ∧ Below w.heap.size w w' := by
  obtain ⟨a, n, c, rfl⟩ := h.strsAt.slice
  have hl := h.strsAt.len
  obtain ⟨b, off, rfl, hc⟩ := h.strsAt.get hne
  have e : (l.map (fun x : Bs => (⟨x.toArray⟩ : ByteArray))).map (·.data.toList) = l := by simp [List.map_map, Function.comp_def]
  have hx := Tryz.strings_Join b off c (l.map (fun x : Bs => (⟨x.toArray⟩ : ByteArray))) ⟨#[32]⟩ w
    (fun j x hj => by
      rw [List.getElem?_map] at hj
      obtain ⟨y, hy, rfl⟩ := Option.map_eq_some_iff.1 hj
      exact hc j y hy)
    (by
      obtain ⟨x, hx⟩ := List.exists_mem_of_ne_nil l hne
      obtain ⟨j, hj⟩ := List.getElem?_of_mem hx
      exact World.block_lt_of_cell? w _ (hc j x hj))
    (by simp; omega) (by simp; have := hl.1; omega) (by rw [e]; show (Lib.join l [32]).length ≤ _; rw [join_eq]; omega)
  rw [e, List.length_map, ← hl.1] at hx
  refine hx.mono ?_
  rintro e w' ⟨rfl, h⟩
  refine ⟨?_, h⟩
  show Ending.returned (.string ⟨(Lib.join l [32]).toArray⟩) = _
  rw [join_eq]

set_option maxHeartbeats 800000 in
theorem text_c (f : Fm) (hok : f.ok = true) (hlen : f.words.length ≤ 1000000 ∧ f.text.length ≤ 1000000) (a : Option Addr) (k c : Nat) (a' : Option Addr) (m d : Nat) (w : World) (ht : TmsAt w f.args (.slice a k c)) (hf : FmsAt w f.sub (.slice a' m d)) :
    Calls Tryz.prog 86 #[.agg #[.int .u8 f.op, str f.name, .slice a k c, .slice a' m d]] w fun e w' => e = .returned (str f.text) ∧ Below w.heap.size w w' := by
  have HT := Lib.hid ht
  have HF := Lib.hid hf
  have HL := Lib.hid hlen
  have HO := Lib.hid hok
  clear ht hf hlen hok
  go_enter Tryz.func86, Tryz.ntmps86
  go_wp2_with fail
  refine (words_c f HO.out _ _ _ _ _ _ _ (HT.out.keep (keeps1 _ _)) (HF.out.keep (keeps1 _ _)) HL.out.1).mono ?_
  rintro e w1 ⟨v, rfl, h1, h2⟩
  have O1 := Lib.hid h1
  have B1 := Lib.hid h2
  clear h1 h2
  go_wp2_with fail
  refine (join_own O1.out (Fm.words_ne f) HL.out.1 HL.out.2).mono ?_
  rintro e w2 ⟨rfl, h2⟩
  have B2 := Lib.hid (belowThen (below1 B1.out) h2)
  clear h2
  go_wp2_with fail
  go_ret
  exact ⟨rfl, B2.out⟩
end Go.Proofs.YtcandidgaegghaaGreatDoor
