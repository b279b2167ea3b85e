/- Plain laws of lyceumref41's texts: a text that is put together piece by piece is that of the words. Nothing of the program is imported. -/
import Derived.Test.YtcandidgaegghaaGreatDoorPlJ
set_option linter.unusedSimpArgs false
namespace Ly
theorem Tm.words_args' (t : Tm) : t.words = termWords t.name t.args := by cases t; rfl
/-- A name with its first arguments. -/
def teTo (n : Bs) (ts : List Tm) (i : Nat) : Bs := joinSp (n :: tmsWords true (ts.take i))
theorem tmsWords_put : ∀ (b : Bool) (l : List Tm) (t : Tm), tmsWords b (l ++ [t]) = tmsWords b l ++ ((if b && l.isEmpty then wOf else wAnd) :: t.words)
  | true, [], t => by simp [tmsWords]
  | false, [], t => by simp [tmsWords]
  | b, x :: l, t => by
    have := tmsWords_put false l t
    simp only [List.cons_append, tmsWords, this]
    simp
theorem teTo_zero (n : Bs) (ts : List Tm) : teTo n ts 0 = n := by simp [teTo, tmsWords, joinSp]
theorem teTo_succ {n : Bs} {ts : List Tm} {i : Nat} {T : Tm} (h : ts[i]? = some T) : teTo n ts (i + 1) = teTo n ts i ++ 32 :: ((if i = 0 then wOf else wAnd) ++ 32 :: joinSp (termWords T.name T.args)) := by
  have hi := (List.getElem?_eq_some_iff.1 h).1
  have e : ts.take (i + 1) = ts.take i ++ [T] := by rw [List.take_add_one, h]; rfl
  have e2 : (true && (ts.take i).isEmpty) = decide (i = 0) := by
    rw [Bool.true_and, Bool.eq_iff_iff, List.isEmpty_iff_length_eq_zero, List.length_take, decide_eq_true_iff]
    omega
  unfold teTo
  rw [e, tmsWords_put, e2, ← List.cons_append, joinSp_append _ _ (by simp) (by simp), Tm.words_args']
  have tw : termWords T.name T.args ≠ [] := by simp [termWords]
  by_cases hi : i = 0 <;> simp [hi, joinSp_cons _ _ tw]
theorem teTo_end (n : Bs) (ts : List Tm) : joinSp (termWords n ts) = if ts.length = 0 then n else teTo n ts ts.length ++ 32 :: wClose := by
  unfold termWords teTo
  rw [List.take_of_length_le (Nat.le_refl _)]
  cases ts with
  | nil => simp [tmsWords, joinSp]
  | cons t ts =>
    rw [if_neg (by simp), if_neg (by simp)]
    exact joinSp_append (n :: tmsWords true (t :: ts)) [wClose] (by simp) (by simp)
theorem joinSp_len_app (a b : List Bs) : (joinSp a).length ≤ (joinSp (a ++ b)).length := by
  by_cases ha : a = []
  · subst ha; simp [joinSp]
  by_cases hb : b = []
  · subst hb; simp
  rw [joinSp_append _ _ ha hb]; simp
theorem teTo_le (n : Bs) (ts : List Tm) (i : Nat) : (teTo n ts i).length ≤ (joinSp (termWords n ts)).length := by
  have e : ∃ r, termWords n ts = (n :: tmsWords true (ts.take i)) ++ r := by
    have : ∀ (b : Bool) (l m : List Tm), ∃ r, tmsWords b (l ++ m) = tmsWords b l ++ r := by
      intro b l
      induction l generalizing b with
      | nil => intro m; exact ⟨_, rfl⟩
      | cons x l ih =>
        intro m
        obtain ⟨r, hr⟩ := ih false m
        exact ⟨r, by simp [tmsWords, hr]⟩
    obtain ⟨r, hr⟩ := this true (ts.take i) (ts.drop i)
    rw [List.take_append_drop] at hr
    exact ⟨r ++ (if ts.isEmpty then [] else [wClose]), by simp [termWords, hr]⟩
  obtain ⟨r, hr⟩ := e
  rw [hr]
  exact joinSp_len_app _ _
/-- An operator's first word with its first parts. -/
def txTo (op : Int) (n : Bs) (fs : List Fm) (i : Nat) : Bs := joinSp (signFirst op n :: fmsWords op true (fs.take i))
theorem txTo_zero (op : Int) (n : Bs) (fs : List Fm) : txTo op n fs 0 = signFirst op n := by simp [txTo, fmsWords, joinSp]
theorem txTo_one {op : Int} {n : Bs} {fs : List Fm} {g : Fm} (h : fs[0]? = some g) : txTo op n fs 1 = txTo op n fs 0 ++ 32 :: g.text := by
  obtain ⟨r, rfl⟩ : ∃ r, fs = g :: r := by
    cases fs with
    | nil => simp at h
    | cons x r => simp at h; subst h; exact ⟨r, rfl⟩
  simp only [txTo, List.take_succ_cons, List.take_zero, fmsWords, if_true, List.nil_append, List.append_nil]
  rw [joinSp_cons _ _ (Fm.words_ne g)]
  rfl
theorem txTo_two {op : Int} {n : Bs} {fs : List Fm} {g : Fm} (h : fs[1]? = some g) : txTo op n fs 2 = txTo op n fs 1 ++ 32 :: (signBetween op ++ 32 :: g.text) := by
  obtain ⟨a, r, rfl⟩ : ∃ a r, fs = a :: g :: r := by
    match fs, h with
    | [], h => simp at h
    | [x], h => simp at h
    | x :: y :: r, h => simp at h; subst h; exact ⟨x, r, rfl⟩
  simp only [txTo, List.take_succ_cons, List.take_zero, fmsWords, if_true, List.nil_append, List.append_nil, Bool.false_eq_true, if_false]
  rw [← List.cons_append, joinSp_append _ _ (by simp) (by simp), List.singleton_append, joinSp_cons _ _ (Fm.words_ne g)]
  rfl
theorem txTo_end {op : Int} {n : Bs} {ts : List Tm} {fs : List Fm} (h1 : op ≠ 1) (h2 : op ≠ 2) : (Fm.mk op n ts fs).text = txTo op n fs fs.length := by
  unfold txTo Fm.text
  rw [List.take_of_length_le (Nat.le_refl _)]
  simp only [Fm.words, if_neg h1, if_neg h2]
theorem txTo_le {op : Int} {n : Bs} {ts : List Tm} {fs : List Fm} (h1 : op ≠ 1) (h2 : op ≠ 2) (i : Nat) : (txTo op n fs i).length ≤ (Fm.mk op n ts fs).text.length := by
  rw [txTo_end h1 h2]
  have : ∀ (b : Bool) (l m : List Fm), ∃ r, fmsWords op b (l ++ m) = fmsWords op b l ++ r := by
    intro b l
    induction l generalizing b with
    | nil => intro m; exact ⟨_, rfl⟩
    | cons x l ih =>
      intro m
      obtain ⟨r, hr⟩ := ih false m
      exact ⟨r, by simp [fmsWords, hr]⟩
  obtain ⟨r, hr⟩ := this true (fs.take i) (fs.drop i)
  rw [List.take_append_drop] at hr
  unfold txTo
  rw [List.take_of_length_le (Nat.le_refl fs.length), hr, ← List.cons_append]
  exact joinSp_len_app _ _
/-- The pieces of a text are no longer than the text. -/
theorem te_part_le {n : Bs} {ts : List Tm} {i : Nat} {T : Tm} (h : ts[i]? = some T) : (joinSp (termWords T.name T.args)).length ≤ (joinSp (termWords n ts)).length := by
  have h1 := teTo_le n ts (i + 1)
  rw [teTo_succ h] at h1
  simp at h1
  omega
end Ly
