/- Plain laws for the describe family: where the reader of words stops at words with one defect. Nothing of the program is imported. -/
import Derived.Test.YtcandidgaegghaaGreatDoorPlC
namespace Ly
open Go.Lib
/-- A word that can stand nowhere. -/
structure Dead (x : Bs) : Prop where
  var : varName x = false
  fn : funName x = false
  pred : predName x = false
  one : oneOp x = 0
  two : twoOp x = 0
  bet : ∀ w, twoOp w ≠ 0 → x ≠ signBetween (twoOp w)
  of : x ≠ wOf
  and : x ≠ wAnd
  close : x ≠ wClose
  fls : x ≠ wFalse
  for_ : x ≠ wFor
  all : x ≠ wAll
  some : x ≠ wSome
/-- What stands behind the good words: nothing, or a dead word. -/
def Stop (s : List Bs) : Prop := s = [] ∨ ∃ x r, s = x :: r ∧ Dead x
theorem Stop.notOf {s : List Bs} (h : Stop s) : NotOf s := by
  rintro y t rfl
  rcases h with h | ⟨x, r, h, d⟩
  · cases h
  · cases h; exact d.of
/-- The reading ends at s. -/
def Stuck {α : Type} (p : PR α) (s : List Bs) (w : Option Bs) : Prop := p = .bad s ∨ (w = some wOf ∧ ∃ y, p = .good y s)
theorem pTerm_stop {s : List Bs} (h : Stop s) {n : Nat} (hn : 1 ≤ n) : pTerm n s = .bad s := by
  obtain ⟨m, rfl⟩ : ∃ m, n = m + 1 := ⟨n - 1, by omega⟩
  rcases h with rfl | ⟨x, r, rfl, d⟩
  · rfl
  · simp [pTerm, d.var, d.fn]
theorem pForm_stop {s : List Bs} (h : Stop s) {n : Nat} (hn : 1 ≤ n) : pForm n s = .bad s := by
  obtain ⟨m, rfl⟩ : ∃ m, n = m + 1 := ⟨n - 1, by omega⟩
  rcases h with rfl | ⟨x, r, rfl, d⟩
  · rfl
  · simp [pForm, d.fls, d.one, d.two, d.for_, d.pred]
theorem take_get {α : Type} {l : List α} {k : Nat} (h : k < l.length) (r : List α) : (l ++ r).take k = l.take k := by
  rw [List.take_append_of_le_length (by omega)]
mutual
theorem pTerm_stuck : ∀ (n : Nat) (t : Tm) (k : Nat) (s : List Bs), t.ok = true → Stop s → k < t.words.length → 3 * (t.words.take k ++ s).length + 1 ≤ n → Stuck (pTerm n (t.words.take k ++ s)) s (t.words[k]?)
  | 0, t, k, s, h, hs, hk, hn => by omega
  | n + 1, .mk v nm as, k, s, h, hs, hk, hn => by
    cases k with
    | zero =>
      rw [List.take_zero, List.nil_append] at hn ⊢
      exact .inl (pTerm_stop hs (by omega))
    | succ k =>
      rw [Tm.words_eq] at hk hn ⊢
      rw [List.take_succ_cons, List.cons_append] at hn ⊢
      rw [List.length_cons] at hk
      simp only [pTerm]
      simp only [Tm.ok] at h
      cases v with
      | true =>
        simp only [if_true, Bool.and_eq_true] at h
        have : as = [] := by simpa using h.1
        subst this
        simp [tmsWords, closeIf] at hk
      | false =>
        simp only [Bool.false_eq_true, if_false, Bool.and_eq_true] at h
        have nv : varName nm ≠ true := fun e => var_not_fun e h.1.2
        simp only [List.length_cons] at hn
        rw [if_neg nv, if_pos h.1.2, List.getElem?_cons_succ]
        rcases pTerms_stuck n as k s h.2 hs (by omega) (by omega) with e | ⟨e1, y, e⟩
        · rw [e]; exact .inl rfl
        · rw [e]; exact .inr ⟨e1, _, rfl⟩
theorem pTerms_stuck : ∀ (n : Nat) (as : List Tm) (k : Nat) (s : List Bs), tmsOk as = true → Stop s → k < (tmsWords true as ++ closeIf as).length → 3 * ((tmsWords true as ++ closeIf as).take k ++ s).length + 1 ≤ n → Stuck (pTerms n ((tmsWords true as ++ closeIf as).take k ++ s)) s ((tmsWords true as ++ closeIf as)[k]?)
  | 0, as, k, s, h, hs, hk, hn => by omega
  | n + 1, [], k, s, h, hs, hk, hn => by simp [tmsWords, closeIf] at hk
  | n + 1, a :: as, k, s, h, hs, hk, hn => by
    have e : tmsWords true (a :: as) ++ closeIf (a :: as) = wOf :: (a.words ++ (tmsWords false as ++ [wClose])) := by simp [tmsWords, closeIf]
    rw [e] at hk hn ⊢
    cases k with
    | zero =>
      rw [List.take_zero, List.nil_append]
      refine .inr ⟨rfl, [], ?_⟩
      rcases hs with rfl | ⟨x, r, rfl, d⟩
      · rfl
      · simp [pTerms, d.of]
    | succ k =>
      rw [List.take_succ_cons, List.cons_append] at hn ⊢
      simp only [pTerms, if_true]
      simp only [List.length_cons] at hn hk
      exact .inl (pArgs_stuck n a as k s h hs (by omega) (by omega))
theorem pArgs_stuck : ∀ (n : Nat) (a : Tm) (as : List Tm) (k : Nat) (s : List Bs), tmsOk (a :: as) = true → Stop s → k < (a.words ++ (tmsWords false as ++ [wClose])).length → 3 * ((a.words ++ (tmsWords false as ++ [wClose])).take k ++ s).length + 2 ≤ n → pArgs n ((a.words ++ (tmsWords false as ++ [wClose])).take k ++ s) = .bad s
  | 0, a, as, k, s, h, hs, hk, hn => by omega
  | n + 1, a, as, k, s, h, hs, hk, hn => by
    have h0 := h
    simp only [tmsOk, Bool.and_eq_true] at h
    by_cases hlt : k < a.words.length
    · rw [take_get hlt] at hn ⊢
      simp only [pArgs]
      rcases pTerm_stuck n a k s h.1 hs hlt (by omega) with e | ⟨_, y, e⟩
      · rw [e]
      · rw [e]
        rcases hs with rfl | ⟨x, r, rfl, d⟩
        · rfl
        · simp [d.and, d.close]
    · obtain ⟨j, rfl⟩ : ∃ j, k = a.words.length + j := ⟨k - a.words.length, by omega⟩
      rw [List.take_length_add_append, List.append_assoc] at hn ⊢
      simp only [List.length_append] at hk
      cases j with
      | zero =>
        rw [List.take_zero, List.nil_append] at hn ⊢
        simp only [pArgs]
        rw [pTerm_ok a n s h.1 hs.notOf (by omega)]
        rcases hs with rfl | ⟨x, r, rfl, d⟩
        · rfl
        · simp [d.and, d.close]
      | succ j =>
        cases as with
        | nil => simp [tmsWords] at hk
        | cons b bs =>
          have e : tmsWords false (b :: bs) ++ [wClose] = wAnd :: (b.words ++ (tmsWords false bs ++ [wClose])) := by simp [tmsWords]
          have ek : (tmsWords false (b :: bs)).length + [wClose].length = (b.words ++ (tmsWords false bs ++ [wClose])).length + 1 := by
            rw [← List.length_append, e, List.length_cons]
          rw [e] at hn ⊢
          rw [List.take_succ_cons, List.cons_append] at hn ⊢
          simp only [pArgs]
          rw [pTerm_ok a n _ h.1 (notOf_cons (by decide)) (by omega)]
          simp only [List.length_append, List.length_cons, List.length_nil] at hn ek hk
          simp only [if_true]
          rw [pArgs_stuck n b bs j s h.2 hs (by simp only [List.length_append, List.length_cons, List.length_nil]; omega) (by simp only [List.length_append]; omega)]
end
theorem stuck_last {α : Type} {p : PR α} {s : List Bs} {w : Option Bs} (h : Stuck p s w) (hw : w ≠ some wOf) : p = .bad s := by
  rcases h with h | ⟨h, _⟩
  · exact h
  · exact absurd h hw
set_option linter.unusedSimpArgs false in
set_option maxRecDepth 4000 in
theorem pForm_stuck : ∀ (n : Nat) (f : Fm) (k : Nat) (s : List Bs), f.ok = true → Stop s → k < f.toks.length → 3 * (f.toks.take k ++ s).length + 1 ≤ n → Stuck (pForm n (f.toks.take k ++ s)) s (f.toks[k]?)
  | 0, f, k, s, h, hs, hk, hn => by omega
  | n + 1, f, 0, s, h, hs, hk, hn => by
    rw [List.take_zero, List.nil_append] at hn ⊢
    exact .inl (pForm_stop hs (by omega))
  | n + 1, .mk op nm as sub, k + 1, s, h, hs, hk, hn => by
    have ho := Fm.ok_op h
    simp only [Fm.ok, Bool.and_eq_true, decide_eq_true_eq] at h
    obtain ⟨⟨⟨⟨l1, _⟩, h2⟩, h3⟩, h4⟩ := h
    by_cases o1 : op = 1
    · subst o1
      have z : sub = [] := len0 (by simpa [arity] using l1)
      subst z
      simp only [Fm.toks, if_true, termWords_eq] at hk hn ⊢
      have hp : predName nm = true := by simp_all
      obtain ⟨e1, e2, e3, e4⟩ := pForm_ok_pred hp
      rw [List.take_succ_cons, List.cons_append] at hn ⊢
      simp only [List.length_cons] at hn hk
      simp only [pForm, e1, e2, e3, e4, if_false, ne_eq, not_true_eq_false, hp, if_true, List.getElem?_cons_succ]
      rcases pTerms_stuck n as k s h3 hs (by omega) (by omega) with e | ⟨e1, y, e⟩
      · rw [e]; exact .inl rfl
      · rw [e]; exact .inr ⟨e1, _, rfl⟩
    · rw [if_neg o1] at h2
      have as0 : as = [] := by simp_all
      subst as0
      by_cases o2 : op = 2
      · subst o2
        simp [Fm.toks] at hk
      · have h2n : op ≠ 8 → op ≠ 9 → nm = [] := by intro a b; simp_all
        have h2v : op = 8 ∨ op = 9 → varName nm = true := by intro a; simp_all
        simp only [Fm.toks, o1, o2, if_false] at hk hn ⊢
        have quant : ∀ (q : Bs) (x : Fm), varName nm = true → (q = wAll ∨ q = wSome) → x.ok = true → k < (q :: nm :: x.toks).length → 3 * ((wFor :: q :: nm :: x.toks).take (k + 1) ++ s).length + 1 ≤ n + 1 → Stuck (pForm (n + 1) ((wFor :: q :: nm :: x.toks).take (k + 1) ++ s)) s ((wFor :: q :: nm :: x.toks)[k + 1]?) := by
          intro q x hv hq hx hk hn
          rw [List.take_succ_cons, List.cons_append] at hn ⊢
          rw [List.getElem?_cons_succ]
          have f1 : wFor ≠ wFalse := by decide
          have f2 : oneOp wFor = 0 := by decide
          have f3 : twoOp wFor = 0 := by decide
          simp only [pForm, f1, f2, f3, if_false, ne_eq, not_true_eq_false, if_true]
          simp only [List.length_cons] at hn hk
          cases k with
          | zero =>
            rw [List.take_zero, List.nil_append]
            refine .inl ?_
            rcases hs with rfl | ⟨y, r, rfl, d⟩
            · rfl
            · simp [d.all, d.some]
          | succ k =>
            rw [List.take_succ_cons, List.cons_append] at hn ⊢
            simp only [hq, if_true]
            cases k with
            | zero =>
              rw [List.take_zero, List.nil_append]
              refine .inl ?_
              rcases hs with rfl | ⟨y, r, rfl, d⟩
              · rfl
              · simp [d.var]
            | succ k =>
              rw [List.take_succ_cons, List.cons_append] at hn ⊢
              simp only [hv, if_true, List.getElem?_cons_succ]
              simp only [List.length_cons] at hn
              rcases pForm_stuck n x k s hx hs (by omega) (by omega) with e | ⟨e1, y, e⟩
              · rw [e]; exact .inl rfl
              · rw [e]; exact .inr ⟨e1, _, rfl⟩
        have one : ∀ (w : Bs) (x : Fm), w ≠ wFalse → oneOp w ≠ 0 → x.ok = true → k < x.toks.length → 3 * ((w :: x.toks).take (k + 1) ++ s).length + 1 ≤ n + 1 → Stuck (pForm (n + 1) ((w :: x.toks).take (k + 1) ++ s)) s ((w :: x.toks)[k + 1]?) := by
          intro w x w1 w2 hx hk hn
          rw [List.take_succ_cons, List.cons_append] at hn ⊢
          simp only [List.length_cons] at hn
          simp only [pForm, w1, w2, if_false, ne_eq, not_false_eq_true, if_true, List.getElem?_cons_succ]
          rcases pForm_stuck n x k s hx hs (by omega) (by omega) with e | ⟨e1, y, e⟩
          · rw [e]; exact .inl rfl
          · rw [e]; exact .inr ⟨e1, _, rfl⟩
        have two : ∀ (w : Bs) (x y : Fm), w ≠ wFalse → oneOp w = 0 → twoOp w ≠ 0 → x.ok = true → y.ok = true → k < (x.toks ++ signBetween (twoOp w) :: y.toks).length → 3 * ((w :: (x.toks ++ signBetween (twoOp w) :: y.toks)).take (k + 1) ++ s).length + 1 ≤ n + 1 →
            Stuck (pForm (n + 1) ((w :: (x.toks ++ signBetween (twoOp w) :: y.toks)).take (k + 1) ++ s)) s ((w :: (x.toks ++ signBetween (twoOp w) :: y.toks))[k + 1]?) := by
          intro w x y w1 w2 w3 hx hy hk hn
          rw [List.take_succ_cons, List.cons_append] at hn ⊢
          simp only [List.length_cons] at hn
          simp only [pForm, w1, w2, w3, if_false, ne_eq, not_true_eq_false, not_false_eq_true, if_true, List.getElem?_cons_succ]
          by_cases hlt : k < x.toks.length
          · rw [take_get hlt] at hn ⊢
            refine .inl ?_
            rcases pForm_stuck n x k s hx hs hlt (by omega) with e | ⟨e1, z, e⟩
            · rw [e]
            · rw [e]
              rcases hs with rfl | ⟨u, r, rfl, d⟩
              · rfl
              · simp [d.bet _ w3]
          · obtain ⟨j, rfl⟩ : ∃ j, k = x.toks.length + j := ⟨k - x.toks.length, by omega⟩
            rw [List.take_length_add_append, List.append_assoc] at hn ⊢
            rw [List.getElem?_append_right (by omega), Nat.add_sub_cancel_left]
            simp only [List.length_append, List.length_cons] at hk
            cases j with
            | zero =>
              rw [List.take_zero, List.nil_append] at hn ⊢
              refine .inl ?_
              rw [pForm_ok n x s hx hs.notOf (by omega)]
              rcases hs with rfl | ⟨u, r, rfl, d⟩
              · rfl
              · simp [d.bet _ w3]
            | succ j =>
              rw [List.take_succ_cons, List.cons_append] at hn ⊢
              rw [pForm_ok n x _ hx (notOf_cons (signBetween_ne _)) (by omega)]
              simp only [List.length_append, List.length_cons] at hn
              simp only [if_true, List.getElem?_cons_succ]
              rcases pForm_stuck n y j s hy hs (by omega) (by simp only [List.length_append]; omega) with e | ⟨e1, z, e⟩
              · rw [e]; exact .inl rfl
              · rw [e]; exact .inr ⟨e1, _, rfl⟩
        rcases ho with ho | ho | rfl | rfl | rfl | rfl | rfl | rfl | rfl | rfl | rfl | rfl | rfl | rfl
        · exact absurd ho o1
        · exact absurd ho o2
        case inr.inr.inr.inr.inr.inr.inr.inl =>
          obtain ⟨x, rfl⟩ := len1 (by simpa [arity] using l1)
          simp only [fmsOk, Bool.and_eq_true] at h4
          simp [signToks, fmsToks] at hk hn ⊢
          exact quant wAll x (h2v (.inl rfl)) (.inl rfl) h4.1 (by simp; omega) (by simp; omega)
        case inr.inr.inr.inr.inr.inr.inr.inr.inl =>
          obtain ⟨x, rfl⟩ := len1 (by simpa [arity] using l1)
          simp only [fmsOk, Bool.and_eq_true] at h4
          simp [signToks, fmsToks] at hk hn ⊢
          exact quant wSome x (h2v (.inr rfl)) (.inr rfl) h4.1 (by simp; omega) (by simp; omega)
        all_goals
          obtain rfl := h2n (by decide) (by decide)
        all_goals first
          | (obtain ⟨x, rfl⟩ := len1 (by simpa [arity] using l1)
             simp only [fmsOk, Bool.and_eq_true] at h4
             simp [signToks, signFirst, fmsToks] at hk hn ⊢
             exact one _ x (by decide) (by decide) h4.1 (by omega) (by simp; omega)
             done)
          | (obtain ⟨x, y, rfl⟩ := len2 (by simpa [arity] using l1)
             simp only [fmsOk, Bool.and_eq_true] at h4
             simp [signToks, signFirst, fmsToks] at hk hn ⊢
             exact two _ x y (by decide) (by decide) (by decide) h4.1 h4.2.1 (by simp; omega) (by simp; omega)
             done)
/- The last word of a formula is never the word of. -/
def LastOk (l : List Bs) : Prop := ∃ u x, l = u ++ [x] ∧ x ≠ wOf
theorem LastOk.app {b : List Bs} (h : LastOk b) (a : List Bs) : LastOk (a ++ b) := by
  obtain ⟨u, x, rfl, hx⟩ := h
  exact ⟨a ++ u, x, by simp, hx⟩
mutual
theorem Fm.last : ∀ f : Fm, f.ok = true → LastOk f.toks
  | .mk op nm as sub, h => by
    have ho := Fm.ok_op h
    simp only [Fm.ok, Bool.and_eq_true, decide_eq_true_eq] at h
    obtain ⟨⟨⟨⟨l1, _⟩, h2⟩, h3⟩, h4⟩ := h
    unfold Fm.toks
    by_cases o1 : op = 1
    · rw [if_pos o1] at h2 ⊢
      rw [termWords_eq]
      cases as with
      | nil =>
        refine ⟨[], nm, by simp [tmsWords, closeIf], ?_⟩
        have hp : predName nm = true := by simp_all
        exact predName_ne hp (by intro c r e; cases e; decide)
      | cons a as => exact ⟨nm :: tmsWords true (a :: as), wClose, by simp [closeIf], by decide⟩
    · rw [if_neg o1]
      by_cases o2 : op = 2
      · rw [if_pos o2]; exact ⟨[], wFalse, rfl, by decide⟩
      · rw [if_neg o2]
        refine LastOk.app (fms_last op true sub h4 ?_) _
        intro e
        subst e
        simp only [List.length_nil, arity] at l1
        (repeat' split at l1) <;> omega
theorem fms_last : ∀ (op : Int) (first : Bool) (l : List Fm), fmsOk l = true → l ≠ [] → LastOk (fmsToks op first l)
  | _, _, [], _, h => absurd rfl h
  | op, first, [x], hk, _ => by
    simp only [fmsOk, Bool.and_eq_true] at hk
    unfold fmsToks
    rw [show fmsToks op false [] = [] from rfl, List.append_nil]
    exact LastOk.app (Fm.last x hk.1) _
  | op, first, x :: y :: r, hk, _ => by
    simp only [fmsOk, Bool.and_eq_true] at hk
    unfold fmsToks
    exact LastOk.app (LastOk.app (fms_last op false (y :: r) (by simp only [fmsOk, Bool.and_eq_true]; exact hk.2) (by simp)) _) _
end
/- Dead words. -/
theorem bet_of (x : Bs) (h : x ≠ wAnd ∧ x ≠ wOr ∧ x ≠ wThen ∧ x ≠ wSo ∧ x ≠ wUntil) : ∀ w, twoOp w ≠ 0 → x ≠ signBetween (twoOp w) := by
  intro w hw
  obtain ⟨h1, h2, h3, h4, h5⟩ := h
  unfold twoOp at hw ⊢
  (repeat' split) <;> simp_all [signBetween]
def wNonsense : Bs := [110, 111, 110, 115, 101, 110, 115, 101, 45]
theorem dead_nonsense (w : Bs) : Dead (wNonsense ++ w) where
  var := by simp [wNonsense, varName, checker]
  fn := by simp [wNonsense, funName, checker, alnum, small, capital, digit]
  pred := by simp [wNonsense, predName, checker, capital]
  one := by simp [wNonsense, oneOp, wNot, wNec, wPos, wNext, wAlways]
  two := by simp [wNonsense, twoOp, wBoth, wEither, wIf, wAs, wWhile]
  bet := bet_of _ (by simp [wNonsense, wAnd, wOr, wThen, wSo, wUntil])
  of := by simp [wNonsense, wOf]
  and := by simp [wNonsense, wAnd]
  close := by simp [wNonsense, wClose]
  fls := by simp [wNonsense, wFalse]
  for_ := by simp [wNonsense, wFor]
  all := by simp [wNonsense, wAll]
  some := by simp [wNonsense, wSome]
theorem dead_nil : Dead [] where
  var := rfl
  fn := rfl
  pred := rfl
  one := by decide
  two := by decide
  bet := bet_of _ (by decide)
  of := by decide
  and := by decide
  close := by decide
  fls := by decide
  for_ := by decide
  all := by decide
  some := by decide
/-- The words V are not read, and the first wrong one is the k-th. -/
def WrongRead (V : List Bs) (k : Nat) : Prop := ∃ r, (pForm (3 * V.length + 1) V = .bad r ∨ ∃ g, pForm (3 * V.length + 1) V = .good g r ∧ r ≠ []) ∧ r.length + k = V.length
theorem wrong_nil : WrongRead [] 0 := ⟨[], .inl rfl, rfl⟩
theorem wrong_set {f : Fm} (h : f.ok = true) {k : Nat} (hk : k < f.toks.length) {x : Bs} (hx : Dead x) : WrongRead (f.toks.set k x) k := by
  have e : f.toks.set k x = f.toks.take k ++ x :: f.toks.drop (k + 1) := List.set_eq_take_append_cons_drop.trans (if_pos hk)
  have hl : (f.toks.take k ++ x :: f.toks.drop (k + 1)).length = f.toks.length := by rw [← e, List.length_set]
  rw [e]
  refine ⟨x :: f.toks.drop (k + 1), ?_, by rw [hl]; simp; omega⟩
  rcases pForm_stuck _ f k (x :: f.toks.drop (k + 1)) h (.inr ⟨x, _, rfl, hx⟩) hk (Nat.le_refl _) with e | ⟨_, y, e⟩
  · exact .inl e
  · exact .inr ⟨y, e, by simp⟩
theorem notOf_P : NotOf [nmP] := notOf_cons (by decide)
theorem wrong_more {f : Fm} (h : f.ok = true) : WrongRead (f.toks ++ [nmP]) f.toks.length :=
  ⟨[nmP], .inr ⟨f, pForm_ok _ f [nmP] h notOf_P (Nat.le_refl _), by simp⟩, by simp; omega⟩
theorem wrong_less {f : Fm} (h : f.ok = true) : WrongRead f.toks.dropLast (f.toks.length - 1) := by
  have h1 : 1 ≤ f.toks.length := List.length_pos_iff.2 (Fm.toks_ne f)
  have e : f.toks.dropLast = f.toks.take (f.toks.length - 1) ++ [] := by rw [List.append_nil, List.dropLast_eq_take]
  have hl : (f.toks.take (f.toks.length - 1) ++ []).length = f.toks.length - 1 := by rw [← e, List.length_dropLast]
  rw [e]
  refine ⟨[], .inl (stuck_last (pForm_stuck _ f (f.toks.length - 1) [] h (.inl rfl) (by omega) (Nat.le_refl _)) ?_), by rw [hl]; simp⟩
  obtain ⟨u, x, e, hx⟩ := Fm.last f h
  rw [e]
  simpa using hx
theorem wrong_then (l : List Bs) : WrongRead (wNot :: wThen :: l) 1 := by
  refine ⟨wThen :: l, .inl ?_, by simp⟩
  have e : pForm (3 * (wNot :: wThen :: l).length) (wThen :: l) = .bad (wThen :: l) := by
    obtain ⟨m, hm⟩ : ∃ m, 3 * (wNot :: wThen :: l).length = m + 1 := ⟨3 * (wNot :: wThen :: l).length - 1, by simp; omega⟩
    rw [hm]
    have a1 : wThen ≠ wFalse := by decide
    have a2 : oneOp wThen = 0 := by decide
    have a3 : twoOp wThen = 0 := by decide
    have a4 : wThen ≠ wFor := by decide
    have a5 : predName wThen = false := by decide
    simp only [pForm, a1, a2, a3, a4, a5, if_false, ne_eq, not_true_eq_false, Bool.false_eq_true]
  have b1 : wNot ≠ wFalse := by decide
  have b2 : oneOp wNot ≠ 0 := by decide
  simp only [pForm, b1, b2, if_false, ne_eq, not_false_eq_true, if_true, e]
theorem wrong_both {f : Fm} (h : f.ok = true) : WrongRead (wBoth :: f.toks) (f.toks.length + 1) := by
  refine ⟨[], .inl ?_, by simp⟩
  have e : pForm (3 * (wBoth :: f.toks).length) f.toks = .good f [] := by
    have := pForm_ok (3 * (wBoth :: f.toks).length) f [] h notOf_nil (by simp; omega)
    simpa using this
  have b1 : wBoth ≠ wFalse := by decide
  have b2 : ¬ (oneOp wBoth ≠ 0) := by decide
  have b3 : twoOp wBoth ≠ 0 := by decide
  simp only [pForm, b1, b2, b3, if_false, ne_eq, not_false_eq_true, if_true, e]
end Ly
