/- Plain laws: reading words back; what the statements build out of bytes is right; claims are told by their words. Nothing of the program is imported. -/
import Derived.Test.YtcandidgaegghaaGreatDoorPl
set_option linter.unusedSimpArgs false
/- Plain law: reading words back. What the reader of words answers, and that it reads the words of a right formula. Nothing of the program is imported. -/
namespace Ly

/-- What a reading gives: the words that are left where it failed, or what was read and the words that are left. -/
inductive PR (α : Type) where
  | bad (rest : List Bs)
  | good (x : α) (rest : List Bs)

mutual
def pTerm : Nat → List Bs → PR Tm
  | 0, ws => .bad ws
  | _ + 1, [] => .bad []
  | n + 1, w :: ws =>
    if varName w = true then .good (.mk true w []) ws
    else if funName w = true then
      match pTerms n ws with
      | .bad r => .bad r
      | .good as r => .good (.mk false w as) r
    else .bad (w :: ws)
def pTerms : Nat → List Bs → PR (List Tm)
  | 0, ws => .bad ws
  | _ + 1, [] => .good [] []
  | n + 1, w :: ws => if w = wOf then pArgs n ws else .good [] (w :: ws)
def pArgs : Nat → List Bs → PR (List Tm)
  | 0, ws => .bad ws
  | n + 1, ws =>
    match pTerm n ws with
    | .bad r => .bad r
    | .good _ [] => .bad []
    | .good t (x :: r) =>
      if x = wAnd then
        match pArgs n r with
        | .bad s => .bad s
        | .good ts s => .good (t :: ts) s
      else if x = wClose then .good [t] r else .bad (x :: r)
end

def oneOp (w : Bs) : Int := if w = wNot then 3 else if w = wNec then 10 else if w = wPos then 11 else if w = wNext then 12 else if w = wAlways then 13 else 0
def twoOp (w : Bs) : Int := if w = wBoth then 4 else if w = wEither then 5 else if w = wIf then 6 else if w = wAs then 7 else if w = wWhile then 14 else 0

def pForm : Nat → List Bs → PR Fm
  | 0, ws => .bad ws
  | _ + 1, [] => .bad []
  | n + 1, w :: ws =>
    if w = wFalse then .good (.mk 2 [] [] []) ws
    else if oneOp w ≠ 0 then
      match pForm n ws with
      | .bad r => .bad r
      | .good f r => .good (.mk (oneOp w) [] [] [f]) r
    else if twoOp w ≠ 0 then
      match pForm n ws with
      | .bad r => .bad r
      | .good _ [] => .bad []
      | .good f (x :: r) =>
        if x = signBetween (twoOp w) then
          match pForm n r with
          | .bad s => .bad s
          | .good g s => .good (.mk (twoOp w) [] [] [f, g]) s
        else .bad (x :: r)
    else if w = wFor then
      match ws with
      | [] => .bad []
      | q :: ws' =>
        if q = wAll ∨ q = wSome then
          match ws' with
          | [] => .bad []
          | v :: r =>
            if varName v = true then
              match pForm n r with
              | .bad s => .bad s
              | .good f s => .good (.mk (if q = wSome then 9 else 8) v [] [f]) s
            else .bad (v :: r)
        else .bad (q :: ws')
    else if predName w = true then
      match pTerms n ws with
      | .bad r => .bad r
      | .good as r => .good (.mk 1 w as []) r
    else .bad (w :: ws)

/- What is left is shorter. -/
mutual
theorem pTerm_len : ∀ (n : Nat) (ws : List Bs) (t : Tm) (r : List Bs), pTerm n ws = .good t r → r.length < ws.length
  | 0, ws, t, r, h => by simp [pTerm] at h
  | n + 1, [], t, r, h => by simp [pTerm] at h
  | n + 1, w :: ws, t, r, h => by
    simp only [pTerm] at h
    split at h
    · simp at h; obtain ⟨_, rfl⟩ := h; simp
    · split at h
      · split at h
        · cases h
        · rename_i as r' e
          have := pTerms_len n ws as r' e
          simp at h; obtain ⟨_, rfl⟩ := h; simp; omega
      · cases h
theorem pTerms_len : ∀ (n : Nat) (ws : List Bs) (t : List Tm) (r : List Bs), pTerms n ws = .good t r → r.length ≤ ws.length
  | 0, ws, t, r, h => by simp [pTerms] at h
  | n + 1, [], t, r, h => by simp [pTerms] at h; obtain ⟨_, rfl⟩ := h; simp
  | n + 1, w :: ws, t, r, h => by
    simp only [pTerms] at h
    split at h
    · have := pArgs_len n ws t r h; simp; omega
    · simp at h; obtain ⟨_, rfl⟩ := h; simp
theorem pArgs_len : ∀ (n : Nat) (ws : List Bs) (t : List Tm) (r : List Bs), pArgs n ws = .good t r → r.length < ws.length
  | 0, ws, t, r, h => by simp [pArgs] at h
  | n + 1, ws, t, r, h => by
    simp only [pArgs] at h
    split at h
    · cases h
    · cases h
    · rename_i t' x r' e
      have h1 := pTerm_len n ws t' _ e
      simp at h1
      split at h
      · split at h
        · cases h
        · rename_i ts s e2
          have h2 := pArgs_len n r' ts s e2
          simp at h; obtain ⟨_, rfl⟩ := h; omega
      · split at h
        · simp at h; obtain ⟨_, rfl⟩ := h; omega
        · cases h
end

theorem pForm_len : ∀ (n : Nat) (ws : List Bs) (t : Fm) (r : List Bs), pForm n ws = .good t r → r.length < ws.length
  | 0, ws, t, r, h => by simp [pForm] at h
  | n + 1, [], t, r, h => by simp [pForm] at h
  | n + 1, w :: ws, t, r, h => by
    simp only [pForm] at h
    split at h
    · simp at h; obtain ⟨_, rfl⟩ := h; simp
    split at h
    · split at h
      · cases h
      · rename_i f r' e
        have := pForm_len n ws f r' e
        simp at h; obtain ⟨_, rfl⟩ := h; simp; omega
    split at h
    · split at h
      · cases h
      · cases h
      · rename_i f x r' e
        have h1 := pForm_len n ws f _ e
        simp at h1
        split at h
        · split at h
          · cases h
          · rename_i g s e2
            have h2 := pForm_len n r' g s e2
            simp at h; obtain ⟨_, rfl⟩ := h; simp; omega
        · cases h
    split at h
    · split at h
      · cases h
      · rename_i q ws'
        split at h
        · split at h
          · cases h
          · rename_i v r'
            split at h
            · split at h
              · cases h
              · rename_i f s e
                have := pForm_len n r' f s e
                simp at h; obtain ⟨_, rfl⟩ := h; simp; omega
            · cases h
        · cases h
    split at h
    · split at h
      · cases h
      · rename_i as r' e
        have := pTerms_len n ws as r' e
        simp at h; obtain ⟨_, rfl⟩ := h; simp; omega
    · cases h

/- The words of what is right are read. -/
mutual
theorem pTerm_ok : ∀ (t : Tm) (n : Nat) (r : List Bs), t.ok = true → NotOf r → 3 * (t.words ++ r).length + 1 ≤ n → pTerm n (t.words ++ r) = .good t r
  | .mk v nm as, n, r, h, hr, hn => by
    rw [Tm.words_eq, List.cons_append] at hn ⊢
    obtain ⟨m, rfl⟩ : ∃ m, n = m + 1 := ⟨n - 1, by omega⟩
    simp only [pTerm]
    simp only [Tm.ok] at h
    cases v with
    | true =>
      simp only [if_true, Bool.and_eq_true] at h
      have : as = [] := by simpa using h.1
      subst this
      simp [h.2, tmsWords, closeIf]
    | false =>
      simp only [Bool.false_eq_true, if_false, Bool.and_eq_true] at h
      have nv : varName nm ≠ true := fun e => var_not_fun e h.1.2
      simp only [List.length_cons] at hn
      rw [if_neg nv, if_pos h.1.2, pTerms_ok as m r h.2 hr (by omega)]
theorem pTerms_ok : ∀ (as : List Tm) (n : Nat) (r : List Bs), tmsOk as = true → NotOf r → 3 * ((tmsWords true as ++ closeIf as) ++ r).length + 1 ≤ n → pTerms n ((tmsWords true as ++ closeIf as) ++ r) = .good as r
  | [], n, r, h, hr, hn => by
    obtain ⟨m, rfl⟩ : ∃ m, n = m + 1 := ⟨n - 1, by omega⟩
    cases r with
    | nil => simp [tmsWords, closeIf, pTerms]
    | cons x r => have := hr x r rfl; simp [tmsWords, closeIf, pTerms, this]
  | a :: as, n, r, h, hr, hn => by
    obtain ⟨m, rfl⟩ : ∃ m, n = m + 1 := ⟨n - 1, by omega⟩
    have e : (tmsWords true (a :: as) ++ closeIf (a :: as)) ++ r = wOf :: (a.words ++ (tmsWords false as ++ wClose :: r)) := by simp [tmsWords, closeIf]
    rw [e] at hn ⊢
    simp only [pTerms, if_true]
    simp only [List.length_cons] at hn
    exact pArgs_ok a as m r h hr (by omega)
theorem pArgs_ok : ∀ (a : Tm) (as : List Tm) (n : Nat) (r : List Bs), tmsOk (a :: as) = true → NotOf r → 3 * (a.words ++ (tmsWords false as ++ wClose :: r)).length + 2 ≤ n → pArgs n (a.words ++ (tmsWords false as ++ wClose :: r)) = .good (a :: as) r
  | a, [], n, r, h, hr, hn => by
    obtain ⟨m, rfl⟩ : ∃ m, n = m + 1 := ⟨n - 1, by omega⟩
    simp only [tmsOk, Bool.and_eq_true] at h
    simp only [tmsWords, List.nil_append] at hn ⊢
    simp only [pArgs]
    rw [pTerm_ok a m (wClose :: r) h.1 (notOf_cons (by decide)) (by omega)]
    simp [show wClose ≠ wAnd by decide]
  | a, b :: bs, n, r, h, hr, hn => by
    obtain ⟨m, rfl⟩ : ∃ m, n = m + 1 := ⟨n - 1, by omega⟩
    have h0 := h
    simp only [tmsOk, Bool.and_eq_true] at h
    have e : tmsWords false (b :: bs) ++ wClose :: r = wAnd :: (b.words ++ (tmsWords false bs ++ wClose :: r)) := by simp [tmsWords]
    rw [e] at hn ⊢
    simp only [pArgs]
    rw [pTerm_ok a m _ h.1 (notOf_cons (by decide)) (by omega)]
    simp only [List.length_append, List.length_cons] at hn
    simp only [if_true]
    rw [pArgs_ok b bs m r (by simp only [tmsOk, Bool.and_eq_true]; exact h.2) hr (by simp only [List.length_append, List.length_cons]; omega)]
end

theorem pForm_ok_pred {w : Bs} (h : predName w = true) : w ≠ wFalse ∧ oneOp w = 0 ∧ twoOp w = 0 ∧ w ≠ wFor := by
  have e : ∀ k : Bs, (∀ c r, k = c :: r → capital c = false) → w ≠ k := fun k hk => predName_ne h hk
  have h2 := e wFalse (by intro c r e; cases e; decide)
  have h3 := e wNot (by intro c r e; cases e; decide)
  have h10 := e wNec (by intro c r e; cases e; decide)
  have h11 := e wPos (by intro c r e; cases e; decide)
  have h12 := e wNext (by intro c r e; cases e; decide)
  have h13 := e wAlways (by intro c r e; cases e; decide)
  have h4 := e wBoth (by intro c r e; cases e; decide)
  have h5 := e wEither (by intro c r e; cases e; decide)
  have h6 := e wIf (by intro c r e; cases e; decide)
  have h7 := e wAs (by intro c r e; cases e; decide)
  have h14 := e wWhile (by intro c r e; cases e; decide)
  have h8 := e wFor (by intro c r e; cases e; decide)
  refine ⟨h2, ?_, ?_, h8⟩
  · simp [oneOp, h3, h10, h11, h12, h13]
  · simp [twoOp, h4, h5, h6, h7, h14]

theorem len0 {α : Type} {l : List α} (h : l.length = 0) : l = [] := List.eq_nil_of_length_eq_zero h
theorem len1 {α : Type} {l : List α} (h : l.length = 1) : ∃ x, l = [x] := by
  match l, h with
  | [x], _ => exact ⟨x, rfl⟩
theorem len2 {α : Type} {l : List α} (h : l.length = 2) : ∃ x y, l = [x, y] := by
  match l, h with
  | [x, y], _ => exact ⟨x, y, rfl⟩

set_option linter.unusedSimpArgs false in
set_option maxRecDepth 4000 in
theorem pForm_ok : ∀ (n : Nat) (f : Fm) (r : List Bs), f.ok = true → NotOf r → 3 * (f.toks ++ r).length + 1 ≤ n → pForm n (f.toks ++ r) = .good f r
  | 0, f, r, h, hr, hn => by omega
  | n + 1, .mk op nm as sub, r, h, hr, hn => by
    have ho := Fm.ok_op h
    have hk := h
    simp only [Fm.ok, Bool.and_eq_true, decide_eq_true_eq] at h
    obtain ⟨⟨⟨⟨l1, _⟩, h2⟩, h3⟩, h4⟩ := h
    by_cases o1 : op = 1
    · subst o1
      have z : sub = [] := len0 (by simpa [arity] using l1)
      subst z
      simp only [Fm.toks, if_true, termWords_eq, List.cons_append] at hn ⊢
      have hp : predName nm = true := by simp_all
      obtain ⟨e1, e2, e3, e4⟩ := pForm_ok_pred hp
      simp only [List.length_cons] at hn
      simp only [pForm, e1, e2, e3, e4, if_false, ne_eq, not_true_eq_false, hp, if_true]
      rw [pTerms_ok as n r h3 hr (by omega)]
    · rw [if_neg o1] at h2
      have as0 : as = [] := by simp_all
      subst as0
      by_cases o2 : op = 2
      · subst o2
        have z : sub = [] := len0 (by simpa [arity] using l1)
        have en : nm = [] := by simp_all
        subst z en
        simp [Fm.toks, pForm]
      · have h2n : op ≠ 8 → op ≠ 9 → nm = [] := by intro a b; simp_all
        have h2v : op = 8 ∨ op = 9 → varName nm = true := by intro a; simp_all
        simp only [Fm.toks, o1, o2, if_false, List.append_assoc] at hn ⊢
        rcases ho with ho | ho | rfl | rfl | rfl | rfl | rfl | rfl | rfl | rfl | rfl | rfl | rfl | rfl
        · exact absurd ho o1
        · exact absurd ho o2
        case inr.inr.inr.inr.inr.inr.inr.inl =>
          obtain ⟨x, rfl⟩ := len1 (by simpa [arity] using l1)
          simp only [fmsOk, Bool.and_eq_true] at h4
          simp [signToks, fmsToks] at hn
          simp [signToks, fmsToks, pForm, oneOp, twoOp, wFor, wFalse, wNot, wNec, wPos, wNext, wAlways, wBoth, wEither, wIf, wAs, wWhile, wAll, wSome, h2v (.inl rfl)]
          rw [pForm_ok n x r h4.1 hr (by simp; omega)]
        case inr.inr.inr.inr.inr.inr.inr.inr.inl =>
          obtain ⟨x, rfl⟩ := len1 (by simpa [arity] using l1)
          simp only [fmsOk, Bool.and_eq_true] at h4
          simp [signToks, fmsToks] at hn
          simp [signToks, fmsToks, pForm, oneOp, twoOp, wFor, wFalse, wNot, wNec, wPos, wNext, wAlways, wBoth, wEither, wIf, wAs, wWhile, wAll, wSome, h2v (.inr rfl)]
          rw [pForm_ok n x r h4.1 hr (by simp; omega)]
        all_goals
          obtain rfl := h2n (by decide) (by decide)
        all_goals first
          | (obtain ⟨x, rfl⟩ := len1 (by simpa [arity] using l1)
             simp only [fmsOk, Bool.and_eq_true] at h4
             simp [signToks, signFirst, fmsToks] at hn
             simp [signToks, signFirst, fmsToks, pForm, oneOp, twoOp, wFor, wFalse, wNot, wNec, wPos, wNext, wAlways, wBoth, wEither, wIf, wAs, wWhile, wAll, wSome]
             rw [pForm_ok n x r h4.1 hr (by simp; omega)]
             done)
          | (obtain ⟨x, y, rfl⟩ := len2 (by simpa [arity] using l1)
             simp only [fmsOk, Bool.and_eq_true] at h4
             simp [signToks, signFirst, fmsToks] at hn
             simp [signToks, signFirst, fmsToks, pForm, oneOp, twoOp, wFor, wFalse, wNot, wNec, wPos, wNext, wAlways, wBoth, wEither, wIf, wAs, wWhile, wAll, wSome]
             rw [pForm_ok n x (_ :: (y.toks ++ r)) h4.1 (notOf_cons (signBetween_ne _)) (by simp; omega)]
             simp
             rw [pForm_ok n y r h4.2.1 hr (by simp; omega)]
             done)
end Ly
/- Plain law: the formulas and proofs that the statements build out of bytes (lyceumlaw30.Built, lyceumlaw41.Proved), and that they are right. Nothing of the program is imported. -/
namespace Ly

def nmX : Bs := [120]
def nmY : Bs := [121]
def nmZ : Bs := [122]
def nmA : Bs := [97]
def nmB : Bs := [98]
def nmF : Bs := [102]
def nmG : Bs := [103]
def nmP : Bs := [80]
def nmQ : Bs := [81]
def nmR : Bs := [82]
def varXYZ (k : Nat) : Bs := if k = 0 then nmX else if k = 1 then nmY else nmZ
def predPQR (k : Nat) : Bs := if k = 0 then nmP else if k = 1 then nmQ else nmR
def leafTm (k : Nat) : Tm := if k = 0 then .mk true nmX [] else if k = 1 then .mk true nmY [] else if k = 2 then .mk true nmZ [] else if k = 3 then .mk false nmA [] else .mk false nmB []
/-- lyceumlaw30.term -/
def builtTm (b : Nat) : Tm := if 0 < b / 5 % 3 then .mk false (if b / 5 % 3 = 1 then nmF else nmG) [leafTm (b % 5)] else leafTm (b % 5)
def unOp (k : Nat) : Int := if k = 0 then 3 else if k = 1 then 10 else 12

def fls : Fm := .mk 2 [] [] []
/-- One step of lyceumlaw30.Built on what was put so far. -/
def bStep (s : List Fm) (c : Nat) : List Fm :=
  if c % 12 < 2 then s ++ [.mk 1 (predPQR (c / 12 % 3)) [] []]
  else if c % 12 < 4 then s ++ [.mk 1 (if c % 12 % 2 = 0 then nmP else nmQ) [builtTm (c / 12)] []]
  else if c % 12 = 4 then s ++ [.mk 1 nmR [builtTm (c / 12), builtTm (c / 12 / 3)] []]
  else if c % 12 = 5 then s ++ [fls]
  else if c % 12 = 6 then (if 1 ≤ s.length then s.take (s.length - 1) ++ [.mk (unOp (c / 12 % 3)) [] [] [s.getD (s.length - 1) fls]] else s)
  else if c % 12 < 10 then (if 2 ≤ s.length then s.take (s.length - 2) ++ [.mk ((c % 12 : Nat) - 3) [] [] [s.getD (s.length - 2) fls, s.getD (s.length - 1) fls]] else s)
  else (if 1 ≤ s.length then s.take (s.length - 1) ++ [.mk ((c % 12 : Nat) - 2) (varXYZ (c / 12 % 3)) [] [s.getD (s.length - 1) fls]] else s)
def bFold (l : Bs) : List Fm := l.foldl (fun s c => bStep s c.toNat) []
def untils : Fm → List Fm → Fm := fun f r => r.foldl (fun f g => .mk 14 [] [] [f, g]) f
def builtOf : List Fm → Fm
  | [] => fls
  | f :: r => untils f r
def built (l : Bs) : Fm := builtOf (bFold (l.take 20))

/- They are right. -/
theorem leafTm_ok (k : Nat) : (leafTm k).ok = true ∧ (leafTm k).nodes = 1 ∧ (leafTm k).depth = 1 := by
  unfold leafTm
  repeat' split
  all_goals exact ⟨by decide, by decide, by decide⟩
theorem builtTm_ok (b : Nat) : (builtTm b).ok = true ∧ (builtTm b).nodes ≤ 2 ∧ (builtTm b).depth ≤ 2 := by
  obtain ⟨h1, h2, h3⟩ := leafTm_ok (b % 5)
  unfold builtTm
  split
  · refine ⟨?_, ?_, ?_⟩
    · split <;> simp [Tm.ok, tmsOk, h1] <;> decide
    · simp [Tm.nodes, tmsNodes, h2]
    · simp [Tm.depth, tmsDepth, h3]
  · exact ⟨h1, by omega, by omega⟩

/-- What holds of what was put behind k steps. -/
def BInv (k : Nat) (s : List Fm) : Prop := s.length ≤ k ∧ fmsNodes s ≤ 5 * k ∧ ∀ f ∈ s, f.ok = true ∧ f.depth + s.length ≤ 3 + k

theorem fmsNodes_append (a b : List Fm) : fmsNodes (a ++ b) = fmsNodes a + fmsNodes b := by
  induction a with
  | nil => simp [fmsNodes]
  | cons x a ih => simp [fmsNodes, ih]; omega
theorem fmsOk_iff (l : List Fm) : fmsOk l = true ↔ ∀ f ∈ l, f.ok = true := by
  induction l with
  | nil => simp [fmsOk]
  | cons x l ih => simp [fmsOk, ih]
theorem getD_mem {l : List Fm} {i : Nat} (h : i < l.length) : l.getD i fls ∈ l := by
  rw [List.getD_eq_getElem?_getD, List.getElem?_eq_getElem h]; simp
theorem getD_split1 {l : List Fm} (h : 1 ≤ l.length) : l = l.take (l.length - 1) ++ [l.getD (l.length - 1) fls] := by
  conv => lhs; rw [← List.take_append_drop (l.length - 1) l]
  rw [List.drop_eq_getElem_cons (by omega)]
  rw [List.drop_of_length_le (by omega)]
  simp [List.getD_eq_getElem?_getD, List.getElem?_eq_getElem (show l.length - 1 < l.length by omega)]
theorem getD_split2 {l : List Fm} (h : 2 ≤ l.length) : l = l.take (l.length - 2) ++ [l.getD (l.length - 2) fls, l.getD (l.length - 1) fls] := by
  conv => lhs; rw [← List.take_append_drop (l.length - 2) l]
  rw [List.drop_eq_getElem_cons (by omega), show l.length - 2 + 1 = l.length - 1 by omega, List.drop_eq_getElem_cons (by omega)]
  rw [List.drop_of_length_le (by omega)]
  simp [List.getD_eq_getElem?_getD, List.getElem?_eq_getElem (show l.length - 1 < l.length by omega), List.getElem?_eq_getElem (show l.length - 2 < l.length by omega)]

theorem binv_put {k : Nat} {s : List Fm} (h : BInv k s) {f : Fm} (h1 : f.ok = true) (h2 : f.nodes ≤ 5) (h3 : f.depth ≤ 3) : BInv (k + 1) (s ++ [f]) := by
  obtain ⟨a, b, c⟩ := h
  refine ⟨by simp; omega, by rw [fmsNodes_append]; simp [fmsNodes]; omega, ?_⟩
  intro g hg
  simp only [List.length_append, List.length_cons, List.length_nil]
  rcases List.mem_append.1 hg with hg | hg
  · have := c g hg; exact ⟨this.1, by omega⟩
  · simp only [List.mem_cons, List.mem_nil_iff, or_false] at hg; subst hg; exact ⟨h1, by omega⟩
theorem binv_same {k : Nat} {s : List Fm} (h : BInv k s) : BInv (k + 1) s := by
  obtain ⟨a, b, c⟩ := h
  exact ⟨by omega, by omega, fun g hg => ⟨(c g hg).1, by have := (c g hg).2; omega⟩⟩

theorem ok_one {op : Int} {n : Bs} {f : Fm} (h : f.ok = true) (ho : op = 3 ∨ op = 10 ∨ op = 12 ∨ op = 8 ∨ op = 9) (hn : if op = 8 ∨ op = 9 then varName n = true else n = []) : (Fm.mk op n [] [f]).ok = true := by
  simp only [Fm.ok, fmsOk, tmsOk, h]
  rcases ho with rfl | rfl | rfl | rfl | rfl <;> simp [arity] at hn ⊢ <;> simp [hn]
theorem ok_two {op : Int} {f g : Fm} (h : f.ok = true) (h' : g.ok = true) (ho : op = 4 ∨ op = 5 ∨ op = 6 ∨ op = 7 ∨ op = 14) : (Fm.mk op [] [] [f, g]).ok = true := by
  simp only [Fm.ok, fmsOk, tmsOk, h, h']
  rcases ho with rfl | rfl | rfl | rfl | rfl <;> simp [arity]

theorem binv_one {k : Nat} {s : List Fm} (h : BInv k s) (hl : 1 ≤ s.length) {op : Int} {n : Bs} (ho : op = 3 ∨ op = 10 ∨ op = 12 ∨ op = 8 ∨ op = 9) (hn : if op = 8 ∨ op = 9 then varName n = true else n = []) :
    BInv (k + 1) (s.take (s.length - 1) ++ [.mk op n [] [s.getD (s.length - 1) fls]]) := by
  obtain ⟨a, b, c⟩ := h
  have e := getD_split1 hl
  have en : fmsNodes s = fmsNodes (s.take (s.length - 1)) + (s.getD (s.length - 1) fls).nodes := by conv => lhs; rw [e, fmsNodes_append]; simp only [fmsNodes, Nat.add_zero]
  have hm := c _ (getD_mem (l := s) (i := s.length - 1) (by omega))
  refine ⟨by simp; omega, by rw [fmsNodes_append]; simp only [fmsNodes, Fm.nodes, tmsNodes]; omega, ?_⟩
  intro g hg
  simp only [List.length_append, List.length_take, List.length_cons, List.length_nil]
  rcases List.mem_append.1 hg with hg | hg
  · have := c g (List.mem_of_mem_take hg); exact ⟨this.1, by omega⟩
  · simp only [List.mem_cons, List.mem_nil_iff, or_false] at hg; subst hg
    exact ⟨ok_one hm.1 ho hn, by simp only [Fm.depth, tmsDepth, fmsDepth]; omega⟩
theorem binv_two {k : Nat} {s : List Fm} (h : BInv k s) (hl : 2 ≤ s.length) {op : Int} (ho : op = 4 ∨ op = 5 ∨ op = 6 ∨ op = 7 ∨ op = 14) :
    BInv (k + 1) (s.take (s.length - 2) ++ [.mk op [] [] [s.getD (s.length - 2) fls, s.getD (s.length - 1) fls]]) := by
  obtain ⟨a, b, c⟩ := h
  have e := getD_split2 hl
  have en : fmsNodes s = fmsNodes (s.take (s.length - 2)) + ((s.getD (s.length - 2) fls).nodes + (s.getD (s.length - 1) fls).nodes) := by conv => lhs; rw [e, fmsNodes_append]; simp only [fmsNodes, Nat.add_zero]
  have hm := c _ (getD_mem (l := s) (i := s.length - 1) (by omega))
  have hm2 := c _ (getD_mem (l := s) (i := s.length - 2) (by omega))
  refine ⟨by simp; omega, by rw [fmsNodes_append]; simp only [fmsNodes, Fm.nodes, tmsNodes]; omega, ?_⟩
  intro g hg
  simp only [List.length_append, List.length_take, List.length_cons, List.length_nil]
  rcases List.mem_append.1 hg with hg | hg
  · have := c g (List.mem_of_mem_take hg); exact ⟨this.1, by omega⟩
  · simp only [List.mem_cons, List.mem_nil_iff, or_false] at hg; subst hg
    exact ⟨ok_two hm2.1 hm.1 ho, by simp only [Fm.depth, tmsDepth, fmsDepth]; omega⟩

theorem predPQR_ok (k : Nat) : predName (predPQR k) = true := by unfold predPQR; (repeat' split) <;> decide
theorem varXYZ_ok (k : Nat) : varName (varXYZ k) = true := by unfold varXYZ; (repeat' split) <;> decide

theorem bStep_inv {k : Nat} {s : List Fm} (h : BInv k s) (c : Nat) : BInv (k + 1) (bStep s c) := by
  obtain ⟨t1, t2, t3⟩ := builtTm_ok (c / 12)
  obtain ⟨u1, u2, u3⟩ := builtTm_ok (c / 12 / 3)
  unfold bStep
  split
  · refine binv_put h ?_ (by simp [Fm.nodes, tmsNodes, fmsNodes]) (by simp [Fm.depth, tmsDepth, fmsDepth])
    simp [Fm.ok, arity, predPQR_ok, tmsOk, fmsOk]
  split
  · refine binv_put h ?_ (by simp [Fm.nodes, tmsNodes, fmsNodes]; omega) (by simp [Fm.depth, tmsDepth, fmsDepth]; omega)
    have : predName (if c % 12 % 2 = 0 then nmP else nmQ) = true := by split <;> decide
    generalize (if c % 12 % 2 = 0 then nmP else nmQ) = nm at *
    simp [Fm.ok, arity, tmsOk, fmsOk, t1, this]
  split
  · refine binv_put h ?_ (by simp [Fm.nodes, tmsNodes, fmsNodes]; omega) (by simp [Fm.depth, tmsDepth, fmsDepth]; omega)
    have : predName nmR = true := by decide
    simp [Fm.ok, arity, tmsOk, fmsOk, t1, u1, this]
  split
  · exact binv_put h (by decide) (by decide) (by decide)
  split
  · split
    · refine binv_one h ‹_› ?_ ?_
      · unfold unOp; (repeat' split) <;> simp
      · rw [if_neg]; unfold unOp; (repeat' split) <;> simp
    · exact binv_same h
  split
  · split
    · exact binv_two h ‹_› (by omega)
    · exact binv_same h
  · split
    · refine binv_one h ‹_› (by omega) ?_
      rw [if_pos (by omega)]; exact varXYZ_ok _
    · exact binv_same h

theorem bFold_inv (l : Bs) : BInv l.length (bFold l) := by
  unfold bFold
  have key : ∀ (l : Bs) (k : Nat) (s : List Fm), BInv k s → BInv (k + l.length) (l.foldl (fun s c => bStep s c.toNat) s) := by
    intro l
    induction l with
    | nil => intro k s h; exact h
    | cons c l ih =>
      intro k s h
      rw [List.foldl_cons, List.length_cons, show k + (l.length + 1) = k + 1 + l.length by omega]
      exact ih _ _ (bStep_inv h _)
  have := key l 0 [] ⟨by simp, by simp [fmsNodes], by simp⟩
  simpa using this

theorem untils_ok : ∀ (r : List Fm) (f : Fm) (B : Nat), f.ok = true → f.depth ≤ B → (∀ g ∈ r, g.ok = true ∧ g.depth ≤ B) →
    (untils f r).ok = true ∧ (untils f r).depth ≤ B + r.length ∧ (untils f r).nodes = f.nodes + fmsNodes r + r.length
  | [], f, B, h, hd, hg => ⟨h, by simpa [untils] using hd, by simp [untils, fmsNodes]⟩
  | x :: r, f, B, h, hd, hg => by
    have hx := hg x (by simp)
    obtain ⟨a, b, c⟩ := untils_ok r (.mk 14 [] [] [f, x]) (B + 1) (ok_two h hx.1 (by simp)) (by simp [Fm.depth, tmsDepth, fmsDepth]; omega)
      (fun g hg' => ⟨(hg g (by simp [hg'])).1, by have := (hg g (by simp [hg'])).2; omega⟩)
    refine ⟨a, ?_, ?_⟩
    · show (untils (.mk 14 [] [] [f, x]) r).depth ≤ _
      simp only [List.length_cons]; omega
    · show (untils (.mk 14 [] [] [f, x]) r).nodes = _
      rw [c]; simp [Fm.nodes, tmsNodes, fmsNodes]; omega

/-- WHAT IS BUILT IS RIGHT. -/
theorem built_right (l : Bs) : (built l).right = true := by
  have h := bFold_inv (l.take 20)
  have hl : (l.take 20).length ≤ 20 := by simp; omega
  generalize (l.take 20).length = k at *
  unfold built
  generalize bFold (l.take 20) = s at *
  obtain ⟨h1, h2, h3⟩ := h
  cases s with
  | nil => decide
  | cons f r =>
    simp only [List.length_cons] at h1 h3
    simp only [fmsNodes] at h2
    have hf := h3 f (by simp)
    obtain ⟨a, b, c⟩ := untils_ok r f (2 + k - r.length) hf.1 (by omega) (fun g hg => ⟨(h3 g (by simp [hg])).1, by have := (h3 g (by simp [hg])).2; omega⟩)
    have hn : (untils f r).nodes ≤ 400 := by omega
    have hd : (untils f r).depth ≤ 40 := by omega
    simp [Fm.right, builtOf, a, hn, hd]

/- Proved. -/
def ruleOf (k : Nat) : Bs := if k = 0 then [97, 110, 100, 73] else if k = 1 then [114, 50] else [81]
/-- The marks of a premise. -/
def marksOf (b k : Nat) : List Int := (List.range ((b + k) % 4)).map fun j => (((b * j * 7 + k) % 1000 : Nat) : Int)
def margin (l : Bs) (i b : Nat) : Bs := (l.drop (i / 2)).take (min (i / 2 + b % 4) l.length - i / 2)
def dummyPf : Pf := .mk [] fls 1 [] []
def pStep (l : Bs) (s : List Pf) (i b : Nat) : List Pf :=
  if b % 4 = 0 then s ++ [.mk [] (built (margin l i b)) (1 + b * 3) [] []]
  else if b % 4 = 1 then s ++ [.mk hole (built (margin l i b)) 0 [] []]
  else if b / 4 % 5 ≤ s.length then s.take (s.length - b / 4 % 5) ++ [.mk (ruleOf (b % 3)) (built (margin l i b)) 0 (s.drop (s.length - b / 4 % 5)) ((List.range (b / 4 % 5)).map (marksOf b))]
  else s
/-- What is put behind the first k bytes. -/
def pFold (l : Bs) : Nat → List Pf
  | 0 => []
  | k + 1 => pStep l (pFold l k) k (l.getD k 0).toNat
def proved (l : Bs) : Pf := (pFold l (min l.length 30)).getLastD dummyPf

theorem pfsSteps_append (a b : List Pf) : pfsSteps (a ++ b) = pfsSteps a + pfsSteps b := by
  induction a with
  | nil => simp [pfsSteps]
  | cons x a ih => simp [pfsSteps, ih]; omega
theorem pfsOk_iff (l : List Pf) : pfsOk l = true ↔ ∀ f ∈ l, f.ok = true := by
  induction l with
  | nil => simp [pfsOk]
  | cons x l ih => simp [pfsOk, ih]
theorem pfsDepth_le {l : List Pf} {B : Nat} (h : ∀ p ∈ l, p.depth + 1 ≤ B) : pfsDepth l ≤ B := by
  induction l with
  | nil => simp [pfsDepth]
  | cons x l ih =>
    simp only [pfsDepth]
    have h1 := h x (by simp)
    have h2 := ih (fun p hp => h p (by simp [hp]))
    omega

def PInv (k : Nat) (s : List Pf) : Prop := s.length ≤ k ∧ pfsSteps s ≤ k ∧ ∀ p ∈ s, p.ok = true ∧ p.depth + 1 ≤ k

theorem pinv_put {k : Nat} {s : List Pf} (h : PInv k s) {f : Pf} (h1 : f.ok = true) (h2 : f.steps = 1) (h3 : f.depth = 0) : PInv (k + 1) (s ++ [f]) := by
  obtain ⟨a, b, c⟩ := h
  refine ⟨by simp; omega, by rw [pfsSteps_append]; simp [pfsSteps]; omega, ?_⟩
  intro g hg
  rcases List.mem_append.1 hg with hg | hg
  · have := c g hg; exact ⟨this.1, by omega⟩
  · simp only [List.mem_cons, List.mem_nil_iff, or_false] at hg; subst hg; exact ⟨h1, by omega⟩

theorem marksOf_ok (b k : Nat) : ((marksOf b k).length ≤ 3) ∧ (marksOf b k).all markOk = true := by
  unfold marksOf
  constructor
  · simp; omega
  · rw [List.all_eq_true]
    intro x hx
    obtain ⟨j, _, rfl⟩ := List.mem_map.1 hx
    simp only [markOk, decide_eq_true_eq]
    have : (b * j * 7 + k) % 1000 < 1000 := Nat.mod_lt _ (by decide)
    omega

theorem pStep_inv (l : Bs) {k : Nat} {s : List Pf} (h : PInv k s) (i b : Nat) (hb : b < 256) : PInv (k + 1) (pStep l s i b) := by
  unfold pStep
  split
  · refine pinv_put h ?_ (by simp [Pf.steps, pfsSteps]) (by simp [Pf.depth, pfsDepth])
    simp [Pf.ok, built_right, shaped, pfsOk]; omega
  split
  · refine pinv_put h ?_ (by simp [Pf.steps, pfsSteps]) (by simp [Pf.depth, pfsDepth])
    simp [Pf.ok, built_right, shaped, pfsOk, hole]
  split
  · rename_i hm
    obtain ⟨a, b', c⟩ := h
    have hm4 : b / 4 % 5 ≤ 4 := by omega
    generalize hn : b / 4 % 5 = m at *
    have e : pfsSteps s = pfsSteps (s.take (s.length - m)) + pfsSteps (s.drop (s.length - m)) := by rw [← pfsSteps_append, List.take_append_drop]
    refine ⟨by simp; omega, by rw [pfsSteps_append]; simp only [pfsSteps, Pf.steps]; omega, ?_⟩
    intro g hg
    rcases List.mem_append.1 hg with hg | hg
    · have := c g (List.mem_of_mem_take hg); exact ⟨this.1, by omega⟩
    · simp only [List.mem_cons, List.mem_nil_iff, or_false] at hg; subst hg
      constructor
      · have r1 : ruleOf (b % 3) ≠ [] := by unfold ruleOf; (repeat' split) <;> decide
        have r2 : ruleOf (b % 3) ≠ hole := by unfold ruleOf; (repeat' split) <;> decide
        have r3 : ruleName (ruleOf (b % 3)) = true := by unfold ruleOf; (repeat' split) <;> decide
        have r4 : pfsOk (s.drop (s.length - m)) = true := (pfsOk_iff _).2 fun p hp => (c p (List.mem_of_mem_drop hp)).1
        simp only [Pf.ok, built_right, shaped, r1, r2, r3, r4, if_false, List.length_drop, List.length_map, List.length_range, Bool.true_and, Bool.and_true, Bool.and_eq_true, decide_eq_true_eq, true_and]
        refine ⟨⟨by omega, by omega⟩, ?_⟩
        rw [List.all_eq_true]
        intro x hx
        obtain ⟨j, _, rfl⟩ := List.mem_map.1 hx
        have := marksOf_ok b j
        simp [this]
      · have := pfsDepth_le (l := s.drop (s.length - m)) (B := k) (fun p hp => (c p (List.mem_of_mem_drop hp)).2)
        simp only [Pf.depth]; omega
  · obtain ⟨a, b', c⟩ := h
    exact ⟨by omega, by omega, fun g hg => ⟨(c g hg).1, by have := (c g hg).2; omega⟩⟩

theorem pFold_inv (l : Bs) : ∀ k, PInv k (pFold l k)
  | 0 => ⟨by simp [pFold], by simp [pFold, pfsSteps], by simp [pFold]⟩
  | k + 1 => pStep_inv l (pFold_inv l k) k _ (by have := (l.getD k 0).toNat_lt; omega)

theorem steps_mem {s : List Pf} {p : Pf} (h : p ∈ s) : p.steps ≤ pfsSteps s := by
  induction s with
  | nil => cases h
  | cons x s ih =>
    simp only [pfsSteps]
    rcases List.mem_cons.1 h with e | e
    · rw [e]; omega
    · have := ih e; omega

/-- WHAT IS PROVED CAN BE DESCRIBED. -/
theorem proved_right (l : Bs) : (proved l).right = true := by
  have hk : min l.length 30 ≤ 30 := Nat.min_le_right _ _
  unfold proved
  generalize min l.length 30 = k at *
  have h := pFold_inv l k
  generalize pFold l k = s at *
  rcases List.eq_nil_or_concat s with rfl | ⟨s', p, rfl⟩
  · decide
  · obtain ⟨a, b, c⟩ := h
    have hp := c p (by simp)
    have hs := steps_mem (s := s'.concat p) (p := p) (by simp)
    simp only [List.concat_eq_append, List.getLastD_eq_getLast?, List.getLast?_append, List.getLast?_singleton, Option.some_or, Option.getD_some, Pf.right, hp.1, Bool.true_and, Bool.and_eq_true, decide_eq_true_eq]
    omega
end Ly
/- Plain law: claims are told by their words. Nothing of the program is imported. -/
namespace Ly
def wGiven : Bs := [103, 105, 118, 101, 110, 32]
def wShow : Bs := [115, 104, 111, 119, 32]
/-- What Claim has put together: the givens, then what is to be shown. -/
def claimParts (G S : List Fm) : List Bs := G.map (fun g => wGiven ++ g.text) ++ S.map (fun g => wShow ++ g.text)
def claimText (G S : List Fm) : Bs := joinBy [44, 32] (claimParts G S)

theorem ok_of_right {f : Fm} (h : f.right = true) : f.ok = true := by
  simp only [Fm.right, Bool.and_eq_true, decide_eq_true_eq] at h
  exact h.1.1

theorem claimParts_not {G S : List Fm} (hG : ∀ g ∈ G, g.right = true) (hS : ∀ g ∈ S, g.right = true) : ∀ x ∈ claimParts G S, (44 : UInt8) ∉ x := by
  intro x hx
  unfold claimParts at hx
  rcases List.mem_append.1 hx with h | h
  · obtain ⟨g, hg, rfl⟩ := List.mem_map.1 h
    have := Fm.text_not (ok_of_right (hG g hg)) (c := 44) (by decide) (by decide)
    simp [wGiven, this]
  · obtain ⟨g, hg, rfl⟩ := List.mem_map.1 h
    have := Fm.text_not (ok_of_right (hS g hg)) (c := 44) (by decide) (by decide)
    simp [wShow, this]

theorem show_inj : ∀ {S S' : List Fm}, (∀ g ∈ S, g.right = true) → (∀ g ∈ S', g.right = true) → S.map (fun g => wShow ++ g.text) = S'.map (fun g => wShow ++ g.text) → S = S'
  | [], [], _, _, _ => rfl
  | [], _ :: _, _, _, h => by simp at h
  | _ :: _, [], _, _, h => by simp at h
  | f :: S, g :: S', hS, hS', h => by
    simp only [List.map_cons, List.cons.injEq] at h
    rw [Fm.text_inj (ok_of_right (hS f (by simp))) (ok_of_right (hS' g (by simp))) (List.append_cancel_left h.1), show_inj (fun x hx => hS x (by simp [hx])) (fun x hx => hS' x (by simp [hx])) h.2]

theorem parts_inj : ∀ {G G' S S' : List Fm}, (∀ g ∈ G, g.right = true) → (∀ g ∈ G', g.right = true) → (∀ g ∈ S, g.right = true) → (∀ g ∈ S', g.right = true) → claimParts G S = claimParts G' S' → G = G' ∧ S = S'
  | [], [], S, S', _, _, hS, hS', h => ⟨rfl, show_inj hS hS' (by simpa [claimParts] using h)⟩
  | [], g :: G', S, S', _, _, hS, hS', h => by
    cases S with
    | nil => simp [claimParts] at h
    | cons s S => simp [claimParts, wGiven, wShow] at h
  | g :: G, [], S, S', _, _, hS, hS', h => by
    cases S' with
    | nil => simp [claimParts] at h
    | cons s S => simp [claimParts, wGiven, wShow] at h
  | f :: G, g :: G', S, S', hG, hG', hS, hS', h => by
    simp only [claimParts, List.map_cons, List.cons_append, List.cons.injEq] at h
    obtain ⟨e1, e2⟩ := parts_inj (G := G) (G' := G') (fun x hx => hG x (by simp [hx])) (fun x hx => hG' x (by simp [hx])) hS hS' h.2
    exact ⟨by rw [Fm.text_inj (ok_of_right (hG f (by simp))) (ok_of_right (hG' g (by simp))) (List.append_cancel_left h.1), e1], e2⟩

theorem claim_inj {G G' S S' : List Fm} (hG : ∀ g ∈ G, g.right = true) (hG' : ∀ g ∈ G', g.right = true) (hS : ∀ g ∈ S, g.right = true) (hS' : ∀ g ∈ S', g.right = true) (n : claimParts G S ≠ []) (n' : claimParts G' S' ≠ [])
    (h : claimText G S = claimText G' S') : G = G' ∧ S = S' :=
  parts_inj hG hG' hS hS' (joinBy_inj (claimParts_not hG hS) (claimParts_not hG' hS') n n' h)
end Ly
