/- Plain laws of the references: names, which word of a text is wrong (lyceumref41.Wrong), how a text is split. Nothing of the program is imported. -/
import Derived.Test.YtcandidgaegghaaGreatDoorPlC
set_option linter.unusedSimpArgs false
namespace Ly
open Go.Lib
/- Names. -/
def inR (c lo hi : Int) : Bool := decide (lo ≤ c) && decide (c ≤ hi)
def lettersP (d : Bool) (c : UInt8) : Bool := inR c.toNat 48 57 || (!d && (inR c.toNat 65 90 || inR c.toNat 97 122))
def lettersB (d : Bool) (s : Bs) : Bool := (s.drop 1).all (lettersP d) && (decide (1 ≤ s.length) && decide (s.length ≤ 16))
theorem lettersP_digit (c : UInt8) : lettersP true c = digit c := by
  rw [Bool.eq_iff_iff]; simp [lettersP, inR, digit, UInt8.le_iff_toNat_le]; omega
theorem lettersP_alnum (c : UInt8) : lettersP false c = alnum c := by
  rw [Bool.eq_iff_iff]; simp [lettersP, inR, alnum, small, capital, digit, UInt8.le_iff_toNat_le]; omega
theorem letters_all (d : Bool) (q : UInt8 → Bool) (h : ∀ c, lettersP d c = q c) (c : UInt8) (r : Bs) : lettersB d (c :: r) = (r.all q && decide (r.length + 1 ≤ 16)) := by
  have : lettersP d = q := funext h
  simp [lettersB, this]
theorem reserved_cases {s : Bs} (h : reserved s = true) : s = wAll ∨ s = wSome ∨ s = wFalse ∨ s = wNext ∨ s = wAlways ∨ s = wUntil := by
  simpa [reserved, or_assoc] using h
theorem varName_ref (c : UInt8) (r : Bs) : varName (c :: r) = (lettersB true (c :: r) && inR c.toNat 117 122) := by
  rw [letters_all true digit lettersP_digit]
  have e : ((117 ≤ c && c ≤ 122 : Bool)) = inR c.toNat 117 122 := by rw [Bool.eq_iff_iff]; simp [inR, UInt8.le_iff_toNat_le]; omega
  have : varName (c :: r) = (decide (r.length + 1 ≤ 16) && !reserved (c :: r) && (117 ≤ c && c ≤ 122) && r.all digit) := rfl
  rw [this, e]
  cases hr : reserved (c :: r)
  · cases decide (r.length + 1 ≤ 16) <;> cases inR c.toNat 117 122 <;> cases r.all digit <;> rfl
  · rcases reserved_cases hr with h | h | h | h | h | h <;> cases h <;> decide
theorem funName_ref (c : UInt8) (r : Bs) (h : ¬ (c :: r = wAll ∨ c :: r = wSome ∨ c :: r = wFalse ∨ c :: r = wNext ∨ c :: r = wAlways)) : funName (c :: r) = (lettersB false (c :: r) && inR c.toNat 97 116) := by
  rw [letters_all false alnum lettersP_alnum]
  have e : ((97 ≤ c && c ≤ 116 : Bool)) = inR c.toNat 97 116 := by rw [Bool.eq_iff_iff]; simp [inR, UInt8.le_iff_toNat_le]; omega
  have : funName (c :: r) = (decide (r.length + 1 ≤ 16) && !reserved (c :: r) && (97 ≤ c && c ≤ 116) && r.all alnum) := rfl
  rw [this, e]
  cases hr : reserved (c :: r)
  · cases decide (r.length + 1 ≤ 16) <;> cases inR c.toNat 97 116 <;> cases r.all alnum <;> rfl
  · rcases reserved_cases hr with h' | h' | h' | h' | h' | h'
    · exact absurd (.inl h') h
    · exact absurd (.inr (.inl h')) h
    · exact absurd (.inr (.inr (.inl h'))) h
    · exact absurd (.inr (.inr (.inr (.inl h')))) h
    · exact absurd (.inr (.inr (.inr (.inr h')))) h
    · cases h'; decide
theorem funName_reserved {s : Bs} (h : s = wAll ∨ s = wSome ∨ s = wFalse ∨ s = wNext ∨ s = wAlways) : funName s = false := by
  rcases h with h | h | h | h | h <;> cases h <;> decide
theorem predName_ref (c : UInt8) (r : Bs) : predName (c :: r) = (lettersB false (c :: r) && inR c.toNat 65 90) := by
  rw [letters_all false alnum lettersP_alnum]
  have e : capital c = inR c.toNat 65 90 := by rw [Bool.eq_iff_iff]; simp [inR, capital, UInt8.le_iff_toNat_le]; omega
  have : predName (c :: r) = (decide (r.length + 1 ≤ 16) && !reserved (c :: r) && capital c && r.all alnum) := rfl
  rw [this, e]
  cases hr : reserved (c :: r)
  · cases decide (r.length + 1 ≤ 16) <;> cases inR c.toNat 65 90 <;> cases r.all alnum <;> rfl
  · rcases reserved_cases hr with h | h | h | h | h | h <;> cases h <;> decide
/-- What a row of the reference asks of a formula, beside its terms and parts. -/
def rowB (op : Int) (n : Bs) (k m : Nat) : Bool :=
  if op = 1 then predName n && (decide (k ≤ 4) && decide (m = 0))
  else if op = 2 then n.isEmpty && (decide (k = 0) && decide (m = 0))
  else if op = 3 ∨ op = 10 ∨ op = 11 ∨ op = 12 ∨ op = 13 then n.isEmpty && (decide (k = 0) && decide (m = 1))
  else if op = 4 ∨ op = 5 ∨ op = 6 ∨ op = 7 ∨ op = 14 then n.isEmpty && (decide (k = 0) && decide (m = 2))
  else if op = 8 ∨ op = 9 then varName n && (decide (k = 0) && decide (m = 1))
  else false
theorem rowB_ok (op : Int) (n : Bs) (ts : List Tm) (fs : List Fm) : (Fm.mk op n ts fs).ok = (rowB op n ts.length fs.length && (tmsOk ts && fmsOk fs)) := by
  have hts : ts.isEmpty = decide (ts.length = 0) := by cases ts <;> simp
  simp only [Fm.ok, hts]
  by_cases h : op = 1 ∨ op = 2 ∨ op = 3 ∨ op = 4 ∨ op = 5 ∨ op = 6 ∨ op = 7 ∨ op = 8 ∨ op = 9 ∨ op = 10 ∨ op = 11 ∨ op = 12 ∨ op = 13 ∨ op = 14
  · rcases h with rfl | rfl | rfl | rfl | rfl | rfl | rfl | rfl | rfl | rfl | rfl | rfl | rfl | rfl
    all_goals
      simp only [rowB, arity]
      rw [Bool.eq_iff_iff]
      simp
      try grind
  · have e1 : rowB op n ts.length fs.length = false := by
      unfold rowB
      rw [if_neg (by omega), if_neg (by omega), if_neg (by omega), if_neg (by omega), if_neg (by omega)]
    have e2 : arity op = 9 := by
      unfold arity
      rw [if_neg (by omega), if_neg (by omega), if_neg (by omega)]
    rw [e1, e2]
    have : decide (fs.length = 9 ∧ fs.length ≤ 2) = false := by simp; omega
    rw [this]; rfl
/- Which word is wrong: what must come is kept as a list of texts, what comes next ahead. -/
def kForm : Bs := [97, 32, 102, 111, 114, 109, 117, 108, 97]
def kTerm : Bs := [97, 32, 116, 101, 114, 109]
def kBound : Bs := [97, 32, 118, 97, 114, 105, 97, 98, 108, 101]
def kKind : Bs := [97, 108, 108, 32, 111, 114, 32, 115, 111, 109, 101]
def kOf : Bs := [111, 102, 63]
def kAnd : Bs := [97, 110, 100, 63]
/-- Behind a word that stands for what is on top: what must come; none where it is wrong. -/
def kStep (top : Bs) (st : List Bs) (w : Bs) : Option (List Bs) :=
  if top = kAnd then (if w = wAnd then some (kTerm :: kOf :: kAnd :: st) else if w = wClose then some st else none)
  else if top = kTerm then (if varName w = true then some st.tail else if funName w = true then some st else none)
  else if top = kBound then (if varName w = true then some st else none)
  else if top = kKind then (if w = wAll ∨ w = wSome then some st else none)
  else if top = kForm then
    (if w = wFalse then some st
     else if oneOp w ≠ 0 then some (kForm :: st)
     else if w = wFor then some (kKind :: kBound :: kForm :: st)
     else if twoOp w ≠ 0 then some (kForm :: signBetween (twoOp w) :: kForm :: st)
     else if predName w = true then some (kOf :: st) else none)
  else if w = top then some st else none
def kNext (st : List Bs) (w : Bs) : Option (List Bs) :=
  match st with
  | [] => none
  | top :: st =>
    if top = kOf then (if w = wOf then some (kTerm :: kOf :: kAnd :: st) else match st with | [] => none | top' :: st' => kStep top' st' w)
    else kStep top st w
/-- The words from the wrong one on. -/
def kRun : List Bs → List Bs → Option (List Bs)
  | st, [] => if st.all (· == kOf) then none else some []
  | st, w :: ws => match kNext st w with | none => some (w :: ws) | some st' => kRun st' ws
def okTop (st : List Bs) : Prop := ∀ t r, st = t :: r → t ≠ kOf
theorem okTop_cons {t : Bs} {r : List Bs} (h : t ≠ kOf) : okTop (t :: r) := by
  intro a b e; cases e; exact h
theorem kRun_of {st ws : List Bs} (h : okTop st) (hw : NotOf ws) : kRun (kOf :: st) ws = kRun st ws := by
  cases ws with
  | nil => simp [kRun]
  | cons w ws =>
    have hne : w ≠ wOf := hw w ws rfl
    have : kNext (kOf :: st) w = kNext st w := by
      cases st with
      | nil => simp [kNext, hne]
      | cons t r => simp [kNext, hne, h t r rfl]
    simp only [kRun, this]
theorem kRun_step {top : Bs} {st : List Bs} {w : Bs} {ws : List Bs} (h : top ≠ kOf) : kRun (top :: st) (w :: ws) = match kStep top st w with | none => some (w :: ws) | some st' => kRun st' ws := by
  simp only [kRun, kNext, if_neg h]
theorem kRun_nil {top : Bs} {st : List Bs} (h : top ≠ kOf) : kRun (top :: st) [] = some [] := by
  have : (top == kOf) = false := by simpa using h
  simp [kRun, this]
theorem kRun_end {w : Bs} {ws : List Bs} : kRun [] (w :: ws) = some (w :: ws) := rfl
/-- The program's reading and the reference's agree. -/
def Agrees {α : Type} (p : PR α) (st : List Bs) (got : Option (List Bs)) : Prop :=
  match p with
  | .bad r => got = some r
  | .good _ r => got = kRun st r
theorem k_terms : ∀ n : Nat,
    (∀ (ws st : List Bs), 3 * ws.length + 1 ≤ n → okTop st → Agrees (pTerm n ws) st (kRun (kTerm :: kOf :: st) ws)) ∧
    (∀ (ws st : List Bs), 3 * ws.length + 1 ≤ n → okTop st → Agrees (pTerms n ws) st (kRun (kOf :: st) ws)) ∧
    (∀ (ws st : List Bs), 3 * ws.length + 2 ≤ n → okTop st → Agrees (pArgs n ws) st (kRun (kTerm :: kOf :: kAnd :: st) ws)) := by
  intro n
  induction n with
  | zero => exact ⟨fun _ _ h => by omega, fun _ _ h => by omega, fun _ _ h => by omega⟩
  | succ n ih =>
    obtain ⟨i1, i2, i3⟩ := ih
    have t1 : kTerm ≠ kOf := by decide
    have t2 : kAnd ≠ kOf := by decide
    refine ⟨?_, ?_, ?_⟩
    · intro ws st hn hst
      cases ws with
      | nil => exact kRun_nil t1
      | cons w ws =>
        simp only [List.length_cons] at hn
        rw [kRun_step t1]
        have e : kStep kTerm (kOf :: st) w = if varName w = true then some st else if funName w = true then some (kOf :: st) else none := by
          simp [kStep, show kTerm ≠ kAnd by decide]
        rw [e]
        simp only [pTerm]
        by_cases hv : varName w = true
        · simp [hv, Agrees]
        · by_cases hf : funName w = true
          · simp only [hv, hf, if_true, if_false]
            have := i2 ws st (by omega) hst
            revert this
            cases pTerms n ws <;> simp [Agrees]
          · simp [hv, hf, Agrees]
    · intro ws st hn hst
      cases ws with
      | nil => simp [pTerms, Agrees, kRun]
      | cons w ws =>
        simp only [List.length_cons] at hn
        simp only [pTerms]
        by_cases hw : w = wOf
        · subst hw
          rw [if_pos rfl]
          have : kRun (kOf :: st) (wOf :: ws) = kRun (kTerm :: kOf :: kAnd :: st) ws := by simp [kRun, kNext]
          rw [this]
          exact i3 ws st (by omega) hst
        · rw [if_neg hw]
          exact kRun_of hst (notOf_cons hw)
    · intro ws st hn hst
      have := i1 ws (kAnd :: st) (by omega) (okTop_cons t2)
      revert this
      simp only [pArgs]
      cases hp : pTerm n ws with
      | bad r => simp [Agrees]
      | good t r =>
        have hl := pTerm_len n ws t r hp
        cases r with
        | nil => intro h; exact h.trans (kRun_nil t2)
        | cons x r =>
          simp only [List.length_cons] at hl
          intro h
          have h' : kRun (kTerm :: kOf :: kAnd :: st) ws = kRun (kAnd :: st) (x :: r) := h
          rw [h', kRun_step t2]
          simp only [kStep, if_true]
          by_cases hx : x = wAnd
          · subst hx
            simp only [if_true]
            have := i3 r st (by omega) hst
            revert this
            cases pArgs n r <;> simp [Agrees]
          · by_cases hc : x = wClose
            · simp [hc, Agrees, show wClose ≠ wAnd by decide]
            · simp [hx, hc, Agrees]
theorem twoOp_cases {w : Bs} (h : twoOp w ≠ 0) : twoOp w = 4 ∨ twoOp w = 5 ∨ twoOp w = 6 ∨ twoOp w = 7 ∨ twoOp w = 14 := by
  unfold twoOp at h ⊢
  split
  · simp
  split
  · simp
  split
  · simp
  split
  · simp
  split
  · simp
  · simp_all
theorem between_top {w : Bs} (h : twoOp w ≠ 0) : signBetween (twoOp w) ≠ kOf ∧ signBetween (twoOp w) ≠ kAnd ∧ signBetween (twoOp w) ≠ kTerm ∧ signBetween (twoOp w) ≠ kBound ∧ signBetween (twoOp w) ≠ kKind ∧ signBetween (twoOp w) ≠ kForm := by
  rcases twoOp_cases h with e | e | e | e | e <;> rw [e] <;> decide
theorem wFor_two : twoOp wFor = 0 := by decide
theorem k_form : ∀ (n : Nat) (ws st : List Bs), 3 * ws.length + 1 ≤ n → okTop st → Agrees (pForm n ws) st (kRun (kForm :: st) ws)
  | 0, ws, st, hn, _ => by omega
  | n + 1, [], st, hn, _ => kRun_nil (by decide)
  | n + 1, w :: ws, st, hn, hst => by
    have t1 : kForm ≠ kOf := by decide
    simp only [List.length_cons] at hn
    rw [kRun_step t1]
    have e : kStep kForm st w = if w = wFalse then some st else if oneOp w ≠ 0 then some (kForm :: st) else if w = wFor then some (kKind :: kBound :: kForm :: st)
        else if twoOp w ≠ 0 then some (kForm :: signBetween (twoOp w) :: kForm :: st) else if predName w = true then some (kOf :: st) else none := by
      simp only [kStep, if_neg (show kForm ≠ kAnd by decide), if_neg (show kForm ≠ kTerm by decide), if_neg (show kForm ≠ kBound by decide), if_neg (show kForm ≠ kKind by decide), if_true]
    rw [e]
    simp only [pForm]
    by_cases h1 : w = wFalse
    · simp [h1, Agrees]
    by_cases h2 : oneOp w ≠ 0
    · simp only [h1, h2, if_true, if_false, ne_eq, not_false_eq_true]
      have := k_form n ws st (by omega) hst
      revert this
      cases pForm n ws <;> simp [Agrees]
    by_cases h3 : twoOp w ≠ 0
    · have h4 : w ≠ wFor := by rintro rfl; exact h3 wFor_two
      obtain ⟨b1, b2, b3, b4, b5, b6⟩ := between_top h3
      simp only [h1, h2, h3, h4, if_true, if_false, ne_eq, not_false_eq_true]
      have := k_form n ws (signBetween (twoOp w) :: kForm :: st) (by omega) (okTop_cons b1)
      revert this
      cases hp : pForm n ws with
      | bad r => simp [Agrees]
      | good f r =>
        have hl := pForm_len n ws f r hp
        intro h
        have h' : kRun (kForm :: signBetween (twoOp w) :: kForm :: st) ws = kRun (signBetween (twoOp w) :: kForm :: st) r := h
        rw [h']
        cases r with
        | nil => exact kRun_nil b1
        | cons x r =>
          simp only [List.length_cons] at hl
          rw [kRun_step b1]
          have e2 : kStep (signBetween (twoOp w)) (kForm :: st) x = if x = signBetween (twoOp w) then some (kForm :: st) else none := by
            simp only [kStep, if_neg b2, if_neg b3, if_neg b4, if_neg b5, if_neg b6]
          rw [e2]
          by_cases hx : x = signBetween (twoOp w)
          · simp only [hx, if_true]
            have := k_form n r st (by omega) hst
            revert this
            cases pForm n r <;> simp [Agrees]
          · simp [hx, Agrees]
    by_cases h4 : w = wFor
    · subst h4
      simp only [h1, h2, h3, if_true, if_false, ne_eq, not_false_eq_true]
      cases ws with
      | nil => exact kRun_nil (by decide)
      | cons q ws =>
        simp only [List.length_cons] at hn
        rw [kRun_step (show kKind ≠ kOf by decide)]
        have e2 : kStep kKind (kBound :: kForm :: st) q = if q = wAll ∨ q = wSome then some (kBound :: kForm :: st) else none := by
          simp only [kStep, if_neg (show kKind ≠ kAnd by decide), if_neg (show kKind ≠ kTerm by decide), if_neg (show kKind ≠ kBound by decide), if_true]
        rw [e2]
        by_cases hq : q = wAll ∨ q = wSome
        · simp only [hq, if_true]
          cases ws with
          | nil => exact kRun_nil (by decide)
          | cons v ws =>
            simp only [List.length_cons] at hn
            rw [kRun_step (show kBound ≠ kOf by decide)]
            have e3 : kStep kBound (kForm :: st) v = if varName v = true then some (kForm :: st) else none := by
              simp only [kStep, if_neg (show kBound ≠ kAnd by decide), if_neg (show kBound ≠ kTerm by decide), if_true]
            rw [e3]
            by_cases hv : varName v = true
            · simp only [hv, if_true]
              have := k_form n ws st (by omega) hst
              revert this
              cases pForm n ws <;> simp [Agrees]
            · simp [hv, Agrees]
        · simp [hq, Agrees]
    by_cases h5 : predName w = true
    · simp only [h1, h2, h3, h4, h5, if_true, if_false, ne_eq, not_false_eq_true]
      have := (k_terms n).2.1 ws st (by omega) hst
      revert this
      cases pTerms n ws <;> simp [Agrees]
    · simp [h1, h2, h3, h4, h5, Agrees]
/-- What the reference says of some words. -/
theorem k_read (ws : List Bs) : Agrees (pForm (3 * ws.length + 1) ws) [] (kRun [kForm] ws) := k_form _ ws [] (Nat.le_refl _) (by intro t r e; cases e)
theorem kRun_len : ∀ (ws st r : List Bs), kRun st ws = some r → r.length ≤ ws.length
  | [], st, r, h => by
    simp only [kRun] at h
    split at h
    · cases h
    · cases h; simp
  | w :: ws, st, r, h => by
    simp only [kRun] at h
    split at h
    · cases h; exact Nat.le_refl _
    · have := kRun_len ws _ r h
      simp; omega
/- How a text is split into words. -/
def spStep (l : List Bs) (c : UInt8) : List Bs := if c = 32 then l ++ [[]] else l.dropLast ++ [l.getLastD [] ++ [c]]
theorem joinBy_sp : ∀ l : List Bs, joinBy [32] l = joinSp l
  | [] => rfl
  | [x] => rfl
  | x :: y :: r => by
    have := joinBy_sp (y :: r)
    simp only [joinBy, joinSp] at this ⊢
    rw [this]; simp
theorem sp_fold : ∀ (s : Bs) (l : List Bs), l ≠ [] → noSp l → noSp (s.foldl spStep l) ∧ s.foldl spStep l ≠ [] ∧ joinSp (s.foldl spStep l) = joinSp l ++ s
  | [], l, h, h2 => ⟨h2, h, by simp⟩
  | c :: s, l, h, h2 => by
    obtain ⟨p, x, rfl⟩ : ∃ p x, l = p ++ [x] := ⟨l.dropLast, l.getLast h, (List.dropLast_concat_getLast h).symm⟩
    have hs : spStep (p ++ [x]) c ≠ [] ∧ noSp (spStep (p ++ [x]) c) ∧ joinSp (spStep (p ++ [x]) c) = joinSp (p ++ [x]) ++ [c] := by
      unfold spStep
      by_cases hc : c = 32
      · subst hc
        rw [if_pos rfl]
        refine ⟨by simp, ?_, ?_⟩
        · intro y hy
          rcases List.mem_append.1 hy with hy | hy
          · exact h2 y hy
          · simp at hy; subst hy; simp
        · rw [joinSp_append _ _ (by simp) (by simp)]; simp [joinSp]
      · rw [if_neg hc]
        have e1 : (p ++ [x]).dropLast = p := by simp
        have e2 : (p ++ [x]).getLastD [] = x := by simp
        rw [e1, e2]
        refine ⟨by simp, ?_, ?_⟩
        · intro y hy
          rcases List.mem_append.1 hy with hy | hy
          · exact h2 y (by simp [hy])
          · simp at hy; subst hy
            have := h2 x (by simp)
            simp only [List.mem_append, List.mem_singleton, not_or]
            exact ⟨this, fun e => hc e.symm⟩
        · by_cases hp : p = []
          · subst hp; simp [joinSp]
          · rw [joinSp_append _ _ hp (by simp), joinSp_append _ _ hp (by simp)]; simp [joinSp]
    obtain ⟨a1, a2, a3⟩ := hs
    obtain ⟨b1, b2, b3⟩ := sp_fold s _ a1 a2
    refine ⟨b1, b2, ?_⟩
    simp only [List.foldl_cons]
    rw [b3, a3]; simp
theorem sp_split (s : Bs) : s.foldl spStep [[]] = split s [32] := by
  obtain ⟨h1, h2, h3⟩ := sp_fold s [[]] (by simp) (by intro x hx; simp at hx; subst hx; simp)
  have := split_join (c := 32) (t := []) (s.foldl spStep [[]]) h2 h1
  rw [joinBy_sp, h3] at this
  simpa [joinSp] using this.symm
end Ly
