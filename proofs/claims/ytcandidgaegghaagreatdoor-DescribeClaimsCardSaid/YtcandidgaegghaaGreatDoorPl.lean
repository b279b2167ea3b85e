/- Plain laws: formulas and proofs are told by their words. Nothing of the program is imported. -/
import Derived.Lib.ItoaNum
/- Plain law: formulas, terms and proofs as data, and their words; words tell formulas apart. Nothing of the program is imported. -/
namespace Ly

abbrev Bs := List UInt8

/-- A term: is it a variable, its name, its arguments. -/
inductive Tm where
  | mk (v : Bool) (name : Bs) (args : List Tm)

/-- A formula: operator, name, terms, parts. -/
inductive Fm where
  | mk (op : Int) (name : Bs) (args : List Tm) (sub : List Fm)

namespace Tm
def v : Tm → Bool | .mk v _ _ => v
def name : Tm → Bs | .mk _ n _ => n
def args : Tm → List Tm | .mk _ _ a => a
end Tm
namespace Fm
def op : Fm → Int | .mk o _ _ _ => o
def name : Fm → Bs | .mk _ n _ _ => n
def args : Fm → List Tm | .mk _ _ a _ => a
def sub : Fm → List Fm | .mk _ _ _ s => s
end Fm

/- The words. -/
def wOf : Bs := [111, 102]
def wAnd : Bs := [97, 110, 100]
def wClose : Bs := [99, 108, 111, 115, 101]
def wFalse : Bs := [102, 97, 108, 115, 101]
def wNot : Bs := [110, 111, 116]
def wNec : Bs := [110, 101, 99, 101, 115, 115, 97, 114, 105, 108, 121]
def wPos : Bs := [112, 111, 115, 115, 105, 98, 108, 121]
def wNext : Bs := [110, 101, 120, 116]
def wAlways : Bs := [97, 108, 119, 97, 121, 115]
def wFor : Bs := [102, 111, 114]
def wAll : Bs := [97, 108, 108]
def wSome : Bs := [115, 111, 109, 101]
def wBoth : Bs := [98, 111, 116, 104]
def wEither : Bs := [101, 105, 116, 104, 101, 114]
def wOr : Bs := [111, 114]
def wIf : Bs := [105, 102]
def wThen : Bs := [116, 104, 101, 110]
def wAs : Bs := [97, 115]
def wSo : Bs := [115, 111]
def wWhile : Bs := [119, 104, 105, 108, 101]
def wUntil : Bs := [117, 110, 116, 105, 108]

/-- The word ahead of an operator's parts (for quantifiers: with the name), as the program keeps it. -/
def signFirst (op : Int) (n : Bs) : Bs :=
  if op = 3 then wNot else if op = 10 then wNec else if op = 11 then wPos else if op = 12 then wNext else if op = 13 then wAlways
  else if op = 8 then wFor ++ [32] ++ wAll ++ [32] ++ n else if op = 9 then wFor ++ [32] ++ wSome ++ [32] ++ n
  else if op = 4 then wBoth else if op = 5 then wEither else if op = 6 then wIf else if op = 7 then wAs else wWhile
def signBetween (op : Int) : Bs :=
  if op = 3 then [] else if op = 10 then [] else if op = 11 then [] else if op = 12 then [] else if op = 13 then []
  else if op = 8 then [] else if op = 9 then []
  else if op = 4 then wAnd else if op = 5 then wOr else if op = 6 then wThen else if op = 7 then wSo else wUntil

mutual
/-- The words of a term. -/
def Tm.words : Tm → List Bs
  | .mk _ n as => n :: (tmsWords true as ++ (if as.isEmpty then [] else [wClose]))
def tmsWords : Bool → List Tm → List Bs
  | _, [] => []
  | first, t :: ts => (if first then wOf else wAnd) :: (t.words ++ tmsWords false ts)
end
def termWords (n : Bs) (as : List Tm) : List Bs := n :: (tmsWords true as ++ (if as.isEmpty then [] else [wClose]))

mutual
/-- The words of a formula: its pieces, as the program joins them. -/
def Fm.words : Fm → List Bs
  | .mk op n as sub =>
    if op = 1 then termWords n as
    else if op = 2 then [wFalse]
    else signFirst op n :: fmsWords op true sub
def fmsWords (op : Int) : Bool → List Fm → List Bs
  | _, [] => []
  | first, f :: fs => (if first then [] else [signBetween op]) ++ (f.words ++ fmsWords op false fs)
end

/-- Pieces put together with one space between two. -/
def joinSp : List Bs → Bs
  | [] => []
  | [x] => x
  | x :: y :: r => x ++ 32 :: joinSp (y :: r)

def Fm.text (f : Fm) : Bs := joinSp f.words

/- Which formulas are right. -/
def small (c : UInt8) : Bool := 97 ≤ c && c ≤ 122
def capital (c : UInt8) : Bool := 65 ≤ c && c ≤ 90
def digit (c : UInt8) : Bool := 48 ≤ c && c ≤ 57
def alnum (c : UInt8) : Bool := small c || capital c || digit c
def reserved (s : Bs) : Bool := s == wAll || s == wSome || s == wFalse || s == wNext || s == wAlways || s == wUntil
def checker (first other : UInt8 → Bool) : Bs → Bool
  | [] => false
  | c :: r => decide (r.length + 1 ≤ 16) && !reserved (c :: r) && first c && r.all other
def varName (s : Bs) : Bool := checker (fun c => 117 ≤ c && c ≤ 122) digit s
def funName (s : Bs) : Bool := checker (fun c => 97 ≤ c && c ≤ 116) alnum s
def predName (s : Bs) : Bool := checker capital alnum s

mutual
/-- Without numbers of nodes and depth. -/
def Tm.ok : Tm → Bool
  | .mk v n as => if v then as.isEmpty && varName n else decide (as.length ≤ 4) && funName n && tmsOk as
def tmsOk : List Tm → Bool
  | [] => true
  | t :: ts => t.ok && tmsOk ts
end
/-- How many parts an operator has; 9 where there is none such. -/
def arity (op : Int) : Nat :=
  if op = 1 ∨ op = 2 then 0 else if op = 3 ∨ 8 ≤ op ∧ op ≤ 13 then 1 else if 4 ≤ op ∧ op ≤ 7 ∨ op = 14 then 2 else 9
mutual
def Fm.ok : Fm → Bool
  | .mk op n as sub =>
    decide (sub.length = arity op ∧ sub.length ≤ 2) && (if op = 1 then predName n && decide (as.length ≤ 4) else as.isEmpty && (if op = 8 ∨ op = 9 then varName n else n.isEmpty)) && tmsOk as && fmsOk sub
def fmsOk : List Fm → Bool
  | [] => true
  | f :: fs => f.ok && fmsOk fs
end
mutual
def Tm.nodes : Tm → Nat
  | .mk _ _ as => 1 + tmsNodes as
def tmsNodes : List Tm → Nat
  | [] => 0
  | t :: ts => t.nodes + tmsNodes ts
end
mutual
def Fm.nodes : Fm → Nat
  | .mk _ _ as sub => 1 + tmsNodes as + fmsNodes sub
def fmsNodes : List Fm → Nat
  | [] => 0
  | f :: fs => f.nodes + fmsNodes fs
end
mutual
def Tm.depth : Tm → Nat
  | .mk _ _ as => 1 + tmsDepth as
def tmsDepth : List Tm → Nat
  | [] => 0
  | t :: ts => max t.depth (tmsDepth ts)
end
mutual
def Fm.depth : Fm → Nat
  | .mk _ _ as sub => 1 + max (tmsDepth as) (fmsDepth sub)
def fmsDepth : List Fm → Nat
  | [] => 0
  | f :: fs => max f.depth (fmsDepth fs)
end
def Fm.right (f : Fm) : Bool := f.ok && decide (f.nodes ≤ 400) && decide (f.depth ≤ 40)

end Ly
/- Plain law: two right formulas with the same text are the same. Nothing of the program is imported. -/
namespace Ly

/- The program's pieces and the tokens. -/
def signToks (op : Int) (n : Bs) : List Bs := if op = 8 then [wFor, wAll, n] else if op = 9 then [wFor, wSome, n] else [signFirst op n]

mutual
def Fm.toks : Fm → List Bs
  | .mk op n as sub =>
    if op = 1 then termWords n as
    else if op = 2 then [wFalse]
    else signToks op n ++ fmsToks op true sub
def fmsToks (op : Int) : Bool → List Fm → List Bs
  | _, [] => []
  | first, f :: fs => (if first then [] else [signBetween op]) ++ (f.toks ++ fmsToks op false fs)
end

theorem joinSp_cons (x : Bs) (r : List Bs) (h : r ≠ []) : joinSp (x :: r) = x ++ 32 :: joinSp r := by
  cases r with
  | nil => exact absurd rfl h
  | cons y r => rfl

theorem joinSp_append (a b : List Bs) (ha : a ≠ []) (hb : b ≠ []) : joinSp (a ++ b) = joinSp a ++ 32 :: joinSp b := by
  induction a with
  | nil => exact absurd rfl ha
  | cons x a ih =>
    by_cases h : a = []
    · subst h; simp [joinSp_cons x b hb, joinSp]
    · rw [List.cons_append, joinSp_cons _ _ (by simp [h]), ih h, joinSp_cons _ _ h]; simp

theorem signFirst_toks (op : Int) (n : Bs) : joinSp [signFirst op n] = joinSp (signToks op n) := by
  by_cases h8 : op = 8
  · subst h8; simp [signFirst, signToks, joinSp]
  · by_cases h9 : op = 9
    · subst h9; simp [signFirst, signToks, joinSp]
    · simp [signToks, h8, h9]

theorem signToks_ne (op : Int) (n : Bs) : signToks op n ≠ [] := by
  unfold signToks; split
  · simp
  · split <;> simp

theorem joinSp_congr {a b a' b' : List Bs} (ha : a = [] ↔ a' = []) (hb : b = [] ↔ b' = []) (h1 : joinSp a = joinSp a') (h2 : joinSp b = joinSp b') : joinSp (a ++ b) = joinSp (a' ++ b') := by
  by_cases a0 : a = []
  · have a0' := ha.1 a0; subst a0 a0'; simpa using h2
  · have a0' : a' ≠ [] := fun e => a0 (ha.2 e)
    by_cases b0 : b = []
    · have b0' := hb.1 b0; subst b0 b0'; simpa using h1
    · have b0' : b' ≠ [] := fun e => b0 (hb.2 e)
      rw [joinSp_append _ _ a0 b0, joinSp_append _ _ a0' b0', h1, h2]

theorem Fm.words_ne (f : Fm) : f.words ≠ [] := by
  cases f; simp only [Fm.words, termWords]; split
  · simp
  · split <;> simp
theorem Fm.toks_ne (f : Fm) : f.toks ≠ [] := by
  cases f; simp only [Fm.toks, termWords]; split
  · simp
  · split
    · simp
    · simp [signToks_ne]

theorem fmsWords_nil_iff (op : Int) (b : Bool) (fs : List Fm) : fmsWords op b fs = [] ↔ fmsToks op b fs = [] := by
  cases fs with
  | nil => simp [fmsWords, fmsToks]
  | cons f fs => simp [fmsWords, fmsToks, Fm.words_ne, Fm.toks_ne]

mutual
theorem Fm.join_toks : ∀ f : Fm, joinSp f.words = joinSp f.toks
  | .mk op n as sub => by
    simp only [Fm.words, Fm.toks]
    split
    · rfl
    · split
      · rfl
      · exact joinSp_congr (a := [signFirst op n]) (by simp [signToks_ne]) (fmsWords_nil_iff op true sub) (signFirst_toks op n) (fms_join_toks op true sub)
theorem fms_join_toks (op : Int) : ∀ (b : Bool) (fs : List Fm), joinSp (fmsWords op b fs) = joinSp (fmsToks op b fs)
  | _, [] => rfl
  | b, f :: fs => by
    simp only [fmsWords, fmsToks]
    exact joinSp_congr Iff.rfl (by simp [Fm.words_ne, Fm.toks_ne]) rfl
      (joinSp_congr (by simp [Fm.words_ne, Fm.toks_ne]) (fmsWords_nil_iff op false fs) (Fm.join_toks f) (fms_join_toks op false fs))
end

theorem Fm.text_eq (f : Fm) : f.text = joinSp f.toks := Fm.join_toks f

/- A list of tokens is told by its text. -/
def noSp (l : List Bs) : Prop := ∀ x ∈ l, (32 : UInt8) ∉ x

theorem split_at {c : UInt8} : ∀ {x y r s : Bs}, c ∉ x → c ∉ y → x ++ c :: r = y ++ c :: s → x = y ∧ r = s
  | [], [], r, s, _, _, h => ⟨rfl, by simpa using h⟩
  | [], b :: y, r, s, _, hy, h => by simp at h hy; exact absurd h.1 hy.1
  | a :: x, [], r, s, hx, _, h => by simp at h hx; exact absurd h.1.symm hx.1
  | a :: x, b :: y, r, s, hx, hy, h => by
    simp only [List.cons_append, List.cons.injEq, List.mem_cons, not_or] at h hx hy
    obtain ⟨e1, e2⟩ := split_at hx.2 hy.2 h.2
    exact ⟨by rw [h.1, e1], e2⟩

theorem no_mid {c : UInt8} {x y r : Bs} (hx : c ∉ x) (h : x = y ++ c :: r) : False := hx (by rw [h]; simp)

theorem joinSp_inj : ∀ {a b : List Bs}, noSp a → noSp b → a ≠ [] → b ≠ [] → joinSp a = joinSp b → a = b
  | [], _, _, _, ha, _, _ => absurd rfl ha
  | _ :: _, [], _, _, _, hb, _ => absurd rfl hb
  | [x], [y], _, _, _, _, h => by simpa [joinSp] using h
  | [x], y :: z :: r, hx, _, _, _, h => (no_mid (hx x (by simp)) h).elim
  | x :: z :: r, [y], _, hy, _, _, h => (no_mid (hy y (by simp)) h.symm).elim
  | x :: x' :: r, y :: y' :: s, hx, hy, _, _, h => by
    obtain ⟨e1, e2⟩ := split_at (hx x (by simp)) (hy y (by simp)) h
    rw [e1, joinSp_inj (fun z hz => hx z (List.mem_cons_of_mem _ hz)) (fun z hz => hy z (List.mem_cons_of_mem _ hz)) (by simp) (by simp) e2]

/- The tokens of right formulas hold no space. -/
theorem checker_all {first other : UInt8 → Bool} {s : Bs} (h : checker first other s = true) : ∃ c r, s = c :: r ∧ first c = true ∧ (∀ x ∈ r, other x = true) := by
  cases s with
  | nil => simp [checker] at h
  | cons c r => simp [checker] at h; exact ⟨c, r, rfl, h.1.2, h.2⟩

theorem name_noSp {first other : UInt8 → Bool} {s : Bs} (h : checker first other s = true) (h1 : first 32 = false) (h2 : other 32 = false) : (32 : UInt8) ∉ s := by
  obtain ⟨c, r, rfl, hc, hr⟩ := checker_all h
  intro hm
  rcases List.mem_cons.1 hm with e | e
  · rw [← e] at hc; simp [hc] at h1
  · have := hr _ e; simp [this] at h2

theorem varName_noSp {s : Bs} (h : varName s = true) : (32 : UInt8) ∉ s := name_noSp h (by decide) (by decide)
theorem funName_noSp {s : Bs} (h : funName s = true) : (32 : UInt8) ∉ s := name_noSp h (by decide) (by decide)
theorem predName_noSp {s : Bs} (h : predName s = true) : (32 : UInt8) ∉ s := name_noSp h (by decide) (by decide)

theorem noSp_append {a b : List Bs} : noSp (a ++ b) ↔ noSp a ∧ noSp b := by
  simp [noSp, List.mem_append, or_imp, forall_and]
theorem noSp_cons {x : Bs} {b : List Bs} : noSp (x :: b) ↔ (32 : UInt8) ∉ x ∧ noSp b := by simp [noSp]
theorem noSp_nil : noSp [] := by simp [noSp]

mutual
theorem Tm.noSp_words : ∀ t : Tm, t.ok = true → noSp t.words
  | .mk v n as, h => by
    have hn : (32 : UInt8) ∉ n := by
      simp only [Tm.ok] at h; split at h
      · exact varName_noSp (by simp_all)
      · exact funName_noSp (by simp_all)
    have ha : noSp (tmsWords true as) := by
      simp only [Tm.ok] at h; split at h
      · have : as = [] := by simp_all
        subst this; exact noSp_nil
      · exact noSp_tmsWords true as (by simp_all)
    simp only [Tm.words]
    rw [noSp_cons, noSp_append]
    refine ⟨hn, ha, ?_⟩
    split
    · exact noSp_nil
    · simp [noSp, wClose]
theorem noSp_tmsWords : ∀ (b : Bool) (as : List Tm), tmsOk as = true → noSp (tmsWords b as)
  | _, [], _ => noSp_nil
  | b, t :: ts, h => by
    simp only [tmsOk, Bool.and_eq_true] at h
    simp only [tmsWords]
    rw [noSp_cons, noSp_append]
    refine ⟨?_, Tm.noSp_words t h.1, noSp_tmsWords false ts h.2⟩
    cases b <;> decide
end

theorem noSp_termWords (n : Bs) (as : List Tm) (hn : (32 : UInt8) ∉ n) (ha : tmsOk as = true) : noSp (termWords n as) := by
  unfold termWords
  rw [noSp_cons, noSp_append]
  refine ⟨hn, noSp_tmsWords true as ha, ?_⟩
  split
  · exact noSp_nil
  · simp [noSp, wClose]

theorem signBetween_noSp (op : Int) : (32 : UInt8) ∉ signBetween op := by
  unfold signBetween
  repeat' split
  all_goals decide

theorem signFirst_noSp (op : Int) (n : Bs) (h8 : op ≠ 8) (h9 : op ≠ 9) : (32 : UInt8) ∉ signFirst op n := by
  unfold signFirst
  rw [if_neg h8, if_neg h9]
  repeat' split
  all_goals decide

theorem noSp_signToks (op : Int) (n : Bs) (h : op = 8 ∨ op = 9 → varName n = true) : noSp (signToks op n) := by
  unfold signToks
  split
  · rw [noSp_cons, noSp_cons, noSp_cons]; exact ⟨by decide, by decide, varName_noSp (h (.inl ‹_›)), noSp_nil⟩
  · split
    · rw [noSp_cons, noSp_cons, noSp_cons]; exact ⟨by decide, by decide, varName_noSp (h (.inr ‹_›)), noSp_nil⟩
    · rw [noSp_cons]; exact ⟨signFirst_noSp op n ‹_› ‹_›, noSp_nil⟩

mutual
theorem Fm.noSp_toks : ∀ f : Fm, f.ok = true → noSp f.toks
  | .mk op n as sub, h => by
    simp only [Fm.ok, Bool.and_eq_true] at h
    obtain ⟨⟨⟨h1, h2⟩, h3⟩, h4⟩ := h
    simp only [Fm.toks]
    split
    · rename_i ho; rw [if_pos ho] at h2; exact noSp_termWords n as (predName_noSp (by simp_all)) h3
    · rename_i ho; rw [if_neg ho] at h2
      split
      · rw [noSp_cons]; exact ⟨by decide, noSp_nil⟩
      · rw [noSp_append]
        exact ⟨noSp_signToks op n (fun e => by rw [if_pos e] at h2; simp_all), noSp_fmsToks op true sub h4⟩
theorem noSp_fmsToks (op : Int) : ∀ (b : Bool) (fs : List Fm), fmsOk fs = true → noSp (fmsToks op b fs)
  | _, [], _ => noSp_nil
  | b, f :: fs, h => by
    simp only [fmsOk, Bool.and_eq_true] at h
    simp only [fmsToks]
    rw [noSp_append, noSp_append]
    refine ⟨?_, Fm.noSp_toks f h.1, noSp_fmsToks op false fs h.2⟩
    cases b
    · simp only [Bool.false_eq_true, if_false]; rw [noSp_cons]; exact ⟨signBetween_noSp op, noSp_nil⟩
    · exact noSp_nil
end

/- Unique reading. -/
def NotOf (r : List Bs) : Prop := ∀ x s, r = x :: s → x ≠ wOf
theorem notOf_nil : NotOf [] := fun _ _ h => by cases h
theorem notOf_cons {x : Bs} {r : List Bs} (h : x ≠ wOf) : NotOf (x :: r) := fun _ _ e => by cases e; exact h

theorem head_of_checker {first other : UInt8 → Bool} {c : UInt8} {r : Bs} (h : checker first other (c :: r) = true) : first c = true := by
  simp [checker] at h; exact h.1.2

theorem var_not_fun {s : Bs} (h : varName s = true) (h' : funName s = true) : False := by
  obtain ⟨c, r, rfl, hc, _⟩ := checker_all h
  have := head_of_checker h'
  simp at hc this
  have h1 := UInt8.le_iff_toNat_le.1 hc.1
  have h2 := UInt8.le_iff_toNat_le.1 this.2
  simp at h1 h2; omega

def closeIf (as : List Tm) : List Bs := if as.isEmpty then [] else [wClose]
theorem Tm.words_eq (v : Bool) (n : Bs) (as : List Tm) : (Tm.mk v n as).words = n :: (tmsWords true as ++ closeIf as) := by simp [Tm.words, closeIf]
theorem termWords_eq (n : Bs) (as : List Tm) : termWords n as = n :: (tmsWords true as ++ closeIf as) := rfl

theorem args_read_of {as bs : List Tm} {r s : List Bs} (hr : NotOf r) (hs : NotOf s)
    (ih : ∀ r s, tmsWords true as ++ wClose :: r = tmsWords true bs ++ wClose :: s → as = bs ∧ r = s)
    (h : (tmsWords true as ++ closeIf as) ++ r = (tmsWords true bs ++ closeIf bs) ++ s) : as = bs ∧ r = s := by
  cases as with
  | nil =>
    cases bs with
    | nil => exact ⟨rfl, by simpa [tmsWords, closeIf] using h⟩
    | cons u us => simp [tmsWords, closeIf] at h; exact absurd rfl (hr wOf _ h)
  | cons t ts =>
    cases bs with
    | nil => simp [tmsWords, closeIf] at h; exact absurd rfl (hs wOf _ h.symm)
    | cons u us => refine ih r s ?_; simpa [closeIf] using h

theorem notOf_rest (ts : List Tm) (r : List Bs) : NotOf (tmsWords false ts ++ wClose :: r) := by
  cases ts with
  | nil => exact notOf_cons (by decide)
  | cons t ts => simp only [tmsWords, Bool.false_eq_true, if_false, List.cons_append]; exact notOf_cons (by decide)

mutual
theorem Tm.read : ∀ (t u : Tm) (r s : List Bs), t.ok = true → u.ok = true → NotOf r → NotOf s → t.words ++ r = u.words ++ s → t = u ∧ r = s
  | .mk v n as, .mk v' n' bs, r, s, h, h', hr, hs, e => by
    rw [Tm.words_eq, Tm.words_eq, List.cons_append, List.cons_append] at e
    simp only [List.cons.injEq] at e
    obtain ⟨rfl, e⟩ := e
    have oa : tmsOk as = true := by
      simp only [Tm.ok] at h; split at h
      · have : as = [] := by simp_all
        subst this; rfl
      · simp_all
    have ob : tmsOk bs = true := by
      simp only [Tm.ok] at h'; split at h'
      · have : bs = [] := by simp_all
        subst this; rfl
      · simp_all
    obtain ⟨rfl, rfl⟩ := args_read_of hr hs (fun r s => tms_read true as bs r s oa ob) e
    have : v = v' := by
      simp only [Tm.ok] at h h'
      cases v <;> cases v' <;> simp at h h' ⊢
      · exact var_not_fun h'.2 h.1.2
      · exact var_not_fun h.2 h'.1.2
    exact ⟨by rw [this], rfl⟩
theorem tms_read : ∀ (b : Bool) (ts us : List Tm) (r s : List Bs), tmsOk ts = true → tmsOk us = true → tmsWords b ts ++ wClose :: r = tmsWords b us ++ wClose :: s → ts = us ∧ r = s
  | b, [], [], r, s, _, _, e => ⟨rfl, by simpa [tmsWords] using e⟩
  | b, [], u :: us, r, s, _, _, e => by
    simp [tmsWords] at e; cases b <;> simp [wClose, wOf, wAnd] at e
  | b, t :: ts, [], r, s, _, _, e => by
    simp [tmsWords] at e; cases b <;> simp [wClose, wOf, wAnd] at e
  | b, t :: ts, u :: us, r, s, h, h', e => by
    simp only [tmsOk, Bool.and_eq_true] at h h'
    simp only [tmsWords, List.cons_append, List.append_assoc, List.cons.injEq, true_and] at e
    obtain ⟨e1, e2⟩ := Tm.read t u _ _ h.1 h'.1 (notOf_rest ts r) (notOf_rest us s) e
    obtain ⟨e3, e4⟩ := tms_read false ts us r s h.2 h'.2 e2
    exact ⟨by rw [e1, e3], e4⟩
end

theorem args_read {as bs : List Tm} {r s : List Bs} (ha : tmsOk as = true) (hb : tmsOk bs = true) (hr : NotOf r) (hs : NotOf s)
    (h : (tmsWords true as ++ closeIf as) ++ r = (tmsWords true bs ++ closeIf bs) ++ s) : as = bs ∧ r = s :=
  args_read_of hr hs (fun r s => tms_read true as bs r s ha hb) h

/-- The operator that a list of tokens begins with. -/
def opOf : List Bs → Int
  | [] => 0
  | x :: r =>
    if x = wFalse then 2 else if x = wNot then 3 else if x = wNec then 10 else if x = wPos then 11 else if x = wNext then 12 else if x = wAlways then 13
    else if x = wBoth then 4 else if x = wEither then 5 else if x = wIf then 6 else if x = wAs then 7 else if x = wWhile then 14
    else if x = wFor then (match r with | y :: _ => if y = wAll then 8 else 9 | [] => 0) else 1

theorem arity_cases {op : Int} {n : Nat} (h : n = arity op) (hn : n ≠ 9) : op = 1 ∨ op = 2 ∨ op = 3 ∨ op = 4 ∨ op = 5 ∨ op = 6 ∨ op = 7 ∨ op = 8 ∨ op = 9 ∨ op = 10 ∨ op = 11 ∨ op = 12 ∨ op = 13 ∨ op = 14 := by
  unfold arity at h
  repeat' split at h
  all_goals omega

theorem arity_le (op : Int) : arity op ≤ 2 ∨ arity op = 9 := by
  unfold arity
  repeat' split
  all_goals omega

theorem predName_ne {n : Bs} (h : predName n = true) {k : Bs} (hk : ∀ c r, k = c :: r → capital c = false) : n ≠ k := by
  intro e
  obtain ⟨c, r, rfl, hc, _⟩ := checker_all h
  rw [hk c r e.symm] at hc; cases hc

theorem Fm.ok_op {op : Int} {n : Bs} {as : List Tm} {sub : List Fm} (h : (Fm.mk op n as sub).ok = true) :
    op = 1 ∨ op = 2 ∨ op = 3 ∨ op = 4 ∨ op = 5 ∨ op = 6 ∨ op = 7 ∨ op = 8 ∨ op = 9 ∨ op = 10 ∨ op = 11 ∨ op = 12 ∨ op = 13 ∨ op = 14 := by
  simp only [Fm.ok, Bool.and_eq_true, decide_eq_true_eq] at h
  exact arity_cases h.1.1.1.1 (by omega)

theorem opOf_pred {n : Bs} (h : predName n = true) (r : List Bs) : opOf (n :: r) = 1 := by
  have e : ∀ k : Bs, (∀ c r, k = c :: r → capital c = false) → n ≠ k := fun k hk => predName_ne h hk
  have h2 := e wFalse (by intro c r e; cases e; decide)
  have h3 := e wNot (by intro c r e; cases e; decide)
  have h10 := e wNec (by intro c r e; cases e; decide)
  have h11 := e wPos (by intro c r e; cases e; decide)
  have h12 := e wNext (by intro c r e; cases e; decide)
  have h13 := e wAlways (by intro c r e; cases e; decide)
  have h4 := e wBoth (by intro c r e; cases e; decide)
  have h5 := e wEither (by intro c r e; cases e; decide)
  have h6 := e wIf (by intro c r e; cases e; decide)
  have h7 := e wAs (by intro c r e; cases e; decide)
  have h14 := e wWhile (by intro c r e; cases e; decide)
  have h8 := e wFor (by intro c r e; cases e; decide)
  simp only [opOf, h2, h3, h10, h11, h12, h13, h4, h5, h6, h7, h14, h8, if_false]

theorem opOf_toks {f : Fm} (h : f.ok = true) (r : List Bs) : opOf (f.toks ++ r) = f.op := by
  obtain ⟨op, n, as, sub⟩ := f
  have ho := Fm.ok_op h
  simp only [Fm.ok, Bool.and_eq_true] at h
  rcases ho with rfl | rfl | rfl | rfl | rfl | rfl | rfl | rfl | rfl | rfl | rfl | rfl | rfl | rfl
  · simp only [Fm.toks, if_pos, termWords_eq, List.cons_append, Fm.op]
    refine opOf_pred ?_ _
    simp_all
  all_goals simp [Fm.toks, Fm.op, signToks, signFirst, opOf, wFalse, wNot, wNec, wPos, wNext, wAlways, wBoth, wEither, wIf, wAs, wWhile, wFor, wAll, wSome]

theorem signBetween_ne (op : Int) : signBetween op ≠ wOf := by
  unfold signBetween
  repeat' split
  all_goals decide

theorem notOf_fms (op : Int) (fs : List Fm) {r : List Bs} (hr : NotOf r) : NotOf (fmsToks op false fs ++ r) := by
  cases fs with
  | nil => exact hr
  | cons f fs => simp only [fmsToks, Bool.false_eq_true, if_false, List.cons_append, List.nil_append]; exact notOf_cons (signBetween_ne op)

mutual
theorem Fm.read : ∀ (f g : Fm) (r s : List Bs), f.ok = true → g.ok = true → NotOf r → NotOf s → f.toks ++ r = g.toks ++ s → f = g ∧ r = s
  | .mk op n as sub, .mk op' n' as' sub', r, s, h, h', hr, hs, e => by
    have eo : op = op' := by
      have e1 := opOf_toks h r
      have e2 := opOf_toks h' s
      rw [e, e2] at e1
      exact e1.symm
    subst eo
    simp only [Fm.ok, Bool.and_eq_true, decide_eq_true_eq] at h h'
    obtain ⟨⟨⟨⟨l1, _⟩, h2⟩, h3⟩, h4⟩ := h
    obtain ⟨⟨⟨⟨l1', _⟩, h2'⟩, h3'⟩, h4'⟩ := h'
    simp only [Fm.toks] at e
    by_cases o1 : op = 1
    · subst o1
      simp only [if_true, termWords_eq, List.cons_append, List.cons.injEq] at e
      obtain ⟨e1, e2⟩ := e
      obtain ⟨e3, e4⟩ := args_read h3 h3' hr hs e2
      have z : sub = [] := List.eq_nil_of_length_eq_zero (by simpa [arity] using l1)
      have z' : sub' = [] := List.eq_nil_of_length_eq_zero (by simpa [arity] using l1')
      exact ⟨by rw [e1, e3, z, z'], e4⟩
    · rw [if_neg o1] at h2 h2'
      simp only [o1, if_false] at e
      have as0 : as = [] := by simp_all
      have as0' : as' = [] := by simp_all
      subst as0 as0'
      by_cases o2 : op = 2
      · subst o2
        have z : sub = [] := List.eq_nil_of_length_eq_zero (by simpa [arity] using l1)
        have z' : sub' = [] := List.eq_nil_of_length_eq_zero (by simpa [arity] using l1')
        have en : n = [] := by simp_all
        have en' : n' = [] := by simp_all
        simp only [if_true, List.cons_append, List.nil_append, List.cons.injEq, true_and] at e
        exact ⟨by rw [en, en', z, z'], e⟩
      · simp only [o2, if_false, List.append_assoc] at e
        have step : n = n' ∧ fmsToks op true sub ++ r = fmsToks op true sub' ++ s := by
          by_cases o8 : op = 8
          · subst o8; simpa [signToks] using e
          · by_cases o9 : op = 9
            · subst o9; simpa [signToks] using e
            · have en : n = [] := by simp_all
              have en' : n' = [] := by simp_all
              subst en en'
              simp only [signToks, o8, o9, if_false, List.cons_append, List.nil_append, List.cons.injEq, true_and] at e
              exact ⟨rfl, e⟩
        obtain ⟨e3, e4⟩ := fms_read op true sub sub' r s h4 h4' (by rw [l1, l1']) hr hs step.2
        exact ⟨by rw [step.1, e3], e4⟩
theorem fms_read (op : Int) : ∀ (b : Bool) (fs gs : List Fm) (r s : List Bs), fmsOk fs = true → fmsOk gs = true → fs.length = gs.length → NotOf r → NotOf s →
    fmsToks op b fs ++ r = fmsToks op b gs ++ s → fs = gs ∧ r = s
  | b, [], [], r, s, _, _, _, _, _, e => ⟨rfl, by simpa [fmsToks] using e⟩
  | b, [], g :: gs, r, s, _, _, l, _, _, _ => by simp at l
  | b, f :: fs, [], r, s, _, _, l, _, _, _ => by simp at l
  | b, f :: fs, g :: gs, r, s, h, h', l, hr, hs, e => by
    simp only [fmsOk, Bool.and_eq_true] at h h'
    simp only [fmsToks, List.append_assoc] at e
    have e0 := List.append_cancel_left e
    obtain ⟨e1, e2⟩ := Fm.read f g _ _ h.1 h'.1 (notOf_fms op fs hr) (notOf_fms op gs hs) e0
    obtain ⟨e3, e4⟩ := fms_read op false fs gs r s h.2 h'.2 (by simpa using l) hr hs e2
    exact ⟨by rw [e1, e3], e4⟩
end

/-- TWO RIGHT FORMULAS WITH THE SAME TEXT ARE THE SAME. -/
theorem Fm.text_inj {f g : Fm} (hf : f.ok = true) (hg : g.ok = true) (h : f.text = g.text) : f = g := by
  rw [Fm.text_eq, Fm.text_eq] at h
  have := joinSp_inj (Fm.noSp_toks f hf) (Fm.noSp_toks g hg) (Fm.toks_ne f) (Fm.toks_ne g) h
  exact (Fm.read f g [] [] hf hg notOf_nil notOf_nil (by simpa using this)).1

end Ly
/- Plain law: two proofs that can be described, with the same lines, are the same; likewise claims. Nothing of the program is imported. -/
namespace Ly
open Go.Lib (decDigits itoa)

inductive Pf where
  | mk (rule : Bs) (form : Fm) (label : Int) (sub : List Pf) (marks : List (List Int))
namespace Pf
def rule : Pf → Bs | .mk r _ _ _ _ => r
def form : Pf → Fm | .mk _ f _ _ _ => f
def label : Pf → Int | .mk _ _ l _ _ => l
def sub : Pf → List Pf | .mk _ _ _ s _ => s
def marks : Pf → List (List Int) | .mk _ _ _ _ m => m
end Pf

/-- Pieces put together with a separator between two. -/
def joinBy (sep : Bs) : List Bs → Bs
  | [] => []
  | [x] => x
  | x :: y :: r => x ++ sep ++ joinBy sep (y :: r)

theorem joinSp_eq : ∀ l : List Bs, joinSp l = joinBy [32] l
  | [] => rfl
  | [x] => rfl
  | x :: y :: r => by simp [joinSp, joinBy, joinSp_eq (y :: r)]

def cs : Bs := [44, 32]
def wEnding : Bs := [32, 101, 110, 100, 105, 110, 103, 32]
def wAssume : Bs := [97, 115, 115, 117, 109, 101, 32]
def wStill : Bs := [44, 32, 115, 116, 105, 108, 108, 32, 116, 111, 32, 115, 104, 111, 119]
def wBy : Bs := [44, 32, 98, 121, 32]
def wFrom : Bs := [32, 102, 114, 111, 109, 32]
def wAnds : Bs := [32, 97, 110, 100, 32]
def colon : Bs := [58, 32]
def wNothing : Bs := [110, 111, 116, 104, 105, 110, 103]
def hole : Bs := [63]

/-- A list of numbers with the word and between two. -/
def numbers (l : List Int) : Bs := if l.isEmpty then wNothing else joinBy wAnds (l.map itoa)

/-- What a premise is called: the number of its last step, and its marks. -/
def premText (n : Nat) (marks : List Int) : Bs := itoa n ++ (if marks.isEmpty then [] else wEnding ++ numbers marks)

/-- What stands behind a step's number. -/
def bodyText (rule : Bs) (form : Fm) (label : Int) (prems : List Bs) : Bs :=
  if rule = [] then wAssume ++ itoa label ++ cs ++ form.text
  else if rule = hole then form.text ++ wStill
  else form.text ++ wBy ++ rule ++ (if prems.isEmpty then [] else wFrom ++ joinBy cs prems)

mutual
def Pf.steps : Pf → Nat
  | .mk _ _ _ sub _ => pfsSteps sub + 1
def pfsSteps : List Pf → Nat
  | [] => 0
  | p :: ps => p.steps + pfsSteps ps
end

/-- The texts of premises, k lines ahead of them. -/
def premTexts : Nat → List Pf → List (List Int) → List Bs
  | _, [], _ => []
  | k, p :: ps, ms => premText (k + p.steps) (ms.headD []) :: premTexts (k + p.steps) ps ms.tail

mutual
/-- The lines of a proof, k lines ahead of them. -/
def Pf.lines : Nat → Pf → List Bs
  | k, .mk rule form label sub marks => pfsLines k sub ++ [itoa (k + pfsSteps sub + 1 : Nat) ++ colon ++ bodyText rule form label (premTexts k sub marks)]
def pfsLines : Nat → List Pf → List Bs
  | _, [] => []
  | k, p :: ps => p.lines k ++ pfsLines (k + p.steps) ps
end

/- Which proofs can be described. -/
def ruleName : Bs → Bool
  | [] => false
  | c :: r => decide (r.length + 1 ≤ 16) && (small c || capital c) && r.all alnum
def markOk (n : Int) : Bool := decide (0 ≤ n ∧ n ≤ 999)
def shaped (rule : Bs) (label : Int) (nsub : Nat) (marks : List (List Int)) : Bool :=
  if rule = [] then decide (nsub = 0) && marks.isEmpty && decide (1 ≤ label ∧ label ≤ 999)
  else if rule = hole then decide (nsub = 0) && marks.isEmpty && decide (label = 0)
  else ruleName rule && decide (label = 0) && decide (nsub ≤ 4) && decide (marks.length = nsub) && marks.all fun l => decide (l.length ≤ 3) && l.all markOk
mutual
def Pf.ok : Pf → Bool
  | .mk rule form label sub marks => form.right && shaped rule label sub.length marks && pfsOk sub
def pfsOk : List Pf → Bool
  | [] => true
  | p :: ps => p.ok && pfsOk ps
end
mutual
def Pf.depth : Pf → Nat
  | .mk _ _ _ sub _ => pfsDepth sub
def pfsDepth : List Pf → Nat
  | [] => 0
  | p :: ps => max (p.depth + 1) (pfsDepth ps)
end
def Pf.right (p : Pf) : Bool := p.ok && decide (p.steps ≤ 300) && decide (p.depth ≤ 40)

/- Numerals. -/
theorem decDigits_digit (n : Nat) : ∀ c ∈ decDigits n, 48 ≤ c.toNat ∧ c.toNat ≤ 57 := by
  induction n using Nat.strongRecOn with
  | ind n ih =>
    rw [decDigits]
    split
    · intro c hc; simp at hc; subst hc; simp; omega
    · intro c hc
      rcases List.mem_append.1 hc with h | h
      · exact ih (n / 10) (by omega) c h
      · simp at h; subst h; simp; omega

theorem decDigits_inj : ∀ (n m : Nat), decDigits n = decDigits m → n = m := by
  intro n
  induction n using Nat.strongRecOn with
  | ind n ih =>
    intro m h
    rw [decDigits.eq_def n, decDigits.eq_def m] at h
    have dig : ∀ a b : Nat, a < 10 → b < 10 → UInt8.ofNat (48 + a) = UInt8.ofNat (48 + b) → a = b := by
      intro a b ha hb e
      have := congrArg UInt8.toNat e
      simp at this; omega
    have ne : ∀ k, decDigits k ≠ [] := by
      intro k; rw [decDigits]; split <;> simp
    split at h <;> split at h
    · simp at h; exact dig n m ‹_› ‹_› (by simpa using h)
    · have := congrArg List.length h; simp at this; exact absurd this (ne _)
    · have := congrArg List.length h; simp at this; exact absurd this (ne _)
    · have h1 := List.append_inj' h (by simp)
      have e1 := ih (n / 10) (by omega) _ h1.1
      have e2 := dig (n % 10) (m % 10) (by omega) (by omega) (by simpa using h1.2)
      omega

theorem itoa_nat (n : Nat) : itoa (n : Int) = decDigits n := by
  unfold itoa; rw [if_neg (by omega)]; simp

theorem itoa_digit {n : Int} (h : 0 ≤ n) : ∀ c ∈ itoa n, 48 ≤ c.toNat ∧ c.toNat ≤ 57 := by
  obtain ⟨k, rfl⟩ := Int.eq_ofNat_of_zero_le h
  rw [itoa_nat]; exact decDigits_digit k
theorem itoa_not {n : Int} (h : 0 ≤ n) {c : UInt8} (hc : c.toNat < 48 ∨ 57 < c.toNat) : c ∉ itoa n := fun hm => by
  have := itoa_digit h c hm; omega
theorem itoa_inj {n m : Int} (h : 0 ≤ n) (h' : 0 ≤ m) (e : itoa n = itoa m) : n = m := by
  obtain ⟨k, rfl⟩ := Int.eq_ofNat_of_zero_le h
  obtain ⟨j, rfl⟩ := Int.eq_ofNat_of_zero_le h'
  rw [itoa_nat, itoa_nat] at e
  rw [decDigits_inj _ _ e]
theorem itoa_ne {n : Int} : itoa n ≠ [] := by
  unfold itoa; split
  · simp
  · rw [decDigits]; split <;> simp

/- Lists put together are told apart. -/
theorem joinBy_inj {c : UInt8} {t : Bs} : ∀ {a b : List Bs}, (∀ x ∈ a, c ∉ x) → (∀ x ∈ b, c ∉ x) → a ≠ [] → b ≠ [] → joinBy (c :: t) a = joinBy (c :: t) b → a = b
  | [], _, _, _, ha, _, _ => absurd rfl ha
  | _ :: _, [], _, _, _, hb, _ => absurd rfl hb
  | [x], [y], _, _, _, _, h => by simpa [joinBy] using h
  | [x], y :: z :: r, hx, _, _, _, h => (no_mid (r := t ++ joinBy (c :: t) (z :: r)) (hx x (by simp)) (by simpa [joinBy] using h)).elim
  | x :: z :: r, [y], _, hy, _, _, h => (no_mid (r := t ++ joinBy (c :: t) (z :: r)) (hy y (by simp)) (by simpa [joinBy] using h.symm)).elim
  | x :: x' :: r, y :: y' :: s, hx, hy, _, _, h => by
    have h' : x ++ c :: (t ++ joinBy (c :: t) (x' :: r)) = y ++ c :: (t ++ joinBy (c :: t) (y' :: s)) := by simpa [joinBy] using h
    obtain ⟨e1, e2⟩ := split_at (hx x (by simp)) (hy y (by simp)) h'
    have e3 := List.append_cancel_left e2
    rw [e1, joinBy_inj (fun z hz => hx z (List.mem_cons_of_mem _ hz)) (fun z hz => hy z (List.mem_cons_of_mem _ hz)) (by simp) (by simp) e3]

theorem map_itoa_inj : ∀ {a b : List Int}, (∀ x ∈ a, 0 ≤ x) → (∀ x ∈ b, 0 ≤ x) → a.map itoa = b.map itoa → a = b
  | [], [], _, _, _ => rfl
  | [], _ :: _, _, _, h => by simp at h
  | _ :: _, [], _, _, h => by simp at h
  | x :: a, y :: b, ha, hb, h => by
    simp only [List.map_cons, List.cons.injEq] at h
    rw [itoa_inj (ha x (by simp)) (hb y (by simp)) h.1, map_itoa_inj (fun z hz => ha z (List.mem_cons_of_mem _ hz)) (fun z hz => hb z (List.mem_cons_of_mem _ hz)) h.2]

theorem numbers_inj {a b : List Int} (ha : ∀ x ∈ a, 0 ≤ x) (hb : ∀ x ∈ b, 0 ≤ x) (na : a ≠ []) (nb : b ≠ []) (h : numbers a = numbers b) : a = b := by
  unfold numbers at h
  rw [if_neg (by simpa using na), if_neg (by simpa using nb)] at h
  refine map_itoa_inj ha hb (joinBy_inj (c := 32) (t := [97, 110, 100, 32]) ?_ ?_ (by simpa using na) (by simpa using nb) h)
  · intro x hx; obtain ⟨n, hn, rfl⟩ := List.mem_map.1 hx; exact itoa_not (ha n hn) (by decide)
  · intro x hx; obtain ⟨n, hn, rfl⟩ := List.mem_map.1 hx; exact itoa_not (hb n hn) (by decide)

theorem premText_inj {n m : Nat} {a b : List Int} (ha : ∀ x ∈ a, 0 ≤ x) (hb : ∀ x ∈ b, 0 ≤ x) (h : premText n a = premText m b) : n = m ∧ a = b := by
  unfold premText at h
  have i1 : (32 : UInt8) ∉ itoa (n : Int) := itoa_not (by omega) (by decide)
  have i2 : (32 : UInt8) ∉ itoa (m : Int) := itoa_not (by omega) (by decide)
  cases a with
  | nil =>
    cases b with
    | nil =>
      simp at h
      exact ⟨by have := itoa_inj (by omega) (by omega) h; omega, rfl⟩
    | cons y b => exact (no_mid (c := 32) (x := itoa n) (y := itoa m) (r := [101, 110, 100, 105, 110, 103, 32] ++ numbers (y :: b)) i1 (by simpa [wEnding] using h)).elim
  | cons x a =>
    cases b with
    | nil => exact (no_mid (c := 32) (x := itoa m) (y := itoa n) (r := [101, 110, 100, 105, 110, 103, 32] ++ numbers (x :: a)) i2 (by simpa [wEnding] using h.symm)).elim
    | cons y b =>
      have h' : itoa n ++ 32 :: ([101, 110, 100, 105, 110, 103, 32] ++ numbers (x :: a)) = itoa m ++ 32 :: ([101, 110, 100, 105, 110, 103, 32] ++ numbers (y :: b)) := by simpa [wEnding] using h
      obtain ⟨e1, e2⟩ := split_at i1 i2 h'
      exact ⟨by have := itoa_inj (by omega) (by omega) e1; omega, numbers_inj ha hb (by simp) (by simp) (List.append_cancel_left e2)⟩

end Ly
namespace Ly
open Go.Lib (decDigits itoa)

/- The text of a right formula holds letters, digits and spaces alone. -/
def al (x : Bs) : Prop := ∀ c ∈ x, alnum c = true
def als (l : List Bs) : Prop := ∀ x ∈ l, al x
theorem als_append {a b : List Bs} : als (a ++ b) ↔ als a ∧ als b := by simp [als, List.mem_append, or_imp, forall_and]
theorem als_cons {x : Bs} {b : List Bs} : als (x :: b) ↔ al x ∧ als b := by simp [als]
theorem als_nil : als [] := by simp [als]

theorem name_al {first other : UInt8 → Bool} {s : Bs} (h : checker first other s = true) (h1 : ∀ c, first c = true → alnum c = true) (h2 : ∀ c, other c = true → alnum c = true) : al s := by
  obtain ⟨c, r, rfl, hc, hr⟩ := checker_all h
  intro x hx
  rcases List.mem_cons.1 hx with e | e
  · rw [e]; exact h1 c hc
  · exact h2 x (hr x e)

theorem alnum_of_le {c : UInt8} {a b : UInt8} (h : (a ≤ c && c ≤ b) = true) (ha : 97 ≤ a) (hb : b ≤ 122) : alnum c = true := by
  simp only [Bool.and_eq_true, decide_eq_true_eq] at h
  have : small c = true := by
    simp only [small, Bool.and_eq_true, decide_eq_true_eq]
    exact ⟨UInt8.le_trans ha h.1, UInt8.le_trans h.2 hb⟩
  simp [alnum, this]

theorem varName_al {s : Bs} (h : varName s = true) : al s := name_al h (fun _ hc => alnum_of_le hc (by decide) (by decide)) (fun c hc => by simp [alnum, hc])
theorem funName_al {s : Bs} (h : funName s = true) : al s := name_al h (fun _ hc => alnum_of_le hc (by decide) (by decide)) (fun _ hc => hc)
theorem predName_al {s : Bs} (h : predName s = true) : al s := name_al h (fun c hc => by simp [alnum, hc]) (fun _ hc => hc)

mutual
theorem Tm.al_words : ∀ t : Tm, t.ok = true → als t.words
  | .mk v n as, h => by
    have hn : al n := by
      simp only [Tm.ok] at h; split at h
      · exact varName_al (by simp_all)
      · exact funName_al (by simp_all)
    have ha : als (tmsWords true as) := by
      simp only [Tm.ok] at h; split at h
      · have : as = [] := by simp_all
        subst this; exact als_nil
      · exact al_tmsWords true as (by simp_all)
    simp only [Tm.words]
    rw [als_cons, als_append]
    refine ⟨hn, ha, ?_⟩
    split
    · exact als_nil
    · rw [als_cons]; exact ⟨by unfold al; decide, als_nil⟩
theorem al_tmsWords : ∀ (b : Bool) (as : List Tm), tmsOk as = true → als (tmsWords b as)
  | _, [], _ => als_nil
  | b, t :: ts, h => by
    simp only [tmsOk, Bool.and_eq_true] at h
    simp only [tmsWords]
    rw [als_cons, als_append]
    refine ⟨?_, Tm.al_words t h.1, al_tmsWords false ts h.2⟩
    cases b <;> (unfold al; decide)
end

theorem al_termWords (n : Bs) (as : List Tm) (hn : al n) (ha : tmsOk as = true) : als (termWords n as) := by
  unfold termWords
  rw [als_cons, als_append]
  refine ⟨hn, al_tmsWords true as ha, ?_⟩
  split
  · exact als_nil
  · rw [als_cons]; exact ⟨by unfold al; decide, als_nil⟩

theorem signBetween_al (op : Int) : al (signBetween op) := by
  unfold signBetween al
  repeat' split
  all_goals decide
theorem signFirst_al (op : Int) (n : Bs) (h8 : op ≠ 8) (h9 : op ≠ 9) : al (signFirst op n) := by
  unfold signFirst al
  rw [if_neg h8, if_neg h9]
  repeat' split
  all_goals decide
theorem al_signToks (op : Int) (n : Bs) (h : op = 8 ∨ op = 9 → varName n = true) : als (signToks op n) := by
  unfold signToks
  split
  · rw [als_cons, als_cons, als_cons]; exact ⟨by unfold al; decide, by unfold al; decide, varName_al (h (.inl ‹_›)), als_nil⟩
  · split
    · rw [als_cons, als_cons, als_cons]; exact ⟨by unfold al; decide, by unfold al; decide, varName_al (h (.inr ‹_›)), als_nil⟩
    · rw [als_cons]; exact ⟨signFirst_al op n ‹_› ‹_›, als_nil⟩

mutual
theorem Fm.al_toks : ∀ f : Fm, f.ok = true → als f.toks
  | .mk op n as sub, h => by
    simp only [Fm.ok, Bool.and_eq_true] at h
    obtain ⟨⟨⟨h1, h2⟩, h3⟩, h4⟩ := h
    simp only [Fm.toks]
    split
    · rename_i ho; rw [if_pos ho] at h2; exact al_termWords n as (predName_al (by simp_all)) h3
    · rename_i ho; rw [if_neg ho] at h2
      split
      · rw [als_cons]; exact ⟨by unfold al; decide, als_nil⟩
      · rw [als_append]
        exact ⟨al_signToks op n (fun e => by rw [if_pos e] at h2; simp_all), al_fmsToks op true sub h4⟩
theorem al_fmsToks (op : Int) : ∀ (b : Bool) (fs : List Fm), fmsOk fs = true → als (fmsToks op b fs)
  | _, [], _ => als_nil
  | b, f :: fs, h => by
    simp only [fmsOk, Bool.and_eq_true] at h
    simp only [fmsToks]
    rw [als_append, als_append]
    refine ⟨?_, Fm.al_toks f h.1, al_fmsToks op false fs h.2⟩
    cases b
    · simp only [Bool.false_eq_true, if_false]; rw [als_cons]; exact ⟨signBetween_al op, als_nil⟩
    · exact als_nil
end

theorem mem_joinSp {c : UInt8} : ∀ {l : List Bs}, c ∈ joinSp l → c = 32 ∨ ∃ x ∈ l, c ∈ x
  | [], h => by simp [joinSp] at h
  | [x], h => .inr ⟨x, by simp, h⟩
  | x :: y :: r, h => by
    simp only [joinSp, List.mem_append, List.mem_cons] at h
    rcases h with h | h | h
    · exact .inr ⟨x, by simp, h⟩
    · exact .inl h
    · rcases mem_joinSp h with e | ⟨z, hz, hc⟩
      · exact .inl e
      · exact .inr ⟨z, List.mem_cons_of_mem _ hz, hc⟩

theorem Fm.text_not {f : Fm} (h : f.ok = true) {c : UInt8} (h1 : alnum c = false) (h2 : c ≠ 32) : c ∉ f.text := by
  rw [Fm.text_eq]
  intro hm
  rcases mem_joinSp hm with e | ⟨x, hx, hc⟩
  · exact h2 e
  · have := Fm.al_toks f h x hx c hc
    rw [h1] at this; cases this

theorem Fm.text_not_assume {f : Fm} (h : f.ok = true) {l : Int} (hl : 0 ≤ l) : f.text ≠ wAssume ++ itoa l := by
  intro e
  have e' : joinSp f.toks = joinSp [[97, 115, 115, 117, 109, 101], itoa l] := by rw [← Fm.text_eq, e]; simp [joinSp, wAssume]
  have hn : noSp [[97, 115, 115, 117, 109, 101], itoa l] := by
    rw [noSp_cons, noSp_cons]; exact ⟨by decide, itoa_not hl (by decide), noSp_nil⟩
  have ht := joinSp_inj (Fm.noSp_toks f h) hn (Fm.toks_ne f) (by simp) e'
  have ho := opOf_toks h []
  rw [List.append_nil, ht] at ho
  have h1 : f.op = 1 := by rw [← ho]; rfl
  obtain ⟨op, n, as, sub⟩ := f
  simp only [Fm.op] at h1
  subst h1
  simp only [Fm.toks, if_pos, termWords_eq, List.cons.injEq] at ht
  simp only [Fm.ok, Bool.and_eq_true] at h
  have hp : predName n = true := by simp_all
  rw [ht.1] at hp
  revert hp; decide

/- Steps. -/
mutual
theorem Pf.lines_length : ∀ (p : Pf) (k : Nat), (p.lines k).length = p.steps
  | .mk r f l s m, k => by simp [Pf.lines, Pf.steps, pfsLines_length s k]
theorem pfsLines_length : ∀ (ps : List Pf) (k : Nat), (pfsLines k ps).length = pfsSteps ps
  | [], _ => rfl
  | p :: ps, k => by simp [pfsLines, pfsSteps, Pf.lines_length p k, pfsLines_length ps]
end

theorem ruleName_al {s : Bs} (h : ruleName s = true) : al s := by
  cases s with
  | nil => simp [ruleName] at h
  | cons c r =>
    simp only [ruleName, Bool.and_eq_true, decide_eq_true_eq, List.all_eq_true] at h
    intro x hx
    rcases List.mem_cons.1 hx with e | e
    · rw [e]; rcases Bool.or_eq_true_iff.1 h.1.2 with e | e <;> simp [alnum, e]
    · exact h.2 x e
theorem al_not {s : Bs} (h : al s) {c : UInt8} (hc : alnum c = false) : c ∉ s := fun hm => by rw [h c hm] at hc; cases hc

theorem markOk_nonneg {l : List Int} (h : l.all markOk = true) : ∀ x ∈ l, 0 ≤ x := fun x hx => by
  have := List.all_eq_true.1 h x hx
  simp [markOk] at this; exact this.1

theorem mem_joinBy {c : UInt8} {sep : Bs} : ∀ {l : List Bs}, c ∈ joinBy sep l → c ∈ sep ∨ ∃ x ∈ l, c ∈ x
  | [], h => by simp [joinBy] at h
  | [x], h => .inr ⟨x, by simp, h⟩
  | x :: y :: r, h => by
    simp only [joinBy, List.mem_append] at h
    rcases h with (h | h) | h
    · exact .inr ⟨x, by simp, h⟩
    · exact .inl h
    · rcases mem_joinBy h with e | ⟨z, hz, hc⟩
      · exact .inl e
      · exact .inr ⟨z, List.mem_cons_of_mem _ hz, hc⟩

theorem premText_not {n : Nat} {l : List Int} (h : ∀ x ∈ l, 0 ≤ x) : (44 : UInt8) ∉ premText n l := by
  unfold premText
  intro hm
  rcases List.mem_append.1 hm with e | e
  · exact itoa_not (by omega) (by decide) e
  · split at e
    · cases e
    · rcases List.mem_append.1 e with e | e
      · revert e; decide
      · unfold numbers at e
        split at e
        · revert e; decide
        · rcases mem_joinBy e with e | ⟨x, hx, hc⟩
          · revert e; decide
          · obtain ⟨y, hy, rfl⟩ := List.mem_map.1 hx
            exact itoa_not (h y hy) (by decide) hc

def marksOk (ms : List (List Int)) : Prop := ∀ l ∈ ms, ∀ x ∈ l, 0 ≤ x

theorem marksOk_head {ms : List (List Int)} (h : marksOk ms) : ∀ x ∈ ms.headD [], 0 ≤ x := by
  cases ms with
  | nil => simp
  | cons l ms => exact h l (by simp)
theorem marksOk_tail {ms : List (List Int)} (h : marksOk ms) : marksOk ms.tail := fun l hl => h l (List.mem_of_mem_tail hl)

theorem premTexts_not : ∀ (ps : List Pf) (k : Nat) (ms : List (List Int)), marksOk ms → ∀ x ∈ premTexts k ps ms, (44 : UInt8) ∉ x
  | [], _, _, _, x, hx => by simp [premTexts] at hx
  | p :: ps, k, ms, h, x, hx => by
    simp only [premTexts, List.mem_cons] at hx
    rcases hx with e | e
    · rw [e]; exact premText_not (marksOk_head h)
    · exact premTexts_not ps _ _ (marksOk_tail h) x e

theorem premTexts_inj : ∀ (ps qs : List Pf) (k : Nat) (ms ns : List (List Int)), marksOk ms → marksOk ns → ms.length = ps.length → ns.length = qs.length →
    premTexts k ps ms = premTexts k qs ns → ps.map Pf.steps = qs.map Pf.steps ∧ ms = ns
  | [], [], k, ms, ns, _, _, l, l', _ => by
    have e1 : ms = [] := List.eq_nil_of_length_eq_zero (by simpa using l)
    have e2 : ns = [] := List.eq_nil_of_length_eq_zero (by simpa using l')
    exact ⟨rfl, by rw [e1, e2]⟩
  | [], q :: qs, _, _, _, _, _, _, _, h => by simp [premTexts] at h
  | p :: ps, [], _, _, _, _, _, _, _, h => by simp [premTexts] at h
  | p :: ps, q :: qs, k, ms, ns, h1, h2, l, l', h => by
    cases ms with
    | nil => simp at l
    | cons m ms =>
      cases ns with
      | nil => simp at l'
      | cons n ns =>
        simp only [premTexts, List.headD_cons, List.tail_cons, List.cons.injEq] at h
        obtain ⟨e1, e2⟩ := premText_inj (h1 m (by simp)) (h2 n (by simp)) h.1
        have es : p.steps = q.steps := by omega
        rw [es] at h
        obtain ⟨e3, e4⟩ := premTexts_inj ps qs _ ms ns (marksOk_tail h1) (marksOk_tail h2) (by simpa using l) (by simpa using l') h.2
        exact ⟨by simp [es, e3], by rw [e2, e4]⟩

theorem premTexts_ne {ps : List Pf} {k : Nat} {ms : List (List Int)} : premTexts k ps ms = [] ↔ ps = [] := by
  cases ps <;> simp [premTexts]

theorem marksOk_of {ms : List (List Int)} (h : (ms.all fun l => decide (l.length ≤ 3) && l.all markOk) = true) : marksOk ms := fun l hl => by
  have := List.all_eq_true.1 h l hl
  simp only [Bool.and_eq_true] at this
  exact markOk_nonneg this.2

/-- What a step's text tells. -/
theorem bodyText_inj {r r' : Bs} {f f' : Fm} {l l' : Int} {ps qs : List Pf} {k : Nat} {ms ns : List (List Int)} (hf : f.ok = true) (hf' : f'.ok = true)
    (h : shaped r l ps.length ms = true) (h' : shaped r' l' qs.length ns = true) (e : bodyText r f l (premTexts k ps ms) = bodyText r' f' l' (premTexts k qs ns)) :
    r = r' ∧ f = f' ∧ l = l' ∧ ps.map Pf.steps = qs.map Pf.steps ∧ ms = ns := by
  have n1 : (44 : UInt8) ∉ f.text := Fm.text_not hf (by decide) (by decide)
  have n2 : (44 : UInt8) ∉ f'.text := Fm.text_not hf' (by decide) (by decide)
  have key : ∀ (l : Int), 0 ≤ l → (44 : UInt8) ∉ wAssume ++ itoa l := fun l hl hm => by
    rcases List.mem_append.1 hm with e | e
    · revert e; decide
    · exact itoa_not hl (by decide) e
  have hh : hole ≠ [] := by decide
  -- the parts, each as 'ahead of the comma' and 'behind it'
  have pa : ∀ (f : Fm) (l : Int), wAssume ++ itoa l ++ cs ++ f.text = (wAssume ++ itoa l) ++ 44 :: (32 :: f.text) := by intro f l; simp [cs]
  have ph : ∀ (f : Fm), f.text ++ wStill = f.text ++ 44 :: [32, 115, 116, 105, 108, 108, 32, 116, 111, 32, 115, 104, 111, 119] := by intro f; rfl
  have pr : ∀ (f : Fm) (r x : Bs), f.text ++ wBy ++ r ++ x = f.text ++ 44 :: ([32, 98, 121, 32] ++ r ++ x) := by intro f r x; simp [wBy]
  have nilOf : ∀ {ps : List Pf} {ms : List (List Int)}, ps.length = 0 → ms.isEmpty = true → ps = [] ∧ ms = [] := fun h1 h2 => ⟨List.eq_nil_of_length_eq_zero h1, by simpa using h2⟩
  by_cases r0 : r = []
  · subst r0
    simp only [shaped, if_pos, Bool.and_eq_true, decide_eq_true_eq] at h
    obtain ⟨⟨z1, z2⟩, z3⟩ := h
    obtain ⟨rfl, rfl⟩ := nilOf z1 z2
    by_cases r0' : r' = []
    · subst r0'
      simp only [shaped, if_pos, Bool.and_eq_true, decide_eq_true_eq] at h'
      obtain ⟨⟨z1', z2'⟩, z3'⟩ := h'
      obtain ⟨rfl, rfl⟩ := nilOf z1' z2'
      simp only [bodyText, if_pos, pa] at e
      obtain ⟨e1, e2⟩ := split_at (key l (by omega)) (key l' (by omega)) e
      have e3 := itoa_inj (by omega) (by omega) (List.append_cancel_left e1)
      have e4 : f.text = f'.text := by simpa using e2
      exact ⟨rfl, Fm.text_inj hf hf' e4, e3, rfl, rfl⟩
    · by_cases rh' : r' = hole
      · subst rh'
        simp only [bodyText, if_pos, r0', if_neg, not_false_eq_true, pa, ph] at e
        obtain ⟨e1, _⟩ := split_at (key l (by omega)) n2 e
        exact absurd e1.symm (Fm.text_not_assume hf' (by omega))
      · simp only [bodyText, if_pos, r0', rh', if_neg, not_false_eq_true, pa, pr] at e
        obtain ⟨e1, _⟩ := split_at (key l (by omega)) n2 e
        exact absurd e1.symm (Fm.text_not_assume hf' (by omega))
  · by_cases rh : r = hole
    · subst rh
      simp only [shaped, hh, if_neg, if_pos, not_false_eq_true, Bool.and_eq_true, decide_eq_true_eq] at h
      obtain ⟨⟨z1, z2⟩, z3⟩ := h
      obtain ⟨rfl, rfl⟩ := nilOf z1 z2
      by_cases r0' : r' = []
      · subst r0'
        simp only [shaped, if_pos, Bool.and_eq_true, decide_eq_true_eq] at h'
        simp only [bodyText, if_pos, r0, if_neg, not_false_eq_true, pa, ph] at e
        obtain ⟨e1, _⟩ := split_at n1 (key l' (by omega)) e
        exact absurd e1 (Fm.text_not_assume hf (by omega))
      · by_cases rh' : r' = hole
        · subst rh'
          simp only [shaped, hh, if_neg, if_pos, not_false_eq_true, Bool.and_eq_true, decide_eq_true_eq] at h'
          obtain ⟨⟨z1', z2'⟩, z3'⟩ := h'
          obtain ⟨rfl, rfl⟩ := nilOf z1' z2'
          simp only [bodyText, if_pos, hh, if_neg, not_false_eq_true, ph] at e
          obtain ⟨e1, _⟩ := split_at n1 n2 e
          exact ⟨rfl, Fm.text_inj hf hf' e1, by omega, rfl, rfl⟩
        · simp only [bodyText, if_pos, hh, r0', rh', if_neg, not_false_eq_true, ph, pr] at e
          obtain ⟨_, e2⟩ := split_at n1 n2 e
          simp at e2
    · simp only [shaped, r0, rh, if_neg, not_false_eq_true, Bool.and_eq_true, decide_eq_true_eq] at h
      obtain ⟨⟨⟨⟨z1, z2⟩, z3⟩, z4⟩, z5⟩ := h
      by_cases r0' : r' = []
      · subst r0'
        simp only [shaped, if_pos, Bool.and_eq_true, decide_eq_true_eq] at h'
        simp only [bodyText, if_pos, r0, rh, if_neg, not_false_eq_true, pa, pr] at e
        obtain ⟨e1, _⟩ := split_at n1 (key l' (by omega)) e
        exact absurd e1 (Fm.text_not_assume hf (by omega))
      · by_cases rh' : r' = hole
        · subst rh'
          simp only [bodyText, if_pos, hh, r0, rh, if_neg, not_false_eq_true, ph, pr] at e
          obtain ⟨_, e2⟩ := split_at n1 n2 e
          simp at e2
        · simp only [shaped, r0', rh', if_neg, not_false_eq_true, Bool.and_eq_true, decide_eq_true_eq] at h'
          obtain ⟨⟨⟨⟨z1', z2'⟩, z3'⟩, z4'⟩, z5'⟩ := h'
          simp only [bodyText, r0, rh, r0', rh', if_neg, not_false_eq_true, pr] at e
          obtain ⟨e1, e2⟩ := split_at n1 n2 e
          have e3 : r ++ (if (premTexts k ps ms).isEmpty then [] else wFrom ++ joinBy cs (premTexts k ps ms)) = r' ++ (if (premTexts k qs ns).isEmpty then [] else wFrom ++ joinBy cs (premTexts k qs ns)) := by
            simpa using e2
          have m1 := marksOk_of z5
          have m2 := marksOk_of z5'
          have a1 : (32 : UInt8) ∉ r := al_not (ruleName_al z1) (by decide)
          have a2 : (32 : UInt8) ∉ r' := al_not (ruleName_al z1') (by decide)
          have fin : r = r' ∧ premTexts k ps ms = premTexts k qs ns := by
            by_cases p0 : premTexts k ps ms = []
            · by_cases q0 : premTexts k qs ns = []
              · rw [p0, q0] at e3 ⊢; exact ⟨by simpa using e3, rfl⟩
              · rw [p0, if_pos (by rfl), if_neg (by simpa using q0), List.append_nil] at e3
                exact (no_mid (c := 32) (r := [102, 114, 111, 109, 32] ++ joinBy cs (premTexts k qs ns)) a1 (by rw [e3]; rfl)).elim
            · by_cases q0 : premTexts k qs ns = []
              · rw [q0, if_neg (by simpa using p0), if_pos (by rfl), List.append_nil] at e3
                exact (no_mid (c := 32) (r := [102, 114, 111, 109, 32] ++ joinBy cs (premTexts k ps ms)) a2 (by rw [← e3]; rfl)).elim
              · rw [if_neg (by simpa using p0), if_neg (by simpa using q0)] at e3
                have e4 : r ++ 32 :: ([102, 114, 111, 109, 32] ++ joinBy cs (premTexts k ps ms)) = r' ++ 32 :: ([102, 114, 111, 109, 32] ++ joinBy cs (premTexts k qs ns)) := by simpa [wFrom] using e3
                obtain ⟨e5, e6⟩ := split_at a1 a2 e4
                exact ⟨e5, joinBy_inj (c := 44) (t := [32]) (premTexts_not ps k ms m1) (premTexts_not qs k ns m2) p0 q0 (List.append_cancel_left e6)⟩
          obtain ⟨e7, e8⟩ := premTexts_inj ps qs k ms ns m1 m2 (by omega) (by omega) fin.2
          exact ⟨fin.1, Fm.text_inj hf hf' e1, by omega, e7, e8⟩

theorem pfsSteps_map : ∀ {ps qs : List Pf}, ps.map Pf.steps = qs.map Pf.steps → pfsSteps ps = pfsSteps qs
  | [], [], _ => rfl
  | [], _ :: _, h => by simp at h
  | _ :: _, [], h => by simp at h
  | p :: ps, q :: qs, h => by
    simp only [List.map_cons, List.cons.injEq] at h
    simp [pfsSteps, h.1, pfsSteps_map h.2]

mutual
theorem Pf.lines_inj : ∀ (p q : Pf) (k : Nat), p.ok = true → q.ok = true → p.lines k = q.lines k → p = q
  | .mk r f l s m, .mk r' f' l' s' m', k, h, h', e => by
    simp only [Pf.ok, Bool.and_eq_true] at h h'
    simp only [Pf.lines] at e
    have e0 := List.append_inj' e (by simp)
    have hf : f.ok = true := by have := h.1.1; simp only [Fm.right, Bool.and_eq_true] at this; exact this.1.1
    have hf' : f'.ok = true := by have := h'.1.1; simp only [Fm.right, Bool.and_eq_true] at this; exact this.1.1
    have e1 : itoa (k + pfsSteps s + 1 : Nat) ++ 58 :: (32 :: bodyText r f l (premTexts k s m)) = itoa (k + pfsSteps s' + 1 : Nat) ++ 58 :: (32 :: bodyText r' f' l' (premTexts k s' m')) := by
      have := e0.2; simpa [colon] using this
    obtain ⟨e2, e3⟩ := split_at (itoa_not (by omega) (by decide)) (itoa_not (by omega) (by decide)) e1
    obtain ⟨rfl, rfl, rfl, e7, rfl⟩ := bodyText_inj hf hf' h.1.2 h'.1.2 (by simpa using e3)
    rw [pfs_inj s s' k h.2 h'.2 e7 e0.1]
theorem pfs_inj : ∀ (ps qs : List Pf) (k : Nat), pfsOk ps = true → pfsOk qs = true → ps.map Pf.steps = qs.map Pf.steps → pfsLines k ps = pfsLines k qs → ps = qs
  | [], [], _, _, _, _, _ => rfl
  | [], _ :: _, _, _, _, h, _ => by simp at h
  | _ :: _, [], _, _, _, h, _ => by simp at h
  | p :: ps, q :: qs, k, h, h', hs, e => by
    simp only [pfsOk, Bool.and_eq_true] at h h'
    simp only [List.map_cons, List.cons.injEq] at hs
    simp only [pfsLines, hs.1] at e
    have e0 := List.append_inj e (by rw [Pf.lines_length, Pf.lines_length, hs.1])
    rw [Pf.lines_inj p q k h.1 h'.1 e0.1, pfs_inj ps qs _ h.2 h'.2 hs.2 e0.2]
end

/-- TWO PROOFS THAT CAN BE DESCRIBED, WITH THE SAME LINES, ARE THE SAME. -/
theorem Pf.told {p q : Pf} (hp : p.ok = true) (hq : q.ok = true) (h : p.lines 0 = q.lines 0) : p = q := Pf.lines_inj p q 0 hp hq h

end Ly
namespace Ly
/- Equality, as the program tells it. -/
mutual
def Tm.same : Tm → Tm → Bool
  | .mk v n as, .mk v' n' bs => (v == v') && (n == n') && tmsSame as bs
def tmsSame : List Tm → List Tm → Bool
  | [], [] => true
  | t :: ts, u :: us => t.same u && tmsSame ts us
  | [], _ :: _ => false
  | _ :: _, [] => false
end
mutual
def Fm.same : Fm → Fm → Bool
  | .mk o n as sub, .mk o' n' bs sub' => (o == o') && (n == n') && tmsSame as bs && fmsSame sub sub'
def fmsSame : List Fm → List Fm → Bool
  | [], [] => true
  | t :: ts, u :: us => t.same u && fmsSame ts us
  | [], _ :: _ => false
  | _ :: _, [] => false
end
mutual
def Pf.same : Pf → Pf → Bool
  | .mk r f l sub ms, .mk r' f' l' sub' ms' => (r == r') && f.same f' && (l == l') && pfsSame sub sub' && (ms == ms')
def pfsSame : List Pf → List Pf → Bool
  | [], [] => true
  | t :: ts, u :: us => t.same u && pfsSame ts us
  | [], _ :: _ => false
  | _ :: _, [] => false
end
mutual
theorem Tm.same_iff : ∀ t u : Tm, t.same u = true ↔ t = u
  | .mk v n as, .mk v' n' bs => by simp [Tm.same, tmsSame_iff as bs, and_assoc]
theorem tmsSame_iff : ∀ ts us : List Tm, tmsSame ts us = true ↔ ts = us
  | [], [] => by simp [tmsSame]
  | t :: ts, u :: us => by simp [tmsSame, Tm.same_iff t u, tmsSame_iff ts us]
  | [], _ :: _ => by simp [tmsSame]
  | _ :: _, [] => by simp [tmsSame]
end
mutual
theorem Fm.same_iff : ∀ t u : Fm, t.same u = true ↔ t = u
  | .mk o n as sub, .mk o' n' bs sub' => by simp [Fm.same, tmsSame_iff as bs, fmsSame_iff sub sub', and_assoc]
theorem fmsSame_iff : ∀ ts us : List Fm, fmsSame ts us = true ↔ ts = us
  | [], [] => by simp [fmsSame]
  | t :: ts, u :: us => by simp [fmsSame, Fm.same_iff t u, fmsSame_iff ts us]
  | [], _ :: _ => by simp [fmsSame]
  | _ :: _, [] => by simp [fmsSame]
end
mutual
theorem Pf.same_iff : ∀ t u : Pf, t.same u = true ↔ t = u
  | .mk r f l sub ms, .mk r' f' l' sub' ms' => by simp [Pf.same, Fm.same_iff f f', pfsSame_iff sub sub', and_assoc]
theorem pfsSame_iff : ∀ ts us : List Pf, pfsSame ts us = true ↔ ts = us
  | [], [] => by simp [pfsSame]
  | t :: ts, u :: us => by simp [pfsSame, Pf.same_iff t u, pfsSame_iff ts us]
  | [], _ :: _ => by simp [pfsSame]
  | _ :: _, [] => by simp [pfsSame]
end
theorem tmsSame_len {ts us : List Tm} (h : ts.length ≠ us.length) : tmsSame ts us = false := by
  rw [Bool.eq_false_iff]; intro e; rw [tmsSame_iff] at e; exact h (by rw [e])
theorem fmsSame_len {ts us : List Fm} (h : ts.length ≠ us.length) : fmsSame ts us = false := by
  rw [Bool.eq_false_iff]; intro e; rw [fmsSame_iff] at e; exact h (by rw [e])
theorem pfsSame_len {ts us : List Pf} (h : ts.length ≠ us.length) : pfsSame ts us = false := by
  rw [Bool.eq_false_iff]; intro e; rw [pfsSame_iff] at e; exact h (by rw [e])
end Ly
