/- Plain law: one round of the scan of an outline's lines. Nothing of the program is imported. Plain law: a line of a proof, read; the steps of a proof, one behind the other, build it up again. Nothing of the program is imported. -/
import Derived.Test.YtcandidgaegghaaGreatDoorPlDZ
section
namespace Ly
open Go.Lib (itoa index cut)
/-- Where the scan stands behind k lines. -/
def ORel (W : List Bs) (L : List (Nat × Bs)) (k at_ : Nat) (lv : Int) : Prop :=
  (k = 0 ∧ at_ = 0 ∧ lv = -1 ∧ ∃ ln r st l', L = ln :: r ∧ scan1 W true (0, -1) ln = some st ∧ scan W r st = some (W.length, l')) ∨ (1 ≤ k ∧ 0 ≤ lv ∧ ∃ l', scan W (L.drop k) (at_, lv) = some (W.length, l'))
end Ly
end
section
namespace Ly
open Go.Lib
/- The parts of a line behind its number. -/
theorem cut_mid' {s a b sep : Bs} (e : s = a ++ sep ++ b) (h : index (a ++ sep ++ b) sep = a.length) : cut s sep = (a, b, true) := by rw [e]; exact cut_mid h
theorem Fm.head_not_assume {f : Fm} (h : f.ok = true) : ∃ x r, f.headToks = x :: r ∧ x ≠ [97, 115, 115, 117, 109, 101] := by
  obtain ⟨op, n, az, sub⟩ := f
  have ho := Fm.ok_op h
  simp only [Fm.ok, Bool.and_eq_true, decide_eq_true_eq] at h
  by_cases h1 : op = 1
  · subst h1
    refine ⟨n, tmsWords true az ++ (if az.isEmpty then [] else [wClose]), rfl, ?_⟩
    have hp : predName n = true := by simp_all
    exact predName_ne hp fun c r e => by cases e; decide
  · rcases ho with rfl | rfl | rfl | rfl | rfl | rfl | rfl | rfl | rfl | rfl | rfl | rfl | rfl | rfl
    · exact absurd rfl h1
    all_goals exact ⟨_, _, rfl, by simp [signFirst, wNot, wNec, wPos, wNext, wAlways, wBoth, wEither, wIf, wAs, wWhile, wFor, wFalse]⟩
theorem Fm.no_assume {f : Fm} (h : f.ok = true) : hasPrefix f.text wAssume = false := by
  cases e : hasPrefix f.text wAssume with
  | false => rfl
  | true =>
    unfold hasPrefix at e
    rw [List.isPrefixOf_iff_prefix] at e
    obtain ⟨t, e⟩ := e
    obtain ⟨x, r, hx, hne⟩ := Fm.head_not_assume h
    have h1 : f.text ++ [32] = joinSp (x :: (r ++ fmsToks f.op true f.sub)) ++ [32] := by rw [Fm.text_eq, Fm.toks_head h, hx]; rfl
    obtain ⟨t', h2⟩ := sp_head (x := x) (r := r ++ fmsToks f.op true f.sub)
    rw [h2, ← e] at h1
    have hn : (32 : UInt8) ∉ x := (noSp_cons.1 (by have := Fm.noSp_head h; rwa [hx] at this)).1
    have h3 : [97, 115, 115, 117, 109, 101] ++ 32 :: (t ++ [32]) = x ++ 32 :: t' := by rw [← h1]; simp [wAssume]
    exact absurd (split_at (by decide) hn h3).1.symm hne
theorem body_assume {f : Fm} {l : Int} (hl : 0 ≤ l) (ps : List Bs) : cut (bodyText [] f l ps) cs = (wAssume ++ itoa l, f.text, true) := by
  refine cut_mid' (b := f.text) (by simp [bodyText]) (index_sep (c := 44) (t := [32]) _ _ fun hm => ?_)
  rcases List.mem_append.1 hm with h | h
  · revert h; decide
  · exact itoa_not hl (by decide) h
/-- What stands behind the formula. -/
def bodyRest (r : Bs) (ps : List Bs) : Bs := if r = hole then wStill.drop 2 else wBy.drop 2 ++ (r ++ (if ps.isEmpty then [] else wFrom ++ joinBy cs ps))
theorem body_else {f : Fm} (h : f.ok = true) {r : Bs} (hr : r ≠ []) (l : Int) (ps : List Bs) : cut (bodyText r f l ps) cs = (f.text, bodyRest r ps, true) := by
  refine cut_mid' ?_ (index_sep (c := 44) (t := [32]) _ _ (Fm.text_not h (by decide) (by decide)))
  unfold bodyText bodyRest
  rw [if_neg hr]
  by_cases h1 : r = hole
  · rw [if_pos h1, if_pos h1]; simp [wStill, cs]
  · rw [if_neg h1, if_neg h1]; simp [wBy, cs]
theorem rest_rule {r : Bs} (h : r ≠ hole) (ps : List Bs) : bodyRest r ps = [98, 121, 32] ++ (r ++ (if ps.isEmpty then [] else wFrom ++ joinBy cs ps)) := by
  unfold bodyRest; rw [if_neg h]; rfl
theorem cut_from {r : Bs} (h : ruleName r = true) (ps : List Bs) : cut (r ++ (if ps.isEmpty then [] else wFrom ++ joinBy cs ps)) wFrom = (r, joinBy cs ps, !ps.isEmpty) := by
  have hn : (32 : UInt8) ∉ r := al_not (ruleName_al h) (by decide)
  cases ps with
  | nil => simp only [List.isEmpty_nil, if_pos, List.append_nil, Bool.not_true, joinBy]; exact cut_none (index_none (c := 32) (t := [102, 114, 111, 109, 32]) _ hn)
  | cons p ps => exact cut_mid' (by simp) (index_sep (c := 32) (t := [102, 114, 111, 109, 32]) _ _ hn)
theorem prem_cut (n : Nat) (m : List Int) : cut (premText n m) wEnding = (itoa (n : Int), (if m.isEmpty then [] else numbers m), !m.isEmpty) := by
  have hn : (32 : UInt8) ∉ itoa (n : Int) := itoa_not (by omega) (by decide)
  cases m with
  | nil => simp only [premText, List.isEmpty_nil, if_pos, List.append_nil, Bool.not_true]; exact cut_none (index_none (c := 32) (t := [101, 110, 100, 105, 110, 103, 32]) _ hn)
  | cons x m => exact cut_mid' (by simp [premText]) (index_sep (c := 32) (t := [101, 110, 100, 105, 110, 103, 32]) _ _ hn)
theorem numbers_split {m : List Int} (h : m ≠ []) (h0 : ∀ x ∈ m, 0 ≤ x) : split (numbers m) wAnds = m.map itoa := by
  unfold numbers
  rw [if_neg (by simpa using h)]
  refine split_join (c := 32) (t := [97, 110, 100, 32]) _ (by simpa using h) fun x hx => ?_
  obtain ⟨y, hy, rfl⟩ := List.mem_map.1 hx
  exact itoa_not (h0 y hy) (by decide)
theorem prems_split {ps : List Bs} (h : ps ≠ []) (h0 : ∀ x ∈ ps, (44 : UInt8) ∉ x) : split (joinBy cs ps) cs = ps := split_join (c := 44) (t := [32]) _ h h0
theorem premTexts_get : ∀ (ps : List Pf) (k : Nat) (ms : List (List Int)) (j : Nat) (x : Bs) (m : List Int), (premTexts k ps ms)[j]? = some x → ms[j]? = some m → ∃ n, x = premText n m
  | [], k, ms, j, x, m, h, _ => by simp [premTexts] at h
  | p :: ps, k, ms, 0, x, m, h, hm => by
    simp only [premTexts, List.getElem?_cons_zero, Option.some.injEq] at h
    cases ms with
    | nil => simp at hm
    | cons m' ms => simp only [List.getElem?_cons_zero, Option.some.injEq] at hm; subst hm; exact ⟨_, h.symm⟩
  | p :: ps, k, ms, j + 1, x, m, h, hm => by
    simp only [premTexts, List.getElem?_cons_succ] at h
    refine premTexts_get ps _ ms.tail j x m h ?_
    cases ms with
    | nil => simp at hm
    | cons m' ms => simpa using hm
/- The steps of a proof, with the number of lines ahead of each one's premises. -/
mutual
def Pf.post : Nat → Pf → List (Nat × Pf)
  | k, .mk r f l s m => pfsPost k s ++ [(k, .mk r f l s m)]
def pfsPost : Nat → List Pf → List (Nat × Pf)
  | _, [] => []
  | k, p :: ps => p.post k ++ pfsPost (k + p.steps) ps
end
def lineOf (x : Nat × Pf) : Bs := itoa (x.1 + pfsSteps x.2.sub + 1 : Nat) ++ colon ++ bodyText x.2.rule x.2.form x.2.label (premTexts x.1 x.2.sub x.2.marks)
mutual
theorem Pf.lines_post : ∀ (p : Pf) (k : Nat), p.lines k = (p.post k).map lineOf
  | .mk r f l s m, k => by simp only [Pf.lines, Pf.post, List.map_append, pfsLines_post s k]; rfl
theorem pfsLines_post : ∀ (ps : List Pf) (k : Nat), pfsLines k ps = (pfsPost k ps).map lineOf
  | [], k => rfl
  | p :: ps, k => by simp only [pfsLines, pfsPost, List.map_append, Pf.lines_post p k, pfsLines_post ps]
end
mutual
theorem Pf.post_length : ∀ (p : Pf) (k : Nat), (p.post k).length = p.steps
  | .mk r f l s m, k => by simp [Pf.post, Pf.steps, pfsPost_length s k]
theorem pfsPost_length : ∀ (ps : List Pf) (k : Nat), (pfsPost k ps).length = pfsSteps ps
  | [], k => rfl
  | p :: ps, k => by simp [pfsPost, pfsSteps, Pf.post_length p k, pfsPost_length ps]
end
mutual
theorem Pf.post_num : ∀ (p : Pf) (k i j : Nat) (q : Pf), (p.post k)[i]? = some (j, q) → j + pfsSteps q.sub = k + i
  | .mk r f l s m, k, i, j, q, h => by
    simp only [Pf.post, List.getElem?_append, pfsPost_length] at h
    split at h
    · exact pfsPost_num s k i j q h
    · have : i - pfsSteps s = 0 := by
        have := (List.getElem?_eq_some_iff.1 h).1
        simp at this; omega
      rw [this] at h
      simp only [List.getElem?_cons_zero, Option.some.injEq, Prod.mk.injEq] at h
      obtain ⟨rfl, rfl⟩ := h
      simp only [Pf.sub]; omega
theorem pfsPost_num : ∀ (ps : List Pf) (k i j : Nat) (q : Pf), (pfsPost k ps)[i]? = some (j, q) → j + pfsSteps q.sub = k + i
  | [], k, i, j, q, h => by simp [pfsPost] at h
  | p :: ps, k, i, j, q, h => by
    simp only [pfsPost, List.getElem?_append, Pf.post_length] at h
    split at h
    · exact Pf.post_num p k i j q h
    · have := pfsPost_num ps (k + p.steps) _ j q h; omega
end
mutual
theorem Pf.post_ok : ∀ (p : Pf) (k : Nat), p.ok = true → ∀ x ∈ p.post k, x.2.ok = true
  | .mk r f l s m, k, h, x, hx => by
    simp only [Pf.post, List.mem_append, List.mem_singleton] at hx
    rcases hx with hx | rfl
    · exact pfsPost_ok s k (by simp only [Pf.ok, Bool.and_eq_true] at h; exact h.2) x hx
    · exact h
theorem pfsPost_ok : ∀ (ps : List Pf) (k : Nat), pfsOk ps = true → ∀ x ∈ pfsPost k ps, x.2.ok = true
  | [], k, h, x, hx => by simp [pfsPost] at hx
  | p :: ps, k, h, x, hx => by
    simp only [pfsOk, Bool.and_eq_true] at h
    simp only [pfsPost, List.mem_append] at hx
    rcases hx with hx | hx
    · exact Pf.post_ok p k h.1 x hx
    · exact pfsPost_ok ps _ h.2 x hx
end
/-- From a row of proofs, step by step, to another one: each step takes its premises from the end. -/
inductive Runs : List Pf → List (Nat × Pf) → List Pf → Prop where
  | nil (S : List Pf) : Runs S [] S
  | cons (T : List Pf) (k : Nat) (q : Pf) (l : List (Nat × Pf)) (S : List Pf) (h : Runs (T ++ [q]) l S) : Runs (T ++ q.sub) ((k, q) :: l) S
theorem Runs.append {A B C : List Pf} {l m : List (Nat × Pf)} (h : Runs A l B) (h' : Runs B m C) : Runs A (l ++ m) C := by
  induction h with
  | nil S => exact h'
  | cons T k q l S _ ih => exact .cons T k q _ _ (ih h')
mutual
theorem Pf.runs : ∀ (p : Pf) (k : Nat) (S : List Pf), Runs S (p.post k) (S ++ [p])
  | .mk r f l s m, k, S => (pfs_runs s k S).append (.cons S k (.mk r f l s m) [] _ (.nil _))
theorem pfs_runs : ∀ (ps : List Pf) (k : Nat) (S : List Pf), Runs S (pfsPost k ps) (S ++ ps)
  | [], k, S => by rw [List.append_nil]; exact .nil S
  | p :: ps, k, S => by
    have h := (Pf.runs p k S).append (pfs_runs ps (k + p.steps) (S ++ [p]))
    rw [List.append_assoc] at h
    exact h
end
theorem Runs.next {A C : List Pf} {l : List (Nat × Pf)} {i : Nat} (h : Runs A (l.drop i) C) {j : Nat} {q : Pf} (hi : l[i]? = some (j, q)) : ∃ T, A = T ++ q.sub ∧ Runs (T ++ [q]) (l.drop (i + 1)) C := by
  have e : l.drop i = (j, q) :: l.drop (i + 1) := by
    obtain ⟨hlt, e⟩ := List.getElem?_eq_some_iff.1 hi
    rw [← e]; exact List.drop_eq_getElem_cons hlt
  rw [e] at h
  cases h with
  | cons T _ _ _ _ h => exact ⟨T, rfl, h⟩
theorem Runs.done {A C : List Pf} {l : List (Nat × Pf)} {i : Nat} (h : Runs A (l.drop i) C) (hi : l.length ≤ i) : A = C := by
  rw [List.drop_of_length_le hi] at h
  cases h; rfl
end Ly
end
