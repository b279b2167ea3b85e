/- Plain law: what is read has the text that was read; so for claims. Nothing of the program is walked. -/
import Derived.Test.YtcandidgaegghaaGreatDoorRdGotZ
import Derived.Test.YtcandidgaegghaaGreatDoorPlJ
namespace Go.Proofs.YtcandidgaegghaaGreatDoor
open Go Go.RowKit Ly
set_option linter.unusedSimpArgs false
set_option linter.unusedVariables false
mutual
theorem pTerm_inv : ∀ (n : Nat) (ws : List Bs) (t : Tm) (r : List Bs), pTerm n ws = .good t r → ws = t.words ++ r
  | 0, ws, t, r, h => by simp [pTerm] at h
  | n + 1, [], t, r, h => by simp [pTerm] at h
  | n + 1, w :: ws, t, r, h => by
    simp only [pTerm] at h
    split at h
    · simp at h; obtain ⟨rfl, rfl⟩ := h; simp [Tm.words_eq, tmsWords, closeIf]
    · split at h
      · split at h
        · cases h
        · rename_i l0 r' e
          have h1 := pTerms_inv n ws l0 r' e
          simp at h; obtain ⟨rfl, rfl⟩ := h
          rw [Tm.words_eq, h1]; simp
      · cases h
theorem pTerms_inv : ∀ (n : Nat) (ws : List Bs) (t : List Tm) (r : List Bs), pTerms n ws = .good t r → ws = (tmsWords true t ++ closeIf t) ++ r
  | 0, ws, t, r, h => by simp [pTerms] at h
  | n + 1, [], t, r, h => by simp [pTerms] at h; obtain ⟨rfl, rfl⟩ := h; simp [tmsWords, closeIf]
  | n + 1, w :: ws, t, r, h => by
    simp only [pTerms] at h
    split at h
    · rename_i hw
      obtain ⟨x, l, rfl, h1⟩ := pArgs_inv n ws t r h
      rw [h1, hw]; simp [tmsWords, closeIf]
    · simp at h; obtain ⟨rfl, rfl⟩ := h; simp [tmsWords, closeIf]
theorem pArgs_inv : ∀ (n : Nat) (ws : List Bs) (t : List Tm) (r : List Bs), pArgs n ws = .good t r → ∃ x l, t = x :: l ∧ ws = x.words ++ (tmsWords false l ++ wClose :: r)
  | 0, ws, t, r, h => by simp [pArgs] at h
  | n + 1, ws, t, r, h => by
    simp only [pArgs] at h
    split at h
    · cases h
    · cases h
    · rename_i t' x r' e
      have h1 := pTerm_inv n ws t' _ e
      split at h
      · rename_i hx
        split at h
        · cases h
        · rename_i ts s e2
          obtain ⟨y, l, rfl, h2⟩ := pArgs_inv n r' ts s e2
          simp at h; obtain ⟨rfl, rfl⟩ := h
          refine ⟨t', y :: l, rfl, ?_⟩
          rw [h1, hx, h2]; simp [tmsWords]
      · split at h
        · rename_i hx
          simp at h; obtain ⟨rfl, rfl⟩ := h
          refine ⟨t', [], rfl, ?_⟩
          rw [h1, hx]; simp [tmsWords]
        · cases h
end
theorem oneOp_word {w : Bs} (h : oneOp w ≠ 0) : oneOp w ≠ 1 ∧ oneOp w ≠ 2 ∧ signToks (oneOp w) [] = [w] := by
  unfold oneOp at h ⊢
  repeat' split
  all_goals first | (subst_vars; exact ⟨by decide, by decide, by decide⟩) | (exfalso; simp_all)
theorem twoOp_word {w : Bs} (h : twoOp w ≠ 0) : twoOp w ≠ 1 ∧ twoOp w ≠ 2 ∧ signToks (twoOp w) [] = [w] := by
  unfold twoOp at h ⊢
  repeat' split
  all_goals first | (subst_vars; exact ⟨by decide, by decide, by decide⟩) | (exfalso; simp_all)
theorem pForm_inv : ∀ (n : Nat) (ws : List Bs) (t : Fm) (r : List Bs), pForm n ws = .good t r → ws = t.toks ++ r
  | 0, ws, t, r, h => by simp [pForm] at h
  | n + 1, [], t, r, h => by simp [pForm] at h
  | n + 1, w :: ws, t, r, h => by
    simp only [pForm] at h
    split at h
    · rename_i hw
      simp at h; obtain ⟨rfl, rfl⟩ := h; simp [Fm.toks, hw]
    split at h
    · rename_i hw
      split at h
      · cases h
      · rename_i f r' e
        have h1 := pForm_inv n ws f r' e
        obtain ⟨o1, o2, o3⟩ := oneOp_word hw
        simp at h; obtain ⟨rfl, rfl⟩ := h
        rw [Fm.toks, if_neg o1, if_neg o2, o3, h1]; simp [fmsToks]
    split at h
    · rename_i hw
      split at h
      · cases h
      · cases h
      · rename_i f x r' e
        have h1 := pForm_inv n ws f _ e
        obtain ⟨o1, o2, o3⟩ := twoOp_word hw
        split at h
        · rename_i hx
          split at h
          · cases h
          · rename_i g s e2
            have h2 := pForm_inv n r' g s e2
            simp at h; obtain ⟨rfl, rfl⟩ := h
            rw [Fm.toks, if_neg o1, if_neg o2, o3, h1, h2, hx]; simp [fmsToks]
        · cases h
    split at h
    · rename_i hw
      split at h
      · cases h
      · rename_i q ws'
        split at h
        · rename_i hq
          split at h
          · cases h
          · rename_i v r'
            split at h
            · split at h
              · cases h
              · rename_i f s e
                have h1 := pForm_inv n r' f s e
                simp at h; obtain ⟨rfl, rfl⟩ := h
                by_cases hs : q = wSome
                · rw [if_pos hs, Fm.toks, if_neg (by decide), if_neg (by decide), h1, hw, hs]; simp [fmsToks, signToks]
                · have ha : q = wAll := hq.resolve_right hs
                  rw [if_neg hs, Fm.toks, if_neg (by decide), if_neg (by decide), h1, hw, ha]; simp [fmsToks, signToks]
            · cases h
        · cases h
    split at h
    · split at h
      · cases h
      · rename_i l0 r' e
        have h1 := pTerms_inv n ws l0 r' e
        simp at h; obtain ⟨rfl, rfl⟩ := h
        rw [Fm.toks, if_pos rfl, termWords_eq, h1]; simp
    · cases h
theorem join_split_sp (s : Bs) : joinSp (Lib.split s [32]) = s := by
  have h := (sp_fold s [[]] (by simp) (by intro x hx; simp at hx; subst hx; simp)).2.2
  rw [sp_split] at h
  simpa [joinSp] using h
theorem read_text {s : Bs} {f : Fm} (h : readPR s = .good f []) : f.text = s := by
  have h1 := pForm_inv _ _ _ _ (show pForm (3 * (wordsOf s).length + 1) (wordsOf s) = .good f [] from h)
  rw [List.append_nil] at h1
  rw [Fm.text_eq, ← h1]
  unfold wordsOf at h1 ⊢
  split at h1
  · exact absurd h1.symm (Fm.toks_ne f)
  · rename_i hs
    rw [if_neg hs]; exact join_split_sp s
/-- A text that is read is that of what is read, which is right. -/
theorem rGot_ok {s : Bs} (h : (rGot s).2.2 = 0) : (rGot s).1.right = true ∧ (rGot s).1.text = s ∧ s.length ≤ 16384 := by
  unfold rGot at h ⊢
  split at h
  · cases h
  rename_i hl
  rw [if_neg hl]
  split at h
  · cases h
  · rename_i f e
    split at h
    · rename_i hr
      rw [if_pos hr]
      exact ⟨hr, read_text e, by omega⟩
    · cases h
  · cases h
theorem joinBy_cons (sep x : Bs) {l : List Bs} (h : l ≠ []) : joinBy sep (x :: l) = x ++ sep ++ joinBy sep l := by
  cases l with
  | nil => exact absurd rfl h
  | cons y r => rfl
theorem splitK_ne (sep : Bs) : ∀ (k : Nat) (s : Bs), Lib.splitK sep 0 k s ≠ []
  | 0, s => by simp [Lib.splitK]
  | k + 1, s => by unfold Lib.splitK; split <;> simp
theorem at_index {s sep : Bs} {i : Nat} (h : Lib.index s sep = i) : s.take i ++ sep ++ s.drop (i + sep.length) = s := by
  rcases Lib.index_spec s sep with ⟨h1, _⟩ | ⟨j, h1, h2, h3, _⟩
  · rw [h] at h1; omega
  · have hj : i = j := by omega
    subst hj
    unfold Lib.occAt at h3
    rw [List.isPrefixOf_iff_prefix] at h3
    obtain ⟨t, ht⟩ := h3
    have e : s = s.take i ++ (sep ++ t) := by rw [ht, List.take_append_drop]
    have e2 : s.drop (i + sep.length) = t := by rw [← List.drop_drop, ← ht]; simp
    rw [e2, List.append_assoc]; exact e.symm
theorem join_splitK (sep : Bs) : ∀ (k : Nat) (s : Bs), joinBy sep (Lib.splitK sep 0 k s) = s
  | 0, s => rfl
  | k + 1, s => by
    unfold Lib.splitK
    split
    · rfl
    · rename_i hi
      have hn : Lib.index s sep ≠ -1 := by simpa using hi
      have h0 : 0 ≤ Lib.index s sep := by have := Lib.index_ge s sep; omega
      obtain ⟨i, e⟩ : ∃ i : Nat, Lib.index s sep = i := ⟨(Lib.index s sep).toNat, by omega⟩
      rw [joinBy_cons _ _ (splitK_ne _ _ _), join_splitK sep k, e]
      simp only [Int.toNat_natCast, Nat.add_zero]
      exact at_index e
theorem join_split_by (s sep : Bs) : joinBy sep (Lib.split s sep) = s := join_splitK sep _ s
/- Claims. -/
def wGiven0 : Bs := [103, 105, 118, 101, 110]
/-- What ReadClaim makes of the next part of a text. -/
def cStep (G S : List Fm) (x : Bs) : Option (List Fm × List Fm) :=
  if (Lib.cut x [32]).2.2 = true ∧ (rGot (Lib.cut x [32]).2.1).2.2 = 0 then
    if (Lib.cut x [32]).1 = wGiven0 ∧ S = [] then some (G ++ [(rGot (Lib.cut x [32]).2.1).1], S)
    else if (Lib.cut x [32]).1 = [115, 104, 111, 119] then some (G, S ++ [(rGot (Lib.cut x [32]).2.1).1])
    else none
  else none
def cFold : List Fm → List Fm → List Bs → Option (List Fm × List Fm)
  | G, S, [] => some (G, S)
  | G, S, x :: l => match cStep G S x with
    | none => none
    | some (G', S') => cFold G' S' l
theorem cut_back {x : Bs} (h : (Lib.cut x [32]).2.2 = true) : x = (Lib.cut x [32]).1 ++ 32 :: (Lib.cut x [32]).2.1 := by
  unfold Lib.cut at h ⊢
  split at h
  · rename_i h0
    obtain ⟨i, e⟩ : ∃ i : Nat, Lib.index x [32] = i := ⟨(Lib.index x [32]).toNat, by omega⟩
    rw [if_pos h0]
    simp only [e, Int.toNat_natCast]
    have := at_index e
    simpa using this.symm
  · cases h
theorem cStep_ok {G S G' S' : List Fm} {x : Bs} (h : cStep G S x = some (G', S')) :
    claimParts G' S' = claimParts G S ++ [x] ∧ ((∀ g ∈ G ++ S, g.right = true) → ∀ g ∈ G' ++ S', g.right = true) := by
  unfold cStep at h
  split at h
  · rename_i h0
    obtain ⟨h1, h2⟩ := h0
    have hb := cut_back h1
    obtain ⟨r1, r2, -⟩ := rGot_ok h2
    clear h1 h2
    generalize Lib.cut x [32] = p at *
    obtain ⟨wd, rest, ok⟩ := p
    simp only at hb r1 r2 h
    split at h
    · rename_i h3
      obtain ⟨h3, rfl⟩ := h3
      simp only [Option.some.injEq, Prod.mk.injEq] at h
      obtain ⟨rfl, rfl⟩ := h
      refine ⟨?_, fun hr g hg => ?_⟩
      · rw [h3] at hb
        simp only [claimParts, List.map_append, List.map_cons, List.map_nil, List.append_nil, r2]
        rw [hb]; simp [wGiven, wGiven0]
      · simp only [List.append_nil, List.mem_append, List.mem_singleton] at hg hr
        rcases hg with hg | rfl
        · exact hr g hg
        · exact r1
    · split at h
      · rename_i h3
        simp only [Option.some.injEq, Prod.mk.injEq] at h
        obtain ⟨rfl, rfl⟩ := h
        refine ⟨?_, fun hr g hg => ?_⟩
        · rw [h3] at hb
          simp only [claimParts, List.map_append, List.map_cons, List.map_nil, r2, List.append_assoc]
          congr 2
          rw [hb]; simp [wShow]
        · simp only [List.mem_append, List.mem_singleton] at hg hr
          rcases hg with hg | hg | rfl
          · exact hr g (.inl hg)
          · exact hr g (.inr hg)
          · exact r1
      · cases h
  · cases h
theorem cFold_ok : ∀ (l : List Bs) (G S G' S' : List Fm), cFold G S l = some (G', S') → claimParts G' S' = claimParts G S ++ l ∧ ((∀ g ∈ G ++ S, g.right = true) → ∀ g ∈ G' ++ S', g.right = true)
  | [], G, S, G', S', h => by simp [cFold] at h; obtain ⟨rfl, rfl⟩ := h; exact ⟨by simp, fun h => h⟩
  | x :: l, G, S, G', S', h => by
    unfold cFold at h
    split at h
    · cases h
    · rename_i G1 S1 e
      obtain ⟨a1, a2⟩ := cStep_ok e
      obtain ⟨b1, b2⟩ := cFold_ok l G1 S1 G' S' h
      exact ⟨by rw [b1, a1]; simp, fun hr => b2 (a2 hr)⟩
/-- What ReadClaim makes of a text. -/
def cGot (s : Bs) : Option (List Fm × List Fm) := if s = [] then some ([], []) else cFold [] [] (Lib.split s cs)
theorem cGot_ok {s : Bs} {G S : List Fm} (h : cGot s = some (G, S)) : claimText G S = s ∧ ∀ g ∈ G ++ S, g.right = true := by
  unfold cGot at h
  split at h
  · rename_i hs
    simp only [Option.some.injEq, Prod.mk.injEq] at h
    obtain ⟨rfl, rfl⟩ := h
    exact ⟨by rw [hs]; rfl, by simp⟩
  · obtain ⟨h1, h2⟩ := cFold_ok _ _ _ _ _ h
    refine ⟨?_, h2 (by simp)⟩
    unfold claimText
    rw [h1]
    show joinBy cs ([] ++ _) = s
    exact join_split_by s cs
end Go.Proofs.YtcandidgaegghaaGreatDoor
