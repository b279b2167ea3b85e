/- Plain law: which operator a formula's first word tells. Nothing of the program is imported. -/
import Derived.Test.YtcandidgaegghaaGreatDoorPlK
set_option linter.unusedSimpArgs false
namespace Ly
/-- The operator that a first word tells; 0 for others. -/
def opIdx (x : Bs) : Int := if x = wFalse then 2 else if oneOp x ≠ 0 then oneOp x else twoOp x
def opsL : List Bs := [[], [], wFalse, wNot, wBoth, wEither, wIf, wAs, [], [], wNec, wPos, wNext, wAlways, wWhile]
theorem opIdx_inv {x : Bs} {i : Nat} (h : opIdx x = i) (h2 : 2 ≤ i) : opsL[i]? = some x := by
  by_cases a0 : x = wFalse
  · subst a0
    have e : opIdx wFalse = (2 : Int) := by decide
    rw [e] at h
    have : i = 2 := by omega
    subst this; rfl
  by_cases a1 : x = wNot
  · subst a1
    have e : opIdx wNot = (3 : Int) := by decide
    rw [e] at h
    have : i = 3 := by omega
    subst this; rfl
  by_cases a2 : x = wBoth
  · subst a2
    have e : opIdx wBoth = (4 : Int) := by decide
    rw [e] at h
    have : i = 4 := by omega
    subst this; rfl
  by_cases a3 : x = wEither
  · subst a3
    have e : opIdx wEither = (5 : Int) := by decide
    rw [e] at h
    have : i = 5 := by omega
    subst this; rfl
  by_cases a4 : x = wIf
  · subst a4
    have e : opIdx wIf = (6 : Int) := by decide
    rw [e] at h
    have : i = 6 := by omega
    subst this; rfl
  by_cases a5 : x = wAs
  · subst a5
    have e : opIdx wAs = (7 : Int) := by decide
    rw [e] at h
    have : i = 7 := by omega
    subst this; rfl
  by_cases a6 : x = wNec
  · subst a6
    have e : opIdx wNec = (10 : Int) := by decide
    rw [e] at h
    have : i = 10 := by omega
    subst this; rfl
  by_cases a7 : x = wPos
  · subst a7
    have e : opIdx wPos = (11 : Int) := by decide
    rw [e] at h
    have : i = 11 := by omega
    subst this; rfl
  by_cases a8 : x = wNext
  · subst a8
    have e : opIdx wNext = (12 : Int) := by decide
    rw [e] at h
    have : i = 12 := by omega
    subst this; rfl
  by_cases a9 : x = wAlways
  · subst a9
    have e : opIdx wAlways = (13 : Int) := by decide
    rw [e] at h
    have : i = 13 := by omega
    subst this; rfl
  by_cases a10 : x = wWhile
  · subst a10
    have e : opIdx wWhile = (14 : Int) := by decide
    rw [e] at h
    have : i = 14 := by omega
    subst this; rfl
  exfalso
  have e : opIdx x = 0 := by
    have h1 : oneOp x = 0 := by simp [oneOp, a1, a6, a7, a8, a9]
    have h2 : twoOp x = 0 := by simp [twoOp, a2, a3, a4, a5, a10]
    simp [opIdx, a0, h1, h2]
  omega
theorem ops_eq {x V : Bs} {i : Nat} (hx : x ≠ []) (h2 : 2 ≤ i) (hi : opsL[i]? = some V) : (V == x) = decide (opIdx x = i) := by
  have h15 : i < 15 := (List.getElem?_eq_some_iff.1 hi).1
  rw [Bool.eq_iff_iff, beq_iff_eq, decide_eq_true_eq]
  constructor
  · rintro rfl
    rcases (show i = 2 ∨ i = 3 ∨ i = 4 ∨ i = 5 ∨ i = 6 ∨ i = 7 ∨ i = 8 ∨ i = 9 ∨ i = 10 ∨ i = 11 ∨ i = 12 ∨ i = 13 ∨ i = 14 by omega) with rfl | rfl | rfl | rfl | rfl | rfl | rfl | rfl | rfl | rfl | rfl | rfl | rfl
    all_goals
      simp only [opsL, List.getElem?_cons_succ, List.getElem?_cons_zero, Option.some.injEq] at hi
      subst hi
      first
        | exact absurd rfl hx
        | decide
  · intro h
    exact Option.some.inj (hi.symm.trans (opIdx_inv h h2))
end Ly
