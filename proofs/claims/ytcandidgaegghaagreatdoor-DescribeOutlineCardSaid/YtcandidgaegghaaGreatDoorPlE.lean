/- Plain law: one round of the scan of an outline's lines. Nothing of the program is imported. -/
import Derived.Test.YtcandidgaegghaaGreatDoorPlD
namespace Ly
open Go.Lib (itoa index cut)
/-- One line is scanned: what was asked of it, and where the scan goes on. -/
theorem scan1_inv {W : List Bs} {first : Bool} {at_ : Nat} {lv : Int} {ln : Nat × Bs} {st : Nat × Int} (h : scan1 W first (at_, lv) ln = some st) :
    (ln.1 : Int) ≤ lv + 1 ∧ decide (ln.1 = 0) = first ∧ ∃ a1 : Nat, a1 = (if first = false ∧ at_ < W.length ∧ (ln.2 ++ [32]).isPrefixOf (joinSp (W.drop at_) ++ [32]) = false then at_ + 1 else at_) ∧
      (ln.2 ++ [32]).isPrefixOf (joinSp (W.drop (min a1 W.length)) ++ [32]) = true ∧ st = (a1 + (ln.2.count 32 + 1), (ln.1 : Int)) := by
  unfold scan1 at h
  split at h
  · cases h
  · rename_i hc
    simp only at h hc
    generalize ha : (if first = false ∧ at_ < W.length ∧ (ln.2 ++ [32]).isPrefixOf (joinSp (W.drop at_) ++ [32]) = false then at_ + 1 else at_) = a1 at h
    split at h
    · rename_i hp
      refine ⟨by omega, ?_, a1, rfl, hp, (Option.some.inj h).symm⟩
      cases hd : decide (ln.1 = 0) <;> cases first <;> simp_all
    · cases h
theorem scan1_mono {W : List Bs} {first : Bool} {at_ : Nat} {lv : Int} {ln : Nat × Bs} {st : Nat × Int} (h : scan1 W first (at_, lv) ln = some st) : at_ < st.1 := by
  obtain ⟨_, _, a1, e1, _, e2⟩ := scan1_inv h
  subst e2
  simp only
  split at e1 <;> omega
theorem scan_mono {W : List Bs} : ∀ (L : List (Nat × Bs)) (st st' : Nat × Int), scan W L st = some st' → st.1 ≤ st'.1
  | [], st, st', h => by simp [scan] at h; subst h; omega
  | ln :: L, (a, lv), st', h => by
    simp only [scan] at h
    split at h
    · cases h
    · rename_i st1 h1
      have := scan1_mono h1
      have := scan_mono L st1 st' h
      simp only
      omega
/-- Where the scan stands behind k lines. -/
def ORel (W : List Bs) (L : List (Nat × Bs)) (k at_ : Nat) (lv : Int) : Prop :=
  (k = 0 ∧ at_ = 0 ∧ lv = -1 ∧ ∃ ln r st l', L = ln :: r ∧ scan1 W true (0, -1) ln = some st ∧ scan W r st = some (W.length, l')) ∨ (1 ≤ k ∧ 0 ≤ lv ∧ ∃ l', scan W (L.drop k) (at_, lv) = some (W.length, l'))
theorem orel_start {f : Fm} (h : f.ok = true) : ORel f.toks (f.outl 0) 0 0 (-1) := by
  obtain ⟨ln, r, e, st, l', h1, h2⟩ := outline_law f h
  exact .inl ⟨rfl, rfl, rfl, ln, r, st, l', e, h1, h2⟩
theorem orel_le {W : List Bs} {L : List (Nat × Bs)} {k at_ : Nat} {lv : Int} (h : ORel W L k at_ lv) : at_ ≤ W.length := by
  rcases h with ⟨_, rfl, _⟩ | ⟨_, _, l', h⟩
  · omega
  · exact scan_mono _ _ _ h
theorem orel_next {W : List Bs} {L : List (Nat × Bs)} {k at_ : Nat} {lv : Int} (h : ORel W L k at_ lv) {n : Nat} {s : Bs} (hk : L[k]? = some (n, s)) :
    ∃ at', scan1 W (decide (k = 0)) (at_, lv) (n, s) = some (at', (n : Int)) ∧ ORel W L (k + 1) at' (n : Int) := by
  rcases h with ⟨rfl, rfl, rfl, ln, r, st, l', rfl, h1, h2⟩ | ⟨hk1, _, l', h⟩
  · simp at hk; subst hk
    obtain ⟨_, _, a1, _, _, e⟩ := scan1_inv h1
    subst e
    exact ⟨_, h1, .inr ⟨by omega, by omega, l', h2⟩⟩
  · have hd : L.drop k = (n, s) :: L.drop (k + 1) := by
      obtain ⟨hlt, e⟩ := List.getElem?_eq_some_iff.1 hk
      rw [← e]; exact List.drop_eq_getElem_cons hlt
    rw [hd] at h
    simp only [scan] at h
    split at h
    · cases h
    · rename_i st1 h1
      obtain ⟨_, _, a1, _, _, e⟩ := scan1_inv h1
      subst e
      refine ⟨_, ?_, .inr ⟨by omega, by omega, l', h⟩⟩
      rw [show decide (k = 0) = false from decide_eq_false (by omega)]
      exact h1
theorem orel_end {W : List Bs} {L : List (Nat × Bs)} {k at_ : Nat} {lv : Int} (h : ORel W L k at_ lv) (hk : k = L.length) (h1 : 1 ≤ L.length) : at_ = W.length := by
  rcases h with ⟨rfl, _⟩ | ⟨_, _, l', h⟩
  · omega
  · rw [hk, List.drop_length] at h
    simp [scan] at h
    exact h.1
/-- A line's head, and what stands behind it. -/
theorem cut_line (n : Nat) (p s : Bs) (hp : (58 : UInt8) ∉ p) : cut (p ++ itoa (n : Int) ++ [58, 32] ++ s) [58, 32] = (p ++ itoa (n : Int), s, true) := by
  have hn : (58 : UInt8) ∉ p ++ itoa (n : Int) := by
    rw [List.mem_append]
    rintro (h | h)
    · exact hp h
    · exact itoa_not (by omega) (by decide) h
  exact cut_mid (index_sep (t := [32]) _ _ hn)
end Ly
