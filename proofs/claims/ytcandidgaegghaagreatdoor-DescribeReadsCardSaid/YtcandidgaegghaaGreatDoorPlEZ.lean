/- How long the text of a formula can be that lyceumlaw30.Built makes. Nothing of the program's code is walked. Plain law: one round of the scan of an outline's lines. Nothing of the program is imported. -/
import Derived.Test.YtcandidgaegghaaGreatDoorFormCZ
import Derived.Test.YtcandidgaegghaaGreatDoorPlB
import Derived.Test.YtcandidgaegghaaGreatDoorSeqZ
section
namespace Go.Proofs.YtcandidgaegghaaGreatDoor
open Go Go.RowKit Ly
set_option linter.unusedSimpArgs false
set_option linter.unusedVariables false
def fw : List Fm → Nat
  | [] => 0
  | f :: r => wlen f.words + 13 + fw r
theorem fw_app : ∀ a b : List Fm, fw (a ++ b) = fw a + fw b
  | [], b => by simp [fw]
  | f :: a, b => by simp [fw, fw_app a b]; omega
theorem leafTm_wlen (k : Nat) : wlen (leafTm k).words = 2 := by
  unfold leafTm
  repeat' split
  all_goals rfl
theorem builtTm_wlen (b : Nat) : wlen (builtTm b).words ≤ 13 := by
  have h := leafTm_wlen (b % 5)
  unfold builtTm
  split
  · have e : ∀ (n : Bs), (Tm.mk false n [leafTm (b % 5)]).words = n :: wOf :: ((leafTm (b % 5)).words ++ [wClose]) := by intro n; simp [Tm.words, tmsWords]
    rw [e]
    simp only [wlen, wlen_app, h, show wOf.length = 2 from rfl, show wClose.length = 5 from rfl]
    split <;> simp [nmF, nmG]
  · omega
theorem atom0_wlen (n : Bs) (hn : n.length = 1) : wlen (Fm.mk 1 n [] []).words = 2 := by
  simp [Fm.words, termWords, tmsWords, wlen, hn]
theorem atom1_wlen (n : Bs) (hn : n.length = 1) (b : Nat) : wlen (Fm.mk 1 n [builtTm b] []).words ≤ 30 := by
  have := builtTm_wlen b
  have e : (Fm.mk 1 n [builtTm b] []).words = n :: wOf :: ((builtTm b).words ++ [wClose]) := by simp [Fm.words, termWords, tmsWords]
  rw [e]
  simp only [wlen, wlen_app, hn, show wOf.length = 2 from rfl, show wClose.length = 5 from rfl]
  omega
theorem atom2_wlen (n : Bs) (hn : n.length = 1) (b b' : Nat) : wlen (Fm.mk 1 n [builtTm b, builtTm b'] []).words ≤ 45 := by
  have h1 := builtTm_wlen b
  have h2 := builtTm_wlen b'
  have e : (Fm.mk 1 n [builtTm b, builtTm b'] []).words = n :: wOf :: ((builtTm b).words ++ (wAnd :: ((builtTm b').words ++ [wClose]))) := by simp [Fm.words, termWords, tmsWords]
  rw [e]
  simp only [wlen, wlen_app, hn, show wOf.length = 2 from rfl, show wAnd.length = 3 from rfl, show wClose.length = 5 from rfl]
  omega
theorem un_wlen (op : Int) (n : Bs) (hn : n.length ≤ 1) (f : Fm) (h1 : op ≠ 1) (h2 : op ≠ 2) : wlen (Fm.mk op n [] [f]).words ≤ wlen f.words + 14 := by
  have e : (Fm.mk op n [] [f]).words = signFirst op n :: f.words := by simp [Fm.words, fmsWords, h1, h2]
  have := (sign_len op n).1
  rw [e]
  simp only [wlen]
  omega
theorem bin_sign (op : Int) (h : op = 4 ∨ op = 5 ∨ op = 6 ∨ op = 14) : (signFirst op []).length + (signBetween op).length ≤ 10 := by
  rcases h with rfl | rfl | rfl | rfl <;> decide
theorem bin_wlen (op : Int) (f g : Fm) (h : op = 4 ∨ op = 5 ∨ op = 6 ∨ op = 14) : wlen (Fm.mk op [] [] [f, g]).words ≤ wlen f.words + wlen g.words + 13 := by
  have h1 : op ≠ 1 := by omega
  have h2 : op ≠ 2 := by omega
  have e : (Fm.mk op [] [] [f, g]).words = signFirst op [] :: (f.words ++ (signBetween op :: g.words)) := by simp [Fm.words, fmsWords, h1, h2]
  have := bin_sign op h
  rw [e]
  simp only [wlen, wlen_app]
  omega
theorem predPQR_len (k : Nat) : (predPQR k).length = 1 := by unfold predPQR; (repeat' split) <;> rfl
theorem varXYZ_len (k : Nat) : (varXYZ k).length = 1 := by unfold varXYZ; (repeat' split) <;> rfl
theorem bStep_fw (s : List Fm) (c : Nat) : fw (bStep s c) ≤ fw s + 60 := by
  unfold bStep
  split
  · rw [fw_app]; simp only [fw, atom0_wlen _ (predPQR_len _)]; omega
  split
  · have := atom1_wlen (if c % 12 % 2 = 0 then nmP else nmQ) (by split <;> rfl) (c / 12)
    rw [fw_app]; simp only [fw]; omega
  split
  · have := atom2_wlen nmR rfl (c / 12) (c / 12 / 3)
    rw [fw_app]; simp only [fw]; omega
  split
  · have : wlen fls.words = 6 := rfl
    rw [fw_app]; simp only [fw]; omega
  split
  · split
    · rename_i h1
      have e := congrArg fw (getD_split1 h1)
      have := un_wlen (unOp (c / 12 % 3)) [] (by simp) (s.getD (s.length - 1) fls) (by unfold unOp; (repeat' split) <;> decide) (by unfold unOp; (repeat' split) <;> decide)
      rw [fw_app] at e ⊢
      simp only [fw] at e ⊢
      omega
    · omega
  split
  · split
    · rename_i hc h2
      have e := congrArg fw (getD_split2 h2)
      have := bin_wlen ((c % 12 : Nat) - 3) (s.getD (s.length - 2) fls) (s.getD (s.length - 1) fls) (by omega)
      rw [fw_app] at e ⊢
      simp only [fw] at e ⊢
      omega
    · omega
  · split
    · rename_i h1
      have e := congrArg fw (getD_split1 h1)
      have := un_wlen ((c % 12 : Nat) - 2) (varXYZ (c / 12 % 3)) (by rw [varXYZ_len]; omega) (s.getD (s.length - 1) fls) (by omega) (by omega)
      rw [fw_app] at e ⊢
      simp only [fw] at e ⊢
      omega
    · omega
theorem bFold_fw : ∀ (l : Bs) (s : List Fm), fw (l.foldl (fun s c => bStep s c.toNat) s) ≤ fw s + 60 * l.length
  | [], s => by simp
  | c :: l, s => by
    have h1 := bFold_fw l (bStep s c.toNat)
    have h2 := bStep_fw s c.toNat
    simp only [List.foldl_cons, List.length_cons]
    omega
theorem untils_wlen : ∀ (r : List Fm) (f : Fm), wlen (untils f r).words + 13 ≤ wlen f.words + 13 + fw r
  | [], f => by simp [untils, fw]
  | g :: r, f => by
    have h1 := untils_wlen r (.mk 14 [] [] [f, g])
    have h2 := bin_wlen 14 f g (by omega)
    have e : untils f (g :: r) = untils (.mk 14 [] [] [f, g]) r := rfl
    rw [e]
    simp only [fw]
    omega
theorem built_wlen (l : Bs) : wlen (built l).words ≤ 1300 := by
  have h := bFold_fw (l.take 20) []
  have hl : (l.take 20).length ≤ 20 := by simp; omega
  unfold built
  show wlen (builtOf (bFold (l.take 20))).words ≤ 1300
  have e : bFold (l.take 20) = (l.take 20).foldl (fun s c => bStep s c.toNat) [] := rfl
  rw [← e] at h
  generalize bFold (l.take 20) = s at h
  simp only [fw] at h
  cases s with
  | nil => exact (by decide : wlen fls.words ≤ 1300)
  | cons f r =>
    have := untils_wlen r f
    simp only [fw] at h
    show wlen (untils f r).words ≤ 1300
    omega
theorem built_text_len (l : Bs) : (built l).text.length ≤ 1300 := by
  have h1 := built_wlen l
  have h2 := joinSp_le (built l).words
  unfold Fm.text
  omega
end Go.Proofs.YtcandidgaegghaaGreatDoor
end
section
namespace Ly
open Go.Lib (itoa index cut)
/-- One line is scanned: what was asked of it, and where the scan goes on. -/
theorem scan1_inv {W : List Bs} {first : Bool} {at_ : Nat} {lv : Int} {ln : Nat × Bs} {st : Nat × Int} (h : scan1 W first (at_, lv) ln = some st) :
    (ln.1 : Int) ≤ lv + 1 ∧ decide (ln.1 = 0) = first ∧ ∃ a1 : Nat, a1 = (if first = false ∧ at_ < W.length ∧ (ln.2 ++ [32]).isPrefixOf (joinSp (W.drop at_) ++ [32]) = false then at_ + 1 else at_) ∧
      (ln.2 ++ [32]).isPrefixOf (joinSp (W.drop (min a1 W.length)) ++ [32]) = true ∧ st = (a1 + (ln.2.count 32 + 1), (ln.1 : Int)) := by
  unfold scan1 at h
  split at h
  · cases h
  · rename_i hc
    simp only at h hc
    generalize ha : (if first = false ∧ at_ < W.length ∧ (ln.2 ++ [32]).isPrefixOf (joinSp (W.drop at_) ++ [32]) = false then at_ + 1 else at_) = a1 at h
    split at h
    · rename_i hp
      refine ⟨by omega, ?_, a1, rfl, hp, (Option.some.inj h).symm⟩
      cases hd : decide (ln.1 = 0) <;> cases first <;> simp_all
    · cases h
theorem scan1_mono {W : List Bs} {first : Bool} {at_ : Nat} {lv : Int} {ln : Nat × Bs} {st : Nat × Int} (h : scan1 W first (at_, lv) ln = some st) : at_ < st.1 := by
  obtain ⟨_, _, a1, e1, _, e2⟩ := scan1_inv h
  subst e2
  simp only
  split at e1 <;> omega
theorem scan_mono {W : List Bs} : ∀ (L : List (Nat × Bs)) (st st' : Nat × Int), scan W L st = some st' → st.1 ≤ st'.1
  | [], st, st', h => by simp [scan] at h; subst h; omega
  | ln :: L, (a, lv), st', h => by
    simp only [scan] at h
    split at h
    · cases h
    · rename_i st1 h1
      have := scan1_mono h1
      have := scan_mono L st1 st' h
      simp only
      omega
/-- Where the scan stands behind k lines. -/
def ORel (W : List Bs) (L : List (Nat × Bs)) (k at_ : Nat) (lv : Int) : Prop :=
  (k = 0 ∧ at_ = 0 ∧ lv = -1 ∧ ∃ ln r st l', L = ln :: r ∧ scan1 W true (0, -1) ln = some st ∧ scan W r st = some (W.length, l')) ∨ (1 ≤ k ∧ 0 ≤ lv ∧ ∃ l', scan W (L.drop k) (at_, lv) = some (W.length, l'))
theorem orel_start {f : Fm} (h : f.ok = true) : ORel f.toks (f.outl 0) 0 0 (-1) := by
  obtain ⟨ln, r, e, st, l', h1, h2⟩ := outline_law f h
  exact .inl ⟨rfl, rfl, rfl, ln, r, st, l', e, h1, h2⟩
theorem orel_le {W : List Bs} {L : List (Nat × Bs)} {k at_ : Nat} {lv : Int} (h : ORel W L k at_ lv) : at_ ≤ W.length := by
  rcases h with ⟨_, rfl, _⟩ | ⟨_, _, l', h⟩
  · omega
  · exact scan_mono _ _ _ h
theorem orel_next {W : List Bs} {L : List (Nat × Bs)} {k at_ : Nat} {lv : Int} (h : ORel W L k at_ lv) {n : Nat} {s : Bs} (hk : L[k]? = some (n, s)) :
    ∃ at', scan1 W (decide (k = 0)) (at_, lv) (n, s) = some (at', (n : Int)) ∧ ORel W L (k + 1) at' (n : Int) := by
  rcases h with ⟨rfl, rfl, rfl, ln, r, st, l', rfl, h1, h2⟩ | ⟨hk1, _, l', h⟩
  · simp at hk; subst hk
    obtain ⟨_, _, a1, _, _, e⟩ := scan1_inv h1
    subst e
    exact ⟨_, h1, .inr ⟨by omega, by omega, l', h2⟩⟩
  · have hd : L.drop k = (n, s) :: L.drop (k + 1) := by
      obtain ⟨hlt, e⟩ := List.getElem?_eq_some_iff.1 hk
      rw [← e]; exact List.drop_eq_getElem_cons hlt
    rw [hd] at h
    simp only [scan] at h
    split at h
    · cases h
    · rename_i st1 h1
      obtain ⟨_, _, a1, _, _, e⟩ := scan1_inv h1
      subst e
      refine ⟨_, ?_, .inr ⟨by omega, by omega, l', h⟩⟩
      rw [show decide (k = 0) = false from decide_eq_false (by omega)]
      exact h1
theorem orel_end {W : List Bs} {L : List (Nat × Bs)} {k at_ : Nat} {lv : Int} (h : ORel W L k at_ lv) (hk : k = L.length) (h1 : 1 ≤ L.length) : at_ = W.length := by
  rcases h with ⟨rfl, _⟩ | ⟨_, _, l', h⟩
  · omega
  · rw [hk, List.drop_length] at h
    simp [scan] at h
    exact h.1
/-- A line's head, and what stands behind it. -/
theorem cut_line (n : Nat) (p s : Bs) (hp : (58 : UInt8) ∉ p) : cut (p ++ itoa (n : Int) ++ [58, 32] ++ s) [58, 32] = (p ++ itoa (n : Int), s, true) := by
  have hn : (58 : UInt8) ∉ p ++ itoa (n : Int) := by
    rw [List.mem_append]
    rintro (h | h)
    · exact hp h
    · exact itoa_not (by omega) (by decide) h
  exact cut_mid (index_sep (t := [32]) _ _ hn)
end Ly
end
