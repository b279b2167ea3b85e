/- How long the text of a formula can be that lyceumlaw30.Built makes. Nothing of the program's code is walked. -/
import Derived.Test.YtcandidgaegghaaGreatDoorFormCZ
import Derived.Test.YtcandidgaegghaaGreatDoorPlB
namespace Go.Proofs.YtcandidgaegghaaGreatDoor
open Go Go.RowKit Ly
set_option linter.unusedSimpArgs false
set_option linter.unusedVariables false
def fw : List Fm → Nat
  | [] => 0
  | f :: r => wlen f.words + 13 + fw r
theorem fw_app : ∀ a b : List Fm, fw (a ++ b) = fw a + fw b
  | [], b => by simp [fw]
  | f :: a, b => by simp [fw, fw_app a b]; omega
theorem leafTm_wlen (k : Nat) : wlen (leafTm k).words = 2 := by
  unfold leafTm
  repeat' split
  all_goals rfl
theorem builtTm_wlen (b : Nat) : wlen (builtTm b).words ≤ 13 := by
  have h := leafTm_wlen (b % 5)
  unfold builtTm
  split
  · have e : ∀ (n : Bs), (Tm.mk false n [leafTm (b % 5)]).words = n :: wOf :: ((leafTm (b % 5)).words ++ [wClose]) := by intro n; simp [Tm.words, tmsWords]
    rw [e]
    simp only [wlen, wlen_app, h, show wOf.length = 2 from rfl, show wClose.length = 5 from rfl]
    split <;> simp [nmF, nmG]
  · omega
theorem atom0_wlen (n : Bs) (hn : n.length = 1) : wlen (Fm.mk 1 n [] []).words = 2 := by
  simp [Fm.words, termWords, tmsWords, wlen, hn]
theorem atom1_wlen (n : Bs) (hn : n.length = 1) (b : Nat) : wlen (Fm.mk 1 n [builtTm b] []).words ≤ 30 := by
  have := builtTm_wlen b
  have e : (Fm.mk 1 n [builtTm b] []).words = n :: wOf :: ((builtTm b).words ++ [wClose]) := by simp [Fm.words, termWords, tmsWords]
  rw [e]
  simp only [wlen, wlen_app, hn, show wOf.length = 2 from rfl, show wClose.length = 5 from rfl]
  omega
theorem atom2_wlen (n : Bs) (hn : n.length = 1) (b b' : Nat) : wlen (Fm.mk 1 n [builtTm b, builtTm b'] []).words ≤ 45 := by
  have h1 := builtTm_wlen b
  have h2 := builtTm_wlen b'
  have e : (Fm.mk 1 n [builtTm b, builtTm b'] []).words = n :: wOf :: ((builtTm b).words ++ (wAnd :: ((builtTm b').words ++ [wClose]))) := by simp [Fm.words, termWords, tmsWords]
  rw [e]
  simp only [wlen, wlen_app, hn, show wOf.length = 2 from rfl, show wAnd.length = 3 from rfl, show wClose.length = 5 from rfl]
  omega
theorem un_wlen (op : Int) (n : Bs) (hn : n.length ≤ 1) (f : Fm) (h1 : op ≠ 1) (h2 : op ≠ 2) : wlen (Fm.mk op n [] [f]).words ≤ wlen f.words + 14 := by
  have e : (Fm.mk op n [] [f]).words = signFirst op n :: f.words := by simp [Fm.words, fmsWords, h1, h2]
  have := (sign_len op n).1
  rw [e]
  simp only [wlen]
  omega
theorem bin_sign (op : Int) (h : op = 4 ∨ op = 5 ∨ op = 6 ∨ op = 14) : (signFirst op []).length + (signBetween op).length ≤ 10 := by
  rcases h with rfl | rfl | rfl | rfl <;> decide
theorem bin_wlen (op : Int) (f g : Fm) (h : op = 4 ∨ op = 5 ∨ op = 6 ∨ op = 14) : wlen (Fm.mk op [] [] [f, g]).words ≤ wlen f.words + wlen g.words + 13 := by
  have h1 : op ≠ 1 := by omega
  have h2 : op ≠ 2 := by omega
  have e : (Fm.mk op [] [] [f, g]).words = signFirst op [] :: (f.words ++ (signBetween op :: g.words)) := by simp [Fm.words, fmsWords, h1, h2]
  have := bin_sign op h
  rw [e]
  simp only [wlen, wlen_app]
  omega
theorem predPQR_len (k : Nat) : (predPQR k).length = 1 := by unfold predPQR; (repeat' split) <;> rfl
theorem varXYZ_len (k : Nat) : (varXYZ k).length = 1 := by unfold varXYZ; (repeat' split) <;> rfl
theorem bStep_fw (s : List Fm) (c : Nat) : fw (bStep s c) ≤ fw s + 60 := by
  unfold bStep
  split
  · rw [fw_app]; simp only [fw, atom0_wlen _ (predPQR_len _)]; omega
  split
  · have := atom1_wlen (if c % 12 % 2 = 0 then nmP else nmQ) (by split <;> rfl) (c / 12)
    rw [fw_app]; simp only [fw]; omega
  split
  · have := atom2_wlen nmR rfl (c / 12) (c / 12 / 3)
    rw [fw_app]; simp only [fw]; omega
  split
  · have : wlen fls.words = 6 := rfl
    rw [fw_app]; simp only [fw]; omega
  split
  · split
    · rename_i h1
      have e := congrArg fw (getD_split1 h1)
      have := un_wlen (unOp (c / 12 % 3)) [] (by simp) (s.getD (s.length - 1) fls) (by unfold unOp; (repeat' split) <;> decide) (by unfold unOp; (repeat' split) <;> decide)
      rw [fw_app] at e ⊢
      simp only [fw] at e ⊢
      omega
    · omega
  split
  · split
    · rename_i hc h2
      have e := congrArg fw (getD_split2 h2)
      have := bin_wlen ((c % 12 : Nat) - 3) (s.getD (s.length - 2) fls) (s.getD (s.length - 1) fls) (by omega)
      rw [fw_app] at e ⊢
      simp only [fw] at e ⊢
      omega
    · omega
  · split
    · rename_i h1
      have e := congrArg fw (getD_split1 h1)
      have := un_wlen ((c % 12 : Nat) - 2) (varXYZ (c / 12 % 3)) (by rw [varXYZ_len]; omega) (s.getD (s.length - 1) fls) (by omega) (by omega)
      rw [fw_app] at e ⊢
      simp only [fw] at e ⊢
      omega
    · omega
theorem bFold_fw : ∀ (l : Bs) (s : List Fm), fw (l.foldl (fun s c => bStep s c.toNat) s) ≤ fw s + 60 * l.length
  | [], s => by simp
  | c :: l, s => by
    have h1 := bFold_fw l (bStep s c.toNat)
    have h2 := bStep_fw s c.toNat
    simp only [List.foldl_cons, List.length_cons]
    omega
theorem untils_wlen : ∀ (r : List Fm) (f : Fm), wlen (untils f r).words + 13 ≤ wlen f.words + 13 + fw r
  | [], f => by simp [untils, fw]
  | g :: r, f => by
    have h1 := untils_wlen r (.mk 14 [] [] [f, g])
    have h2 := bin_wlen 14 f g (by omega)
    have e : untils f (g :: r) = untils (.mk 14 [] [] [f, g]) r := rfl
    rw [e]
    simp only [fw]
    omega
theorem built_wlen (l : Bs) : wlen (built l).words ≤ 1300 := by
  have h := bFold_fw (l.take 20) []
  have hl : (l.take 20).length ≤ 20 := by simp; omega
  unfold built
  show wlen (builtOf (bFold (l.take 20))).words ≤ 1300
  have e : bFold (l.take 20) = (l.take 20).foldl (fun s c => bStep s c.toNat) [] := rfl
  rw [← e] at h
  generalize bFold (l.take 20) = s at h
  simp only [fw] at h
  cases s with
  | nil => exact (by decide : wlen fls.words ≤ 1300)
  | cons f r =>
    have := untils_wlen r f
    simp only [fw] at h
    show wlen (untils f r).words ≤ 1300
    omega
theorem built_text_len (l : Bs) : (built l).text.length ≤ 1300 := by
  have h1 := built_wlen l
  have h2 := joinSp_le (built l).words
  unfold Fm.text
  omega
end Go.Proofs.YtcandidgaegghaaGreatDoor
