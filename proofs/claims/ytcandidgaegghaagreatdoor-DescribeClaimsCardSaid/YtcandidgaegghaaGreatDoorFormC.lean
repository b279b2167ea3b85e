/- Contract of describe.Form at right formulas. -/
import Derived.Test.YtcandidgaegghaaGreatDoorFormB
namespace Go.Proofs.YtcandidgaegghaaGreatDoor
open Go Go.RowKit Ly

set_option maxHeartbeats 800000 in
theorem Form_yes (f : Fm) (h : f.right = true) (x : Value) (w : World) (hr : RowsAt w) (hx : FmVal w f x) : Calls Tryz.prog 21 #[x] w fun e w' => e = .returned (.tuple #[str f.text, .int .i64 0]) ∧ Below w.heap.size w w' := by
  obtain ⟨a, k, c, a', m, d, rfl, h1, h2⟩ := hx
  have HT := Lib.hid h1
  have HF := Lib.hid h2
  have HR := Lib.hid hr
  have HG := Lib.hid h
  have HO : Hid (f.ok = true) := by
    simp only [Fm.right, Bool.and_eq_true, decide_eq_true_eq] at h
    exact h.1.1
  have HL : Hid (f.words.length ≤ 1000000 ∧ f.text.length ≤ 1000000) := by have := right_len h; exact ⟨by omega, by omega⟩
  clear h h1 h2 hr
  go_enter Tryz.func21, Tryz.ntmps21
  go_wp2_with fail
  refine (Right_yes f (.agg #[.int .u8 f.op, str f.name, .slice a k c, .slice a' m d]) _ (HR.out.keep (keeps1 _ _)) ⟨_, _, _, _, _, _, rfl, HT.out.keep (keeps1 _ _), HF.out.keep (keeps1 _ _)⟩ HG.out).mono ?_
  rintro e w1 ⟨rfl, b1⟩
  obtain ⟨hc1, hf1⟩ := bcell b1
  have B1 := Lib.hid b1
  have K1 : Hid (Keeps w w1) := keeps_of_below (below1 b1)
  go_wp2_with fail
  refine (text_c f HO.out HL.out _ _ _ _ _ _ _ (HT.out.keep K1.out) (HF.out.keep K1.out)).mono ?_
  rintro e w2 ⟨rfl, b2⟩
  have R := Lib.hid (belowThen (below1 B1.out) b2)
  go_wp2_with fail
  exact bodyPost_ret (v := .tuple #[str f.text, .int .i64 0]) (by simp [results, Tryz.results21, go_sem]) rfl ⟨rfl, R.out⟩
end Go.Proofs.YtcandidgaegghaaGreatDoor
