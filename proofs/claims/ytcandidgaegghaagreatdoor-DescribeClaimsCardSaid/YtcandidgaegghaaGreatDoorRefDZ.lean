/- lyceumref02.in: a byte between two others. Conditions: none. lyceumref02: letters, Variable, Function, Predicate. Conditions: strings fit into memory. -/
import Derived.Test.YtcandidgaegghaaGreatDoorNames
import Derived.Test.YtcandidgaegghaaGreatDoorPlJ
import Derived.Deep.DeepCutAuto
section
namespace Go.Proofs.YtcandidgaegghaaGreatDoor
open Go Go.RowKit Ly
set_option linter.unusedSimpArgs false
set_option linter.unusedVariables false
set_option maxHeartbeats 800000
theorem in_c (c lo hi : Int) (w : World) : Calls Tryz.prog 278 #[.int .u8 c, .int .u8 lo, .int .u8 hi] w fun e w' => e = .returned (.bool (decide (lo ≤ c) && decide (c ≤ hi))) ∧ w = w' := by
  by_cases h1 : lo ≤ c
  · by_cases h2 : c ≤ hi
    all_goals
      go_enter Tryz.func278, Tryz.ntmps278
      go_wp2_with fail
      go_ret
      refine ⟨?_, rfl⟩
      first | rfl | (simp_all; done) | (simp_all; omega) | (simp_all; rfl)
  · go_enter Tryz.func278, Tryz.ntmps278
    go_wp2_with fail
    go_ret
    refine ⟨?_, rfl⟩
    first | rfl | (simp_all; done) | (simp_all; omega) | (simp_all; rfl)
end Go.Proofs.YtcandidgaegghaaGreatDoor
end
section
namespace Go.Proofs.YtcandidgaegghaaGreatDoor
open Go Go.RowKit Ly
set_option maxRecDepth 10000
set_option linter.unusedSimpArgs false
set_option linter.unusedVariables false
set_option maxHeartbeats 1600000
theorem beq_no {s t : Bs} (h : ¬ s = t) : (s == t) = false := by simpa using h
theorem in_r (c lo hi : Int) (w : World) : Calls Tryz.prog 278 #[.int .u8 c, .int .u8 lo, .int .u8 hi] w fun e w' => e = .returned (.bool (inR c lo hi)) ∧ w = w' := in_c c lo hi w
theorem letters_c (s : Bs) (d : Bool) (w : World) (hs : s.length ≤ 9223372036854775807) : Calls Tryz.prog 277 #[str s, .bool d] w fun e w' => e = .returned (.bool (lettersB d s)) ∧ w = w' := by
  obtain ⟨n, hn⟩ : ∃ n, s.length = n := ⟨_, rfl⟩
  rw [hn] at hs
  have HN := Lib.hid hn
  go_enter Tryz.func277, Tryz.ntmps277
  go_wp2_with fail
  go_loopw [5] (fun i wr => ∃ k : Nat, 1 ≤ k ∧ (k ≤ n ∨ k = 1) ∧ i = .int .i64 k ∧ w = wr ∧ Hid ((s.drop 1).all (lettersP d) = (s.drop k).all (lettersP d))) (fun i _ => n + 1 - (intOf i).toNat)
  case atStart => exact ⟨1, Nat.le_refl _, .inr rfl, rfl, rfl, rfl⟩
  case round =>
    obtain ⟨k, hk1, hk2, rfl, rfl, hs2⟩ := hrel
    by_cases hlt : k < n
    · have hlt' : k < s.length := by omega
      have S := Lib.hid (all_drop (lettersP d) hlt')
      have hu : Hid (lettersP d s[k] = (inR (s[k]).toNat 48 57 || (!d && (inR (s[k]).toNat 65 90 || inR (s[k]).toNat 97 122)))) := rfl
      have R5 : Hid (∀ lo hi W, Calls Tryz.prog 278 #[.int .u8 (s[k]'hlt').toNat, .int .u8 lo, .int .u8 hi] W fun e w'' => e = .returned (.bool (inR (s[k]'hlt').toNat lo hi)) ∧ W = w'') := fun lo hi W => in_r _ lo hi W
      generalize inR (s[k]'hlt').toNat = I at R5 hu
      generalize lettersP d s[k] = L at S hu
      obtain ⟨b1, h1⟩ : ∃ b, I 48 57 = b := ⟨_, rfl⟩
      obtain ⟨b2, h2⟩ : ∃ b, I 65 90 = b := ⟨_, rfl⟩
      obtain ⟨b3, h3⟩ : ∃ b, I 97 122 = b := ⟨_, rfl⟩
      have H1 := Lib.hid h1
      have H2 := Lib.hid h2
      have H3 := Lib.hid h3
      have hL : Hid (L = (b1 || (!d && (b2 || b3)))) := by rw [Hid, hu.out, h1, h2, h3]
      clear h1 h2 h3 hu
      subst hn
      have ex : ((b1 = true) ∨ (b1 = false ∧ d = false ∧ b2 = true) ∨ (b1 = false ∧ d = false ∧ b2 = false ∧ b3 = true)) ∨ ((b1 = false ∧ d = true) ∨ (b1 = false ∧ d = false ∧ b2 = false ∧ b3 = false)) := by
        cases b1 <;> cases d <;> cases b2 <;> cases b3 <;> simp
      rcases ex with ex | ex
      · rcases ex with rfl | ⟨rfl, rfl, rfl⟩ | ⟨rfl, rfl, rfl, rfl⟩
        all_goals
          go_wp2_with (go_at_call 278; refine (R5.out _ _ _).mono ?_; rintro e w1 ⟨rfl, rfl⟩; first | rw [show I 48 57 = _ from H1.out] | rw [show I 65 90 = _ from H2.out] | rw [show I 97 122 = _ from H3.out])
          go_roundw
          case rel => exact ⟨k + 1, by omega, by omega, by go_num, trivial, by rw [hs2.out, S.out, hL.out]; rfl⟩
          case measure => simp [intOf]; omega
      · rcases ex with ⟨rfl, rfl⟩ | ⟨rfl, rfl, rfl, rfl⟩
        all_goals
          go_wp2_with (go_at_call 278; refine (R5.out _ _ _).mono ?_; rintro e w1 ⟨rfl, rfl⟩; first | rw [show I 48 57 = _ from H1.out] | rw [show I 65 90 = _ from H2.out] | rw [show I 97 122 = _ from H3.out])
          go_ret
          refine ⟨ret_bool ?_, rfl⟩
          rw [lettersB, hs2.out, S.out, hL.out]; rfl
    · have hA : Hid ((s.drop 1).all (lettersP d) = true) := by rw [Hid, hs2.out, List.drop_of_length_le (by omega)]; rfl
      have hB : lettersB d s = (decide (1 ≤ s.length) && decide (s.length ≤ 16)) := by rw [lettersB, hA.out, Bool.true_and]
      rcases (show n = 0 ∨ (1 ≤ n ∧ n ≤ 16) ∨ 16 < n by omega) with h0 | ⟨h0, h1⟩ | h0
      · subst h0
        go_wp2_with fail
        go_ret
        exact ⟨ret_bool (by rw [hB, HN.out]; rfl), rfl⟩
      · have d1 : (0 : Int) < n := by omega
        go_wp2_with fail
        go_ret
        exact ⟨ret_bool (by rw [hB, HN.out, decide_eq_true h0, decide_eq_true h1, decide_eq_true (show (n : Int) ≤ 16 by omega)]; rfl), rfl⟩
      · have d1 : (0 : Int) < n := by omega
        have d2 : ¬ n ≤ 16 := by omega
        go_wp2_with fail
        go_ret
        exact ⟨ret_bool (by rw [hB, HN.out, decide_eq_false d2, Bool.and_false, decide_eq_false (show ¬ (n : Int) ≤ 16 by omega)]), rfl⟩
theorem Variable2_c (s : Bs) (w : World) (hs : s.length ≤ 9223372036854775807) : Calls Tryz.prog 214 #[str s] w fun e w' => e = .returned (.bool (varName s)) ∧ w = w' := by
  cases s with
  | nil =>
    have R : Hid (∀ W, Calls Tryz.prog 277 #[str [], .bool true] W fun e w' => e = .returned (.bool false) ∧ W = w') := fun W => letters_c [] true W hs
    go_enter Tryz.func214, Tryz.ntmps214
    go_wp2_with (go_at_call 277; refine (R.out _).mono ?_; rintro e w1 ⟨rfl, rfl⟩)
    go_ret
    exact ⟨rfl, rfl⟩
  | cons c r =>
    have R : Hid (∀ W, Calls Tryz.prog 277 #[str (c :: r), .bool true] W fun e w' => e = .returned (.bool (lettersB true (c :: r))) ∧ W = w') := fun W => letters_c (c :: r) true W hs
    have R5 : Hid (∀ W, Calls Tryz.prog 278 #[.int .u8 c.toNat, .int .u8 117, .int .u8 122] W fun e w'' => e = .returned (.bool (inR c.toNat 117 122)) ∧ W = w'') := fun W => in_r _ _ _ W
    have E := Lib.hid (varName_ref c r)
    generalize lettersB true (c :: r) = B at R E
    generalize inR c.toNat 117 122 = I at R5 E
    cases B <;> cases I
    all_goals
      go_enter Tryz.func214, Tryz.ntmps214
      go_wp2_with (first
        | (go_at_call 277; refine (R.out _).mono ?_; rintro e w1 ⟨rfl, rfl⟩)
        | (go_at_call 278; refine (R5.out _).mono ?_; rintro e w1 ⟨rfl, rfl⟩))
      go_ret
      exact ⟨ret_bool (by rw [E.out]; rfl), rfl⟩
theorem Predicate2_c (s : Bs) (w : World) (hs : s.length ≤ 9223372036854775807) : Calls Tryz.prog 216 #[str s] w fun e w' => e = .returned (.bool (predName s)) ∧ w = w' := by
  cases s with
  | nil =>
    have R : Hid (∀ W, Calls Tryz.prog 277 #[str [], .bool false] W fun e w' => e = .returned (.bool false) ∧ W = w') := fun W => letters_c [] false W hs
    go_enter Tryz.func216, Tryz.ntmps216
    go_wp2_with (go_at_call 277; refine (R.out _).mono ?_; rintro e w1 ⟨rfl, rfl⟩)
    go_ret
    exact ⟨rfl, rfl⟩
  | cons c r =>
    have R : Hid (∀ W, Calls Tryz.prog 277 #[str (c :: r), .bool false] W fun e w' => e = .returned (.bool (lettersB false (c :: r))) ∧ W = w') := fun W => letters_c (c :: r) false W hs
    have R5 : Hid (∀ W, Calls Tryz.prog 278 #[.int .u8 c.toNat, .int .u8 65, .int .u8 90] W fun e w'' => e = .returned (.bool (inR c.toNat 65 90)) ∧ W = w'') := fun W => in_r _ _ _ W
    have E := Lib.hid (predName_ref c r)
    generalize lettersB false (c :: r) = B at R E
    generalize inR c.toNat 65 90 = I at R5 E
    cases B <;> cases I
    all_goals
      go_enter Tryz.func216, Tryz.ntmps216
      go_wp2_with (first
        | (go_at_call 277; refine (R.out _).mono ?_; rintro e w1 ⟨rfl, rfl⟩)
        | (go_at_call 278; refine (R5.out _).mono ?_; rintro e w1 ⟨rfl, rfl⟩))
      go_ret
      exact ⟨ret_bool (by rw [E.out]; rfl), rfl⟩
theorem Function2_c (s : Bs) (w : World) (hs : s.length ≤ 9223372036854775807) : Calls Tryz.prog 215 #[str s] w fun e w' => e = .returned (.bool (funName s)) ∧ w = w' := by
  by_cases hr : s = wAll ∨ s = wSome ∨ s = wFalse ∨ s = wNext ∨ s = wAlways
  · rw [funName_reserved hr]
    rcases hr with rfl | rfl | rfl | rfl | rfl
    all_goals
      go_enter Tryz.func215, Tryz.ntmps215
      go_wp2_with fail
      go_ret
      exact ⟨rfl, rfl⟩
  · have e1 : (s == [97, 108, 108]) = false := beq_no fun h => hr (.inl h)
    have e2 : (s == [115, 111, 109, 101]) = false := beq_no fun h => hr (.inr (.inl h))
    have e3 : (s == [102, 97, 108, 115, 101]) = false := beq_no fun h => hr (.inr (.inr (.inl h)))
    have e4 : (s == [110, 101, 120, 116]) = false := beq_no fun h => hr (.inr (.inr (.inr (.inl h))))
    have e5 : (s == [97, 108, 119, 97, 121, 115]) = false := beq_no fun h => hr (.inr (.inr (.inr (.inr h))))
    have HR := Lib.hid hr
    clear hr
    cases s with
    | nil =>
      clear e1 e2 e3 e4 e5
      have R : Hid (∀ W, Calls Tryz.prog 277 #[str [], .bool false] W fun e w' => e = .returned (.bool false) ∧ W = w') := fun W => letters_c [] false W hs
      go_enter Tryz.func215, Tryz.ntmps215
      go_wp2_with (go_at_call 277; refine (R.out _).mono ?_; rintro e w1 ⟨rfl, rfl⟩)
      go_ret
      exact ⟨rfl, rfl⟩
    | cons c r =>
      have R : Hid (∀ W, Calls Tryz.prog 277 #[str (c :: r), .bool false] W fun e w' => e = .returned (.bool (lettersB false (c :: r))) ∧ W = w') := fun W => letters_c (c :: r) false W hs
      have R5 : Hid (∀ W, Calls Tryz.prog 278 #[.int .u8 c.toNat, .int .u8 97, .int .u8 116] W fun e w'' => e = .returned (.bool (inR c.toNat 97 116)) ∧ W = w'') := fun W => in_r _ _ _ W
      have E := Lib.hid (funName_ref c r HR.out)
      generalize lettersB false (c :: r) = B at R E
      generalize inR c.toNat 97 116 = I at R5 E
      cases B <;> cases I
      all_goals
        go_enter Tryz.func215, Tryz.ntmps215
        go_wp2_with (first
          | (go_at_call 277; refine (R.out _).mono ?_; rintro e w1 ⟨rfl, rfl⟩)
          | (go_at_call 278; refine (R5.out _).mono ?_; rintro e w1 ⟨rfl, rfl⟩))
        go_ret
        exact ⟨ret_bool (by rw [E.out]; rfl), rfl⟩
end Go.Proofs.YtcandidgaegghaaGreatDoor
end
