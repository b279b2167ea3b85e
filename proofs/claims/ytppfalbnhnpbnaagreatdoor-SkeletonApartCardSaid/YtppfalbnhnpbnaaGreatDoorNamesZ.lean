/- Contracts of package syntax's tests of bytes and names. -/
import Derived.Test.YtppfalbnhnpbnaaGreatDoorMakeZ
import Derived.Deep.RegionWith
import Derived.Deep.QuietTactic
import Derived.BigQuiet
import Derived.Lib.Hide
import Derived.Test.YtppfalbnhnpbnaaGreatDoorProg
set_option linter.unusedSimpArgs false
set_option linter.unusedVariables false
namespace Go.Proofs.YtppfalbnhnpbnaaGreatDoor
open Go Go.RowKit Ly
def varFirst (c : UInt8) : Bool := 117 ≤ c && c ≤ 122
def funFirst (c : UInt8) : Bool := 97 ≤ c && c ≤ 116
def ByteC (f : FuncId) (p : UInt8 → Bool) : Prop := ∀ (c : UInt8) (w : World), Calls Tryz.prog f #[.int .u8 c.toNat] w fun e w' => e = .returned (.bool (p c)) ∧ w = w'
theorem ret_bool {a b : Bool} (h : a = b) : Ending.returned (.bool a) = .returned (.bool b) := by rw [h]
set_option maxHeartbeats 400000
theorem small_c : ByteC 201 small := by
  intro c w
  go_enter Tryz.func201, Tryz.ntmps201
  go_wp2
  all_goals go_ret
  all_goals exact ⟨ret_bool (by rw [Bool.eq_iff_iff]; simp [small, UInt8.le_iff_toNat_le]; omega), rfl⟩
theorem capital_c : ByteC 155 capital := by
  intro c w
  go_enter Tryz.func155, Tryz.ntmps155
  go_wp2
  all_goals go_ret
  all_goals exact ⟨ret_bool (by rw [Bool.eq_iff_iff]; simp [capital, UInt8.le_iff_toNat_le]; omega), rfl⟩
theorem digit_c : ByteC 159 digit := by
  intro c w
  go_enter Tryz.func159, Tryz.ntmps159
  go_wp2
  all_goals go_ret
  all_goals exact ⟨ret_bool (by rw [Bool.eq_iff_iff]; simp [digit, UInt8.le_iff_toNat_le]; omega), rfl⟩
theorem varFirst_c : ByteC 158 varFirst := by
  intro c w
  go_enter Tryz.func158, Tryz.ntmps158
  go_wp2
  all_goals go_ret
  all_goals exact ⟨ret_bool (by rw [Bool.eq_iff_iff]; simp [varFirst, UInt8.le_iff_toNat_le]; omega), rfl⟩
theorem funFirst_c : ByteC 157 funFirst := by
  intro c w
  go_enter Tryz.func157, Tryz.ntmps157
  go_wp2
  all_goals go_ret
  all_goals exact ⟨ret_bool (by rw [Bool.eq_iff_iff]; simp [funFirst, UInt8.le_iff_toNat_le]; omega), rfl⟩
theorem alnum_c : ByteC 156 alnum := by
  intro c w
  have e : Hid (alnum c = (small c || capital c || digit c)) := rfl
  generalize h1 : small c = b1 at e
  generalize h2 : capital c = b2 at e
  generalize h3 : digit c = b3 at e
  have H1 := Lib.hid h1; have H2 := Lib.hid h2; have H3 := Lib.hid h3
  clear h1 h2 h3
  cases b1 <;> cases b2 <;> cases b3
  all_goals
    go_enter Tryz.func156, Tryz.ntmps156
    go_wp2_with (first
      | (go_at_call 201; refine (small_c c _).mono ?_; rintro e w1 ⟨he, hw⟩; rw [H1.out] at he; subst he hw)
      | (go_at_call 155; refine (capital_c c _).mono ?_; rintro e w1 ⟨he, hw⟩; rw [H2.out] at he; subst he hw)
      | (go_at_call 159; refine (digit_c c _).mono ?_; rintro e w1 ⟨he, hw⟩; rw [H3.out] at he; subst he hw))
    go_ret
    exact ⟨ret_bool (by rw [e.out]; rfl), rfl⟩
theorem reserved_c (s : Bs) (w : World) : Calls Tryz.prog 200 #[str s] w fun e w' => e = .returned (.bool (reserved s)) ∧ w = w' := by
  go_enter Tryz.func200, Tryz.ntmps200
  go_wp2
  all_goals first
    | (exfalso; simp_all; done)
    | (go_ret; exact ⟨ret_bool (by simp [reserved, wAll, wSome, wFalse, wNext, wAlways, wUntil, *]), rfl⟩)
theorem ByteC.quiet {f : FuncId} {p : UInt8 → Bool} (h : ByteC f p) (c : UInt8) (w : World) (n : Nat) :
    Calls Tryz.prog f #[.int .u8 c.toNat] (w.drewN n) fun e w'' => e = .returned (.bool (p c)) ∧ ∃ m, w'' = w.drewN m :=
  (h c _).mono fun _ _ ⟨he, hw⟩ => ⟨he, n, hw.symm⟩
theorem all_drop (q : UInt8 → Bool) {r : Bs} {k : Nat} (h : k < r.length) : (r.drop k).all q = (q (r[k]) && (r.drop (k+1)).all q) := by
  rw [List.drop_eq_getElem_cons h, List.all_cons]
set_option maxHeartbeats 1600000 in
theorem checkVar_c (s : Bs) (b b' : Nat) (w : World) (hs : s.length ≤ 9223372036854775807)
    (c1 : w.cell? ⟨b, 0, none⟩ = some (.func (.func 158) #[] #[])) (c2 : w.cell? ⟨b', 0, none⟩ = some (.func (.func 159) #[] #[])) :
    Calls Tryz.prog 199 #[str s, .pointer (some ⟨b, 0, none⟩), .pointer (some ⟨b', 0, none⟩)] w fun e w' => e = .returned (.bool (checker varFirst digit s)) ∧ ∃ n, w' = w.drewN n := by
  cases s with
  | nil =>
    go_enter Tryz.func199, Tryz.ntmps199
    go_wp2_with fail
    go_quiet (fail)
    go_wp2_with fail
    go_ret
    exact ⟨rfl, _, rfl⟩
  | cons c r =>
    have hr : r.length + 1 ≤ 9223372036854775807 := by simpa using hs
    have d1 : decide ((r.length : Int) + 1 < 1) = false := by simp; omega
    clear hs
    by_cases hl : 16 < r.length + 1
    · have d2 : decide (16 < (r.length : Int) + 1) = true := by simp; omega
      go_enter Tryz.func199, Tryz.ntmps199
      go_wp2_with fail
      go_quiet (fail)
      go_wp2_with fail
      go_ret
      exact ⟨ret_bool (by simp [checker]; omega), _, rfl⟩
    · have d2 : decide (16 < (r.length : Int) + 1) = false := by simp; omega
      have e : Hid (checker varFirst digit (c :: r) = (!reserved (c :: r) && varFirst c && r.all digit)) := by
        show checker varFirst digit (c :: r) = _
        rw [checker, decide_eq_true (by omega), Bool.true_and]
      generalize h3 : reserved (c :: r) = b3 at e
      have R3 : Hid (∀ n, Calls Tryz.prog 200 #[str (c :: r)] (w.drewN n) fun e w'' => e = .returned (.bool b3) ∧ ∃ m, w'' = w.drewN m) :=
        fun n => (reserved_c _ _).mono fun _ _ ⟨he, hw⟩ => ⟨he.trans (by rw [h3]), n, hw.symm⟩
      generalize h4 : varFirst c = b4 at e
      have R4 : Hid (∀ n, Calls Tryz.prog 158 #[.int .u8 c.toNat] (w.drewN n) fun e w'' => e = .returned (.bool b4) ∧ ∃ m, w'' = w.drewN m) :=
        fun n => (varFirst_c.quiet c w n).mono fun _ _ ⟨he, hw⟩ => ⟨he.trans (by rw [h4]), hw⟩
      clear h3 h4
      cases b3 <;> cases b4
      all_goals
        go_enter Tryz.func199, Tryz.ntmps199
        go_wp2_with fail
        go_quiet (first | (go_at_call 200; exact R3.out _) | (go_at_call 158; exact R4.out _))
        go_wp2_with fail
        try (go_ret; exact ⟨ret_bool (by rw [e.out]; rfl), _, rfl⟩)
      clear R3 R4
      go_loopw [5] (fun i wr => ∃ k : Nat, k ≤ r.length ∧ i = .int .i64 (k + 1 : Nat) ∧ (∃ n, wr = w.drewN n) ∧ Hid (r.all digit = (r.drop k).all digit)) (fun i _ => r.length + 1 - (intOf i).toNat)
      case atStart => exact ⟨0, Nat.zero_le _, rfl, ⟨_, rfl⟩, rfl⟩
      case round =>
        obtain ⟨k, hk, rfl, ⟨n, rfl⟩, hs⟩ := hrel
        by_cases hlt : k < r.length
        · have S := Lib.hid (all_drop digit hlt)
          generalize h5 : digit (r[k]'hlt) = b5 at S
          have R5 : Hid (∀ m, Calls Tryz.prog 159 #[.int .u8 (r[k]'hlt).toNat] (w.drewN (n + m)) fun e w'' => e = .returned (.bool b5) ∧ ∃ j, w'' = w.drewN (n + j)) :=
            fun m => (digit_c (r[k]'hlt) (w.drewN (n + m))).mono fun _ _ ⟨he, hw⟩ => ⟨he.trans (by rw [h5]), m, hw.symm⟩
          clear h5
          have t1 : ((k : Int) + 1).toNat = k + 1 := by omega
          have t2 : (0 : Int) ≤ (k : Int) + 1 := by omega
          have t3 : k + 1 < r.length + 1 := by omega
          cases b5
          · go_wp2_with fail
            go_quiet (first | (go_at_call 159; exact R5.out _))
            go_wp2_with fail
            go_ret
            exact ⟨ret_bool (by rw [e.out, hs.out, S.out]; rfl), _, World.drewN_drewN _ _ _⟩
          · go_wp2_with fail
            go_quiet (first | (go_at_call 159; exact R5.out _))
            go_wp2_with fail
            go_roundw
            case rel => exact ⟨k + 1, by omega, by go_num, ⟨_, rfl⟩, by have q := hs.out.trans S.out; simp only [Bool.true_and] at q; exact q⟩
            case measure => simp [intOf]; omega
        · go_wp2_with fail
          go_ret
          exact ⟨ret_bool (by rw [e.out, hs.out, List.drop_of_length_le (by omega)]; rfl), _, rfl⟩
set_option maxHeartbeats 1600000 in
theorem checkFun_c (s : Bs) (b b' : Nat) (w : World) (hs : s.length ≤ 9223372036854775807)
    (c1 : w.cell? ⟨b, 0, none⟩ = some (.func (.func 157) #[] #[])) (c2 : w.cell? ⟨b', 0, none⟩ = some (.func (.func 156) #[] #[])) :
    Calls Tryz.prog 199 #[str s, .pointer (some ⟨b, 0, none⟩), .pointer (some ⟨b', 0, none⟩)] w fun e w' => e = .returned (.bool (checker funFirst alnum s)) ∧ ∃ n, w' = w.drewN n := by
  cases s with
  | nil =>
    go_enter Tryz.func199, Tryz.ntmps199
    go_wp2_with fail
    go_quiet (fail)
    go_wp2_with fail
    go_ret
    exact ⟨rfl, _, rfl⟩
  | cons c r =>
    have hr : r.length + 1 ≤ 9223372036854775807 := by simpa using hs
    have d1 : decide ((r.length : Int) + 1 < 1) = false := by simp; omega
    clear hs
    by_cases hl : 16 < r.length + 1
    · have d2 : decide (16 < (r.length : Int) + 1) = true := by simp; omega
      go_enter Tryz.func199, Tryz.ntmps199
      go_wp2_with fail
      go_quiet (fail)
      go_wp2_with fail
      go_ret
      exact ⟨ret_bool (by simp [checker]; omega), _, rfl⟩
    · have d2 : decide (16 < (r.length : Int) + 1) = false := by simp; omega
      have e : Hid (checker funFirst alnum (c :: r) = (!reserved (c :: r) && funFirst c && r.all alnum)) := by
        show checker funFirst alnum (c :: r) = _
        rw [checker, decide_eq_true (by omega), Bool.true_and]
      generalize h3 : reserved (c :: r) = b3 at e
      have R3 : Hid (∀ n, Calls Tryz.prog 200 #[str (c :: r)] (w.drewN n) fun e w'' => e = .returned (.bool b3) ∧ ∃ m, w'' = w.drewN m) :=
        fun n => (reserved_c _ _).mono fun _ _ ⟨he, hw⟩ => ⟨he.trans (by rw [h3]), n, hw.symm⟩
      generalize h4 : funFirst c = b4 at e
      have R4 : Hid (∀ n, Calls Tryz.prog 157 #[.int .u8 c.toNat] (w.drewN n) fun e w'' => e = .returned (.bool b4) ∧ ∃ m, w'' = w.drewN m) :=
        fun n => (funFirst_c.quiet c w n).mono fun _ _ ⟨he, hw⟩ => ⟨he.trans (by rw [h4]), hw⟩
      clear h3 h4
      cases b3 <;> cases b4
      all_goals
        go_enter Tryz.func199, Tryz.ntmps199
        go_wp2_with fail
        go_quiet (first | (go_at_call 200; exact R3.out _) | (go_at_call 157; exact R4.out _))
        go_wp2_with fail
        try (go_ret; exact ⟨ret_bool (by rw [e.out]; rfl), _, rfl⟩)
      clear R3 R4
      go_loopw [5] (fun i wr => ∃ k : Nat, k ≤ r.length ∧ i = .int .i64 (k + 1 : Nat) ∧ (∃ n, wr = w.drewN n) ∧ Hid (r.all alnum = (r.drop k).all alnum)) (fun i _ => r.length + 1 - (intOf i).toNat)
      case atStart => exact ⟨0, Nat.zero_le _, rfl, ⟨_, rfl⟩, rfl⟩
      case round =>
        obtain ⟨k, hk, rfl, ⟨n, rfl⟩, hs⟩ := hrel
        by_cases hlt : k < r.length
        · have S := Lib.hid (all_drop alnum hlt)
          generalize h5 : alnum (r[k]'hlt) = b5 at S
          have R5 : Hid (∀ m, Calls Tryz.prog 156 #[.int .u8 (r[k]'hlt).toNat] (w.drewN (n + m)) fun e w'' => e = .returned (.bool b5) ∧ ∃ j, w'' = w.drewN (n + j)) :=
            fun m => (alnum_c (r[k]'hlt) (w.drewN (n + m))).mono fun _ _ ⟨he, hw⟩ => ⟨he.trans (by rw [h5]), m, hw.symm⟩
          clear h5
          have t1 : ((k : Int) + 1).toNat = k + 1 := by omega
          have t2 : (0 : Int) ≤ (k : Int) + 1 := by omega
          have t3 : k + 1 < r.length + 1 := by omega
          cases b5
          · go_wp2_with fail
            go_quiet (first | (go_at_call 156; exact R5.out _))
            go_wp2_with fail
            go_ret
            exact ⟨ret_bool (by rw [e.out, hs.out, S.out]; rfl), _, World.drewN_drewN _ _ _⟩
          · go_wp2_with fail
            go_quiet (first | (go_at_call 156; exact R5.out _))
            go_wp2_with fail
            go_roundw
            case rel => exact ⟨k + 1, by omega, by go_num, ⟨_, rfl⟩, by have q := hs.out.trans S.out; simp only [Bool.true_and] at q; exact q⟩
            case measure => simp [intOf]; omega
        · go_wp2_with fail
          go_ret
          exact ⟨ret_bool (by rw [e.out, hs.out, List.drop_of_length_le (by omega)]; rfl), _, rfl⟩
set_option maxHeartbeats 1600000 in
theorem checkPred_c (s : Bs) (b b' : Nat) (w : World) (hs : s.length ≤ 9223372036854775807)
    (c1 : w.cell? ⟨b, 0, none⟩ = some (.func (.func 155) #[] #[])) (c2 : w.cell? ⟨b', 0, none⟩ = some (.func (.func 156) #[] #[])) :
    Calls Tryz.prog 199 #[str s, .pointer (some ⟨b, 0, none⟩), .pointer (some ⟨b', 0, none⟩)] w fun e w' => e = .returned (.bool (checker capital alnum s)) ∧ ∃ n, w' = w.drewN n := by
  cases s with
  | nil =>
    go_enter Tryz.func199, Tryz.ntmps199
    go_wp2_with fail
    go_quiet (fail)
    go_wp2_with fail
    go_ret
    exact ⟨rfl, _, rfl⟩
  | cons c r =>
    have hr : r.length + 1 ≤ 9223372036854775807 := by simpa using hs
    have d1 : decide ((r.length : Int) + 1 < 1) = false := by simp; omega
    clear hs
    by_cases hl : 16 < r.length + 1
    · have d2 : decide (16 < (r.length : Int) + 1) = true := by simp; omega
      go_enter Tryz.func199, Tryz.ntmps199
      go_wp2_with fail
      go_quiet (fail)
      go_wp2_with fail
      go_ret
      exact ⟨ret_bool (by simp [checker]; omega), _, rfl⟩
    · have d2 : decide (16 < (r.length : Int) + 1) = false := by simp; omega
      have e : Hid (checker capital alnum (c :: r) = (!reserved (c :: r) && capital c && r.all alnum)) := by
        show checker capital alnum (c :: r) = _
        rw [checker, decide_eq_true (by omega), Bool.true_and]
      generalize h3 : reserved (c :: r) = b3 at e
      have R3 : Hid (∀ n, Calls Tryz.prog 200 #[str (c :: r)] (w.drewN n) fun e w'' => e = .returned (.bool b3) ∧ ∃ m, w'' = w.drewN m) :=
        fun n => (reserved_c _ _).mono fun _ _ ⟨he, hw⟩ => ⟨he.trans (by rw [h3]), n, hw.symm⟩
      generalize h4 : capital c = b4 at e
      have R4 : Hid (∀ n, Calls Tryz.prog 155 #[.int .u8 c.toNat] (w.drewN n) fun e w'' => e = .returned (.bool b4) ∧ ∃ m, w'' = w.drewN m) :=
        fun n => (capital_c.quiet c w n).mono fun _ _ ⟨he, hw⟩ => ⟨he.trans (by rw [h4]), hw⟩
      clear h3 h4
      cases b3 <;> cases b4
      all_goals
        go_enter Tryz.func199, Tryz.ntmps199
        go_wp2_with fail
        go_quiet (first | (go_at_call 200; exact R3.out _) | (go_at_call 155; exact R4.out _))
        go_wp2_with fail
        try (go_ret; exact ⟨ret_bool (by rw [e.out]; rfl), _, rfl⟩)
      clear R3 R4
      go_loopw [5] (fun i wr => ∃ k : Nat, k ≤ r.length ∧ i = .int .i64 (k + 1 : Nat) ∧ (∃ n, wr = w.drewN n) ∧ Hid (r.all alnum = (r.drop k).all alnum)) (fun i _ => r.length + 1 - (intOf i).toNat)
      case atStart => exact ⟨0, Nat.zero_le _, rfl, ⟨_, rfl⟩, rfl⟩
      case round =>
        obtain ⟨k, hk, rfl, ⟨n, rfl⟩, hs⟩ := hrel
        by_cases hlt : k < r.length
        · have S := Lib.hid (all_drop alnum hlt)
          generalize h5 : alnum (r[k]'hlt) = b5 at S
          have R5 : Hid (∀ m, Calls Tryz.prog 156 #[.int .u8 (r[k]'hlt).toNat] (w.drewN (n + m)) fun e w'' => e = .returned (.bool b5) ∧ ∃ j, w'' = w.drewN (n + j)) :=
            fun m => (alnum_c (r[k]'hlt) (w.drewN (n + m))).mono fun _ _ ⟨he, hw⟩ => ⟨he.trans (by rw [h5]), m, hw.symm⟩
          clear h5
          have t1 : ((k : Int) + 1).toNat = k + 1 := by omega
          have t2 : (0 : Int) ≤ (k : Int) + 1 := by omega
          have t3 : k + 1 < r.length + 1 := by omega
          cases b5
          · go_wp2_with fail
            go_quiet (first | (go_at_call 156; exact R5.out _))
            go_wp2_with fail
            go_ret
            exact ⟨ret_bool (by rw [e.out, hs.out, S.out]; rfl), _, World.drewN_drewN _ _ _⟩
          · go_wp2_with fail
            go_quiet (first | (go_at_call 156; exact R5.out _))
            go_wp2_with fail
            go_roundw
            case rel => exact ⟨k + 1, by omega, by go_num, ⟨_, rfl⟩, by have q := hs.out.trans S.out; simp only [Bool.true_and] at q; exact q⟩
            case measure => simp [intOf]; omega
        · go_wp2_with fail
          go_ret
          exact ⟨ret_bool (by rw [e.out, hs.out, List.drop_of_length_le (by omega)]; rfl), _, rfl⟩
set_option maxHeartbeats 400000 in
theorem Variable_c (s : Bs) (w : World) (hs : s.length ≤ 9223372036854775807) : Calls Tryz.prog 105 #[str s] w fun e w' => e = .returned (.bool (varName s)) ∧ Below w.heap.size w w' := by
  have HS := Lib.hid hs; clear hs
  go_enter Tryz.func105, Tryz.ntmps105
  go_wp2_with (first | (go_at_call 154; go_in) | (go_at_call 199; refine (checkVar_c s _ _ _ HS.out (by simp [go_sem]) (by simp [go_sem])).mono ?_; rintro e w1 ⟨rfl, n, rfl⟩))
  go_ret
  exact ⟨rfl, by
    have h : Below w.heap.size w ((w.alloc (.cells #[.func (.func 158) #[] #[]] 184)).alloc (.cells #[.func (.func 159) #[] #[]] 184)) := ((Below.refl _ _).alloc (Nat.le_refl _) _).alloc (by simp) _
    exact ⟨h.os, h.tape, h.output, h.size, h.block⟩⟩
set_option maxHeartbeats 400000 in
theorem Function_c (s : Bs) (w : World) (hs : s.length ≤ 9223372036854775807) : Calls Tryz.prog 104 #[str s] w fun e w' => e = .returned (.bool (funName s)) ∧ Below w.heap.size w w' := by
  have HS := Lib.hid hs; clear hs
  go_enter Tryz.func104, Tryz.ntmps104
  go_wp2_with (first | (go_at_call 154; go_in) | (go_at_call 199; refine (checkFun_c s _ _ _ HS.out (by simp [go_sem]) (by simp [go_sem])).mono ?_; rintro e w1 ⟨rfl, n, rfl⟩))
  go_ret
  exact ⟨rfl, by
    have h : Below w.heap.size w ((w.alloc (.cells #[.func (.func 157) #[] #[]] 184)).alloc (.cells #[.func (.func 156) #[] #[]] 184)) := ((Below.refl _ _).alloc (Nat.le_refl _) _).alloc (by simp) _
    exact ⟨h.os, h.tape, h.output, h.size, h.block⟩⟩
set_option maxHeartbeats 400000 in
theorem Predicate_c (s : Bs) (w : World) (hs : s.length ≤ 9223372036854775807) : Calls Tryz.prog 103 #[str s] w fun e w' => e = .returned (.bool (predName s)) ∧ Below w.heap.size w w' := by
  have HS := Lib.hid hs; clear hs
  go_enter Tryz.func103, Tryz.ntmps103
  go_wp2_with (first | (go_at_call 154; go_in) | (go_at_call 199; refine (checkPred_c s _ _ _ HS.out (by simp [go_sem]) (by simp [go_sem])).mono ?_; rintro e w1 ⟨rfl, n, rfl⟩))
  go_ret
  exact ⟨rfl, by
    have h : Below w.heap.size w ((w.alloc (.cells #[.func (.func 155) #[] #[]] 184)).alloc (.cells #[.func (.func 156) #[] #[]] 184)) := ((Below.refl _ _).alloc (Nat.le_refl _) _).alloc (by simp) _
    exact ⟨h.os, h.tape, h.output, h.size, h.block⟩⟩
end Go.Proofs.YtppfalbnhnpbnaaGreatDoor
