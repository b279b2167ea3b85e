/- lyceumref02.in: a byte between two others. Conditions: none. lyceumref02: letters, Variable, Function, Predicate. Conditions: strings fit into memory. Formulas that came in as an argument: whatever they are, a formula of the plain kind lies there. Conditions: none but those of each statement. -/
import Derived.Test.YtcandidgaegghaaGreatDoorNames
import Derived.Test.YtcandidgaegghaaGreatDoorPlJ
import Derived.Deep.DeepCutAuto
import Derived.Test.YtcandidgaegghaaGreatDoorRow
import Derived.Deep.Slices
section
namespace Go.Proofs.YtcandidgaegghaaGreatDoor
open Go Go.RowKit Ly
set_option linter.unusedSimpArgs false
set_option linter.unusedVariables false
set_option maxHeartbeats 800000
theorem in_c (c lo hi : Int) (w : World) : Calls Tryz.prog 278 #[.int .u8 c, .int .u8 lo, .int .u8 hi] w fun e w' => e = .returned (.bool (decide (lo ≤ c) && decide (c ≤ hi))) ∧ w = w' := by
  by_cases h1 : lo ≤ c
  · by_cases h2 : c ≤ hi
    all_goals
      go_enter Tryz.func278, Tryz.ntmps278
      go_wp2_with fail
      go_ret
      refine ⟨?_, rfl⟩
      first | rfl | (simp_all; done) | (simp_all; omega) | (simp_all; rfl)
  · go_enter Tryz.func278, Tryz.ntmps278
    go_wp2_with fail
    go_ret
    refine ⟨?_, rfl⟩
    first | rfl | (simp_all; done) | (simp_all; omega) | (simp_all; rfl)
end Go.Proofs.YtcandidgaegghaaGreatDoor
end
section
namespace Go.Proofs.YtcandidgaegghaaGreatDoor
open Go Go.RowKit Ly
set_option maxRecDepth 10000
set_option linter.unusedSimpArgs false
set_option linter.unusedVariables false
set_option maxHeartbeats 1600000
theorem beq_no {s t : Bs} (h : ¬ s = t) : (s == t) = false := by simpa using h
theorem in_r (c lo hi : Int) (w : World) : Calls Tryz.prog 278 #[.int .u8 c, .int .u8 lo, .int .u8 hi] w fun e w' => e = .returned (.bool (inR c lo hi)) ∧ w = w' := in_c c lo hi w
theorem letters_c (s : Bs) (d : Bool) (w : World) (hs : s.length ≤ 9223372036854775807) : Calls Tryz.prog 277 #[str s, .bool d] w fun e w' => e = .returned (.bool (lettersB d s)) ∧ w = w' := by
  obtain ⟨n, hn⟩ : ∃ n, s.length = n := ⟨_, rfl⟩
  rw [hn] at hs
  have HN := Lib.hid hn
  go_enter Tryz.func277, Tryz.ntmps277
  go_wp2_with fail
  go_loopw [5] (fun i wr => ∃ k : Nat, 1 ≤ k ∧ (k ≤ n ∨ k = 1) ∧ i = .int .i64 k ∧ w = wr ∧ Hid ((s.drop 1).all (lettersP d) = (s.drop k).all (lettersP d))) (fun i _ => n + 1 - (intOf i).toNat)
  case atStart => exact ⟨1, Nat.le_refl _, .inr rfl, rfl, rfl, rfl⟩
  case round =>
    obtain ⟨k, hk1, hk2, rfl, rfl, hs2⟩ := hrel
    by_cases hlt : k < n
    · have hlt' : k < s.length := by omega
      have S := Lib.hid (all_drop (lettersP d) hlt')
      have hu : Hid (lettersP d s[k] = (inR (s[k]).toNat 48 57 || (!d && (inR (s[k]).toNat 65 90 || inR (s[k]).toNat 97 122)))) := rfl
      have R5 : Hid (∀ lo hi W, Calls Tryz.prog 278 #[.int .u8 (s[k]'hlt').toNat, .int .u8 lo, .int .u8 hi] W fun e w'' => e = .returned (.bool (inR (s[k]'hlt').toNat lo hi)) ∧ W = w'') := fun lo hi W => in_r _ lo hi W
      generalize inR (s[k]'hlt').toNat = I at R5 hu
      generalize lettersP d s[k] = L at S hu
      obtain ⟨b1, h1⟩ : ∃ b, I 48 57 = b := ⟨_, rfl⟩
      obtain ⟨b2, h2⟩ : ∃ b, I 65 90 = b := ⟨_, rfl⟩
      obtain ⟨b3, h3⟩ : ∃ b, I 97 122 = b := ⟨_, rfl⟩
      have H1 := Lib.hid h1
      have H2 := Lib.hid h2
      have H3 := Lib.hid h3
      have hL : Hid (L = (b1 || (!d && (b2 || b3)))) := by rw [Hid, hu.out, h1, h2, h3]
      clear h1 h2 h3 hu
      subst hn
      have ex : ((b1 = true) ∨ (b1 = false ∧ d = false ∧ b2 = true) ∨ (b1 = false ∧ d = false ∧ b2 = false ∧ b3 = true)) ∨ ((b1 = false ∧ d = true) ∨ (b1 = false ∧ d = false ∧ b2 = false ∧ b3 = false)) := by
        cases b1 <;> cases d <;> cases b2 <;> cases b3 <;> simp
      rcases ex with ex | ex
      · rcases ex with rfl | ⟨rfl, rfl, rfl⟩ | ⟨rfl, rfl, rfl, rfl⟩
        all_goals
          go_wp2_with (go_at_call 278; refine (R5.out _ _ _).mono ?_; rintro e w1 ⟨rfl, rfl⟩; first | rw [show I 48 57 = _ from H1.out] | rw [show I 65 90 = _ from H2.out] | rw [show I 97 122 = _ from H3.out])
          go_roundw
          case rel => exact ⟨k + 1, by omega, by omega, by go_num, trivial, by rw [hs2.out, S.out, hL.out]; rfl⟩
          case measure => simp [intOf]; omega
      · rcases ex with ⟨rfl, rfl⟩ | ⟨rfl, rfl, rfl, rfl⟩
        all_goals
          go_wp2_with (go_at_call 278; refine (R5.out _ _ _).mono ?_; rintro e w1 ⟨rfl, rfl⟩; first | rw [show I 48 57 = _ from H1.out] | rw [show I 65 90 = _ from H2.out] | rw [show I 97 122 = _ from H3.out])
          go_ret
          refine ⟨ret_bool ?_, rfl⟩
          rw [lettersB, hs2.out, S.out, hL.out]; rfl
    · have hA : Hid ((s.drop 1).all (lettersP d) = true) := by rw [Hid, hs2.out, List.drop_of_length_le (by omega)]; rfl
      have hB : lettersB d s = (decide (1 ≤ s.length) && decide (s.length ≤ 16)) := by rw [lettersB, hA.out, Bool.true_and]
      rcases (show n = 0 ∨ (1 ≤ n ∧ n ≤ 16) ∨ 16 < n by omega) with h0 | ⟨h0, h1⟩ | h0
      · subst h0
        go_wp2_with fail
        go_ret
        exact ⟨ret_bool (by rw [hB, HN.out]; rfl), rfl⟩
      · have d1 : (0 : Int) < n := by omega
        go_wp2_with fail
        go_ret
        exact ⟨ret_bool (by rw [hB, HN.out, decide_eq_true h0, decide_eq_true h1, decide_eq_true (show (n : Int) ≤ 16 by omega)]; rfl), rfl⟩
      · have d1 : (0 : Int) < n := by omega
        have d2 : ¬ n ≤ 16 := by omega
        go_wp2_with fail
        go_ret
        exact ⟨ret_bool (by rw [hB, HN.out, decide_eq_false d2, Bool.and_false, decide_eq_false (show ¬ (n : Int) ≤ 16 by omega)]), rfl⟩
theorem Variable2_c (s : Bs) (w : World) (hs : s.length ≤ 9223372036854775807) : Calls Tryz.prog 214 #[str s] w fun e w' => e = .returned (.bool (varName s)) ∧ w = w' := by
  cases s with
  | nil =>
    have R : Hid (∀ W, Calls Tryz.prog 277 #[str [], .bool true] W fun e w' => e = .returned (.bool false) ∧ W = w') := fun W => letters_c [] true W hs
    go_enter Tryz.func214, Tryz.ntmps214
    go_wp2_with (go_at_call 277; refine (R.out _).mono ?_; rintro e w1 ⟨rfl, rfl⟩)
    go_ret
    exact ⟨rfl, rfl⟩
  | cons c r =>
    have R : Hid (∀ W, Calls Tryz.prog 277 #[str (c :: r), .bool true] W fun e w' => e = .returned (.bool (lettersB true (c :: r))) ∧ W = w') := fun W => letters_c (c :: r) true W hs
    have R5 : Hid (∀ W, Calls Tryz.prog 278 #[.int .u8 c.toNat, .int .u8 117, .int .u8 122] W fun e w'' => e = .returned (.bool (inR c.toNat 117 122)) ∧ W = w'') := fun W => in_r _ _ _ W
    have E := Lib.hid (varName_ref c r)
    generalize lettersB true (c :: r) = B at R E
    generalize inR c.toNat 117 122 = I at R5 E
    cases B <;> cases I
    all_goals
      go_enter Tryz.func214, Tryz.ntmps214
      go_wp2_with (first
        | (go_at_call 277; refine (R.out _).mono ?_; rintro e w1 ⟨rfl, rfl⟩)
        | (go_at_call 278; refine (R5.out _).mono ?_; rintro e w1 ⟨rfl, rfl⟩))
      go_ret
      exact ⟨ret_bool (by rw [E.out]; rfl), rfl⟩
theorem Predicate2_c (s : Bs) (w : World) (hs : s.length ≤ 9223372036854775807) : Calls Tryz.prog 216 #[str s] w fun e w' => e = .returned (.bool (predName s)) ∧ w = w' := by
  cases s with
  | nil =>
    have R : Hid (∀ W, Calls Tryz.prog 277 #[str [], .bool false] W fun e w' => e = .returned (.bool false) ∧ W = w') := fun W => letters_c [] false W hs
    go_enter Tryz.func216, Tryz.ntmps216
    go_wp2_with (go_at_call 277; refine (R.out _).mono ?_; rintro e w1 ⟨rfl, rfl⟩)
    go_ret
    exact ⟨rfl, rfl⟩
  | cons c r =>
    have R : Hid (∀ W, Calls Tryz.prog 277 #[str (c :: r), .bool false] W fun e w' => e = .returned (.bool (lettersB false (c :: r))) ∧ W = w') := fun W => letters_c (c :: r) false W hs
    have R5 : Hid (∀ W, Calls Tryz.prog 278 #[.int .u8 c.toNat, .int .u8 65, .int .u8 90] W fun e w'' => e = .returned (.bool (inR c.toNat 65 90)) ∧ W = w'') := fun W => in_r _ _ _ W
    have E := Lib.hid (predName_ref c r)
    generalize lettersB false (c :: r) = B at R E
    generalize inR c.toNat 65 90 = I at R5 E
    cases B <;> cases I
    all_goals
      go_enter Tryz.func216, Tryz.ntmps216
      go_wp2_with (first
        | (go_at_call 277; refine (R.out _).mono ?_; rintro e w1 ⟨rfl, rfl⟩)
        | (go_at_call 278; refine (R5.out _).mono ?_; rintro e w1 ⟨rfl, rfl⟩))
      go_ret
      exact ⟨ret_bool (by rw [E.out]; rfl), rfl⟩
theorem Function2_c (s : Bs) (w : World) (hs : s.length ≤ 9223372036854775807) : Calls Tryz.prog 215 #[str s] w fun e w' => e = .returned (.bool (funName s)) ∧ w = w' := by
  by_cases hr : s = wAll ∨ s = wSome ∨ s = wFalse ∨ s = wNext ∨ s = wAlways
  · rw [funName_reserved hr]
    rcases hr with rfl | rfl | rfl | rfl | rfl
    all_goals
      go_enter Tryz.func215, Tryz.ntmps215
      go_wp2_with fail
      go_ret
      exact ⟨rfl, rfl⟩
  · have e1 : (s == [97, 108, 108]) = false := beq_no fun h => hr (.inl h)
    have e2 : (s == [115, 111, 109, 101]) = false := beq_no fun h => hr (.inr (.inl h))
    have e3 : (s == [102, 97, 108, 115, 101]) = false := beq_no fun h => hr (.inr (.inr (.inl h)))
    have e4 : (s == [110, 101, 120, 116]) = false := beq_no fun h => hr (.inr (.inr (.inr (.inl h))))
    have e5 : (s == [97, 108, 119, 97, 121, 115]) = false := beq_no fun h => hr (.inr (.inr (.inr (.inr h))))
    have HR := Lib.hid hr
    clear hr
    cases s with
    | nil =>
      clear e1 e2 e3 e4 e5
      have R : Hid (∀ W, Calls Tryz.prog 277 #[str [], .bool false] W fun e w' => e = .returned (.bool false) ∧ W = w') := fun W => letters_c [] false W hs
      go_enter Tryz.func215, Tryz.ntmps215
      go_wp2_with (go_at_call 277; refine (R.out _).mono ?_; rintro e w1 ⟨rfl, rfl⟩)
      go_ret
      exact ⟨rfl, rfl⟩
    | cons c r =>
      have R : Hid (∀ W, Calls Tryz.prog 277 #[str (c :: r), .bool false] W fun e w' => e = .returned (.bool (lettersB false (c :: r))) ∧ W = w') := fun W => letters_c (c :: r) false W hs
      have R5 : Hid (∀ W, Calls Tryz.prog 278 #[.int .u8 c.toNat, .int .u8 97, .int .u8 116] W fun e w'' => e = .returned (.bool (inR c.toNat 97 116)) ∧ W = w'') := fun W => in_r _ _ _ W
      have E := Lib.hid (funName_ref c r HR.out)
      generalize lettersB false (c :: r) = B at R E
      generalize inR c.toNat 97 116 = I at R5 E
      cases B <;> cases I
      all_goals
        go_enter Tryz.func215, Tryz.ntmps215
        go_wp2_with (first
          | (go_at_call 277; refine (R.out _).mono ?_; rintro e w1 ⟨rfl, rfl⟩)
          | (go_at_call 278; refine (R5.out _).mono ?_; rintro e w1 ⟨rfl, rfl⟩))
        go_ret
        exact ⟨ret_bool (by rw [E.out]; rfl), rfl⟩
end Go.Proofs.YtcandidgaegghaaGreatDoor
end
section
namespace Ly
open Go Go.RowKit
mutual
/-- What the program's types bound: the operator is a byte, names fit into memory. -/
def Tm.sz : Tm → Prop
  | .mk _ n l => n.length ≤ maxLen ∧ tmsSz l
def tmsSz : List Tm → Prop
  | [] => True
  | t :: ts => t.sz ∧ tmsSz ts
end
mutual
def Fm.sz : Fm → Prop
  | .mk op n l sub => (0 ≤ op ∧ op < 256) ∧ n.length ≤ maxLen ∧ tmsSz l ∧ fmsSz sub
def fmsSz : List Fm → Prop
  | [] => True
  | f :: fs => f.sz ∧ fmsSz fs
end
theorem tmsSz_iff : ∀ l : List Tm, tmsSz l ↔ ∀ t ∈ l, t.sz
  | [] => by simp [tmsSz]
  | t :: ts => by simp [tmsSz, tmsSz_iff ts]
theorem fmsSz_iff : ∀ l : List Fm, fmsSz l ↔ ∀ t ∈ l, t.sz
  | [] => by simp [fmsSz]
  | t :: ts => by simp [fmsSz, fmsSz_iff ts]
end Ly
namespace Go.Proofs.YtcandidgaegghaaGreatDoor
open Go Go.ChangeShapes Go.WideShapes Go.ChangeAt Go.RowKit Ly
set_option maxRecDepth 10000
set_option linter.unusedSimpArgs false
set_option linter.unusedVariables false
section
variable {H : Type} {enc : TypeId × Value → H} {W : World}
/-- What lies in some cells, one behind the other. -/
def LieAt (W : World) (cs : List Value) (ds : List D) : Prop := ∀ (j : Nat) (d : D), ds[j]? = some d → ∃ u, cs[j]? = some u ∧ At W d u
theorem slice_of {α : Type} [Inhabited α] {k : Nat} {one : α → List D} {all : List α → List D} (hall : ∀ l, (all l).length = l.length * k) (hone : ∀ x, (one x).length = k)
    (hget : ∀ (l : List α) (i : Nat) (x : α), l[i]? = some x → ∀ j, j < k → (all l)[i * k + j]? = (one x)[j]?) {P : α → Prop} {t e : TypeId} {fuel : Nat} {cs : List Value} {y : DataW H × List MemPlace}
    (ht : Tryz.prog.underlying t = some (.slice e)) (hc : Tryz.prog.cellsOf e = k) (hk : 0 < k)
    (elem : ∀ n cs y, n < fuel → cs.length = k → DataW.trod enc Tryz.prog W 0 (fun _ => true) true n e cs = some y → ∃ x : α, P x ∧ LieAt W cs (one x))
    (h : DataW.trod enc Tryz.prog W 0 (fun _ => true) true fuel t cs = some y) : ∃ (l : List α) (a : Option Addr) (n c : Nat), cs = [.slice a n c] ∧ (∀ x ∈ l, P x) ∧ At W (.sl k l.length (all l)) (.slice a n c) := by
  rcases DataW.trod_slice ht h with ⟨rfl, -⟩ | ⟨ad, len, cap, elems, rest, n, rfl, rfl, -, -, hlc, hcm, hel, hx, -⟩
  · refine ⟨[], none, 0, 0, rfl, by simp, ?_⟩
    have : all [] = [] := List.eq_nil_of_length_eq_zero (by rw [hall]; simp)
    rw [this]
    exact At.sl_nil (Nat.zero_le _)
  · obtain ⟨f, hF⟩ := Go.Deep.choose_lt (α := α) (n := len) (p := fun i x => P x ∧ ∀ (j : Nat) (d : D), (one x)[j]? = some d → ∃ u, W.cell? (ad.add (i * k + j)) = some u ∧ At W d u) fun i hi => by
      have h1 := hx i hi
      rw [List.getElem?_eq_getElem (show i < elems.length by omega)] at h1
      obtain ⟨cs', h2, h3⟩ := Option.bind_eq_some_iff.1 h1
      obtain ⟨_, h4, h5⟩ := World.cells?_some h2
      rw [hc] at h4 h5
      obtain ⟨x, h6, h7⟩ := elem n cs' _ (Nat.lt_succ_self n) h4 h3
      refine ⟨x, h6, fun j d hd => ?_⟩
      obtain ⟨u, h8, h9⟩ := h7 j d hd
      have hj : j < k := by rw [← hone x]; exact (List.getElem?_eq_some_iff.1 hd).1
      have h10 := h5 j hj
      rw [h8, Go.Deep.add_add] at h10
      exact ⟨u, h10, h9⟩
    refine ⟨(List.range len).map f, _, _, _, rfl, ?_, ?_⟩
    · intro x hm
      obtain ⟨i, hi, rfl⟩ := List.mem_map.1 hm
      exact (hF i (List.mem_range.1 hi)).1
    · have hl : ((List.range len).map f).length = len := by simp
      rw [hl]
      rcases Nat.eq_zero_or_pos len with h0 | h0
      · subst h0
        have : all ((List.range 0).map f) = [] := List.eq_nil_of_length_eq_zero (by rw [hall]; simp)
        rw [this]
        exact At.sl_nil hcm
      · obtain ⟨ab, ao, spot⟩ := ad
        have hspot : spot = none := by
          obtain ⟨u, h1, _⟩ := (hF 0 h0).2 0 _ (List.getElem?_eq_getElem (show 0 < (one (f 0)).length by rw [hone]; exact hk))
          simpa [Addr.add] using World.cell?_spot h1
        subst hspot
        refine At.sl_mk (by rw [hall, hl]) hlc hcm fun j d hd => ?_
        have hj : j < len * k := by
          have := (List.getElem?_eq_some_iff.1 hd).1
          rwa [hall, hl] at this
        have hi : j / k < len := Nat.div_lt_of_lt_mul (by rwa [Nat.mul_comm])
        have hjk : j / k * k + j % k = j := by rw [Nat.mul_comm]; exact Nat.div_add_mod j k
        have h1 := hget ((List.range len).map f) (j / k) (f (j / k)) (by rw [List.getElem?_map, List.getElem?_range hi]; rfl) (j % k) (Nat.mod_lt _ hk)
        rw [hjk, hd] at h1
        obtain ⟨u, h2, h3⟩ := (hF _ hi).2 _ _ h1.symm
        rw [hjk, Addr.add_lit] at h2
        exact ⟨u, h2, h3⟩
theorem cells9 : Tryz.prog.cellsOf 9 = 1 := by kernel_rfl
theorem cells22 : Tryz.prog.cellsOf 22 = 1 := by kernel_rfl
theorem cells23 : Tryz.prog.cellsOf 23 = 1 := by kernel_rfl
theorem cells25 : Tryz.prog.cellsOf 25 = 4 := by kernel_rfl
theorem cells95 : Tryz.prog.cellsOf 95 = 3 := by kernel_rfl
theorem cell_of_one {cs : List Value} {i : Nat} {v : Value} (e : (cs.drop i).take 1 = [v]) : cs[i]? = some v := by
  have := congrArg (·[0]?) e
  simpa [List.getElem?_take, List.getElem?_drop] using this
theorem one_of_cell {cs : List Value} {i : Nat} (h : i < cs.length) : ∃ v, (cs.drop i).take 1 = [v] := by
  refine ⟨cs[i], ?_⟩
  rw [List.drop_eq_getElem_cons h]
  rfl
theorem str_trod {fuel : Nat} {cs : List Value} {y : DataW H × List MemPlace} (h : DataW.trod enc Tryz.prog W 0 (fun _ => true) true fuel 9 cs = some y) : ∃ s : Bs, cs = [str s] ∧ s.length ≤ maxLen := by
  obtain ⟨s, rfl, _, hs⟩ := DataW.trod_string Tryz.underlying9 h
  refine ⟨s.data.toList, ?_, ?_⟩
  · simp
  · simpa using hs
theorem tm_ds (v : Bool) (n : Bs) (l : List Tm) : (Tm.mk v n l).ds = [.val (.bool v), .val (str n), .sl 3 l.length (tmsDs l)] := by rw [Tm.ds]
theorem fm_ds (op : Int) (n : Bs) (l : List Tm) (s : List Fm) : (Fm.mk op n l s).ds = [.val (.int .u8 op), .val (str n), .sl 3 l.length (tmsDs l), .sl 4 s.length (fmsDs s)] := by rw [Fm.ds]
theorem tmsDs_len : ∀ l : List Tm, (tmsDs l).length = l.length * 3
  | [] => by simp [tmsDs]
  | t :: ts => by simp [tmsDs, tmsDs_len ts, Tm.ds_length]; omega
theorem fmsDs_len : ∀ l : List Fm, (fmsDs l).length = l.length * 4
  | [] => by simp [fmsDs]
  | t :: ts => by simp [fmsDs, fmsDs_len ts, Fm.ds_length]; omega
instance : Inhabited Tm := ⟨.mk false [] []⟩
instance : Inhabited Fm := ⟨.mk 0 [] [] []⟩
theorem tm_trod (fuel : Nat) : ∀ (cs : List Value) (y : DataW H × List MemPlace), DataW.trod enc Tryz.prog W 0 (fun _ => true) true fuel 95 cs = some y → ∃ t : Tm, t.sz ∧ LieAt W cs t.ds := by
  induction fuel using Nat.strongRecOn with
  | _ fuel ih =>
  intro cs y h
  obtain ⟨xs, n, rfl, -, hl, hxl, hall⟩ := DataW.trod_struct Tryz.underlying95 h
  have hx : ∀ i, i < 3 → ∃ z, xs[i]? = some z := fun i hi => ⟨_, List.getElem?_eq_getElem (show i < xs.length by rw [hxl]; exact hi)⟩
  obtain ⟨z0, g0⟩ := hx 0 (by omega)
  obtain ⟨z1, g1⟩ := hx 1 (by omega)
  obtain ⟨z2, g2⟩ := hx 2 (by omega)
  have h0 : DataW.trod enc Tryz.prog W 0 (fun _ => true) true n 4 ((cs.drop 0).take (Tryz.prog.cellsOf 4)) = _ := (hall 0 _ rfl).trans g0
  have h1 : DataW.trod enc Tryz.prog W 0 (fun _ => true) true n 9 ((cs.drop 1).take (Tryz.prog.cellsOf 9)) = _ := (hall 1 _ rfl).trans g1
  have h2 : DataW.trod enc Tryz.prog W 0 (fun _ => true) true n 22 ((cs.drop 2).take (Tryz.prog.cellsOf 22)) = _ := (hall 2 _ rfl).trans g2
  rw [cells4] at h0
  rw [cells9] at h1
  rw [cells22] at h2
  obtain ⟨b, e0, -⟩ := DataW.trod_bool Tryz.underlying4 h0
  obtain ⟨s, e1, hs⟩ := str_trod h1
  obtain ⟨l, a, m, c, e2, hP, hA⟩ := slice_of (k := 3) (one := Tm.ds) (all := tmsDs) (P := Tm.sz) tmsDs_len Tm.ds_length tmsDs_get Tryz.underlying22 cells95 (by decide) (fun n' cs' y' hn _ h' => ih n' (by omega) cs' y' h') h2
  refine ⟨.mk b s l, ⟨hs, (tmsSz_iff l).2 hP⟩, fun j d hd => ?_⟩
  rw [tm_ds] at hd
  rcases (show j = 0 ∨ j = 1 ∨ j = 2 ∨ 3 ≤ j by omega) with rfl | rfl | rfl | h3
  · cases hd; exact ⟨_, cell_of_one e0, rfl⟩
  · cases hd; exact ⟨_, cell_of_one e1, rfl⟩
  · cases hd; exact ⟨_, cell_of_one e2, hA⟩
  · rw [List.getElem?_eq_none (by simpa using h3)] at hd; cases hd
theorem tms_trod {fuel : Nat} {cs : List Value} {y : DataW H × List MemPlace} (h : DataW.trod enc Tryz.prog W 0 (fun _ => true) true fuel 22 cs = some y) : ∃ (l : List Tm) (a : Option Addr) (n c : Nat), cs = [.slice a n c] ∧ tmsSz l ∧ TmsAt W l (.slice a n c) := by
  obtain ⟨l, a, m, c, e2, hP, hA⟩ := slice_of (k := 3) (one := Tm.ds) (all := tmsDs) (P := Tm.sz) tmsDs_len Tm.ds_length tmsDs_get Tryz.underlying22 cells95 (by decide) (fun n' cs' y' hn _ h' => tm_trod n' cs' y' h') h
  exact ⟨l, a, m, c, e2, (tmsSz_iff l).2 hP, hA⟩
theorem fm_trod (fuel : Nat) : ∀ (cs : List Value) (y : DataW H × List MemPlace), DataW.trod enc Tryz.prog W 0 (fun _ => true) true fuel 25 cs = some y → ∃ t : Fm, t.sz ∧ LieAt W cs t.ds := by
  induction fuel using Nat.strongRecOn with
  | _ fuel ih =>
  intro cs y h
  obtain ⟨xs, n, rfl, -, hl, hxl, hall⟩ := DataW.trod_struct Tryz.underlying25 h
  have hx : ∀ i, i < 4 → ∃ z, xs[i]? = some z := fun i hi => ⟨_, List.getElem?_eq_getElem (show i < xs.length by rw [hxl]; exact hi)⟩
  obtain ⟨z0, g0⟩ := hx 0 (by omega)
  obtain ⟨z1, g1⟩ := hx 1 (by omega)
  obtain ⟨z2, g2⟩ := hx 2 (by omega)
  obtain ⟨z3, g3⟩ := hx 3 (by omega)
  have h0 : DataW.trod enc Tryz.prog W 0 (fun _ => true) true n 5 ((cs.drop 0).take (Tryz.prog.cellsOf 5)) = _ := (hall 0 _ rfl).trans g0
  have h1 : DataW.trod enc Tryz.prog W 0 (fun _ => true) true n 9 ((cs.drop 1).take (Tryz.prog.cellsOf 9)) = _ := (hall 1 _ rfl).trans g1
  have h2 : DataW.trod enc Tryz.prog W 0 (fun _ => true) true n 22 ((cs.drop 2).take (Tryz.prog.cellsOf 22)) = _ := (hall 2 _ rfl).trans g2
  have h3 : DataW.trod enc Tryz.prog W 0 (fun _ => true) true n 23 ((cs.drop 3).take (Tryz.prog.cellsOf 23)) = _ := (hall 3 _ rfl).trans g3
  rw [cells5] at h0
  rw [cells9] at h1
  rw [cells22] at h2
  rw [cells23] at h3
  obtain ⟨op, e0, -, hw⟩ := DataW.trod_int Tryz.underlying5 h0
  have hb := bounds_u8 hw
  obtain ⟨s, e1, hs⟩ := str_trod h1
  obtain ⟨l, a, m, c, e2, hP, hA⟩ := tms_trod h2
  obtain ⟨l', a', m', c', e3, hP', hA'⟩ := slice_of (k := 4) (one := Fm.ds) (all := fmsDs) (P := Fm.sz) fmsDs_len Fm.ds_length fmsDs_get Tryz.underlying23 cells25 (by decide) (fun n' cs' y' hn _ h' => ih n' (by omega) cs' y' h') h3
  refine ⟨.mk op s l l', ⟨⟨hb.1, by omega⟩, hs, hP, (fmsSz_iff l').2 hP'⟩, fun j d hd => ?_⟩
  rw [fm_ds] at hd
  rcases (show j = 0 ∨ j = 1 ∨ j = 2 ∨ j = 3 ∨ 4 ≤ j by omega) with rfl | rfl | rfl | rfl | h3
  · cases hd; exact ⟨_, cell_of_one e0, rfl⟩
  · cases hd; exact ⟨_, cell_of_one e1, rfl⟩
  · cases hd; exact ⟨_, cell_of_one e2, hA⟩
  · cases hd; exact ⟨_, cell_of_one e3, hA'⟩
  · rw [List.getElem?_eq_none (by simpa using h3)] at hd; cases hd
theorem fms_trod {fuel : Nat} {cs : List Value} {y : DataW H × List MemPlace} (h : DataW.trod enc Tryz.prog W 0 (fun _ => true) true fuel 23 cs = some y) : ∃ (l : List Fm) (a : Option Addr) (n c : Nat), cs = [.slice a n c] ∧ fmsSz l ∧ FmsAt W l (.slice a n c) := by
  obtain ⟨l, a, m, c, e2, hP, hA⟩ := slice_of (k := 4) (one := Fm.ds) (all := fmsDs) (P := Fm.sz) fmsDs_len Fm.ds_length fmsDs_get Tryz.underlying23 cells25 (by decide) (fun n' cs' y' hn _ h' => fm_trod n' cs' y' h') h
  exact ⟨l, a, m, c, e2, (fmsSz_iff l).2 hP, hA⟩
/-- A formula that came in by value. -/
theorem fm_of {base : Nat} {v : Value} {d : DataW H} {p : List MemPlace} (hval : Value.okWide Tryz.prog W .any base 25 v) (h : DataW.Trod enc Tryz.prog W 0 (fun _ => true) true 25 v d p) : ∃ F : Fm, F.sz ∧ FmVal W F v := by
  obtain ⟨cs, rfl, hsz⟩ := okWide_struct Tryz.underlying25 hval
  rw [cells25] at hsz
  obtain ⟨fuel, hf⟩ := h
  obtain ⟨F, hs, hL⟩ := fm_trod fuel _ _ hf
  obtain ⟨op, n, l, s⟩ := F
  rw [fm_ds] at hL
  obtain ⟨u0, c0, e0⟩ := hL 0 _ rfl
  obtain ⟨u1, c1, e1⟩ := hL 1 _ rfl
  obtain ⟨u2, c2, e2⟩ := hL 2 _ rfl
  obtain ⟨u3, c3, e3⟩ := hL 3 _ rfl
  simp only [Value.cells, Array.getElem?_toList] at c0 c1 c2 c3
  have hcs : cs = #[u0, u1, u2, u3] := by
    apply Array.ext
    · simp [hsz]
    · intro i h1 h2
      rcases (show i = 0 ∨ i = 1 ∨ i = 2 ∨ i = 3 by omega) with rfl | rfl | rfl | rfl
      · simpa using (Array.getElem?_eq_some_iff.1 c0).2
      · simpa using (Array.getElem?_eq_some_iff.1 c1).2
      · simpa using (Array.getElem?_eq_some_iff.1 c2).2
      · simpa using (Array.getElem?_eq_some_iff.1 c3).2
  subst hcs
  obtain rfl : u0 = .int .u8 op := e0
  obtain rfl : u1 = str n := e1
  obtain ⟨a, k, rfl, _⟩ := id e2
  obtain ⟨b, m, rfl, _⟩ := id e3
  exact ⟨.mk op n l s, hs, a, _, k, b, _, m, rfl, e2, e3⟩
/-- A text that came in. -/
theorem text_of {base : Nat} {v : Value} {d : DataW H} {p : List MemPlace} (hval : Value.okWide Tryz.prog W .any base 9 v) (h : DataW.Trod enc Tryz.prog W 0 (fun _ => true) true 9 v d p) : ∃ s : Bs, v = str s ∧ s.length ≤ maxLen := by
  obtain ⟨s, rfl⟩ := okWide_string Tryz.underlying9 hval
  obtain ⟨fuel, hf⟩ := h
  obtain ⟨s', e, hs⟩ := str_trod hf
  simp only [Value.cells] at e
  exact ⟨s', by simpa using e, hs⟩
end
end Go.Proofs.YtcandidgaegghaaGreatDoor
end
