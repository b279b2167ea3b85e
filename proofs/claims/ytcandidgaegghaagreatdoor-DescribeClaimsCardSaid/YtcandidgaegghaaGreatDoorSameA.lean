/- Contracts of lyceumkit.SameInts, SameMarks, SameTexts, SameTerm(s), SameForm(s), SameProof(s), SameSeq: they tell equality, and write nothing that was there. Printed by gen/same.py. -/
import Derived.Deep.RegionWith
import Derived.Lib.Hide
import Derived.Test.YtcandidgaegghaaGreatDoorMem
import Derived.Test.YtcandidgaegghaaGreatDoorProg
namespace Go.Proofs.YtcandidgaegghaaGreatDoor
open Go Go.RowKit Ly

theorem beq_drop {α : Type} [BEq α] [LawfulBEq α] {l m : List α} {j : Nat} {T U : α} (h : l[j]? = some T) (h' : m[j]? = some U) : (l.drop j == m.drop j) = ((T == U) && (l.drop (j+1) == m.drop (j+1))) := by
  obtain ⟨h1, rfl⟩ := List.getElem?_eq_some_iff.1 h
  obtain ⟨h2, rfl⟩ := List.getElem?_eq_some_iff.1 h'
  rw [List.drop_eq_getElem_cons h1, List.drop_eq_getElem_cons h2, List.cons_beq_cons]
theorem tmsSame_drop {l m : List Tm} {j : Nat} {T U : Tm} (h : l[j]? = some T) (h' : m[j]? = some U) : tmsSame (l.drop j) (m.drop j) = (T.same U && tmsSame (l.drop (j+1)) (m.drop (j+1))) := by
  obtain ⟨h1, rfl⟩ := List.getElem?_eq_some_iff.1 h
  obtain ⟨h2, rfl⟩ := List.getElem?_eq_some_iff.1 h'
  rw [List.drop_eq_getElem_cons h1, List.drop_eq_getElem_cons h2, tmsSame]
theorem fmsSame_drop {l m : List Fm} {j : Nat} {T U : Fm} (h : l[j]? = some T) (h' : m[j]? = some U) : fmsSame (l.drop j) (m.drop j) = (T.same U && fmsSame (l.drop (j+1)) (m.drop (j+1))) := by
  obtain ⟨h1, rfl⟩ := List.getElem?_eq_some_iff.1 h
  obtain ⟨h2, rfl⟩ := List.getElem?_eq_some_iff.1 h'
  rw [List.drop_eq_getElem_cons h1, List.drop_eq_getElem_cons h2, fmsSame]
theorem pfsSame_drop {l m : List Pf} {j : Nat} {T U : Pf} (h : l[j]? = some T) (h' : m[j]? = some U) : pfsSame (l.drop j) (m.drop j) = (T.same U && pfsSame (l.drop (j+1)) (m.drop (j+1))) := by
  obtain ⟨h1, rfl⟩ := List.getElem?_eq_some_iff.1 h
  obtain ⟨h2, rfl⟩ := List.getElem?_eq_some_iff.1 h'
  rw [List.drop_eq_getElem_cons h1, List.drop_eq_getElem_cons h2, pfsSame]
theorem beq_len {α : Type} [BEq α] [LawfulBEq α] {l m : List α} (h : l.length ≠ m.length) : (l == m) = false := by
  rw [beq_eq_false_iff_ne]; intro e; exact h (by rw [e])

/-- The contract of a comparison of two lists, as a predicate of the first one. -/
def SameC {α : Type} (f : FuncId) (A : World → List α → Value → Prop) (s : List α → List α → Bool) (l : List α) : Prop :=
  ∀ (m : List α) (a a' : Option Addr) (k c k' c' : Nat) (w : World), A w l (.slice a k c) → A w m (.slice a' k' c') →
    Calls Tryz.prog f #[.slice a k c, .slice a' k' c'] w fun e w' => e = .returned (.bool (s l m)) ∧ Below w.heap.size w w'
/-- .. and of two values. -/
def SameV {α : Type} (f : FuncId) (A : World → α → Value → Prop) (s : α → α → Bool) (t : α) : Prop :=
  ∀ (u : α) (x y : Value) (w : World), A w t x → A w u y → Calls Tryz.prog f #[x, y] w fun e w' => e = .returned (.bool (s t u)) ∧ Below w.heap.size w w'

set_option maxHeartbeats 800000 in
theorem SameInts_step (l : List Int) : SameC 152 IntsAt (· == ·) l := by
  intro m a a' k c k' c' w ha hb
  have hla := ha.len
  have hlb := hb.len
  by_cases hkk : k = k'
  · subst hkk
    have hlen : k ≤ 9223372036854775807 := by have := le63 hla.2.2; omega
    have L1 := Lib.hid hla.1; have L2 := Lib.hid hlb.1
    clear hla hlb
    have HA := Lib.hid ha; clear ha
    have HB := Lib.hid hb; clear hb
    go_enter Tryz.func152, Tryz.ntmps152
    go_wp2_with fail
    go_loopw [5] (fun i wr => ∃ j : Nat, j ≤ k ∧ i = .int .i64 j ∧ Below w.heap.size w wr ∧ Hid ((· == ·) l m = (· == ·) (l.drop j) (m.drop j))) (fun i _ => k - (intOf i).toNat)
    case atStart => exact ⟨0, Nat.zero_le _, rfl, Below.refl _ _, rfl⟩
    case round =>
      obtain ⟨j, hj, rfl, hbl, hs⟩ := hrel
      by_cases hlt : j < k
      · obtain ⟨T, hT⟩ := get_of_lt (l := l) (j := j) (by rw [← L1.out]; exact hlt)
        obtain ⟨U, hU⟩ := get_of_lt (l := m) (j := j) (by rw [← L2.out]; exact hlt)
        obtain ⟨b, off, rfl, hc⟩ := HA.out.get (ne_of_get hT)
        obtain ⟨b', off', rfl, hc'⟩ := HB.out.get (ne_of_get hU)
        have hK := keeps_of_below hbl
        have hbd := keeps_of_below hbl.drew
        have S := Lib.hid (beq_drop hT hU)
        have c0 := hK _ _ (hc j _ hT)
        have d0 := hK _ _ (hc' j _ hU)
        clear hc hc' hT hU hK hbd
        by_cases hTU : T = U
        · subst hTU
          go_wp2_with fail
          go_region_with (fail)
          all_goals
            go_wp2_with fail
            go_roundw
            case rel => exact ⟨j + 1, by omega, by go_num, hbl.drew, by have q := hs.out.trans S.out; simp only [beq_self_eq_true, Bool.true_and] at q; exact q⟩
            case measure => simp [intOf]; omega
        · have t1 : (T == U) = false := by simpa using hTU
          have t2 : (T != U) = true := by simpa using hTU
          go_wp2_with fail
          go_region_with (fail)
          all_goals
            go_wp2_with fail
            go_ret
            exact ⟨by rw [hs.out, S.out, t1]; rfl, hbl.drew⟩
      · go_wp2_with fail
        go_ret
        exact ⟨by rw [hs.out, List.drop_of_length_le (by rw [← L1.out]; omega), List.drop_of_length_le (by rw [← L2.out]; omega)]; rfl, hbl⟩
  · have hne : l.length ≠ m.length := by rw [← hla.1, ← hlb.1]; exact hkk
    have S := Lib.hid (beq_len hne)
    have t1 : ((k : Int) == (k' : Int)) = false := beq_eq_false_iff_ne.2 (by omega)
    have t2 : ((k : Int) != (k' : Int)) = true := by rw [bne_iff_ne]; omega
    clear hla hlb ha hb hne
    go_enter Tryz.func152, Tryz.ntmps152
    go_wp2_with fail
    go_ret
    exact ⟨by rw [S.out]; rfl, Below.refl _ _⟩

set_option maxHeartbeats 800000 in
theorem SameTexts_step (l : List Bs) : SameC 19 StrsAt (· == ·) l := by
  intro m a a' k c k' c' w ha hb
  have hla := ha.len
  have hlb := hb.len
  by_cases hkk : k = k'
  · subst hkk
    have hlen : k ≤ 9223372036854775807 := by have := le63 hla.2.2; omega
    have L1 := Lib.hid hla.1; have L2 := Lib.hid hlb.1
    clear hla hlb
    have HA := Lib.hid ha; clear ha
    have HB := Lib.hid hb; clear hb
    go_enter Tryz.func19, Tryz.ntmps19
    go_wp2_with fail
    go_loopw [5] (fun i wr => ∃ j : Nat, j ≤ k ∧ i = .int .i64 j ∧ Below w.heap.size w wr ∧ Hid ((· == ·) l m = (· == ·) (l.drop j) (m.drop j))) (fun i _ => k - (intOf i).toNat)
    case atStart => exact ⟨0, Nat.zero_le _, rfl, Below.refl _ _, rfl⟩
    case round =>
      obtain ⟨j, hj, rfl, hbl, hs⟩ := hrel
      by_cases hlt : j < k
      · obtain ⟨T, hT⟩ := get_of_lt (l := l) (j := j) (by rw [← L1.out]; exact hlt)
        obtain ⟨U, hU⟩ := get_of_lt (l := m) (j := j) (by rw [← L2.out]; exact hlt)
        obtain ⟨b, off, rfl, hc⟩ := HA.out.get (ne_of_get hT)
        obtain ⟨b', off', rfl, hc'⟩ := HB.out.get (ne_of_get hU)
        have hK := keeps_of_below hbl
        have hbd := keeps_of_below hbl.drew
        have S := Lib.hid (beq_drop hT hU)
        have c0 := hK _ _ (hc j _ hT)
        have d0 := hK _ _ (hc' j _ hU)
        clear hc hc' hT hU hK hbd
        by_cases hTU : T = U
        · subst hTU
          go_wp2_with fail
          go_region_with (fail)
          all_goals
            go_wp2_with fail
            go_roundw
            case rel => exact ⟨j + 1, by omega, by go_num, hbl.drew, by have q := hs.out.trans S.out; simp only [beq_self_eq_true, Bool.true_and] at q; exact q⟩
            case measure => simp [intOf]; omega
        · have t1 : (T == U) = false := by simpa using hTU
          have t2 : (T != U) = true := by simpa using hTU
          go_wp2_with fail
          go_region_with (fail)
          all_goals
            go_wp2_with fail
            go_ret
            exact ⟨by rw [hs.out, S.out, t1]; rfl, hbl.drew⟩
      · go_wp2_with fail
        go_ret
        exact ⟨by rw [hs.out, List.drop_of_length_le (by rw [← L1.out]; omega), List.drop_of_length_le (by rw [← L2.out]; omega)]; rfl, hbl⟩
  · have hne : l.length ≠ m.length := by rw [← hla.1, ← hlb.1]; exact hkk
    have S := Lib.hid (beq_len hne)
    have t1 : ((k : Int) == (k' : Int)) = false := beq_eq_false_iff_ne.2 (by omega)
    have t2 : ((k : Int) != (k' : Int)) = true := by rw [bne_iff_ne]; omega
    clear hla hlb ha hb hne
    go_enter Tryz.func19, Tryz.ntmps19
    go_wp2_with fail
    go_ret
    exact ⟨by rw [S.out]; rfl, Below.refl _ _⟩

set_option maxHeartbeats 800000 in
theorem SameMarks_step (l : List (List Int)) : SameC 92 MarksAt (· == ·) l := by
  intro m a a' k c k' c' w ha hb
  have hla := ha.len
  have hlb := hb.len
  by_cases hkk : k = k'
  · subst hkk
    have hlen : k ≤ 9223372036854775807 := by have := le63 hla.2.2; omega
    have L1 := Lib.hid hla.1; have L2 := Lib.hid hlb.1
    clear hla hlb
    have HA := Lib.hid ha; clear ha
    have HB := Lib.hid hb; clear hb
    go_enter Tryz.func92, Tryz.ntmps92
    go_wp2_with fail
    go_loopw [5] (fun i wr => ∃ j : Nat, j ≤ k ∧ i = .int .i64 j ∧ Below w.heap.size w wr ∧ Hid ((· == ·) l m = (· == ·) (l.drop j) (m.drop j))) (fun i _ => k - (intOf i).toNat)
    case atStart => exact ⟨0, Nat.zero_le _, rfl, Below.refl _ _, rfl⟩
    case round =>
      obtain ⟨j, hj, rfl, hbl, hs⟩ := hrel
      by_cases hlt : j < k
      · obtain ⟨T, hT⟩ := get_of_lt (l := l) (j := j) (by rw [← L1.out]; exact hlt)
        obtain ⟨U, hU⟩ := get_of_lt (l := m) (j := j) (by rw [← L2.out]; exact hlt)
        obtain ⟨b, off, rfl, hc⟩ := HA.out.get (ne_of_get hT)
        obtain ⟨b', off', rfl, hc'⟩ := HB.out.get (ne_of_get hU)
        have hK := keeps_of_below hbl
        have hbd := keeps_of_below hbl.drew
        have S := Lib.hid (beq_drop hT hU)
        obtain ⟨x0, x1, x2, hx⟩ := hc j _ hT
        obtain ⟨y0, y1, y2, hy⟩ := hc' j _ hU
        have c0 := hK _ _ hx.1
        have d0 := hK _ _ hy.1
        have X := Lib.hid hx; have Y := Lib.hid hy
        have HM := Lib.hid (List.mem_of_getElem? hT)
        clear hc hc' hx hy hT hU hK
        generalize hb : (T == U) = B at S
        have HBB := Lib.hid hb
        clear hb
        go_wp2_with fail
        go_region_with (go_at_call 152; refine (SameInts_step T U _ _ _ _ _ _ _ (by exact X.out.2.keep hbd) (by exact Y.out.2.keep hbd)).mono ?_; rintro e w1 ⟨he, hb1⟩; obtain rfl : e = .returned (.bool B) := by rw [he, ← HBB.out])
        all_goals
          cases B
          · go_wp2_with fail
            go_ret
            exact ⟨by rw [hs.out, S.out]; rfl, (hbl.drew).trans (hb1.mono (by have := hbl.size; simpa using this))⟩
          · go_wp2_with fail
            go_roundw
            case rel => exact ⟨j + 1, by omega, by go_num, (hbl.drew).trans (hb1.mono (by have := hbl.size; simpa using this)), by have q := hs.out.trans S.out; simp only [Bool.true_and] at q; exact q⟩
            case measure => simp [intOf]; omega
      · go_wp2_with fail
        go_ret
        exact ⟨by rw [hs.out, List.drop_of_length_le (by rw [← L1.out]; omega), List.drop_of_length_le (by rw [← L2.out]; omega)]; rfl, hbl⟩
  · have hne : l.length ≠ m.length := by rw [← hla.1, ← hlb.1]; exact hkk
    have S := Lib.hid (beq_len hne)
    have t1 : ((k : Int) == (k' : Int)) = false := beq_eq_false_iff_ne.2 (by omega)
    have t2 : ((k : Int) != (k' : Int)) = true := by rw [bne_iff_ne]; omega
    clear hla hlb ha hb hne
    go_enter Tryz.func92, Tryz.ntmps92
    go_wp2_with fail
    go_ret
    exact ⟨by rw [S.out]; rfl, Below.refl _ _⟩

set_option maxHeartbeats 800000 in
theorem SameTerms_step (l : List Tm) (hh : ∀ t ∈ l, SameV 200 TmVal Tm.same t) : SameC 118 TmsAt tmsSame l := by
  intro m a a' k c k' c' w ha hb
  have hla := ha.len
  have hlb := hb.len
  by_cases hkk : k = k'
  · subst hkk
    have hlen : k ≤ 9223372036854775807 := by have := le63 hla.2.2; omega
    have L1 := Lib.hid hla.1; have L2 := Lib.hid hlb.1
    clear hla hlb
    have H := Lib.hid hh; clear hh
    have HA := Lib.hid ha; clear ha
    have HB := Lib.hid hb; clear hb
    go_enter Tryz.func118, Tryz.ntmps118
    go_wp2_with fail
    go_loopw [5] (fun i wr => ∃ j : Nat, j ≤ k ∧ i = .int .i64 j ∧ Below w.heap.size w wr ∧ Hid (tmsSame l m = tmsSame (l.drop j) (m.drop j))) (fun i _ => k - (intOf i).toNat)
    case atStart => exact ⟨0, Nat.zero_le _, rfl, Below.refl _ _, rfl⟩
    case round =>
      obtain ⟨j, hj, rfl, hbl, hs⟩ := hrel
      by_cases hlt : j < k
      · obtain ⟨T, hT⟩ := get_of_lt (l := l) (j := j) (by rw [← L1.out]; exact hlt)
        obtain ⟨U, hU⟩ := get_of_lt (l := m) (j := j) (by rw [← L2.out]; exact hlt)
        obtain ⟨b, off, rfl, hc⟩ := HA.out.get (ne_of_get hT)
        obtain ⟨b', off', rfl, hc'⟩ := HB.out.get (ne_of_get hU)
        have hK := keeps_of_below hbl
        have hbd := keeps_of_below hbl.drew
        have S := Lib.hid (tmsSame_drop hT hU)
        obtain ⟨x0, x1, x2, hx⟩ := hc j _ hT
        obtain ⟨y0, y1, y2, hy⟩ := hc' j _ hU
        have c0 := hK _ _ hx.c0
        have c1 := hK _ _ hx.c1
        have c2 := hK _ _ hx.c2
        have d0 := hK _ _ hy.c0
        have d1 := hK _ _ hy.c1
        have d2 := hK _ _ hy.c2
        have X := Lib.hid hx; have Y := Lib.hid hy
        have HM := Lib.hid (List.mem_of_getElem? hT)
        clear hc hc' hx hy hT hU hK
        generalize hb : T.same U = B at S
        have HBB := Lib.hid hb
        clear hb
        go_wp2_with fail
        go_region_with (go_at_call 200; refine (H.out T HM.out U _ _ _ (by exact ⟨_, _, _, rfl, X.out.at_.keep hbd⟩) (by exact ⟨_, _, _, rfl, Y.out.at_.keep hbd⟩)).mono ?_; rintro e w1 ⟨he, hb1⟩; obtain rfl : e = .returned (.bool B) := by rw [he, ← HBB.out])
        all_goals
          cases B
          · go_wp2_with fail
            go_ret
            exact ⟨by rw [hs.out, S.out]; rfl, (hbl.drew).trans (hb1.mono (by have := hbl.size; simpa using this))⟩
          · go_wp2_with fail
            go_roundw
            case rel => exact ⟨j + 1, by omega, by go_num, (hbl.drew).trans (hb1.mono (by have := hbl.size; simpa using this)), by have q := hs.out.trans S.out; simp only [Bool.true_and] at q; exact q⟩
            case measure => simp [intOf]; omega
      · go_wp2_with fail
        go_ret
        exact ⟨by rw [hs.out, List.drop_of_length_le (by rw [← L1.out]; omega), List.drop_of_length_le (by rw [← L2.out]; omega)]; rfl, hbl⟩
  · have hne : l.length ≠ m.length := by rw [← hla.1, ← hlb.1]; exact hkk
    have S := Lib.hid (tmsSame_len hne)
    have t1 : ((k : Int) == (k' : Int)) = false := beq_eq_false_iff_ne.2 (by omega)
    have t2 : ((k : Int) != (k' : Int)) = true := by rw [bne_iff_ne]; omega
    clear hla hlb ha hb hne
    go_enter Tryz.func118, Tryz.ntmps118
    go_wp2_with fail
    go_ret
    exact ⟨by rw [S.out]; rfl, Below.refl _ _⟩

set_option maxHeartbeats 800000 in
theorem SameForms_step (l : List Fm) (hh : ∀ t ∈ l, SameV 44 FmVal Fm.same t) : SameC 90 FmsAt fmsSame l := by
  intro m a a' k c k' c' w ha hb
  have hla := ha.len
  have hlb := hb.len
  by_cases hkk : k = k'
  · subst hkk
    have hlen : k ≤ 9223372036854775807 := by have := le63 hla.2.2; omega
    have L1 := Lib.hid hla.1; have L2 := Lib.hid hlb.1
    clear hla hlb
    have H := Lib.hid hh; clear hh
    have HA := Lib.hid ha; clear ha
    have HB := Lib.hid hb; clear hb
    go_enter Tryz.func90, Tryz.ntmps90
    go_wp2_with fail
    go_loopw [5] (fun i wr => ∃ j : Nat, j ≤ k ∧ i = .int .i64 j ∧ Below w.heap.size w wr ∧ Hid (fmsSame l m = fmsSame (l.drop j) (m.drop j))) (fun i _ => k - (intOf i).toNat)
    case atStart => exact ⟨0, Nat.zero_le _, rfl, Below.refl _ _, rfl⟩
    case round =>
      obtain ⟨j, hj, rfl, hbl, hs⟩ := hrel
      by_cases hlt : j < k
      · obtain ⟨T, hT⟩ := get_of_lt (l := l) (j := j) (by rw [← L1.out]; exact hlt)
        obtain ⟨U, hU⟩ := get_of_lt (l := m) (j := j) (by rw [← L2.out]; exact hlt)
        obtain ⟨b, off, rfl, hc⟩ := HA.out.get (ne_of_get hT)
        obtain ⟨b', off', rfl, hc'⟩ := HB.out.get (ne_of_get hU)
        have hK := keeps_of_below hbl
        have hbd := keeps_of_below hbl.drew
        have S := Lib.hid (fmsSame_drop hT hU)
        obtain ⟨x0, x1, x2, x3, x4, x5, hx⟩ := hc j _ hT
        obtain ⟨y0, y1, y2, y3, y4, y5, hy⟩ := hc' j _ hU
        have c0 := hK _ _ hx.c0
        have c1 := hK _ _ hx.c1
        have c2 := hK _ _ hx.c2
        have c3 := hK _ _ hx.c3
        have d0 := hK _ _ hy.c0
        have d1 := hK _ _ hy.c1
        have d2 := hK _ _ hy.c2
        have d3 := hK _ _ hy.c3
        have X := Lib.hid hx; have Y := Lib.hid hy
        have HM := Lib.hid (List.mem_of_getElem? hT)
        clear hc hc' hx hy hT hU hK
        generalize hb : T.same U = B at S
        have HBB := Lib.hid hb
        clear hb
        go_wp2_with fail
        go_region_with (go_at_call 44; refine (H.out T HM.out U _ _ _ (by exact ⟨_, _, _, _, _, _, rfl, X.out.at_.keep hbd, X.out.at'.keep hbd⟩) (by exact ⟨_, _, _, _, _, _, rfl, Y.out.at_.keep hbd, Y.out.at'.keep hbd⟩)).mono ?_; rintro e w1 ⟨he, hb1⟩; obtain rfl : e = .returned (.bool B) := by rw [he, ← HBB.out])
        all_goals
          cases B
          · go_wp2_with fail
            go_ret
            exact ⟨by rw [hs.out, S.out]; rfl, (hbl.drew).trans (hb1.mono (by have := hbl.size; simpa using this))⟩
          · go_wp2_with fail
            go_roundw
            case rel => exact ⟨j + 1, by omega, by go_num, (hbl.drew).trans (hb1.mono (by have := hbl.size; simpa using this)), by have q := hs.out.trans S.out; simp only [Bool.true_and] at q; exact q⟩
            case measure => simp [intOf]; omega
      · go_wp2_with fail
        go_ret
        exact ⟨by rw [hs.out, List.drop_of_length_le (by rw [← L1.out]; omega), List.drop_of_length_le (by rw [← L2.out]; omega)]; rfl, hbl⟩
  · have hne : l.length ≠ m.length := by rw [← hla.1, ← hlb.1]; exact hkk
    have S := Lib.hid (fmsSame_len hne)
    have t1 : ((k : Int) == (k' : Int)) = false := beq_eq_false_iff_ne.2 (by omega)
    have t2 : ((k : Int) != (k' : Int)) = true := by rw [bne_iff_ne]; omega
    clear hla hlb ha hb hne
    go_enter Tryz.func90, Tryz.ntmps90
    go_wp2_with fail
    go_ret
    exact ⟨by rw [S.out]; rfl, Below.refl _ _⟩

set_option maxHeartbeats 800000 in
theorem SameProofs_step (l : List Pf) (hh : ∀ t ∈ l, SameV 27 PfVal Pf.same t) : SameC 91 PfsAt pfsSame l := by
  intro m a a' k c k' c' w ha hb
  have hla := ha.len
  have hlb := hb.len
  by_cases hkk : k = k'
  · subst hkk
    have hlen : k ≤ 9223372036854775807 := by have := le63 hla.2.2; omega
    have L1 := Lib.hid hla.1; have L2 := Lib.hid hlb.1
    clear hla hlb
    have H := Lib.hid hh; clear hh
    have HA := Lib.hid ha; clear ha
    have HB := Lib.hid hb; clear hb
    go_enter Tryz.func91, Tryz.ntmps91
    go_wp2_with fail
    go_loopw [5] (fun i wr => ∃ j : Nat, j ≤ k ∧ i = .int .i64 j ∧ Below w.heap.size w wr ∧ Hid (pfsSame l m = pfsSame (l.drop j) (m.drop j))) (fun i _ => k - (intOf i).toNat)
    case atStart => exact ⟨0, Nat.zero_le _, rfl, Below.refl _ _, rfl⟩
    case round =>
      obtain ⟨j, hj, rfl, hbl, hs⟩ := hrel
      by_cases hlt : j < k
      · obtain ⟨T, hT⟩ := get_of_lt (l := l) (j := j) (by rw [← L1.out]; exact hlt)
        obtain ⟨U, hU⟩ := get_of_lt (l := m) (j := j) (by rw [← L2.out]; exact hlt)
        obtain ⟨b, off, rfl, hc⟩ := HA.out.get (ne_of_get hT)
        obtain ⟨b', off', rfl, hc'⟩ := HB.out.get (ne_of_get hU)
        have hK := keeps_of_below hbl
        have hbd := keeps_of_below hbl.drew
        have S := Lib.hid (pfsSame_drop hT hU)
        obtain ⟨x0, x1, x2, x3, x4, x5, x6, x7, x8, x9, x10, x11, hx⟩ := hc j _ hT
        obtain ⟨y0, y1, y2, y3, y4, y5, y6, y7, y8, y9, y10, y11, hy⟩ := hc' j _ hU
        have c0 := hK _ _ hx.c0
        have c1 := hK _ _ hx.c1
        have c2 := hK _ _ hx.c2
        have c3 := hK _ _ hx.c3
        have c4 := hK _ _ hx.c4
        have c5 := hK _ _ hx.c5
        have c6 := hK _ _ hx.c6
        have c7 := hK _ _ hx.c7
        have d0 := hK _ _ hy.c0
        have d1 := hK _ _ hy.c1
        have d2 := hK _ _ hy.c2
        have d3 := hK _ _ hy.c3
        have d4 := hK _ _ hy.c4
        have d5 := hK _ _ hy.c5
        have d6 := hK _ _ hy.c6
        have d7 := hK _ _ hy.c7
        have X := Lib.hid hx; have Y := Lib.hid hy
        have HM := Lib.hid (List.mem_of_getElem? hT)
        clear hc hc' hx hy hT hU hK
        generalize hb : T.same U = B at S
        have HBB := Lib.hid hb
        clear hb
        go_wp2_with fail
        go_region_with (go_at_call 27; refine (H.out T HM.out U _ _ _ (by exact ⟨_, _, _, _, _, _, _, _, _, _, _, _, rfl, X.out.args.keep hbd, X.out.parts.keep hbd, X.out.sub.keep hbd, X.out.marks.keep hbd⟩) (by exact ⟨_, _, _, _, _, _, _, _, _, _, _, _, rfl, Y.out.args.keep hbd, Y.out.parts.keep hbd, Y.out.sub.keep hbd, Y.out.marks.keep hbd⟩)).mono ?_; rintro e w1 ⟨he, hb1⟩; obtain rfl : e = .returned (.bool B) := by rw [he, ← HBB.out])
        all_goals
          cases B
          · go_wp2_with fail
            go_ret
            exact ⟨by rw [hs.out, S.out]; rfl, (hbl.drew).trans (hb1.mono (by have := hbl.size; simpa using this))⟩
          · go_wp2_with fail
            go_roundw
            case rel => exact ⟨j + 1, by omega, by go_num, (hbl.drew).trans (hb1.mono (by have := hbl.size; simpa using this)), by have q := hs.out.trans S.out; simp only [Bool.true_and] at q; exact q⟩
            case measure => simp [intOf]; omega
      · go_wp2_with fail
        go_ret
        exact ⟨by rw [hs.out, List.drop_of_length_le (by rw [← L1.out]; omega), List.drop_of_length_le (by rw [← L2.out]; omega)]; rfl, hbl⟩
  · have hne : l.length ≠ m.length := by rw [← hla.1, ← hlb.1]; exact hkk
    have S := Lib.hid (pfsSame_len hne)
    have t1 : ((k : Int) == (k' : Int)) = false := beq_eq_false_iff_ne.2 (by omega)
    have t2 : ((k : Int) != (k' : Int)) = true := by rw [bne_iff_ne]; omega
    clear hla hlb ha hb hne
    go_enter Tryz.func91, Tryz.ntmps91
    go_wp2_with fail
    go_ret
    exact ⟨by rw [S.out]; rfl, Below.refl _ _⟩


set_option maxHeartbeats 800000 in
theorem SameTerm_step (v : Bool) (nm : Bs) (ts : List Tm) (h : SameC 118 TmsAt tmsSame ts) : SameV 200 TmVal Tm.same (.mk v nm ts) := by
  intro u x y w hx hy
  obtain ⟨v', nm', us⟩ := u
  obtain ⟨a, n, c, rfl, hx⟩ := hx
  obtain ⟨a', n', c', rfl, hy⟩ := hy
  simp only [Tm.v, Tm.name, Tm.args] at *
  have H := Lib.hid h; clear h
  have X := Lib.hid hx; have Y := Lib.hid hy
  clear hx hy
  go_enter Tryz.func200, Tryz.ntmps200
  go_wp2_with (go_at_call 118; refine (H.out us _ _ _ _ _ _ _ (X.out.keep (by exact keeps_of_below (((Below.refl _ _).alloc (Nat.le_refl _) _).alloc (by simp) _))) (Y.out.keep (by exact keeps_of_below (((Below.refl _ _).alloc (Nat.le_refl _) _).alloc (by simp) _)))).mono ?_; rintro e w1 ⟨rfl, hb1⟩)
  all_goals go_ret
  · exact ⟨by simp [Tm.same, *], below2 hb1⟩
  · exact ⟨by simp [Tm.same, *], ((Below.refl _ _).alloc (Nat.le_refl _) _).alloc (by simp) _⟩
  · exact ⟨by simp [Tm.same, *], ((Below.refl _ _).alloc (Nat.le_refl _) _).alloc (by simp) _⟩

mutual
theorem SameTerm_c : ∀ t : Tm, SameV 200 TmVal Tm.same t
  | .mk v n ts => SameTerm_step v n ts (SameTerms_step ts (SameTerm_all ts))
theorem SameTerm_all : ∀ l : List Tm, ∀ t ∈ l, SameV 200 TmVal Tm.same t
  | [], _, h => by cases h
  | x :: xs, t, h => by
    rcases List.mem_cons.1 h with e | e
    · rw [e]; exact SameTerm_c x
    · exact SameTerm_all xs t e
end
theorem SameTerms_c (l : List Tm) : SameC 118 TmsAt tmsSame l := SameTerms_step l (SameTerm_all l)

end Go.Proofs.YtcandidgaegghaaGreatDoor
