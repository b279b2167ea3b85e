/- lyceumlaw10.Few: the number of parts and terms, as far as the limit. Conditions: none but those of each statement. lyceumref02.Nodes: how many nodes a formula has. Conditions: at most a million (no sum wraps). lyceumref02.Depth: how deep a formula is. Conditions: at most a million (no sum wraps). -/
import Derived.Test.YtcandidgaegghaaGreatDoorRightGZ
import Derived.Test.YtcandidgaegghaaGreatDoorRdF
import Derived.Test.YtcandidgaegghaaGreatDoorRowZ
import Derived.Test.YtcandidgaegghaaGreatDoorAwakeZ
section
namespace Go.Proofs.YtcandidgaegghaaGreatDoor
open Go Go.RowKit Ly
set_option maxRecDepth 10000
set_option linter.unusedSimpArgs false
set_option linter.unusedVariables false
set_option maxHeartbeats 1600000
/-- The least of a number and one more than the limit. -/
def upTo (most : Int) (n : Nat) : Int := if (n : Int) ≤ most then n else most + 1
def TmZ (t : Tm) : Prop := ∀ (w0 w : World) (most : Int) (x : Value), TmVal w0 t x → Below w0.heap.size w0 w → 0 ≤ most → most ≤ 600 → Calls Tryz.prog 204 #[x, .int .i64 most] w fun e w' => e = .returned (.int .i64 (upTo most t.nodes)) ∧ Below w.heap.size w w'
theorem tmsNodes_take {l : List Tm} : ∀ {j : Nat} {T : Tm}, l[j]? = some T → tmsNodes (l.take (j + 1)) = tmsNodes (l.take j) + T.nodes := by
  induction l with
  | nil => intro j T h; simp at h
  | cons t ts ih =>
    intro j T h
    cases j with
    | zero => simp at h; subst h; simp [tmsNodes]
    | succ j => simp only [List.take_succ_cons, tmsNodes]; have := ih (j := j) (by simpa using h); omega
theorem fmsNodes_take {l : List Fm} : ∀ {j : Nat} {T : Fm}, l[j]? = some T → fmsNodes (l.take (j + 1)) = fmsNodes (l.take j) + T.nodes := by
  induction l with
  | nil => intro j T h; simp at h
  | cons t ts ih =>
    intro j T h
    cases j with
    | zero => simp at h; subst h; simp [fmsNodes]
    | succ j => simp only [List.take_succ_cons, fmsNodes]; have := ih (j := j) (by simpa using h); omega
theorem tmsNodes_take_le (l : List Tm) (j : Nat) : tmsNodes (l.take j) ≤ tmsNodes l := by
  induction l generalizing j with
  | nil => simp
  | cons t ts ih =>
    cases j with
    | zero => simp [tmsNodes]
    | succ j => simp only [List.take_succ_cons, tmsNodes]; have := ih j; omega
theorem fmsNodes_take_le (l : List Fm) (j : Nat) : fmsNodes (l.take j) ≤ fmsNodes l := by
  induction l generalizing j with
  | nil => simp
  | cons t ts ih =>
    cases j with
    | zero => simp [fmsNodes]
    | succ j => simp only [List.take_succ_cons, fmsNodes]; have := ih j; omega
theorem upTo_add {most : Int} {n m : Nat} (h : (n : Int) ≤ most) : (n : Int) + upTo (most - n) m = upTo most (n + m) := by
  unfold upTo
  by_cases h1 : (m : Int) ≤ most - n
  · rw [if_pos h1, if_pos (by omega)]; omega
  · rw [if_neg h1, if_neg (by omega)]; omega
theorem upTo_le {most : Int} {n : Nat} (h : (n : Int) ≤ most) : upTo most n = n := if_pos h
theorem upTo_big {most : Int} {n m : Nat} (h : ¬ (n : Int) ≤ most) (h2 : n ≤ m) : upTo most n = upTo most m := by
  unfold upTo
  rw [if_neg h, if_neg (by omega)]
theorem upTo_range {most : Int} (n : Nat) (h : 0 ≤ most) : 0 ≤ upTo most n ∧ upTo most n ≤ most + 1 ∧ (upTo most n ≤ most → (n : Int) ≤ most) := by
  unfold upTo
  split <;> refine ⟨?_, ?_, ?_⟩ <;> omega
theorem term_stepZ (v : Bool) (n : Bs) (ts : List Tm) (hh : ∀ t ∈ ts, TmZ t) : TmZ (.mk v n ts) := by
  intro w0 w most x hx hw h0 h1
  obtain ⟨a, k, c, rfl, hx⟩ := hx
  simp only [Tm.v, Tm.name, Tm.args] at *
  have hk := hx.len
  have hlk : k ≤ 9223372036854775807 := by have := le63 hk.2.2; omega
  have L1 := Lib.hid hk.1
  have H := Lib.hid hh
  have HX := Lib.hid hx
  have HW := Lib.hid hw
  clear hk hh hx hw
  have NEW := Lib.hid (heap_alloc_new w (.cells #[.bool v, str n, .slice a k c] 95))
  have HB : Hid (Below w.heap.size w (w.alloc (.cells #[.bool v, str n, .slice a k c] 95))) := (Below.refl _ _).alloc (Nat.le_refl _) _
  have hnod : (Tm.mk v n ts).nodes = 1 + tmsNodes ts := by rw [Tm.nodes]
  have NOD := Lib.hid hnod
  clear hnod
  go_enter Tryz.func204, Tryz.ntmps204
  go_wp2_with fail
  go_loopw [5, 6] (fun u i wr => ∃ (j : Nat) (z : Int), j ≤ k ∧ i = .int .i64 j ∧ u = .int .i64 z ∧ 0 ≤ z ∧ z ≤ 601 ∧ Hid (z = upTo most (1 + tmsNodes (ts.take j)) ∧ Below w.heap.size w wr ∧ wr.heap[w.heap.size]? = some (.cells #[.bool v, str n, .slice a k c] 95 (0, 0)))) (fun _ i _ => k - (intOf i).toNat)
  case atStart =>
    have q : (1 : Int) = upTo most (1 + tmsNodes (ts.take 0)) := by
      simp only [List.take_zero, tmsNodes]
      unfold upTo
      split <;> omega
    exact ⟨0, 1, Nat.zero_le _, rfl, rfl, by omega, by omega, q, HB.out, NEW.out⟩
  case round =>
    obtain ⟨j, z, hj, rfl, rfl, z0, z1, hs⟩ := hrel
    obtain ⟨x0, x1, x2, -, -, -⟩ := row95' hs.out.2.2
    have hgt : w.heap.size < wr.heap.size := (Array.getElem?_eq_some_iff.1 hs.out.2.2).1
    by_cases hlt : j < k
    · by_cases hz : z ≤ most
      · obtain ⟨T, hT⟩ := get_of_lt (l := ts) (j := j) (by rw [← L1.out]; exact hlt)
        obtain ⟨bb, off, rfl, hc⟩ := HX.out.get (ne_of_get hT)
        obtain ⟨y0, y1, y2, hy⟩ := hc j _ hT
        have hK := keeps_of_below (belowThen HW.out hs.out.2.1)
        have c0 := hK _ _ hy.c0; have c1 := hK _ _ hy.c1; have c2 := hK _ _ hy.c2
        have X : Hid (TmVal w0 T (.agg #[.bool T.v, str T.name, .slice y0 y1 y2])) := ⟨_, _, _, rfl, hy.at_⟩
        have HM := Lib.hid (List.mem_of_getElem? hT)
        have TK := Lib.hid (tmsNodes_take hT)
        obtain ⟨q, hq⟩ : ∃ q, upTo (most - z) T.nodes = q := ⟨_, rfl⟩
        have q01 := upTo_range T.nodes (show 0 ≤ most - z by omega)
        rw [hq] at q01
        obtain ⟨q0, q1, -⟩ := q01
        have HQ := Lib.hid hq
        clear hc hy hT hK hq
        go_wp2_with (go_at_call 204; refine (H.out T HM.out w0 _ (most - z) _ X.out (belowThen HW.out hs.out.2.1) (by omega) (by omega)).mono ?_; rintro e w3 ⟨rfl, b3⟩; rw [show upTo (most - z) T.nodes = q from HQ.out])
        go_roundw
        case rel =>
          have e1 := hs.out.1
          have r1 := upTo_range (1 + tmsNodes (ts.take j)) h0
          have e2 : ((1 + tmsNodes (ts.take j) : Nat) : Int) ≤ most := r1.2.2 (by omega)
          rw [upTo_le e2] at e1
          have e3 := upTo_add (m := T.nodes) e2
          have r2 := upTo_range (1 + tmsNodes (ts.take (j + 1))) h0
          have e4 : z + q = upTo most (1 + tmsNodes (ts.take (j + 1))) := by
            rw [TK.out, ← HQ.out, e1, e3, Nat.add_assoc]
          refine ⟨j + 1, z + q, by omega, by go_num, by go_num, by omega, by omega, e4, belowThen hs.out.2.1 b3, kc b3 hs.out.2.2⟩
        case measure => simp [intOf]; omega
      · go_wp2_with fail
        go_ret
        refine ⟨?_, hs.out.2.1⟩
        have e1 := hs.out.1
        have e2 : ¬ ((1 + tmsNodes (ts.take j) : Nat) : Int) ≤ most := fun h => by have := upTo_le h; omega
        rw [NOD.out, e1, upTo_big e2 (m := 1 + tmsNodes ts) (by have := tmsNodes_take_le ts j; omega)]
        rfl
    · go_wp2_with fail
      go_ret
      refine ⟨?_, hs.out.2.1⟩
      have e1 := hs.out.1
      rw [List.take_of_length_le (by rw [← L1.out]; omega)] at e1
      rw [NOD.out, e1]
      rfl
mutual
theorem term_size : ∀ t : Tm, TmZ t
  | .mk v n ts => term_stepZ v n ts (term_sizes ts)
theorem term_sizes : ∀ l : List Tm, ∀ t ∈ l, TmZ t
  | [], _, h => by cases h
  | x :: xs, t, h => by
    rcases List.mem_cons.1 h with e | e
    · rw [e]; exact term_size x
    · exact term_sizes xs t e
end
def FmZ (f : Fm) : Prop := ∀ (w0 w : World) (most : Int) (x : Value), FmVal w0 f x → Below w0.heap.size w0 w → 0 ≤ most → most ≤ 600 → Calls Tryz.prog 125 #[x, .int .i64 most] w fun e w' => e = .returned (.int .i64 (upTo most f.nodes)) ∧ Below w.heap.size w w'
theorem form_stepZ (op : Int) (n : Bs) (ts : List Tm) (fs : List Fm) (hh : ∀ f ∈ fs, FmZ f) : FmZ (.mk op n ts fs) := by
  intro w0 w most x hx hw h0 h1
  obtain ⟨a, k, c, a', m, d, rfl, hx, hx2⟩ := hx
  simp only [Fm.op, Fm.name, Fm.args, Fm.sub] at *
  have hk := hx.len
  have hm := hx2.len
  have hlk : k ≤ 9223372036854775807 := by have := le63 hk.2.2; omega
  have hlm : m ≤ 9223372036854775807 := by have := le63 hm.2.2; omega
  have L1 := Lib.hid hk.1
  have L2 := Lib.hid hm.1
  have H := Lib.hid hh
  have HX := Lib.hid hx
  have HX2 := Lib.hid hx2
  have HW := Lib.hid hw
  clear hk hm hh hx hx2 hw
  have NEW := Lib.hid (heap_alloc_new w (.cells #[.int .u8 op, str n, .slice a k c, .slice a' m d] 25))
  have HB : Hid (Below w.heap.size w (w.alloc (.cells #[.int .u8 op, str n, .slice a k c, .slice a' m d] 25))) := (Below.refl _ _).alloc (Nat.le_refl _) _
  have hnod : (Fm.mk op n ts fs).nodes = 1 + tmsNodes ts + fmsNodes fs := by rw [Fm.nodes]
  have NOD := Lib.hid hnod
  clear hnod
  go_enter Tryz.func125, Tryz.ntmps125
  go_wp2_with fail
  go_loopw [5, 6] (fun u i wr => ∃ (j : Nat) (z : Int), j ≤ m ∧ i = .int .i64 j ∧ u = .int .i64 z ∧ 0 ≤ z ∧ z ≤ 601 ∧ Hid (z = upTo most (1 + fmsNodes (fs.take j)) ∧ Below w.heap.size w wr ∧ wr.heap[w.heap.size]? = some (.cells #[.int .u8 op, str n, .slice a k c, .slice a' m d] 25 (0, 0)))) (fun _ i _ => m - (intOf i).toNat)
  case atStart =>
    have q : (1 : Int) = upTo most (1 + fmsNodes (fs.take 0)) := by
      simp only [List.take_zero, fmsNodes]
      unfold upTo
      split <;> omega
    exact ⟨0, 1, Nat.zero_le _, rfl, rfl, by omega, by omega, q, HB.out, NEW.out⟩
  case round =>
    obtain ⟨j, z, hj, rfl, rfl, z0, z1, hs⟩ := hrel
    obtain ⟨x0, x1, x2, x3, -, -, -, -⟩ := row25' hs.out.2.2
    have hgt : w.heap.size < wr.heap.size := (Array.getElem?_eq_some_iff.1 hs.out.2.2).1
    by_cases hgo : j < m ∧ z ≤ most
    · obtain ⟨hlt, hz⟩ := hgo
      obtain ⟨T, hT⟩ := get_of_lt (l := fs) (j := j) (by rw [← L2.out]; exact hlt)
      obtain ⟨bb, off, rfl, hc⟩ := HX2.out.get (ne_of_get hT)
      obtain ⟨y0, y1, y2, y3, y4, y5, hy⟩ := hc j _ hT
      have hK := keeps_of_below (belowThen HW.out hs.out.2.1)
      have c0 := hK _ _ hy.c0; have c1 := hK _ _ hy.c1; have c2 := hK _ _ hy.c2; have c3 := hK _ _ hy.c3
      have X : Hid (FmVal w0 T (.agg #[.int .u8 T.op, str T.name, .slice y0 y1 y2, .slice y3 y4 y5])) := ⟨_, _, _, _, _, _, rfl, hy.at_, hy.at'⟩
      have HM := Lib.hid (List.mem_of_getElem? hT)
      have TK := Lib.hid (fmsNodes_take hT)
      obtain ⟨q, hq⟩ : ∃ q, upTo (most - z) T.nodes = q := ⟨_, rfl⟩
      have q01 := upTo_range T.nodes (show 0 ≤ most - z by omega)
      rw [hq] at q01
      obtain ⟨q0, q1, -⟩ := q01
      have HQ := Lib.hid hq
      clear hc hy hT hK hq
      go_wp2_with (go_at_call 125; refine (H.out T HM.out w0 _ (most - z) _ X.out (belowThen HW.out hs.out.2.1) (by omega) (by omega)).mono ?_; rintro e w3 ⟨rfl, b3⟩; rw [show upTo (most - z) T.nodes = q from HQ.out])
      go_roundw
      case rel =>
        have e1 := hs.out.1
        have r1 := upTo_range (1 + fmsNodes (fs.take j)) h0
        have e2 : ((1 + fmsNodes (fs.take j) : Nat) : Int) ≤ most := r1.2.2 (by omega)
        rw [upTo_le e2] at e1
        have e3 := upTo_add (m := T.nodes) e2
        have r2 := upTo_range (1 + fmsNodes (fs.take (j + 1))) h0
        have e4 : z + q = upTo most (1 + fmsNodes (fs.take (j + 1))) := by
          rw [TK.out, ← HQ.out, e1, e3, Nat.add_assoc]
        refine ⟨j + 1, z + q, by omega, by go_num, by go_num, by omega, by omega, e4, belowThen hs.out.2.1 b3, kc b3 hs.out.2.2⟩
      case measure => simp [intOf]; omega
    · have Z : Hid (z = upTo most (1 + fmsNodes fs)) := by
        show _ = _
        have e1 := hs.out.1
        by_cases hlt : j < m
        · have e2 : ¬ ((1 + fmsNodes (fs.take j) : Nat) : Int) ≤ most := fun h => by have := upTo_le h; omega
          rw [e1]
          exact upTo_big e2 (by have := fmsNodes_take_le fs j; omega)
        · rw [List.take_of_length_le (by rw [← L2.out]; omega)] at e1
          exact e1
      have BW := Lib.hid hs.out.2.1
      have NW := Lib.hid hs.out.2.2
      clear hs HX2 H
      have ex : (j < m ∧ most < z) ∨ ¬ j < m := by omega
      rcases ex with ⟨e1, e2⟩ | e1
      all_goals
        clear x0 x1
        go_wp2_with fail
        clear x2 x3 hgt hj
        go_loopw [5, 7] (fun u i wx => ∃ (i2 : Nat) (y : Int), i2 ≤ k ∧ i = .int .i64 i2 ∧ u = .int .i64 y ∧ 0 ≤ y ∧ y ≤ 601 ∧ Hid (y = upTo most (1 + fmsNodes fs + tmsNodes (ts.take i2)) ∧ Below w.heap.size w wx ∧ wx.heap[w.heap.size]? = some (.cells #[.int .u8 op, str n, .slice a k c, .slice a' m d] 25 (0, 0)))) (fun _ i _ => k - (intOf i).toNat)
        case atStart =>
          exact ⟨0, z, Nat.zero_le _, rfl, rfl, by omega, by omega, by simpa [tmsNodes] using Z.out, BW.out, NW.out⟩
        case round =>
          obtain ⟨i2, y, hi2, rfl, rfl, w0', w1', hs⟩ := hrel
          clear Z BW NW
          obtain ⟨x0, x1, x2, x3, -, -, -, -⟩ := row25' hs.out.2.2
          by_cases hgo2 : i2 < k ∧ y ≤ most
          · obtain ⟨hlt, hz⟩ := hgo2
            obtain ⟨T, hT⟩ := get_of_lt (l := ts) (j := i2) (by rw [← L1.out]; exact hlt)
            obtain ⟨bb, off, rfl, hc⟩ := HX.out.get (ne_of_get hT)
            obtain ⟨y0, y1, y2, hy⟩ := hc i2 _ hT
            have hK := keeps_of_below (belowThen HW.out hs.out.2.1)
            have c0 := hK _ _ hy.c0; have c1 := hK _ _ hy.c1; have c2 := hK _ _ hy.c2
            have X : Hid (TmVal w0 T (.agg #[.bool T.v, str T.name, .slice y0 y1 y2])) := ⟨_, _, _, rfl, hy.at_⟩
            have TK := Lib.hid (tmsNodes_take hT)
            obtain ⟨q, hq⟩ : ∃ q, upTo (most - y) T.nodes = q := ⟨_, rfl⟩
            have q01 := upTo_range T.nodes (show 0 ≤ most - y by omega)
            rw [hq] at q01
            obtain ⟨q0, q1, -⟩ := q01
            have HQ := Lib.hid hq
            clear hc hy hT hK hq
            go_wp2_with (go_at_call 204; refine (term_size T w0 _ (most - y) _ X.out (belowThen HW.out hs.out.2.1) (by omega) (by omega)).mono ?_; rintro e w3 ⟨rfl, b3⟩; rw [show upTo (most - y) T.nodes = q from HQ.out])
            go_roundw
            case rel =>
              have e1 := hs.out.1
              have r1 := upTo_range (1 + fmsNodes fs + tmsNodes (ts.take i2)) h0
              have e2 : ((1 + fmsNodes fs + tmsNodes (ts.take i2) : Nat) : Int) ≤ most := r1.2.2 (by omega)
              rw [upTo_le e2] at e1
              have e3 := upTo_add (m := T.nodes) e2
              have r2 := upTo_range (1 + fmsNodes fs + tmsNodes (ts.take (i2 + 1))) h0
              have e4 : y + q = upTo most (1 + fmsNodes fs + tmsNodes (ts.take (i2 + 1))) := by
                rw [TK.out, ← HQ.out, e1, e3, Nat.add_assoc]
              refine ⟨i2 + 1, y + q, by omega, by go_num, by go_num, by omega, by omega, e4, belowThen hs.out.2.1 b3, kc b3 hs.out.2.2⟩
            case measure => simp [intOf]; omega
          · have Y : Hid (y = upTo most (Fm.mk op n ts fs).nodes) := by
              show _ = _
              have e1 := hs.out.1
              rw [NOD.out, show 1 + tmsNodes ts + fmsNodes fs = 1 + fmsNodes fs + tmsNodes ts by omega]
              by_cases hlt : i2 < k
              · have e2 : ¬ ((1 + fmsNodes fs + tmsNodes (ts.take i2) : Nat) : Int) ≤ most := fun h => by have := upTo_le h; omega
                rw [e1]
                exact upTo_big e2 (by have := tmsNodes_take_le ts i2; omega)
              · rw [List.take_of_length_le (by rw [← L1.out]; omega)] at e1
                exact e1
            have ex : (i2 < k ∧ most < y) ∨ ¬ i2 < k := by omega
            rcases ex with ⟨e1, e2⟩ | e1
            all_goals
              go_wp2_with fail
              go_ret
              exact ⟨by rw [← Y.out]; rfl, hs.out.2.1⟩
mutual
theorem form_size : ∀ t : Fm, FmZ t
  | .mk o n ts fs => form_stepZ o n ts fs (form_sizes fs)
theorem form_sizes : ∀ l : List Fm, ∀ t ∈ l, FmZ t
  | [], _, h => by cases h
  | x :: xs, t, h => by
    rcases List.mem_cons.1 h with e | e
    · rw [e]; exact form_size x
    · exact form_sizes xs t e
end
theorem fewForms_c (l : List Fm) (a : Option Addr) (k c : Nat) (w : World) (hx : FmsAt w l (.slice a k c)) : Calls Tryz.prog 49 #[.slice a k c] w fun e w' => e = .returned (.bool (decide (fmsNodes l ≤ 600))) ∧ Below w.heap.size w w' := by
  have hk := hx.len
  have hlk : k ≤ 9223372036854775807 := by have := le63 hk.2.2; omega
  have L1 := Lib.hid hk.1
  have HX := Lib.hid hx
  clear hk hx
  go_enter Tryz.func49, Tryz.ntmps49
  go_wp2_with fail
  go_loopw [3, 4] (fun u i wr => ∃ (j : Nat) (z : Int), j ≤ k ∧ i = .int .i64 j ∧ u = .int .i64 z ∧ 0 ≤ z ∧ z ≤ 600 ∧ Hid (z = fmsNodes (l.take j) ∧ Below w.heap.size w wr)) (fun _ i _ => k - (intOf i).toNat)
  case atStart => exact ⟨0, 0, Nat.zero_le _, rfl, rfl, by omega, by omega, by simp [fmsNodes], Below.refl _ _⟩
  case round =>
    obtain ⟨j, z, hj, rfl, rfl, z0, z1, hs⟩ := hrel
    by_cases hlt : j < k
    · obtain ⟨T, hT⟩ := get_of_lt (l := l) (j := j) (by rw [← L1.out]; exact hlt)
      obtain ⟨bb, off, rfl, hc⟩ := HX.out.get (ne_of_get hT)
      obtain ⟨y0, y1, y2, y3, y4, y5, hy⟩ := hc j _ hT
      have hK := keeps_of_below hs.out.2
      have c0 := hK _ _ hy.c0; have c1 := hK _ _ hy.c1; have c2 := hK _ _ hy.c2; have c3 := hK _ _ hy.c3
      have X : Hid (FmVal w T (.agg #[.int .u8 T.op, str T.name, .slice y0 y1 y2, .slice y3 y4 y5])) := ⟨_, _, _, _, _, _, rfl, hy.at_, hy.at'⟩
      have TK := Lib.hid (fmsNodes_take hT)
      have TL := Lib.hid (fmsNodes_take_le l (j + 1))
      obtain ⟨q, hq⟩ : ∃ q, upTo 600 T.nodes = q := ⟨_, rfl⟩
      have q01 := upTo_range T.nodes (show (0 : Int) ≤ 600 by omega)
      rw [hq] at q01
      obtain ⟨q0, q1, q2⟩ := q01
      have Q2 := Lib.hid q2
      have HQ := Lib.hid hq
      clear hc hy hT hK hq q2
      by_cases hbig : z + q ≤ 600
      · have hb' : ¬ 600 < z + q := by omega
        go_wp2_with (go_at_call 125; refine (form_size T w _ 600 _ X.out hs.out.2 (by omega) (by omega)).mono ?_; rintro e w3 ⟨rfl, b3⟩; rw [show upTo 600 T.nodes = q from HQ.out])
        go_roundw
        case rel =>
          have e1 := hs.out.1
          have e2 := HQ.out
          rw [upTo_le (Q2.out (by omega))] at e2
          exact ⟨j + 1, z + q, by omega, by go_num, by go_num, by omega, by omega, by rw [TK.out]; omega, belowThen hs.out.2 b3⟩
        case measure => simp [intOf]; omega
      · have hb' : 600 < z + q := by omega
        have HBIG := Lib.hid hbig
        clear hbig
        go_wp2_with (go_at_call 125; refine (form_size T w _ 600 _ X.out hs.out.2 (by omega) (by omega)).mono ?_; rintro e w3 ⟨rfl, b3⟩; rw [show upTo 600 T.nodes = q from HQ.out])
        go_ret
        refine ⟨?_, belowThen hs.out.2 b3⟩
        have e1 := hs.out.1
        have : ¬ fmsNodes l ≤ 600 := fun h => by
          have e2 := HQ.out
          have e3 := TK.out
          have e4 := TL.out
          unfold upTo at e2
          split at e2 <;> omega
        rw [decide_eq_false this]
        rfl
    · go_wp2_with fail
      go_ret
      refine ⟨?_, hs.out.2⟩
      have e1 := hs.out.1
      rw [List.take_of_length_le (by rw [← L1.out]; omega)] at e1
      rw [decide_eq_true (show fmsNodes l ≤ 600 by omega)]
      rfl
theorem few_c (l : List Fm) (a : Option Addr) (k c : Nat) (w : World) (hx : FmsAt w l (.slice a k c)) : Calls Tryz.prog 12 #[.slice a k c] w fun e w' => e = .returned (.bool (decide (fmsNodes l ≤ 600))) ∧ Below w.heap.size w w' := by
  obtain ⟨b, hb⟩ : ∃ b, decide (fmsNodes l ≤ 600) = b := ⟨_, rfl⟩
  have H := Lib.hid (fewForms_c l a k c w hx)
  rw [hb] at H
  rw [hb]
  clear hx hb
  go_enter Tryz.func12, Tryz.ntmps12
  go_wp2_with (go_at_call 49; refine H.out.mono ?_; rintro e w3 ⟨rfl, b3⟩)
  go_ret
  exact ⟨rfl, b3⟩
end Go.Proofs.YtcandidgaegghaaGreatDoor
end
section
namespace Go.Proofs.YtcandidgaegghaaGreatDoor
open Go Go.RowKit Ly
set_option maxRecDepth 10000
set_option linter.unusedSimpArgs false
set_option linter.unusedVariables false
set_option maxHeartbeats 1600000
def TmsR (l : List Tm) : Prop := ∀ (w0 w : World) (a : Option Addr) (k c : Nat), TmsAt w0 l (.slice a k c) → Below w0.heap.size w0 w → tmsNodes l ≤ 1000000 → Calls Tryz.prog 275 #[.slice a k c] w fun e w' => e = .returned (.int .i64 (tmsNodes l)) ∧ Below w.heap.size w w'
theorem size_step (l : List Tm) (hh : ∀ t ∈ l, TmsR t.args) : TmsR l := by
  intro w0 w a k c hx hw hn
  have hk := hx.len
  have hlk : k ≤ 9223372036854775807 := by have := le63 hk.2.2; omega
  have L1 := Lib.hid hk.1
  have H := Lib.hid hh
  have HX := Lib.hid hx
  have HW := Lib.hid hw
  have HN := Lib.hid hn
  clear hk hh hx hw hn
  go_enter Tryz.func275, Tryz.ntmps275
  go_wp2_with fail
  go_loopw [3, 4] (fun u i wr => ∃ (j : Nat) (z : Int), j ≤ k ∧ i = .int .i64 j ∧ u = .int .i64 z ∧ 0 ≤ z ∧ z ≤ 1000000 ∧ Hid (z = tmsNodes (l.take j) ∧ Below w.heap.size w wr)) (fun _ i _ => k - (intOf i).toNat)
  case atStart => exact ⟨0, 0, Nat.zero_le _, rfl, rfl, by omega, by omega, by simp [tmsNodes], Below.refl _ _⟩
  case round =>
    obtain ⟨j, z, hj, rfl, rfl, z0, z1, hs⟩ := hrel
    by_cases hlt : j < k
    · obtain ⟨T, hT⟩ := get_of_lt (l := l) (j := j) (by rw [← L1.out]; exact hlt)
      obtain ⟨bb, off, rfl, hc⟩ := HX.out.get (ne_of_get hT)
      obtain ⟨y0, y1, y2, hy⟩ := hc j _ hT
      have hK := keeps_of_below (belowThen HW.out hs.out.2)
      have c0 := hK _ _ hy.c0; have c1 := hK _ _ hy.c1; have c2 := hK _ _ hy.c2
      have X : Hid (TmsAt w0 T.args (.slice y0 y1 y2)) := hy.at_
      have HM := Lib.hid (List.mem_of_getElem? hT)
      have TK : Hid (tmsNodes (l.take (j + 1)) = tmsNodes (l.take j) + (1 + tmsNodes T.args)) := by
        show _ = _
        rw [tmsNodes_take hT]
        cases T
        rw [Tm.nodes]; rfl
      have TL := Lib.hid (tmsNodes_take_le l (j + 1))
      obtain ⟨q, hq⟩ : ∃ q, tmsNodes T.args = q := ⟨_, rfl⟩
      have HQ := Lib.hid hq
      have q1 : (z + 1 + q : Int) ≤ 1000000 := by have e1 := hs.out.1; have e2 := TK.out; have e3 := TL.out; have e4 := HN.out; omega
      clear hc hy hT hK hq
      go_wp2_with (go_at_call 275; refine (H.out T HM.out w0 _ _ _ _ X.out (belowThen HW.out hs.out.2) (by rw [HQ.out]; omega)).mono ?_; rintro e w3 ⟨rfl, b3⟩; rw [show tmsNodes T.args = q from HQ.out])
      go_roundw
      case rel => exact ⟨j + 1, z + 1 + q, by omega, by go_num, by go_num, by omega, by omega, by rw [TK.out, HQ.out]; have := hs.out.1; omega, belowThen hs.out.2 b3⟩
      case measure => simp [intOf]; omega
    · go_wp2_with fail
      go_ret
      refine ⟨?_, hs.out.2⟩
      have e1 := hs.out.1
      rw [List.take_of_length_le (by rw [← L1.out]; omega)] at e1
      rw [← e1]
      rfl
mutual
theorem size_tm : ∀ t : Tm, TmsR t.args
  | .mk v n ts => size_step ts (size_tms ts)
theorem size_tms : ∀ l : List Tm, ∀ t ∈ l, TmsR t.args
  | [], _, h => by cases h
  | x :: xs, t, h => by
    rcases List.mem_cons.1 h with e | e
    · rw [e]; exact size_tm x
    · exact size_tms xs t e
end
theorem size_c (l : List Tm) : TmsR l := size_step l (size_tms l)
def FmR (f : Fm) : Prop := ∀ (w0 w : World) (x : Value), FmVal w0 f x → Below w0.heap.size w0 w → f.nodes ≤ 1000000 → Calls Tryz.prog 210 #[x] w fun e w' => e = .returned (.int .i64 f.nodes) ∧ Below w.heap.size w w'
theorem nodes_step (op : Int) (n : Bs) (ts : List Tm) (fs : List Fm) (hh : ∀ f ∈ fs, FmR f) : FmR (.mk op n ts fs) := by
  intro w0 w x hx hw hn
  obtain ⟨a, k, c, a', m, d, rfl, hx, hx2⟩ := hx
  simp only [Fm.op, Fm.name, Fm.args, Fm.sub] at *
  have hm := hx2.len
  have hlm : m ≤ 9223372036854775807 := by have := le63 hm.2.2; omega
  have L2 := Lib.hid hm.1
  have H := Lib.hid hh
  have HX := Lib.hid hx
  have HX2 := Lib.hid hx2
  have HW := Lib.hid hw
  clear hm hh hx hx2 hw
  have NEW := Lib.hid (heap_alloc_new w (.cells #[.int .u8 op, str n, .slice a k c, .slice a' m d] 25))
  have HB : Hid (Below w.heap.size w (w.alloc (.cells #[.int .u8 op, str n, .slice a k c, .slice a' m d] 25))) := (Below.refl _ _).alloc (Nat.le_refl _) _
  have hnod : (Fm.mk op n ts fs).nodes = 1 + tmsNodes ts + fmsNodes fs := by rw [Fm.nodes]
  rw [hnod] at hn
  have NOD := Lib.hid hnod
  obtain ⟨tn, htn⟩ : ∃ q, tmsNodes ts = q := ⟨_, rfl⟩
  have TN := Lib.hid htn
  have HN := Lib.hid hn
  have hq : (tn : Int) ≤ 999999 := by omega
  clear hnod htn hn
  go_enter Tryz.func210, Tryz.ntmps210
  go_wp2_with (go_at_call 275; refine (size_c ts w0 _ a k c HX.out (belowThen HW.out HB.out) (by rw [TN.out]; omega)).mono ?_; rintro e w1 ⟨rfl, b1⟩; rw [show tmsNodes ts = tn from TN.out]; have B1 := Lib.hid (belowThen HB.out b1); have NW := Lib.hid (kc b1 NEW.out); clear b1; obtain ⟨x0, x1, x2, x3, -, -, -, -⟩ := row25' NW.out)
  clear x0 x1 x2 x3
  go_loopw [3, 4] (fun u i wr => ∃ (j : Nat) (z : Int), j ≤ m ∧ i = .int .i64 j ∧ u = .int .i64 z ∧ 0 ≤ z ∧ z ≤ 1000000 ∧ Hid (z = 1 + tn + fmsNodes (fs.take j) ∧ Below w.heap.size w wr ∧ wr.heap[w.heap.size]? = some (.cells #[.int .u8 op, str n, .slice a k c, .slice a' m d] 25 (0, 0)))) (fun _ i _ => m - (intOf i).toNat)
  case atStart => exact ⟨0, 1 + tn, Nat.zero_le _, rfl, by go_num, by omega, by omega, by simp [fmsNodes], B1.out, NW.out⟩
  case round =>
    clear B1 NW
    obtain ⟨j, z, hj, rfl, rfl, z0, z1, hs⟩ := hrel
    obtain ⟨x0, x1, x2, x3, -, -, -, -⟩ := row25' hs.out.2.2
    by_cases hlt : j < m
    · obtain ⟨T, hT⟩ := get_of_lt (l := fs) (j := j) (by rw [← L2.out]; exact hlt)
      obtain ⟨bb, off, rfl, hc⟩ := HX2.out.get (ne_of_get hT)
      obtain ⟨y0, y1, y2, y3, y4, y5, hy⟩ := hc j _ hT
      have hK := keeps_of_below (belowThen HW.out hs.out.2.1)
      have c0 := hK _ _ hy.c0; have c1 := hK _ _ hy.c1; have c2 := hK _ _ hy.c2; have c3 := hK _ _ hy.c3
      have X : Hid (FmVal w0 T (.agg #[.int .u8 T.op, str T.name, .slice y0 y1 y2, .slice y3 y4 y5])) := ⟨_, _, _, _, _, _, rfl, hy.at_, hy.at'⟩
      have HM := Lib.hid (List.mem_of_getElem? hT)
      have TK := Lib.hid (fmsNodes_take hT)
      have TL := Lib.hid (fmsNodes_take_le fs (j + 1))
      obtain ⟨q, hq⟩ : ∃ q, T.nodes = q := ⟨_, rfl⟩
      have HQ := Lib.hid hq
      have q1 : (z + q : Int) ≤ 1000000 := by have e1 := hs.out.1; have e2 := TK.out; have e3 := TL.out; have e4 := HN.out; have e5 := TN.out; omega
      clear hc hy hT hK hq
      go_wp2_with (go_at_call 210; refine (H.out T HM.out w0 _ _ X.out (belowThen HW.out hs.out.2.1) (by rw [HQ.out]; omega)).mono ?_; rintro e w3 ⟨rfl, b3⟩; rw [show T.nodes = q from HQ.out])
      go_roundw
      case rel => exact ⟨j + 1, z + q, by omega, by go_num, by go_num, by omega, by omega, by rw [TK.out, HQ.out]; have := hs.out.1; omega, belowThen hs.out.2.1 b3, kc b3 hs.out.2.2⟩
      case measure => simp [intOf]; omega
    · go_wp2_with fail
      go_ret
      refine ⟨?_, hs.out.2.1⟩
      have e1 := hs.out.1
      rw [List.take_of_length_le (by rw [← L2.out]; omega)] at e1
      rw [NOD.out, TN.out]
      have e2 : z = ((1 + tn + fmsNodes fs : Nat) : Int) := by omega
      rw [← e2]
      rfl
mutual
theorem nodes_c : ∀ t : Fm, FmR t
  | .mk o n ts fs => nodes_step o n ts fs (nodes_all fs)
theorem nodes_all : ∀ l : List Fm, ∀ t ∈ l, FmR t
  | [], _, h => by cases h
  | x :: xs, t, h => by
    rcases List.mem_cons.1 h with e | e
    · rw [e]; exact nodes_c x
    · exact nodes_all xs t e
end
end Go.Proofs.YtcandidgaegghaaGreatDoor
end
section
namespace Go.Proofs.YtcandidgaegghaaGreatDoor
open Go Go.RowKit Ly
set_option maxRecDepth 10000
set_option linter.unusedSimpArgs false
set_option linter.unusedVariables false
set_option maxHeartbeats 1600000
theorem tmsDepth_take {l : List Tm} : ∀ {j : Nat} {T : Tm}, l[j]? = some T → tmsDepth (l.take (j + 1)) = max (tmsDepth (l.take j)) T.depth := by
  induction l with
  | nil => intro j T h; simp at h
  | cons t ts ih =>
    intro j T h
    cases j with
    | zero => simp at h; subst h; simp [tmsDepth]
    | succ j => simp only [List.take_succ_cons, tmsDepth]; have := ih (j := j) (by simpa using h); omega
theorem fmsDepth_take {l : List Fm} : ∀ {j : Nat} {T : Fm}, l[j]? = some T → fmsDepth (l.take (j + 1)) = max (fmsDepth (l.take j)) T.depth := by
  induction l with
  | nil => intro j T h; simp at h
  | cons t ts ih =>
    intro j T h
    cases j with
    | zero => simp at h; subst h; simp [fmsDepth]
    | succ j => simp only [List.take_succ_cons, fmsDepth]; have := ih (j := j) (by simpa using h); omega
def TmsE (l : List Tm) : Prop := ∀ (w0 w : World) (a : Option Addr) (k c : Nat), TmsAt w0 l (.slice a k c) → Below w0.heap.size w0 w → tmsDepth l ≤ 1000000 → Calls Tryz.prog 276 #[.slice a k c] w fun e w' => e = .returned (.int .i64 (tmsDepth l)) ∧ Below w.heap.size w w'
theorem deep_step (l : List Tm) (hh : ∀ t ∈ l, TmsE t.args) : TmsE l := by
  intro w0 w a k c hx hw hn
  have hk := hx.len
  have hlk : k ≤ 9223372036854775807 := by have := le63 hk.2.2; omega
  have L1 := Lib.hid hk.1
  have H := Lib.hid hh
  have HX := Lib.hid hx
  have HW := Lib.hid hw
  have HN := Lib.hid hn
  clear hk hh hx hw hn
  go_enter Tryz.func276, Tryz.ntmps276
  go_wp2_with fail
  go_loopw [3, 4] (fun u i wr => ∃ (j : Nat) (z : Int), j ≤ k ∧ i = .int .i64 j ∧ u = .int .i64 z ∧ 0 ≤ z ∧ z ≤ 1000000 ∧ Hid (z = tmsDepth (l.take j) ∧ Below w.heap.size w wr)) (fun _ i _ => k - (intOf i).toNat)
  case atStart => exact ⟨0, 0, Nat.zero_le _, rfl, rfl, by omega, by omega, by simp [tmsDepth], Below.refl _ _⟩
  case round =>
    obtain ⟨j, z, hj, rfl, rfl, z0, z1, hs⟩ := hrel
    by_cases hlt : j < k
    · obtain ⟨T, hT⟩ := get_of_lt (l := l) (j := j) (by rw [← L1.out]; exact hlt)
      obtain ⟨bb, off, rfl, hc⟩ := HX.out.get (ne_of_get hT)
      obtain ⟨y0, y1, y2, hy⟩ := hc j _ hT
      have hK := keeps_of_below (belowThen HW.out hs.out.2)
      have c0 := hK _ _ hy.c0; have c1 := hK _ _ hy.c1; have c2 := hK _ _ hy.c2
      have X : Hid (TmsAt w0 T.args (.slice y0 y1 y2)) := hy.at_
      have HM := Lib.hid (List.mem_of_getElem? hT)
      have TD : T.depth = 1 + tmsDepth T.args := by cases T; rw [Tm.depth]; rfl
      have TK : Hid (tmsDepth (l.take (j + 1)) = max (tmsDepth (l.take j)) (1 + tmsDepth T.args)) := by
        show _ = _
        rw [tmsDepth_take hT, TD]
      have TL := tmsDepth_mem T HM.out
      rw [TD] at TL
      obtain ⟨q, hq⟩ : ∃ q, tmsDepth T.args = q := ⟨_, rfl⟩
      have HQ := Lib.hid hq
      have q1 : (q : Int) ≤ 999999 := by have e4 := HN.out; omega
      clear hc hy hT hK hq TL TD
      have ex : (z < q + 1 ∧ z ≤ q) ∨ (¬ z < q + 1 ∧ q < z) := by omega
      rcases ex with ⟨e1, e2⟩ | ⟨e1, e2⟩
      all_goals
        clear e1
        go_wp2_with (go_at_call 276; refine (H.out T HM.out w0 _ _ _ _ X.out (belowThen HW.out hs.out.2) (by rw [HQ.out]; omega)).mono ?_; rintro e w3 ⟨rfl, b3⟩; rw [show tmsDepth T.args = q from HQ.out])
        go_roundw
        case rel => exact ⟨j + 1, _, by omega, by go_num, rfl, by omega, by omega, by rw [TK.out, HQ.out]; have := hs.out.1; omega, belowThen hs.out.2 b3⟩
        case measure => simp [intOf]; omega
    · go_wp2_with fail
      go_ret
      refine ⟨?_, hs.out.2⟩
      have e1 := hs.out.1
      rw [List.take_of_length_le (by rw [← L1.out]; omega)] at e1
      rw [← e1]
      rfl
mutual
theorem deep_tm : ∀ t : Tm, TmsE t.args
  | .mk v n ts => deep_step ts (deep_tms ts)
theorem deep_tms : ∀ l : List Tm, ∀ t ∈ l, TmsE t.args
  | [], _, h => by cases h
  | x :: xs, t, h => by
    rcases List.mem_cons.1 h with e | e
    · rw [e]; exact deep_tm x
    · exact deep_tms xs t e
end
theorem deep_c (l : List Tm) : TmsE l := deep_step l (deep_tms l)
def FmE (f : Fm) : Prop := ∀ (w0 w : World) (x : Value), FmVal w0 f x → Below w0.heap.size w0 w → f.depth ≤ 1000000 → Calls Tryz.prog 211 #[x] w fun e w' => e = .returned (.int .i64 f.depth) ∧ Below w.heap.size w w'
theorem depth_step (op : Int) (n : Bs) (ts : List Tm) (fs : List Fm) (hh : ∀ f ∈ fs, FmE f) : FmE (.mk op n ts fs) := by
  intro w0 w x hx hw hn
  obtain ⟨a, k, c, a', m, d, rfl, hx, hx2⟩ := hx
  simp only [Fm.op, Fm.name, Fm.args, Fm.sub] at *
  have hm := hx2.len
  have hlm : m ≤ 9223372036854775807 := by have := le63 hm.2.2; omega
  have L2 := Lib.hid hm.1
  have H := Lib.hid hh
  have HX := Lib.hid hx
  have HX2 := Lib.hid hx2
  have HW := Lib.hid hw
  clear hm hh hx hx2 hw
  have NEW := Lib.hid (heap_alloc_new w (.cells #[.int .u8 op, str n, .slice a k c, .slice a' m d] 25))
  have HB : Hid (Below w.heap.size w (w.alloc (.cells #[.int .u8 op, str n, .slice a k c, .slice a' m d] 25))) := (Below.refl _ _).alloc (Nat.le_refl _) _
  have hdep : (Fm.mk op n ts fs).depth = 1 + max (tmsDepth ts) (fmsDepth fs) := by rw [Fm.depth]
  rw [hdep] at hn
  have NOD := Lib.hid hdep
  obtain ⟨tn, htn⟩ : ∃ q, tmsDepth ts = q := ⟨_, rfl⟩
  rw [htn] at hn
  have TN := Lib.hid htn
  have HN := Lib.hid hn
  have hq : (tn : Int) ≤ 999999 := by omega
  clear hdep htn hn
  go_enter Tryz.func211, Tryz.ntmps211
  go_wp2_with (go_at_call 276; refine (deep_c ts w0 _ a k c HX.out (belowThen HW.out HB.out) (by rw [TN.out]; omega)).mono ?_; rintro e w1 ⟨rfl, b1⟩; rw [show tmsDepth ts = tn from TN.out]; have B1 := Lib.hid (belowThen HB.out b1); have NW := Lib.hid (kc b1 NEW.out); clear b1; obtain ⟨x0, x1, x2, x3, -, -, -, -⟩ := row25' NW.out)
  clear x0 x1 x2 x3
  go_loopw [3, 4] (fun u i wr => ∃ (j : Nat) (z : Int), j ≤ m ∧ i = .int .i64 j ∧ u = .int .i64 z ∧ 0 ≤ z ∧ z ≤ 999999 ∧ Hid (z = max (tn : Int) (fmsDepth (fs.take j)) ∧ Below w.heap.size w wr ∧ wr.heap[w.heap.size]? = some (.cells #[.int .u8 op, str n, .slice a k c, .slice a' m d] 25 (0, 0)))) (fun _ i _ => m - (intOf i).toNat)
  case atStart => exact ⟨0, tn, Nat.zero_le _, rfl, by go_num, by omega, by omega, by simp [fmsDepth], B1.out, NW.out⟩
  case round =>
    clear B1 NW
    obtain ⟨j, z, hj, rfl, rfl, z0, z1, hs⟩ := hrel
    obtain ⟨x0, x1, x2, x3, -, -, -, -⟩ := row25' hs.out.2.2
    by_cases hlt : j < m
    · obtain ⟨T, hT⟩ := get_of_lt (l := fs) (j := j) (by rw [← L2.out]; exact hlt)
      obtain ⟨bb, off, rfl, hc⟩ := HX2.out.get (ne_of_get hT)
      obtain ⟨y0, y1, y2, y3, y4, y5, hy⟩ := hc j _ hT
      have hK := keeps_of_below (belowThen HW.out hs.out.2.1)
      have c0 := hK _ _ hy.c0; have c1 := hK _ _ hy.c1; have c2 := hK _ _ hy.c2; have c3 := hK _ _ hy.c3
      have X : Hid (FmVal w0 T (.agg #[.int .u8 T.op, str T.name, .slice y0 y1 y2, .slice y3 y4 y5])) := ⟨_, _, _, _, _, _, rfl, hy.at_, hy.at'⟩
      have HM := Lib.hid (List.mem_of_getElem? hT)
      have TK := Lib.hid (fmsDepth_take hT)
      have TL := fmsDepth_mem T HM.out
      obtain ⟨q, hq⟩ : ∃ q, T.depth = q := ⟨_, rfl⟩
      have HQ := Lib.hid hq
      have q1 : (q : Int) ≤ 999999 := by have e4 := HN.out; omega
      clear hc hy hT hK hq TL
      have ex : z < q ∨ ¬ z < q := by omega
      rcases ex with e1 | e1
      all_goals
        go_wp2_with (go_at_call 211; refine (H.out T HM.out w0 _ _ X.out (belowThen HW.out hs.out.2.1) (by rw [HQ.out]; omega)).mono ?_; rintro e w3 ⟨rfl, b3⟩; rw [show T.depth = q from HQ.out])
        go_roundw
        case rel => exact ⟨j + 1, _, by omega, by go_num, rfl, by omega, by omega, by rw [TK.out, HQ.out]; have := hs.out.1; omega, belowThen hs.out.2.1 b3, kc b3 hs.out.2.2⟩
        case measure => simp [intOf]; omega
    · go_wp2_with fail
      go_ret
      refine ⟨?_, hs.out.2.1⟩
      have e1 := hs.out.1
      rw [List.take_of_length_le (by rw [← L2.out]; omega)] at e1
      rw [NOD.out, TN.out]
      have e2 : z + 1 = ((1 + max tn (fmsDepth fs) : Nat) : Int) := by omega
      rw [← e2]
      rfl
mutual
theorem depth_c : ∀ t : Fm, FmE t
  | .mk o n ts fs => depth_step o n ts fs (depth_all fs)
theorem depth_all : ∀ l : List Fm, ∀ t ∈ l, FmE t
  | [], _, h => by cases h
  | x :: xs, t, h => by
    rcases List.mem_cons.1 h with e | e
    · rw [e]; exact depth_c x
    · exact depth_all xs t e
end
end Go.Proofs.YtcandidgaegghaaGreatDoor
end
