/- lyceumlaw19.Few: few parts and terms. Conditions: names fit into memory. lyceumlaw41.claims answers true, and so does DescribeClaims. Conditions: the claim's names fit; the program's tables lie as laid. Formulas and claims that came in as arguments: their names are within the form's reach besides. Conditions: none but those of each statement. -/
import Derived.Test.YtcandidgaegghaaGreatDoorRefBZ
import Derived.Test.YtcandidgaegghaaGreatDoorCmP
import Derived.Lib.QuietBelow
import Derived.BigQuiet
import Derived.Test.YtcandidgaegghaaGreatDoorCmRZ
import Derived.Test.YtcandidgaegghaaGreatDoorCmCZ
import Derived.Test.YtcandidgaegghaaGreatDoorAwakeZ
import Derived.Test.YtcandidgaegghaaGreatDoorRightGZ
section
namespace Go.Proofs.YtcandidgaegghaaGreatDoor
open Go Go.RowKit Go.Sort Ly
set_option maxRecDepth 10000
set_option linter.unusedSimpArgs false
set_option linter.unusedVariables false
set_option maxHeartbeats 1600000
def TmsQ (l : List Tm) : Prop := ∀ (w0 w : World) (a : Option Addr) (k c : Nat) (left : Int), TmsAt w0 l (.slice a k c) → Below w0.heap.size w0 w → tmsFit l → -1 ≤ left → left ≤ 300 → Calls Tryz.prog 168 #[.slice a k c, .int .i64 left] w fun e w' => e = .returned (.int .i64 (tms19 l 0 left)) ∧ Below w.heap.size w w'
theorem terms19_step (l : List Tm) (hh : ∀ t ∈ l, TmsQ t.args) : TmsQ l := by
  intro w0 w a k c left hx hw hsz l0 l1
  have hk := hx.len
  have hlk : k ≤ 9223372036854775807 := by have := le63 hk.2.2; omega
  have L1 := Lib.hid hk.1
  have H := Lib.hid hh
  have HX := Lib.hid hx
  have HW := Lib.hid hw
  have HS := Lib.hid hsz
  obtain ⟨N, hN⟩ : ∃ N, tms19 l 0 left = N := ⟨_, rfl⟩
  have HN := Lib.hid hN
  rw [hN]
  clear hk hh hx hw hsz hN
  go_enter Tryz.func168, Tryz.ntmps168
  go_wp2_with fail
  go_loopw [5, 6] (fun u i wr => ∃ (j : Nat) (z : Int), j ≤ k ∧ i = .int .i64 j ∧ u = .int .i64 z ∧ 0 ≤ z ∧ z ≤ 2500000000000000 ∧ Hid (tms19 (l.drop j) z left = N ∧ z ≤ (left + 2) * 8000000000000 ∧ Below w.heap.size w wr)) (fun _ i _ => k - (intOf i).toNat)
  case atStart => exact ⟨0, 0, Nat.zero_le _, rfl, rfl, by omega, by omega, HN.out, by omega, Below.refl _ _⟩
  case round =>
    obtain ⟨j, z, hj, rfl, rfl, z0, z1, hs⟩ := hrel
    by_cases hlt : j < k
    · have t1 : decide ((j : Int) < (k : Int)) = true := by simp; omega
      by_cases hz : z ≤ left
      · obtain ⟨T, hT⟩ := get_of_lt (l := l) (j := j) (by rw [← L1.out]; exact hlt)
        obtain ⟨bb, off, rfl, hc⟩ := HX.out.get (ne_of_get hT)
        obtain ⟨y0, y1, y2, hy⟩ := hc j _ hT
        have hK := keeps_of_below (belowThen HW.out hs.out.2.2)
        have c0 := cell_regrown (hK _ _ hy.c0); have c1 := cell_regrown (hK _ _ hy.c1); have c2 := cell_regrown (hK _ _ hy.c2)
        have hm := List.mem_of_getElem? hT
        have TS : T.fits := (tmsFit_iff l).1 HS.out T hm
        have NX := Lib.hid (tms19_next hT hz)
        have WL := Lib.hid (Tm.w19_le T (left - z) TS (by omega) (by omega))
        obtain ⟨v, nm, ts⟩ := T
        simp only [Tm.v, Tm.name, Tm.args] at *
        rw [Tm.fits] at TS
        have hd := div20 TS.1
        have hnl : nm.length ≤ 9223372036854775807 := by have := TS.1; omega
        have hi := tms19_le ts 0 (left - z - 1) TS.2 (by omega) (by omega) (by omega) (by omega)
        have WW : Hid ((Tm.mk v nm ts).w19 (left - z) = 1 + (nm.length : Int).tdiv 20 + tms19 ts 0 (left - z - 1)) := by show _ = _; rw [Tm.w19]
        obtain ⟨I, hI⟩ : ∃ I, tms19 ts 0 (left - z - 1) = I := ⟨_, rfl⟩
        obtain ⟨q, hq⟩ : ∃ q, (nm.length : Int).tdiv 20 = q := ⟨_, rfl⟩
        have CC : Hid (∀ d os, Calls Tryz.prog 168 #[.slice y0 y1 y2, .int .i64 (left - z - 1)] (grow (redrawn wr d) os) fun e w'' => e = .returned (.int .i64 I) ∧ ∃ p : Regrown, w'' = grow (redrawn wr p.d) p.os) := fun d os =>
          Calls.regrown_of (by rw [← hI]; exact H.out _ hm w0 _ _ _ _ _ hy.at_ (belowThen (belowThen HW.out hs.out.2.2) (below_regrown wr d os)) TS.2 (by omega) (by omega))
        rw [hI] at hi
        rw [hI, hq] at WW
        rw [hq] at hd
        obtain ⟨i1, i2, -⟩ := hi
        have i3 : I ≤ 2500000000000000 := by omega
        obtain ⟨d1, d2⟩ := hd
        have zl : -1 ≤ left - z - 1 := by omega
        have t2 : decide (z ≤ left) = true := by simp; omega
        clear hc hy hT hK hm TS hI i2
        go_wp2_with fail
        refine wp_region_quiet_below (by kernel_rfl) (by kernel_rfl) ?_
        repeat (go_big_quiet_step (first | (go_at_call 168; exact CC.out _ _)))
        refine wpQuiet_nil ?_
        intro wq hw'
        have WQ : Hid (Below wr.heap.size wr wq) := by
          obtain ⟨⟨dq, osq⟩, hw''⟩ := hw'
          rw [hw'']; exact below_regrown wr dq osq
        clear hw'
        go_wp2_with fail
        go_roundw
        case rel =>
          refine ⟨j + 1, z + (Tm.mk v nm ts).w19 (left - z), by omega, by go_num, ?_, by have := WL.out.1; omega, by have := WL.out.2.1; omega, ?_, ?_, belowThen hs.out.2.2 WQ.out⟩
          · rw [WW.out]
          · rw [← NX.out]; exact hs.out.1
          · have := WL.out.2.1; omega
        case measure => simp [intOf]; omega
      · have t2 : decide (z ≤ left) = false := by simp; omega
        have e := hs.out.1
        rw [tms19_done hz] at e
        go_wp2_with fail
        go_ret
        clear t2; subst e; exact ⟨rfl, hs.out.2.2⟩
    · have e := hs.out.1
      rw [List.drop_eq_nil_of_le (by rw [← L1.out]; omega), tms19] at e
      go_wp2_with fail
      go_ret
      subst e; exact ⟨rfl, hs.out.2.2⟩
mutual
theorem terms19_tm : ∀ t : Tm, TmsQ t.args
  | .mk v n ts => terms19_step ts (terms19_tms ts)
theorem terms19_tms : ∀ l : List Tm, ∀ t ∈ l, TmsQ t.args
  | [], _, h => by cases h
  | x :: xs, t, h => by
    rcases List.mem_cons.1 h with e | e
    · rw [e]; exact terms19_tm x
    · exact terms19_tms xs t e
end
theorem terms19_c (l : List Tm) : TmsQ l := terms19_step l (terms19_tms l)
def FmsQ (l : List Fm) : Prop := ∀ (w0 w : World) (a : Option Addr) (k c : Nat) (left : Int), FmsAt w0 l (.slice a k c) → Below w0.heap.size w0 w → fmsFit l → -1 ≤ left → left ≤ 300 → Calls Tryz.prog 93 #[.slice a k c, .int .i64 left] w fun e w' => e = .returned (.int .i64 (fms19 l 0 left)) ∧ Below w.heap.size w w'
theorem size19_step (l : List Fm) (hh : ∀ t ∈ l, FmsQ t.sub) : FmsQ l := by
  intro w0 w a k c left hx hw hsz l0 l1
  have hk := hx.len
  have hlk : k ≤ 9223372036854775807 := by have := le63 hk.2.2; omega
  have L1 := Lib.hid hk.1
  have H := Lib.hid hh
  have HX := Lib.hid hx
  have HW := Lib.hid hw
  have HS := Lib.hid hsz
  obtain ⟨N, hN⟩ : ∃ N, fms19 l 0 left = N := ⟨_, rfl⟩
  have HN := Lib.hid hN
  rw [hN]
  clear hk hh hx hw hsz hN
  go_enter Tryz.func93, Tryz.ntmps93
  go_wp2_with fail
  go_loopw [5, 6] (fun u i wr => ∃ (j : Nat) (z : Int), j ≤ k ∧ i = .int .i64 j ∧ u = .int .i64 z ∧ 0 ≤ z ∧ z ≤ 800000000000000000 ∧ Hid (fms19 (l.drop j) z left = N ∧ z ≤ (left + 2) * 2500000000000000 ∧ Below w.heap.size w wr)) (fun _ i _ => k - (intOf i).toNat)
  case atStart => exact ⟨0, 0, Nat.zero_le _, rfl, rfl, by omega, by omega, HN.out, by omega, Below.refl _ _⟩
  case round =>
    obtain ⟨j, z, hj, rfl, rfl, z0, z1, hs⟩ := hrel
    by_cases hlt : j < k
    · have t1 : decide ((j : Int) < (k : Int)) = true := by simp; omega
      by_cases hz : z ≤ left
      · obtain ⟨T, hT⟩ := get_of_lt (l := l) (j := j) (by rw [← L1.out]; exact hlt)
        obtain ⟨bb, off, rfl, hc⟩ := HX.out.get (ne_of_get hT)
        obtain ⟨y0, y1, y2, y3, y4, y5, hy⟩ := hc j _ hT
        have hK := keeps_of_below (belowThen HW.out hs.out.2.2)
        have c0 := cell_regrown (hK _ _ hy.c0); have c1 := cell_regrown (hK _ _ hy.c1); have c2 := cell_regrown (hK _ _ hy.c2); have c3 := cell_regrown (hK _ _ hy.c3)
        have hm := List.mem_of_getElem? hT
        have TS : T.fits := (fmsFit_iff l).1 HS.out T hm
        have NX := Lib.hid (fms19_next hT hz)
        have WL := Lib.hid (Fm.w19_le T (left - z) TS (by omega) (by omega))
        obtain ⟨op, nm, ts, fs⟩ := T
        simp only [Fm.op, Fm.name, Fm.args, Fm.sub] at *
        rw [Fm.fits] at TS
        have hd := div20 TS.1
        have hnl : nm.length ≤ 9223372036854775807 := by have := TS.1; omega
        have hi := tms19_le ts 0 (left - z) TS.2.1 (by omega) (by omega) (by omega) (by omega)
        have hi' := fms19_le fs 0 (left - z - 1) TS.2.2 (by omega) (by omega) (by omega) (by omega)
        have WW : Hid ((Fm.mk op nm ts fs).w19 (left - z) = 1 + (nm.length : Int).tdiv 20 + tms19 ts 0 (left - z) + fms19 fs 0 (left - z - 1)) := by show _ = _; rw [Fm.w19]
        obtain ⟨I, hI⟩ : ∃ I, tms19 ts 0 (left - z) = I := ⟨_, rfl⟩
        obtain ⟨J, hJ⟩ : ∃ I, fms19 fs 0 (left - z - 1) = I := ⟨_, rfl⟩
        obtain ⟨q, hq⟩ : ∃ q, (nm.length : Int).tdiv 20 = q := ⟨_, rfl⟩
        have CC : Hid (∀ d os, Calls Tryz.prog 168 #[.slice y0 y1 y2, .int .i64 (left - z)] (grow (redrawn wr d) os) fun e w'' => e = .returned (.int .i64 I) ∧ ∃ p : Regrown, w'' = grow (redrawn wr p.d) p.os) := fun d os =>
          Calls.regrown_of (by rw [← hI]; exact terms19_c ts w0 _ _ _ _ _ hy.at_ (belowThen (belowThen HW.out hs.out.2.2) (below_regrown wr d os)) TS.2.1 (by omega) (by omega))
        have CD : Hid (∀ d os, Calls Tryz.prog 93 #[.slice y3 y4 y5, .int .i64 (left - z - 1)] (grow (redrawn wr d) os) fun e w'' => e = .returned (.int .i64 J) ∧ ∃ p : Regrown, w'' = grow (redrawn wr p.d) p.os) := fun d os =>
          Calls.regrown_of (by rw [← hJ]; exact H.out _ hm w0 _ _ _ _ _ hy.at' (belowThen (belowThen HW.out hs.out.2.2) (below_regrown wr d os)) TS.2.2 (by omega) (by omega))
        rw [hI] at hi
        rw [hJ] at hi'
        rw [hI, hJ, hq] at WW
        rw [hq] at hd
        obtain ⟨i1, i2, -⟩ := hi
        obtain ⟨j1, j2, -⟩ := hi'
        have i3 : I ≤ 2500000000000000 := by omega
        have j3 : J ≤ 800000000000000000 := by omega
        obtain ⟨d1, d2⟩ := hd
        have zl : -1 ≤ left - z - 1 := by omega
        have t2 : decide (z ≤ left) = true := by simp; omega
        clear hc hy hT hK hm TS hI hJ i2 j2
        go_wp2_with fail
        refine wp_region_quiet_below (by kernel_rfl) (by kernel_rfl) ?_
        repeat (go_big_quiet_step (first | (go_at_call 168; exact CC.out _ _) | (go_at_call 93; exact CD.out _ _)))
        refine wpQuiet_nil ?_
        intro wq hw'
        have WQ : Hid (Below wr.heap.size wr wq) := by
          obtain ⟨⟨dq, osq⟩, hw''⟩ := hw'
          rw [hw'']; exact below_regrown wr dq osq
        clear hw'
        go_wp2_with fail
        go_roundw
        case rel =>
          refine ⟨j + 1, z + (Fm.mk op nm ts fs).w19 (left - z), by omega, by go_num, ?_, by have := WL.out.1; omega, by have := WL.out.2.1; omega, ?_, ?_, belowThen hs.out.2.2 WQ.out⟩
          · rw [WW.out]
          · rw [← NX.out]; exact hs.out.1
          · have := WL.out.2.1; omega
        case measure => simp [intOf]; omega
      · have t2 : decide (z ≤ left) = false := by simp; omega
        have e := hs.out.1
        rw [fms19_done hz] at e
        go_wp2_with fail
        go_ret
        clear t2; subst e; exact ⟨rfl, hs.out.2.2⟩
    · have e := hs.out.1
      rw [List.drop_eq_nil_of_le (by rw [← L1.out]; omega), fms19] at e
      go_wp2_with fail
      go_ret
      subst e; exact ⟨rfl, hs.out.2.2⟩
mutual
theorem size19_fm : ∀ t : Fm, FmsQ t.sub
  | .mk o n ts fs => size19_step fs (size19_fms fs)
theorem size19_fms : ∀ l : List Fm, ∀ t ∈ l, FmsQ t.sub
  | [], _, h => by cases h
  | x :: xs, t, h => by
    rcases List.mem_cons.1 h with e | e
    · rw [e]; exact size19_fm x
    · exact size19_fms xs t e
end
theorem size19_c (l : List Fm) : FmsQ l := size19_step l (size19_fms l)
theorem row48q {w : World} {b : Nat} {x y : Value} (h : w.heap[b]? = some (.cells #[x, y] 48 (0, 0))) : w.cell? ⟨b, 0, none⟩ = some x ∧ w.cell? ⟨b, 1, none⟩ = some y :=
  ⟨(box_cell h 0).trans rfl, (box_cell h 1).trans rfl⟩
/-- What lyceumlaw19.Few says. -/
def few19 (G S : List Fm) : Bool := decide (fms19 G 0 300 + fms19 S 0 300 ≤ 300)
theorem few19_nodes {G S : List Fm} (hG : fmsFit G) (hS : fmsFit S) (h : few19 G S = true) : fmsNodes G ≤ 300 ∧ fmsNodes S ≤ 300 := by
  have h1 := fms19_le G 0 300 hG (by omega) (by omega) (by omega) (by omega)
  have h2 := fms19_le S 0 300 hS (by omega) (by omega) (by omega) (by omega)
  unfold few19 at h
  simp only [decide_eq_true_eq] at h
  have h3 := h1.2.2 (by omega)
  have h4 := h2.2.2 (by omega)
  omega
theorem few19_c (G S : List Fm) (a : Option Addr) (k c : Nat) (a' : Option Addr) (m d : Nat) (w : World) (hx : FmsAt w G (.slice a k c)) (hx' : FmsAt w S (.slice a' m d)) (hG : fmsFit G) (hS : fmsFit S) :
    Calls Tryz.prog 28 #[.agg #[.slice a k c, .slice a' m d]] w fun e w' => e = .returned (.bool (few19 G S)) ∧ Below w.heap.size w w' := by
  have h1 := fms19_le G 0 300 hG (by omega) (by omega) (by omega) (by omega)
  have h2 := fms19_le S 0 300 hS (by omega) (by omega) (by omega) (by omega)
  have HB : Hid (Below w.heap.size w (w.alloc (.cells #[.slice a k c, .slice a' m d] 48))) := (Below.refl _ _).alloc (Nat.le_refl _) _
  have NEW := heap_alloc_new w (.cells #[.slice a k c, .slice a' m d] 48)
  obtain ⟨I, hI⟩ : ∃ I, fms19 G 0 300 = I := ⟨_, rfl⟩
  obtain ⟨J, hJ⟩ : ∃ I, fms19 S 0 300 = I := ⟨_, rfl⟩
  have CC : Hid (∀ dd os, Calls Tryz.prog 93 #[.slice a k c, .int .i64 300] (grow (redrawn (w.alloc (.cells #[.slice a k c, .slice a' m d] 48)) dd) os) fun e w'' => e = .returned (.int .i64 I) ∧ ∃ p : Regrown, w'' = grow (redrawn (w.alloc (.cells #[.slice a k c, .slice a' m d] 48)) p.d) p.os) := fun dd os =>
    Calls.regrown_of (by rw [← hI]; exact size19_c G w _ _ _ _ _ hx (belowThen HB.out (below_regrown _ dd os)) hG (by omega) (by omega))
  have CD : Hid (∀ dd os, Calls Tryz.prog 93 #[.slice a' m d, .int .i64 300] (grow (redrawn (w.alloc (.cells #[.slice a k c, .slice a' m d] 48)) dd) os) fun e w'' => e = .returned (.int .i64 J) ∧ ∃ p : Regrown, w'' = grow (redrawn (w.alloc (.cells #[.slice a k c, .slice a' m d] 48)) p.d) p.os) := fun dd os =>
    Calls.regrown_of (by rw [← hJ]; exact size19_c S w _ _ _ _ _ hx' (belowThen HB.out (below_regrown _ dd os)) hS (by omega) (by omega))
  have HF : Hid (few19 G S = decide (I + J ≤ 300)) := by show _ = _; rw [← hI, ← hJ]; rfl
  rw [hI] at h1
  rw [hJ] at h2
  obtain ⟨i1, i2, -⟩ := h1
  obtain ⟨j1, j2, -⟩ := h2
  have i3 : I ≤ 800000000000000000 := by omega
  have j3 : J ≤ 800000000000000000 := by omega
  obtain ⟨c0, c1⟩ := row48q NEW
  have c0 := cell_regrown c0
  have c1 := cell_regrown c1
  obtain ⟨bb, hbb⟩ : ∃ bb, decide (I + J ≤ 300) = bb := ⟨_, rfl⟩
  rw [hbb] at HF
  rw [HF.out]
  clear hx hx' hG hS hI hJ i2 j2 NEW HF
  go_enter Tryz.func28, Tryz.ntmps28
  go_wp2_with fail
  refine wp_region_quiet_below (by kernel_rfl) (by kernel_rfl) ?_
  repeat (go_big_quiet_step (first | (go_at_call_of 93 (Value.slice a k c); exact CC.out _ _) | (go_at_call_of 93 (Value.slice a' m d); exact CD.out _ _)))
  refine wpQuiet_nil ?_
  intro wq hw'
  have WQ : Hid (Below w.heap.size w wq) := by
    obtain ⟨⟨dq, osq⟩, hw''⟩ := hw'
    rw [hw'']; exact belowThen HB.out (below_regrown _ dq osq)
  clear hw'
  go_wp2_with fail
  go_ret
  exact ⟨rfl, WQ.out⟩
end Go.Proofs.YtcandidgaegghaaGreatDoor
end
section
namespace Go.Proofs.YtcandidgaegghaaGreatDoor
open Go Go.RowKit Ly
set_option maxRecDepth 10000
set_option linter.unusedSimpArgs false
set_option linter.unusedVariables false
set_option maxHeartbeats 4000000
theorem cAns_cases (s : Bs) : (16384 < s.length ∧ cAns s = ([], [], 3)) ∨ (s.length ≤ 16384 ∧ cAns s = ([], [], 2)) ∨ (s.length ≤ 16384 ∧ ∃ X Y, cAns s = (X, Y, 0) ∧ claimText X Y = s ∧ ∀ g ∈ X ++ Y, g.right = true) := by
  unfold cAns
  by_cases h : 16384 < s.length
  · exact .inl ⟨h, by rw [if_pos h]⟩
  · rw [if_neg h]
    cases e : cGot s with
    | none => exact .inr (.inl ⟨by omega, rfl⟩)
    | some p =>
      obtain ⟨X, Y⟩ := p
      obtain ⟨h1, h2⟩ := cGot_ok e
      exact .inr (.inr ⟨by omega, X, Y, rfl, h1, h2⟩)
theorem rGot_right {f : Fm} (h : f.right = true) : rGot f.text = (f, 0, 0) := by
  have hl := (right_len h).2
  simp [rGot, show ¬ 16384 < f.text.length by omega, readPR_text h, h]
theorem cStep_given {G : List Fm} {f : Fm} (h : f.right = true) : cStep G [] ([103, 105, 118, 101, 110] ++ [32] ++ f.text) = some (G ++ [f], []) := by
  unfold cStep
  rw [cut_word _ _ (by decide)]
  simp [rGot_right h, wGiven0]
theorem cStep_show {G S : List Fm} {f : Fm} (h : f.right = true) : cStep G S ([115, 104, 111, 119] ++ [32] ++ f.text) = some (G, S ++ [f]) := by
  unfold cStep
  rw [cut_word _ _ (by decide)]
  simp [rGot_right h, wGiven0]
theorem cFold_parts {G S : List Fm} (hG : ∀ g ∈ G, g.right = true) (hS : ∀ g ∈ S, g.right = true) : ∀ k, k ≤ (claimParts G S).length → cFold [] [] ((claimParts G S).take k) = some (G.take k, S.take (k - G.length))
  | 0, _ => by simp [cFold]
  | k + 1, hk => by
    obtain ⟨x, hx⟩ := get_of_lt (l := claimParts G S) (j := k) (by omega)
    rw [take_snoc hx, cFold_snoc, cFold_parts hG hS k (by omega)]
    rcases part_at hx with ⟨f, h1, h2, h3, rfl⟩ | ⟨f, h1, h2, h3, rfl⟩
    · have e : k - G.length = 0 := by omega
      have e' : k + 1 - G.length = 0 := by omega
      rw [e, e', List.take_zero]
      show cStep _ _ _ = _
      rw [cStep_given (hG f h3), take_snoc h2]
    · have e : k + 1 - G.length = (k - G.length) + 1 := by omega
      rw [e, take_snoc h2, List.take_of_length_le h1, List.take_of_length_le (show G.length ≤ k + 1 by omega)]
      show cStep _ _ _ = _
      rw [cStep_show (hS f h3)]
theorem cGot_text {G S : List Fm} (hG : ∀ g ∈ G, g.right = true) (hS : ∀ g ∈ S, g.right = true) : cGot (claimText G S) = some (G, S) := by
  cases hp : claimParts G S with
  | nil =>
    have hh := hp
    unfold claimParts at hh
    have := List.append_eq_nil_iff.1 hh
    obtain rfl := List.map_eq_nil_iff.1 this.1
    obtain rfl := List.map_eq_nil_iff.1 this.2
    rfl
  | cons y r =>
    unfold cGot
    rw [if_neg (claimParts_ne hp)]
    have hs : Lib.split (claimText G S) cs = claimParts G S := split_join (c := 44) (t := [32]) _ (by rw [hp]; simp) (claimParts_not hG hS)
    have hl : (claimParts G S).length = G.length + S.length := by simp [claimParts]
    have := cFold_parts hG hS (claimParts G S).length (Nat.le_refl _)
    rw [List.take_length, hl, List.take_of_length_le (show G.length ≤ G.length + S.length by omega), List.take_of_length_le (show S.length ≤ G.length + S.length - G.length by omega)] at this
    rw [hs, this]
theorem joinBy_count (sep : Bs) (hs : 1 ≤ sep.length) : ∀ l : List Bs, l.length ≤ (joinBy sep l).length + 1
  | [] => by simp
  | [x] => by simp
  | x :: y :: r => by
    have := joinBy_count sep hs (y :: r)
    simp only [joinBy, List.length_append, List.length_cons] at this ⊢
    omega
theorem claim_count (G S : List Fm) : G.length + S.length ≤ (claimText G S).length + 1 := by
  have := joinBy_count cs (by decide) (claimParts G S)
  unfold claimText
  simp only [claimParts, List.length_append, List.length_map] at this ⊢
  exact this
theorem ReadClaim_all (T : Bs) (hlen : T.length ≤ maxLen) (w : World) (hm : MaxAt w) (hr : RowsAt w) (hrn : RowsNo w) : Calls Tryz.prog 45 #[str T] w (CmAns T w) := by
  by_cases h : T.length ≤ 16384
  · exact ReadClaim_any T h w hm hr hrn
  · exact ReadClaim_long T (by omega) hlen w
/-- What lies in memory while claims runs: the claim's row, the lent one's. -/
structure CmS (w : World) (G S : List Fm) (a : Option Addr) (k c : Nat) (a' : Option Addr) (m d : Nat) (lb ln lc lb' ln' lc' g5 : Nat) (W : World) : Prop where
  bw : Below w.heap.size w W
  c2 : W.heap[w.heap.size]? = some (.cells #[.slice a k c, .slice a' m d] 48 (0, 0))
  c5 : W.heap[g5]? = some (.cells #[.slice (some ⟨lb, 0, none⟩) ln lc, .slice (some ⟨lb', 0, none⟩) ln' lc'] 48 (0, 0))
  lt : FmsLent W G (.slice (some ⟨lb, 0, none⟩) ln lc)
  lf : FmsLent W S (.slice (some ⟨lb', 0, none⟩) ln' lc')
theorem CmS.below {w W W' : World} {G S : List Fm} {a a' : Option Addr} {k c m d lb ln lc lb' ln' lc' g5 : Nat} (h : CmS w G S a k c a' m d lb ln lc lb' ln' lc' g5 W) (b : Below W.heap.size W W') : CmS w G S a k c a' m d lb ln lc lb' ln' lc' g5 W' :=
  ⟨belowThen h.bw b, kc b h.c2, kc b h.c5, h.lt.keep (keeps_of_below b), h.lf.keep (keeps_of_below b)⟩
theorem CmS.new {w w1 : World} {G S : List Fm} {a a' : Option Addr} {k c m d lb ln lc lb' ln' lc' : Nat} (b : Below (w.alloc (.cells #[.slice a k c, .slice a' m d] 48)).heap.size (w.alloc (.cells #[.slice a k c, .slice a' m d] 48)) w1)
    (h1 : FmsLent (hide (lo (w.alloc (.cells #[.slice a k c, .slice a' m d] 48))) w1) G (.slice (some ⟨lb, 0, none⟩) ln lc)) (h2 : FmsLent (hide (lo (w.alloc (.cells #[.slice a k c, .slice a' m d] 48))) w1) S (.slice (some ⟨lb', 0, none⟩) ln' lc')) :
    CmS w G S a k c a' m d lb ln lc lb' ln' lc' w1.heap.size (w1.alloc (.cells #[.slice (some ⟨lb, 0, none⟩) ln lc, .slice (some ⟨lb', 0, none⟩) ln' lc'] 48)) :=
  have hA : Below w1.heap.size w1 (w1.alloc (.cells #[.slice (some ⟨lb, 0, none⟩) ln lc, .slice (some ⟨lb', 0, none⟩) ln' lc'] 48)) := (Below.refl _ _).alloc (Nat.le_refl _) _
  ⟨belowThen (belowThen ((Below.refl _ _).alloc (Nat.le_refl _) _) b) hA, kc hA (kc b (heap_alloc_new _ _)), heap_alloc_new _ _, (h1.keep (hide_keeps _ _)).keep (keeps_of_below hA), (h2.keep (hide_keeps _ _)).keep (keeps_of_below hA)⟩
theorem claims_c (G S : List Fm) (zG : fmsSz G) (zS : fmsSz S) (nG : fmsNodes G ≤ 300) (nS : fmsNodes S ≤ 300) (s : Bs) (hs : s.length ≤ maxLen) (x : Value) (w : World) (hr : RowsAt w) (hrn : RowsNo w) (hm : MaxAt w) (hx : SqVal w G S x) :
    Calls Tryz.prog 29 #[x, str s] w fun e w' => e = .returned (.bool true) ∧ Below w.heap.size w w' := by
  obtain ⟨a, k, c, a', m, d, rfl, h1, h2⟩ := hx
  have hl2 : (s.length : Int) ≤ 9223372036854775807 := by unfold maxLen at hs; omega
  have lG := fmsNodes_len G
  have lS := fmsNodes_len S
  obtain ⟨cd, hcd⟩ : ∃ cd, clCd G S = cd := ⟨_, rfl⟩
  obtain ⟨T, hT⟩ : ∃ T, clTxt G S = T := ⟨_, rfl⟩
  have ZZ : ∀ g ∈ G ++ S, g.sz ∧ g.nodes ≤ 1000000 := fun g hg => by
    rcases List.mem_append.1 hg with h | h
    · exact ⟨(fmsSz_iff G).1 zG g h, by have := fmsNodes_mem h; omega⟩
    · exact ⟨(fmsSz_iff S).1 zS g h, by have := fmsNodes_mem h; omega⟩
  have C94 := Lib.hid (lentSeq_c G S a k c a' m d (w.alloc (.cells #[.slice a k c, .slice a' m d] 48)) (h1.keep (keeps1 _ _)) (h2.keep (keeps1 _ _)) (by omega) (by omega))
  have C22 : Hid (∀ {lb ln lc lb' ln' lc' g5 : Nat} W, CmS w G S a k c a' m d lb ln lc lb' ln' lc' g5 W → Calls Tryz.prog 22 #[.agg #[.slice (some ⟨lb, 0, none⟩) ln lc, .slice (some ⟨lb', 0, none⟩) ln' lc']] W fun e w' => e = .returned (.tuple #[str T, .int .i64 cd]) ∧ Below W.heap.size W w') := fun W Z => by
    rw [← hT, ← hcd]
    exact Claim_any G S zG zS (by omega) _ W (hr.keep (keeps_of_below Z.bw)) (hrn.keep (keeps_of_below Z.bw)) ⟨_, _, _, _, _, _, rfl, Z.lt.at, Z.lf.at⟩
  have C45 : Hid (∀ t : Bs, t.length ≤ maxLen → ∀ W, Below w.heap.size w W → Calls Tryz.prog 45 #[str t] W (CmAns t W)) := fun t ht W hW => ReadClaim_all t ht W (hm.keep (keeps_of_below hW)) (hr.keep (keeps_of_below hW)) (hrn.keep (keeps_of_below hW))
  have C95 : Hid (∀ {lb ln lc lb' ln' lc' g5 : Nat} W, CmS w G S a k c a' m d lb ln lc lb' ln' lc' g5 W → Calls Tryz.prog 95 #[.agg #[.slice (some ⟨lb, 0, none⟩) ln lc, .slice (some ⟨lb', 0, none⟩) ln' lc'], .agg #[.slice a k c, .slice a' m d]] W fun e w' => e = .returned (.bool true) ∧ Below W.heap.size W w') := fun W Z =>
    keptSeq_c G S _ _ _ _ _ _ _ _ _ _ _ _ W Z.lt Z.lf (h1.keep (keeps_of_below Z.bw)) (h2.keep (keeps_of_below Z.bw))
  have C96 : Hid (∀ W, Below w.heap.size w W → Calls Tryz.prog 96 #[.agg #[.slice a k c, .slice a' m d]] W fun e w' => e = .returned (.tuple #[str T, .int .i64 cd]) ∧ Below W.heap.size W w') := fun W hW => by
    rw [← hT, ← hcd]
    exact refClaim_c G S _ _ _ _ _ _ W (h1.keep (keeps_of_below hW)) (h2.keep (keeps_of_below hW)) (by omega) ZZ
  have C26 : Hid (∀ W, Below w.heap.size w W → ∀ v, SqVal W G S v → Calls Tryz.prog 26 #[v, .agg #[.slice a k c, .slice a' m d]] W fun e w' => e = .returned (.bool true) ∧ Below W.heap.size W w') := fun W hW v hv => by
    have := SameSeq_c G S G S _ _ W hv ⟨_, _, _, _, _, _, rfl, h1.keep (keeps_of_below hW), h2.keep (keeps_of_below hW)⟩
    rwa [(fmsSame_iff G G).2 rfl, (fmsSame_iff S S).2 rfl] at this
  have TC : (cd = 2) ∨ (cd = 0 ∧ claimText G S = T ∧ (∀ g ∈ G, g.right = true) ∧ (∀ g ∈ S, g.right = true)) := by
    rw [← hT, ← hcd]
    by_cases h : clR G S = true
    · refine .inr ⟨by simp [clCd, h], by simp [clTxt, h], ?_, ?_⟩ <;> intro g hg <;> exact (List.all_eq_true.1 h) g (by simp [hg])
    · exact .inl (by simp [clCd, h])
  have TL : T.length ≤ 140737488355328 := by
    rcases TC with h | ⟨-, h3, h4, h5⟩
    · rw [← hT]; unfold clTxt; split
      · rename_i hR
        have h4 : ∀ g ∈ G, g.right = true := fun g hg => (List.all_eq_true.1 hR) g (by simp [hg])
        have h5 : ∀ g ∈ S, g.right = true := fun g hg => (List.all_eq_true.1 hR) g (by simp [hg])
        exact (claim_len h4 h5 (by omega)).2
      · simp
    · rw [← h3]; exact (claim_len h4 h5 (by omega)).2
  have RB : Hid (cd = 0 → T.length ≤ 16384 → ∀ W, Below w.heap.size w W → Calls Tryz.prog 45 #[str T] W fun e w' => ∃ ga gn gc ha hn hc, e = .returned (.tuple #[.agg #[.slice ga gn gc, .slice ha hn hc], .int .i64 0]) ∧ FmsAt w' G (.slice ga gn gc) ∧ FmsAt w' S (.slice ha hn hc) ∧ Below W.heap.size W w') := fun h0 hl W hW => by
    rcases TC with h | ⟨-, h3, h4, h5⟩
    · omega
    · have hR := ReadClaim_all T (by unfold maxLen; omega) W (hm.keep (keeps_of_below hW)) (hr.keep (keeps_of_below hW)) (hrn.keep (keeps_of_below hW))
      unfold CmAns at hR
      have hA : cAns T = (G, S, 0) := by unfold cAns; rw [if_neg (show ¬ 16384 < T.length by omega), ← h3, cGot_text h4 h5]
      rwa [hA] at hR
  obtain ⟨X, Y, co, hg⟩ : ∃ X Y co, cAns s = (X, Y, co) := ⟨_, _, _, rfl⟩
  have C45s : Hid (∀ W, Below w.heap.size w W → Calls Tryz.prog 45 #[str s] W fun e w' => ∃ ga gn gc ha hn hc, e = .returned (.tuple #[.agg #[.slice ga gn gc, .slice ha hn hc], .int .i64 co]) ∧ FmsAt w' X (.slice ga gn gc) ∧ FmsAt w' Y (.slice ha hn hc) ∧ Below W.heap.size W w') := fun W hW => by
    have := C45.out s hs W hW
    unfold CmAns at this
    rwa [hg] at this
  have KA := cAns_cases s
  rw [hg] at KA
  have CX : Hid (co = 0 → ∀ W ga gn gc ha hn hc, FmsAt W X (.slice ga gn gc) → FmsAt W Y (.slice ha hn hc) → Calls Tryz.prog 96 #[.agg #[.slice ga gn gc, .slice ha hn hc]] W fun e w' => e = .returned (.tuple #[str s, .int .i64 0]) ∧ Below W.heap.size W w') := fun h0 W ga gn gc ha hn hc e1 e2 => by
    rcases KA with ⟨-, h⟩ | ⟨-, h⟩ | ⟨hl, X', Y', h, h3, h4⟩
    · simp only [Prod.mk.injEq] at h; omega
    · simp only [Prod.mk.injEq] at h; omega
    · simp only [Prod.mk.injEq] at h
      obtain ⟨rfl, rfl, -⟩ := h
      have hcnt := claim_count X Y
      rw [h3] at hcnt
      have := refClaim_c X Y ga gn gc ha hn hc W e1 e2 (by omega) (fun g hg => sz_of_right (h4 g hg))
      have hy := cl_yes (G := X) (S := Y) (fun g hg => h4 g (by simp [hg])) (fun g hg => h4 g (by simp [hg]))
      rwa [hy.1, hy.2, h3] at this
  have KC : (co = 3 ∧ 16384 < s.length ∧ X = [] ∧ Y = []) ∨ (co = 2 ∧ s.length ≤ 16384 ∧ X = [] ∧ Y = []) ∨ (co = 0 ∧ s.length ≤ 16384) := by
    rcases KA with ⟨h0, h⟩ | ⟨h0, h⟩ | ⟨hl, X', Y', h, -, -⟩
    · simp only [Prod.mk.injEq] at h; exact .inl ⟨h.2.2, h0, h.1, h.2.1⟩
    · simp only [Prod.mk.injEq] at h; exact .inr (.inl ⟨h.2.2, h0, h.1, h.2.1⟩)
    · simp only [Prod.mk.injEq] at h; exact .inr (.inr ⟨h.2.2, hl⟩)
  have TC2 : cd = 2 ∨ cd = 0 := by rcases TC with h | h; exact .inl h; exact .inr h.1
  clear KA TC hg hcd hT lG lS nG nS zG zS ZZ hr hrn hm h1 h2 hs C45
  go_enter Tryz.func29, Tryz.ntmps29
  go_upto_region 7 with (first
    | (go_at_call 94; refine C94.out.mono ?_; rintro e w1 ⟨lb, ln, lc, lb', ln', lc', rfl, l1, l2, b1⟩; have S1 := Lib.hid (CmS.new b1 l1 l2); clear l1 l2 b1; obtain ⟨p0, p1, -, -⟩ := row48z S1.out.c5)
    | (go_at_call 22; refine (C22.out _ S1.out).mono ?_; rintro e w2 ⟨rfl, b2⟩; have S2 := Lib.hid (S1.out.below b2); clear b2 p0 p1; obtain ⟨p0, p1, -, -⟩ := row48z S2.out.c5)
    | (go_at_call 45; refine (C45s.out _ S2.out.bw).mono ?_; rintro e w3 ⟨ga, gn, gc, ha, hn, hc, rfl, x1, x2, b3⟩; have BA := Lib.hid ((Below.refl w3.heap.size w3).alloc (Nat.le_refl _) (.cells #[.slice ga gn gc, .slice ha hn hc] 48)); have S3 := Lib.hid ((S2.out.below b3).below BA.out); have X3 := Lib.hid (x1.keep (keeps_of_below BA.out)); have Y3 := Lib.hid (x2.keep (keeps_of_below BA.out)); have R3 := Lib.hid (heap_alloc_new w3 (.cells #[.slice ga gn gc, .slice ha hn hc] 48)); clear x1 x2 b3 p0 p1; obtain ⟨p0, p1, -, -⟩ := row48z S3.out.c5; obtain ⟨q0, q1, -, -⟩ := row48z S3.out.c2)
    | (go_at_call 95; refine (C95.out _ S3.out).mono ?_; rintro e w4 ⟨rfl, b4⟩; have S4 := Lib.hid (S3.out.below b4); have R4 := Lib.hid (kc b4 R3.out); have X4 := Lib.hid (X3.out.keep (keeps_of_below b4)); have Y4 := Lib.hid (Y3.out.keep (keeps_of_below b4)); clear b4 p0 p1 q0 q1; obtain ⟨q0, q1, -, -⟩ := row48z S4.out.c2)
    | (go_at_call 96; refine (C96.out _ S4.out.bw).mono ?_; rintro e w5 ⟨rfl, b5⟩; have S5 := Lib.hid (S4.out.below b5); have R5 := Lib.hid (kc b5 R4.out); have X5 := Lib.hid (X4.out.keep (keeps_of_below b5)); have Y5 := Lib.hid (Y4.out.keep (keeps_of_below b5)); clear b5 q0 q1; obtain ⟨q0, q1, -, -⟩ := row48z S5.out.c2; obtain ⟨r0, r1, -, -⟩ := row48z R5.out))
  rcases KC with ⟨rfl, h16, rfl, rfl⟩ | ⟨rfl, h16, rfl, rfl⟩ | ⟨rfl, h16⟩
  · obtain rfl : gn = 0 := by have := X5.out.len; simpa using this.1
    obtain rfl : hn = 0 := by have := Y5.out.len; simpa using this.1
    have t8 : decide ((16384 : Int) < s.length) = true := by simp; omega
    clear CX
    go_upto_region 13 with fail
    rcases TC2 with rfl | rfl
    · go_wp2_with fail
      go_ret
      exact ⟨rfl, S5.out.bw⟩
    · by_cases hl : T.length ≤ 16384
      · have t9 : decide ((16384 : Int) < T.length) = false := by simp; omega
        have RB' := Lib.hid (RB.out rfl hl)
        clear RB
        obtain ⟨q0, q1, -, -⟩ := row48z S5.out.c2
        go_wp2_with (first
          | (go_at_call 26; refine (C26.out _ S8.out.bw _ ⟨_, _, _, _, _, _, rfl, X8.out, Y8.out⟩).mono ?_; rintro e w9 ⟨rfl, b9⟩; have S9 := Lib.hid (S8.out.below b9); clear b9)
          | (go_at_call 45; refine (RB'.out _ S5.out.bw).mono ?_; rintro e w7 ⟨ya, yn, yc, za, zn, zc, rfl, e1, e2, b7⟩; have BA7 := Lib.hid ((Below.refl w7.heap.size w7).alloc (Nat.le_refl _) (.cells #[.slice ya yn yc, .slice za zn zc] 48)); have S8 := Lib.hid ((S5.out.below b7).below BA7.out); have X8 := Lib.hid (e1.keep (keeps_of_below BA7.out)); have Y8 := Lib.hid (e2.keep (keeps_of_below BA7.out)); have R8 := Lib.hid (heap_alloc_new w7 (.cells #[.slice ya yn yc, .slice za zn zc] 48)); clear e1 e2 b7 q0 q1; obtain ⟨q0, q1, -, -⟩ := row48z S8.out.c2; obtain ⟨p0, p1, -, -⟩ := row48z R8.out))
        go_ret
        exact ⟨rfl, S9.out.bw⟩
      · have t9 : decide ((16384 : Int) < T.length) = true := by simp; omega
        clear RB
        go_wp2_with fail
        go_ret
        exact ⟨rfl, S5.out.bw⟩
  · obtain rfl : gn = 0 := by have := X5.out.len; simpa using this.1
    obtain rfl : hn = 0 := by have := Y5.out.len; simpa using this.1
    have t8 : decide ((16384 : Int) < s.length) = false := by simp; omega
    clear CX
    go_upto_region 13 with fail
    rcases TC2 with rfl | rfl
    · go_wp2_with fail
      go_ret
      exact ⟨rfl, S5.out.bw⟩
    · by_cases hl : T.length ≤ 16384
      · have t9 : decide ((16384 : Int) < T.length) = false := by simp; omega
        have RB' := Lib.hid (RB.out rfl hl)
        clear RB
        obtain ⟨q0, q1, -, -⟩ := row48z S5.out.c2
        go_wp2_with (first
          | (go_at_call 26; refine (C26.out _ S8.out.bw _ ⟨_, _, _, _, _, _, rfl, X8.out, Y8.out⟩).mono ?_; rintro e w9 ⟨rfl, b9⟩; have S9 := Lib.hid (S8.out.below b9); clear b9)
          | (go_at_call 45; refine (RB'.out _ S5.out.bw).mono ?_; rintro e w7 ⟨ya, yn, yc, za, zn, zc, rfl, e1, e2, b7⟩; have BA7 := Lib.hid ((Below.refl w7.heap.size w7).alloc (Nat.le_refl _) (.cells #[.slice ya yn yc, .slice za zn zc] 48)); have S8 := Lib.hid ((S5.out.below b7).below BA7.out); have X8 := Lib.hid (e1.keep (keeps_of_below BA7.out)); have Y8 := Lib.hid (e2.keep (keeps_of_below BA7.out)); have R8 := Lib.hid (heap_alloc_new w7 (.cells #[.slice ya yn yc, .slice za zn zc] 48)); clear e1 e2 b7 q0 q1; obtain ⟨q0, q1, -, -⟩ := row48z S8.out.c2; obtain ⟨p0, p1, -, -⟩ := row48z R8.out))
        go_ret
        exact ⟨rfl, S9.out.bw⟩
      · have t9 : decide ((16384 : Int) < T.length) = true := by simp; omega
        clear RB
        go_wp2_with fail
        go_ret
        exact ⟨rfl, S5.out.bw⟩
  · have t8 : decide ((16384 : Int) < s.length) = false := by simp; omega
    go_upto_region 13 with (go_at_call 96; refine (CX.out rfl _ _ _ _ _ _ _ X5.out Y5.out).mono ?_; rintro e w6 ⟨rfl, b6⟩; have S6 := Lib.hid (S5.out.below b6); clear b6 q0 q1 r0 r1)
    rcases TC2 with rfl | rfl
    · go_wp2_with fail
      go_ret
      exact ⟨rfl, S6.out.bw⟩
    · by_cases hl : T.length ≤ 16384
      · have t9 : decide ((16384 : Int) < T.length) = false := by simp; omega
        have RB' := Lib.hid (RB.out rfl hl)
        clear RB
        obtain ⟨q0, q1, -, -⟩ := row48z S6.out.c2
        go_wp2_with (first
          | (go_at_call 26; refine (C26.out _ S8.out.bw _ ⟨_, _, _, _, _, _, rfl, X8.out, Y8.out⟩).mono ?_; rintro e w9 ⟨rfl, b9⟩; have S9 := Lib.hid (S8.out.below b9); clear b9)
          | (go_at_call 45; refine (RB'.out _ S6.out.bw).mono ?_; rintro e w7 ⟨ya, yn, yc, za, zn, zc, rfl, e1, e2, b7⟩; have BA7 := Lib.hid ((Below.refl w7.heap.size w7).alloc (Nat.le_refl _) (.cells #[.slice ya yn yc, .slice za zn zc] 48)); have S8 := Lib.hid ((S6.out.below b7).below BA7.out); have X8 := Lib.hid (e1.keep (keeps_of_below BA7.out)); have Y8 := Lib.hid (e2.keep (keeps_of_below BA7.out)); have R8 := Lib.hid (heap_alloc_new w7 (.cells #[.slice ya yn yc, .slice za zn zc] 48)); clear e1 e2 b7 q0 q1; obtain ⟨q0, q1, -, -⟩ := row48z S8.out.c2; obtain ⟨p0, p1, -, -⟩ := row48z R8.out))
        go_ret
        exact ⟨rfl, S9.out.bw⟩
      · have t9 : decide ((16384 : Int) < T.length) = true := by simp; omega
        clear RB
        go_wp2_with fail
        go_ret
        exact ⟨rfl, S6.out.bw⟩
theorem describeClaims_c (G S : List Fm) (zG : fmsSz G) (zS : fmsSz S) (fG : fmsFit G) (fS : fmsFit S) (s : Bs) (hs : s.length ≤ maxLen) (x : Value) (w : World) (hr : RowsAt w) (hrn : RowsNo w) (hp : PowAt w) (hm : MaxAt w) (hx : SqVal w G S x) :
    Calls Tryz.prog 6 #[x, str s] w fun e w' => e = .returned (.bool true) ∧ Below w.heap.size w w' := by
  obtain ⟨a, k, c, a', m, d, rfl, h1, h2⟩ := hx
  have hl2 : (s.length : Int) ≤ 9223372036854775807 := by unfold maxLen at hs; omega
  have HB : Hid (Below w.heap.size w (w.alloc (.cells #[.slice a k c, .slice a' m d] 48))) := (Below.refl _ _).alloc (Nat.le_refl _) _
  have NEW := Lib.hid (heap_alloc_new w (.cells #[.slice a k c, .slice a' m d] 48))
  obtain ⟨fw, hfw⟩ : ∃ fw, few19 G S = fw := ⟨_, rfl⟩
  have FEW : Hid (Calls Tryz.prog 28 #[.agg #[.slice a k c, .slice a' m d]] (w.alloc (.cells #[.slice a k c, .slice a' m d] 48)) fun e w' => e = .returned (.bool fw) ∧ Below (w.alloc (.cells #[.slice a k c, .slice a' m d] 48)).heap.size (w.alloc (.cells #[.slice a k c, .slice a' m d] 48)) w') := by
    rw [← hfw]; exact few19_c G S a k c a' m d _ (h1.keep (keeps1 _ _)) (h2.keep (keeps1 _ _)) fG fS
  have C29' : Hid (fw = true → ∀ W, Below w.heap.size w W → Calls Tryz.prog 29 #[.agg #[.slice a k c, .slice a' m d], str s] W fun e w' => e = .returned (.bool true) ∧ Below W.heap.size W w') := fun h6 W hW => by
    have hn := few19_nodes fG fS (hfw.trans h6)
    exact claims_c G S zG zS hn.1 hn.2 s hs _ W (hr.keep (keeps_of_below hW)) (hrn.keep (keeps_of_below hW)) (hm.keep (keeps_of_below hW)) ⟨_, _, _, _, _, _, rfl, h1.keep (keeps_of_below hW), h2.keep (keeps_of_below hW)⟩
  have C14 : Hid (∀ W, Below w.heap.size w W → Calls Tryz.prog 14 #[] W fun e w' => e = .returned (.bool true) ∧ Below W.heap.size W w') := fun W hW =>
    awake_c W (hr.keep (keeps_of_below hW)) (hp.below hW) (hm.keep (keeps_of_below hW))
  clear hr hrn hp hm h1 h2 zG zS fG fS hs hfw
  cases fw
  · clear C29'
    go_enter Tryz.func6, Tryz.ntmps6
    go_wp2_with (first
      | (go_at_call 28; refine FEW.out.mono ?_; rintro e w2 ⟨rfl, b2⟩; have B2 := Lib.hid (belowThen HB.out b2); clear b2)
      | (go_at_call 14; refine (C14.out _ B2.out).mono ?_; rintro e w4 ⟨rfl, b4⟩; have B4 := Lib.hid (belowThen B2.out b4); clear b4))
    go_ret
    exact ⟨rfl, B4.out⟩
  · have C29 := Lib.hid (C29'.out rfl)
    clear C29'
    by_cases h3 : (3000 : Int) < s.length
    · have t3 : decide ((3000 : Int) < s.length) = true := by simp; omega
      by_cases h4 : (s.length : Int) ≤ 16384
      · have t4 : decide ((s.length : Int) ≤ 16384) = true := by simp; omega
        go_enter Tryz.func6, Tryz.ntmps6
        go_wp2_with (first
          | (go_at_call 28; refine FEW.out.mono ?_; rintro e w2 ⟨rfl, b2⟩; have B2 := Lib.hid (belowThen HB.out b2); clear b2)
          | (go_at_call 14; refine (C14.out _ B2.out).mono ?_; rintro e w4 ⟨rfl, b4⟩; have B4 := Lib.hid (belowThen B2.out b4); clear b4))
        go_ret
        exact ⟨rfl, B4.out⟩
      · have t4 : decide ((s.length : Int) ≤ 16384) = false := by simp; omega
        go_enter Tryz.func6, Tryz.ntmps6
        go_wp2_with (first
          | (go_at_call 28; refine FEW.out.mono ?_; rintro e w2 ⟨rfl, b2⟩; have B2 := Lib.hid (belowThen HB.out b2); have E2 := Lib.hid (kc b2 NEW.out); clear b2; obtain ⟨p0, p1, -, -⟩ := row48z E2.out)
          | (go_at_call 29; refine (C29.out _ B2.out).mono ?_; rintro e w3 ⟨rfl, b3⟩; have B3 := Lib.hid (belowThen B2.out b3); clear b3)
          | (go_at_call 14; refine (C14.out _ B3.out).mono ?_; rintro e w4 ⟨rfl, b4⟩; have B4 := Lib.hid (belowThen B3.out b4); clear b4))
        go_ret
        exact ⟨rfl, B4.out⟩
    · have t3 : decide ((3000 : Int) < s.length) = false := by simp; omega
      go_enter Tryz.func6, Tryz.ntmps6
      go_wp2_with (first
        | (go_at_call 28; refine FEW.out.mono ?_; rintro e w2 ⟨rfl, b2⟩; have B2 := Lib.hid (belowThen HB.out b2); have E2 := Lib.hid (kc b2 NEW.out); clear b2; obtain ⟨p0, p1, -, -⟩ := row48z E2.out)
        | (go_at_call 29; refine (C29.out _ B2.out).mono ?_; rintro e w3 ⟨rfl, b3⟩; have B3 := Lib.hid (belowThen B2.out b3); clear b3)
        | (go_at_call 14; refine (C14.out _ B3.out).mono ?_; rintro e w4 ⟨rfl, b4⟩; have B4 := Lib.hid (belowThen B3.out b4); clear b4))
      go_ret
      exact ⟨rfl, B4.out⟩
end Go.Proofs.YtcandidgaegghaaGreatDoor
end
section
namespace Go.Proofs.YtcandidgaegghaaGreatDoor
open Go Go.ChangeShapes Go.WideShapes Go.ChangeAt Go.RowKit Ly
set_option maxRecDepth 10000
set_option linter.unusedSimpArgs false
set_option linter.unusedVariables false
section
variable {H : Type} {enc : TypeId × Value → H} {W : World}
def Light (t : TypeId) (d : DataW H) : Prop := ∀ n ∈ DataW.weights Tryz.prog t d, n ≤ 140737488351232
theorem weightsAll_mem {e : TypeId} : ∀ {l : List (DataW H)} {d : DataW H}, d ∈ l → ∀ n ∈ d.weights Tryz.prog e, n ∈ DataW.weightsAll Tryz.prog e l
  | x :: l, d, hd, n, hn => by
    simp only [DataW.weightsAll, List.mem_append]
    rcases List.mem_cons.1 hd with rfl | hd
    · exact .inl hn
    · exact .inr (weightsAll_mem hd n hn)
theorem slice_fit {α : Type} [Inhabited α] {k : Nat} {one : α → List D} {all : List α → List D} (hall : ∀ l, (all l).length = l.length * k) (hone : ∀ x, (one x).length = k)
    (hget : ∀ (l : List α) (i : Nat) (x : α), l[i]? = some x → ∀ j, j < k → (all l)[i * k + j]? = (one x)[j]?) {P : α → Prop} {t e : TypeId} {fuel : Nat} {cs : List Value} {y : DataW H × List MemPlace}
    (ht : Tryz.prog.underlying t = some (.slice e)) (hc : Tryz.prog.cellsOf e = k) (hk : 0 < k) (hy : Light t y.1)
    (elem : ∀ n cs y, n < fuel → cs.length = k → Light e y.1 → DataW.trod enc Tryz.prog W 0 (fun _ => true) true n e cs = some y → ∃ x : α, P x ∧ LieAt W cs (one x))
    (h : DataW.trod enc Tryz.prog W 0 (fun _ => true) true fuel t cs = some y) : ∃ (l : List α) (a : Option Addr) (n c : Nat), cs = [.slice a n c] ∧ (∀ x ∈ l, P x) ∧ At W (.sl k l.length (all l)) (.slice a n c) := by
  rcases DataW.trod_slice ht h with ⟨rfl, -⟩ | ⟨ad, len, cap, elems, rest, n, rfl, rfl, rfl, -, hlc, hcm, hel, hx, -⟩
  · refine ⟨[], none, 0, 0, rfl, by simp, ?_⟩
    have : all [] = [] := List.eq_nil_of_length_eq_zero (by rw [hall]; simp)
    rw [this]
    exact At.sl_nil (Nat.zero_le _)
  · have hy2 : ∀ z ∈ elems, Light e z.1 := fun z hz n hn => hy n (by
      simp only [DataW.weights, ht, List.mem_cons, List.mem_append]
      exact .inr (.inl (weightsAll_mem (List.mem_map_of_mem hz) n hn)))
    obtain ⟨f, hF⟩ := Go.Deep.choose_lt (α := α) (n := len) (p := fun i x => P x ∧ ∀ (j : Nat) (d : D), (one x)[j]? = some d → ∃ u, W.cell? (ad.add (i * k + j)) = some u ∧ At W d u) fun i hi => by
      have h1 := hx i hi
      rw [List.getElem?_eq_getElem (show i < elems.length by omega)] at h1
      obtain ⟨cs', h2, h3⟩ := Option.bind_eq_some_iff.1 h1
      obtain ⟨_, h4, h5⟩ := World.cells?_some h2
      rw [hc] at h4 h5
      obtain ⟨x, h6, h7⟩ := elem n cs' _ (Nat.lt_succ_self n) h4 (hy2 _ (List.getElem_mem _)) h3
      refine ⟨x, h6, fun j d hd => ?_⟩
      obtain ⟨u, h8, h9⟩ := h7 j d hd
      have hj : j < k := by rw [← hone x]; exact (List.getElem?_eq_some_iff.1 hd).1
      have h10 := h5 j hj
      rw [h8, Go.Deep.add_add] at h10
      exact ⟨u, h10, h9⟩
    refine ⟨(List.range len).map f, _, _, _, rfl, ?_, ?_⟩
    · intro x hm
      obtain ⟨i, hi, rfl⟩ := List.mem_map.1 hm
      exact (hF i (List.mem_range.1 hi)).1
    · have hl : ((List.range len).map f).length = len := by simp
      rw [hl]
      rcases Nat.eq_zero_or_pos len with h0 | h0
      · subst h0
        have : all ((List.range 0).map f) = [] := List.eq_nil_of_length_eq_zero (by rw [hall]; simp)
        rw [this]
        exact At.sl_nil hcm
      · obtain ⟨ab, ao, spot⟩ := ad
        have hspot : spot = none := by
          obtain ⟨u, h1, _⟩ := (hF 0 h0).2 0 _ (List.getElem?_eq_getElem (show 0 < (one (f 0)).length by rw [hone]; exact hk))
          simpa [Addr.add] using World.cell?_spot h1
        subst hspot
        refine At.sl_mk (by rw [hall, hl]) hlc hcm fun j d hd => ?_
        have hj : j < len * k := by
          have := (List.getElem?_eq_some_iff.1 hd).1
          rwa [hall, hl] at this
        have hi : j / k < len := Nat.div_lt_of_lt_mul (by rwa [Nat.mul_comm])
        have hjk : j / k * k + j % k = j := by rw [Nat.mul_comm]; exact Nat.div_add_mod j k
        have h1 := hget ((List.range len).map f) (j / k) (f (j / k)) (by rw [List.getElem?_map, List.getElem?_range hi]; rfl) (j % k) (Nat.mod_lt _ hk)
        rw [hjk, hd] at h1
        obtain ⟨u, h2, h3⟩ := (hF _ hi).2 _ _ h1.symm
        rw [hjk, Addr.add_lit] at h2
        exact ⟨u, h2, h3⟩
theorem str_fit {fuel : Nat} {cs : List Value} {y : DataW H × List MemPlace} (hy : Light 9 y.1) (h : DataW.trod enc Tryz.prog W 0 (fun _ => true) true fuel 9 cs = some y) : ∃ s : Bs, cs = [str s] ∧ s.length ≤ maxLen ∧ s.length ≤ 140737488351232 := by
  obtain ⟨s, rfl, rfl, hs⟩ := DataW.trod_string Tryz.underlying9 h
  refine ⟨s.data.toList, ?_, ?_, ?_⟩
  · simp
  · simpa using hs
  · exact hy _ (by simp [DataW.weights])
theorem list3 {α : Type} {xs : List α} {a b c : α} (h : xs.length = 3) (h0 : xs[0]? = some a) (h1 : xs[1]? = some b) (h2 : xs[2]? = some c) : xs = [a, b, c] := by
  match xs, h with
  | [x, y, z], _ => simp at h0 h1 h2; simp [h0, h1, h2]
theorem list4 {α : Type} {xs : List α} {a b c d : α} (h : xs.length = 4) (h0 : xs[0]? = some a) (h1 : xs[1]? = some b) (h2 : xs[2]? = some c) (h3 : xs[3]? = some d) : xs = [a, b, c, d] := by
  match xs, h with
  | [x, y, z, w], _ => simp at h0 h1 h2 h3; simp [h0, h1, h2, h3]
theorem list2 {α : Type} {xs : List α} {a b : α} (h : xs.length = 2) (h0 : xs[0]? = some a) (h1 : xs[1]? = some b) : xs = [a, b] := by
  match xs, h with
  | [x, y], _ => simp at h0 h1; simp [h0, h1]
theorem tm_fit (fuel : Nat) : ∀ (cs : List Value) (y : DataW H × List MemPlace), Light 95 y.1 → DataW.trod enc Tryz.prog W 0 (fun _ => true) true fuel 95 cs = some y → ∃ t : Tm, (t.sz ∧ t.fits) ∧ LieAt W cs t.ds := by
  induction fuel using Nat.strongRecOn with
  | _ fuel ih =>
  intro cs y hy h
  obtain ⟨xs, n, rfl, rfl, hl, hxl, hall⟩ := DataW.trod_struct Tryz.underlying95 h
  have hx : ∀ i, i < 3 → ∃ z, xs[i]? = some z := fun i hi => ⟨_, List.getElem?_eq_getElem (show i < xs.length by rw [hxl]; exact hi)⟩
  obtain ⟨z0, g0⟩ := hx 0 (by omega)
  obtain ⟨z1, g1⟩ := hx 1 (by omega)
  obtain ⟨z2, g2⟩ := hx 2 (by omega)
  have e := list3 hxl g0 g1 g2
  have hw : DataW.weights Tryz.prog 95 (DataW.agg (xs.map (·.1))) = z0.1.weights Tryz.prog 4 ++ (z1.1.weights Tryz.prog 9 ++ (z2.1.weights Tryz.prog 22 ++ [])) := by
    rw [e]; simp [DataW.weights, DataW.weightsEach, Tryz.underlying95]
  have y1 : Light 9 z1.1 := fun n hn => hy n (by show n ∈ DataW.weights Tryz.prog 95 _; rw [hw]; simp [hn])
  have y2 : Light 22 z2.1 := fun n hn => hy n (by show n ∈ DataW.weights Tryz.prog 95 _; rw [hw]; simp [hn])
  have h0 : DataW.trod enc Tryz.prog W 0 (fun _ => true) true n 4 ((cs.drop 0).take (Tryz.prog.cellsOf 4)) = _ := (hall 0 _ rfl).trans g0
  have h1 : DataW.trod enc Tryz.prog W 0 (fun _ => true) true n 9 ((cs.drop 1).take (Tryz.prog.cellsOf 9)) = _ := (hall 1 _ rfl).trans g1
  have h2 : DataW.trod enc Tryz.prog W 0 (fun _ => true) true n 22 ((cs.drop 2).take (Tryz.prog.cellsOf 22)) = _ := (hall 2 _ rfl).trans g2
  rw [cells4] at h0
  rw [cells9] at h1
  rw [cells22] at h2
  obtain ⟨b, e0, -⟩ := DataW.trod_bool Tryz.underlying4 h0
  obtain ⟨s, e1, hs, hs2⟩ := str_fit y1 h1
  obtain ⟨l, a, m, c, e2, hP, hA⟩ := slice_fit (k := 3) (one := Tm.ds) (all := tmsDs) (P := fun t => t.sz ∧ t.fits) tmsDs_len Tm.ds_length tmsDs_get Tryz.underlying22 cells95 (by decide) y2 (fun n' cs' y' hn _ hy' h' => ih n' (by omega) cs' y' hy' h') h2
  refine ⟨.mk b s l, ⟨⟨hs, (tmsSz_iff l).2 fun x hx => (hP x hx).1⟩, ⟨hs2, (tmsFit_iff l).2 fun x hx => (hP x hx).2⟩⟩, fun j d hd => ?_⟩
  rw [tm_ds] at hd
  rcases (show j = 0 ∨ j = 1 ∨ j = 2 ∨ 3 ≤ j by omega) with rfl | rfl | rfl | h3
  · cases hd; exact ⟨_, cell_of_one e0, rfl⟩
  · cases hd; exact ⟨_, cell_of_one e1, rfl⟩
  · cases hd; exact ⟨_, cell_of_one e2, hA⟩
  · rw [List.getElem?_eq_none (by simpa using h3)] at hd; cases hd
theorem fm_fit (fuel : Nat) : ∀ (cs : List Value) (y : DataW H × List MemPlace), Light 25 y.1 → DataW.trod enc Tryz.prog W 0 (fun _ => true) true fuel 25 cs = some y → ∃ t : Fm, (t.sz ∧ t.fits) ∧ LieAt W cs t.ds := by
  induction fuel using Nat.strongRecOn with
  | _ fuel ih =>
  intro cs y hy h
  obtain ⟨xs, n, rfl, rfl, hl, hxl, hall⟩ := DataW.trod_struct Tryz.underlying25 h
  have hx : ∀ i, i < 4 → ∃ z, xs[i]? = some z := fun i hi => ⟨_, List.getElem?_eq_getElem (show i < xs.length by rw [hxl]; exact hi)⟩
  obtain ⟨z0, g0⟩ := hx 0 (by omega)
  obtain ⟨z1, g1⟩ := hx 1 (by omega)
  obtain ⟨z2, g2⟩ := hx 2 (by omega)
  obtain ⟨z3, g3⟩ := hx 3 (by omega)
  have e := list4 hxl g0 g1 g2 g3
  have hw : DataW.weights Tryz.prog 25 (DataW.agg (xs.map (·.1))) = z0.1.weights Tryz.prog 5 ++ (z1.1.weights Tryz.prog 9 ++ (z2.1.weights Tryz.prog 22 ++ (z3.1.weights Tryz.prog 23 ++ []))) := by
    rw [e]; simp [DataW.weights, DataW.weightsEach, Tryz.underlying25]
  have y1 : Light 9 z1.1 := fun n hn => hy n (by show n ∈ DataW.weights Tryz.prog 25 _; rw [hw]; simp [hn])
  have y2 : Light 22 z2.1 := fun n hn => hy n (by show n ∈ DataW.weights Tryz.prog 25 _; rw [hw]; simp [hn])
  have y3 : Light 23 z3.1 := fun n hn => hy n (by show n ∈ DataW.weights Tryz.prog 25 _; rw [hw]; simp [hn])
  have h0 : DataW.trod enc Tryz.prog W 0 (fun _ => true) true n 5 ((cs.drop 0).take (Tryz.prog.cellsOf 5)) = _ := (hall 0 _ rfl).trans g0
  have h1 : DataW.trod enc Tryz.prog W 0 (fun _ => true) true n 9 ((cs.drop 1).take (Tryz.prog.cellsOf 9)) = _ := (hall 1 _ rfl).trans g1
  have h2 : DataW.trod enc Tryz.prog W 0 (fun _ => true) true n 22 ((cs.drop 2).take (Tryz.prog.cellsOf 22)) = _ := (hall 2 _ rfl).trans g2
  have h3 : DataW.trod enc Tryz.prog W 0 (fun _ => true) true n 23 ((cs.drop 3).take (Tryz.prog.cellsOf 23)) = _ := (hall 3 _ rfl).trans g3
  rw [cells5] at h0
  rw [cells9] at h1
  rw [cells22] at h2
  rw [cells23] at h3
  obtain ⟨op, e0, -, hw'⟩ := DataW.trod_int Tryz.underlying5 h0
  have hb := bounds_u8 hw'
  obtain ⟨s, e1, hs, hs2⟩ := str_fit y1 h1
  obtain ⟨l, a, m, c, e2, hP, hA⟩ := slice_fit (k := 3) (one := Tm.ds) (all := tmsDs) (P := fun t => t.sz ∧ t.fits) tmsDs_len Tm.ds_length tmsDs_get Tryz.underlying22 cells95 (by decide) y2 (fun n' cs' y' hn _ hy' h' => tm_fit n' cs' y' hy' h') h2
  obtain ⟨l', a', m', c', e3, hP', hA'⟩ := slice_fit (k := 4) (one := Fm.ds) (all := fmsDs) (P := fun t => t.sz ∧ t.fits) fmsDs_len Fm.ds_length fmsDs_get Tryz.underlying23 cells25 (by decide) y3 (fun n' cs' y' hn _ hy' h' => ih n' (by omega) cs' y' hy' h') h3
  refine ⟨.mk op s l l', ⟨⟨⟨hb.1, by omega⟩, hs, (tmsSz_iff l).2 fun x hx => (hP x hx).1, (fmsSz_iff l').2 fun x hx => (hP' x hx).1⟩, ⟨hs2, (tmsFit_iff l).2 fun x hx => (hP x hx).2, (fmsFit_iff l').2 fun x hx => (hP' x hx).2⟩⟩, fun j d hd => ?_⟩
  rw [fm_ds] at hd
  rcases (show j = 0 ∨ j = 1 ∨ j = 2 ∨ j = 3 ∨ 4 ≤ j by omega) with rfl | rfl | rfl | rfl | h3
  · cases hd; exact ⟨_, cell_of_one e0, rfl⟩
  · cases hd; exact ⟨_, cell_of_one e1, rfl⟩
  · cases hd; exact ⟨_, cell_of_one e2, hA⟩
  · cases hd; exact ⟨_, cell_of_one e3, hA'⟩
  · rw [List.getElem?_eq_none (by simpa using h3)] at hd; cases hd
theorem cells48 : Tryz.prog.cellsOf 48 = 2 := by kernel_rfl
/-- A claim that came in by value. -/
theorem sq_of {base : Nat} {v : Value} {d : DataW H} {p : List MemPlace} (hval : Value.okWide Tryz.prog W .any base 48 v) (hy : Light 48 d) (h : DataW.Trod enc Tryz.prog W 0 (fun _ => true) true 48 v d p) :
    ∃ (G S : List Fm), (fmsSz G ∧ fmsFit G) ∧ (fmsSz S ∧ fmsFit S) ∧ SqVal W G S v := by
  obtain ⟨cs, rfl, hsz⟩ := okWide_struct Tryz.underlying48 hval
  rw [cells48] at hsz
  obtain ⟨fuel, h⟩ := h
  obtain ⟨xs, n, rfl, e1, hl, hxl, hall⟩ := DataW.trod_struct Tryz.underlying48 h
  simp only [Prod.mk.injEq] at e1
  obtain ⟨rfl, -⟩ := e1
  have hx : ∀ i, i < 2 → ∃ z, xs[i]? = some z := fun i hi => ⟨_, List.getElem?_eq_getElem (show i < xs.length by rw [hxl]; exact hi)⟩
  obtain ⟨z0, g0⟩ := hx 0 (by omega)
  obtain ⟨z1, g1⟩ := hx 1 (by omega)
  have e := list2 hxl g0 g1
  have hw : DataW.weights Tryz.prog 48 (DataW.agg (xs.map (·.1))) = z0.1.weights Tryz.prog 23 ++ (z1.1.weights Tryz.prog 23 ++ []) := by
    rw [e]; simp [DataW.weights, DataW.weightsEach, Tryz.underlying48]
  have y0 : Light 23 z0.1 := fun n hn => hy n (by show n ∈ DataW.weights Tryz.prog 48 _; rw [hw]; simp [hn])
  have y1 : Light 23 z1.1 := fun n hn => hy n (by show n ∈ DataW.weights Tryz.prog 48 _; rw [hw]; simp [hn])
  have h0 : DataW.trod enc Tryz.prog W 0 (fun _ => true) true n 23 (((Value.agg cs).cells.toList.drop 0).take (Tryz.prog.cellsOf 23)) = _ := (hall 0 _ rfl).trans g0
  have h1 : DataW.trod enc Tryz.prog W 0 (fun _ => true) true n 23 (((Value.agg cs).cells.toList.drop 1).take (Tryz.prog.cellsOf 23)) = _ := (hall 1 _ rfl).trans g1
  rw [cells23] at h0 h1
  obtain ⟨l, a, m, c, e0, hP, hA⟩ := slice_fit (k := 4) (one := Fm.ds) (all := fmsDs) (P := fun t => t.sz ∧ t.fits) fmsDs_len Fm.ds_length fmsDs_get Tryz.underlying23 cells25 (by decide) y0 (fun n' cs' y' hn _ hy' h' => fm_fit n' cs' y' hy' h') h0
  obtain ⟨l', a', m', c', e1, hP', hA'⟩ := slice_fit (k := 4) (one := Fm.ds) (all := fmsDs) (P := fun t => t.sz ∧ t.fits) fmsDs_len Fm.ds_length fmsDs_get Tryz.underlying23 cells25 (by decide) y1 (fun n' cs' y' hn _ hy' h' => fm_fit n' cs' y' hy' h') h1
  have c0 := cell_of_one e0
  have c1 := cell_of_one e1
  simp only [Value.cells, Array.getElem?_toList] at c0 c1
  have hcs : cs = #[.slice a m c, .slice a' m' c'] := by
    apply Array.ext
    · simp [hsz]
    · intro i h1 h2
      rcases (show i = 0 ∨ i = 1 by omega) with rfl | rfl
      · simpa using (Array.getElem?_eq_some_iff.1 c0).2
      · simpa using (Array.getElem?_eq_some_iff.1 c1).2
  subst hcs
  exact ⟨l, l', ⟨(fmsSz_iff l).2 fun x hx => (hP x hx).1, (fmsFit_iff l).2 fun x hx => (hP x hx).2⟩, ⟨(fmsSz_iff l').2 fun x hx => (hP' x hx).1, (fmsFit_iff l').2 fun x hx => (hP' x hx).2⟩, a, m, c, a', m', c', rfl, hA, hA'⟩
end
end Go.Proofs.YtcandidgaegghaaGreatDoor
end
