/- What SkeletonOf asks of formulas (its closure alike): it answers true where they are alike, and the second one is right. Conditions: those of each statement. -/
import Derived.Test.YtppfalbnhnpbnaaGreatDoorOgCY
import Derived.Test.YtppfalbnhnpbnaaGreatDoorRnAY
import Derived.Test.YtppfalbnhnpbnaaGreatDoorRdCY
set_option linter.unusedSimpArgs false
set_option linter.unusedVariables false
namespace Go.Proofs.YtppfalbnhnpbnaaGreatDoor
open Go Go.RowKit Ly
set_option maxRecDepth 10000
theorem fmsAlike_len : ∀ ts us : List Fm, fmsAlike ts us = true → us.length = ts.length
  | [], [], _ => rfl
  | [], _ :: _, h => by simp [fmsAlike] at h
  | _ :: _, [], h => by simp [fmsAlike] at h
  | t :: ts, u :: us, h => by
    simp only [fmsAlike, Bool.and_eq_true] at h
    simp [fmsAlike_len ts us h.2]
theorem fmsAlike_get : ∀ (ts us : List Fm) (i : Nat) (t u : Fm), fmsAlike ts us = true → ts[i]? = some t → us[i]? = some u → t.alike u = true
  | [], _, i, t, u, _, h, _ => by simp at h
  | _ :: _, [], i, t, u, h, _, _ => by simp [fmsAlike] at h
  | x :: ts, y :: us, 0, t, u, h, h1, h2 => by
    simp only [List.getElem?_cons_zero, Option.some.injEq] at h1 h2
    subst h1 h2
    simp only [fmsAlike, Bool.and_eq_true] at h
    exact h.1
  | x :: ts, y :: us, i + 1, t, u, h, h1, h2 => by
    simp only [fmsAlike, Bool.and_eq_true] at h
    exact fmsAlike_get ts us i t u h.2 (by simpa using h1) (by simpa using h2)
theorem fmsNodes_in' {g : Fm} : ∀ {fs : List Fm}, g ∈ fs → g.nodes ≤ fmsNodes fs
  | [], h => by cases h
  | f :: fs, h => by
    rcases List.mem_cons.1 h with rfl | h
    · simp [fmsNodes]
    · have := fmsNodes_in' h; simp [fmsNodes]; omega
theorem fmsDepth_in' {g : Fm} : ∀ {fs : List Fm}, g ∈ fs → g.depth ≤ fmsDepth fs
  | [], h => by cases h
  | f :: fs, h => by
    rcases List.mem_cons.1 h with rfl | h
    · simp [fmsDepth]; omega
    · have := fmsDepth_in' h; simp [fmsDepth]; omega
theorem right_in {op : Int} {nm : Bs} {ts : List Tm} {fs : List Fm} {g : Fm} (h : (Fm.mk op nm ts fs).right = true) (hg : g ∈ fs) : g.right = true := by
  simp only [Fm.right, Bool.and_eq_true, decide_eq_true_eq] at h ⊢
  obtain ⟨⟨h1, h2⟩, h3⟩ := h
  unfold Fm.ok at h1
  simp only [Bool.and_eq_true] at h1
  refine ⟨⟨fmsOk_in h1.2 hg, ?_⟩, ?_⟩
  · have := fmsNodes_in' hg; simp [Fm.nodes] at h2; omega
  · have := fmsDepth_in' hg; simp [Fm.depth] at h3; omega
structure MidA (W : World) (op : Int) (nm nm2 : Bs) (a b c d : Value) (X : World) : Prop where
  bt : Below W.heap.size W X
  r0 : X.heap[W.heap.size]? = some (.cells #[.int .u8 op, str nm, a, b] 40 (0, 0))
  r1 : X.heap[W.heap.size + 1]? = some (.cells #[.int .u8 op, str nm2, c, d] 40 (0, 0))
theorem MidA.next {W : World} {op : Int} {nm nm2 : Bs} {a b c d : Value} {X Y : World} (h : MidA W op nm nm2 a b c d X) (e : Below X.heap.size X Y) : MidA W op nm nm2 a b c d Y := ⟨belowThen h.bt e, kc e h.r0, kc e h.r1⟩
theorem midA_new (W : World) (op : Int) (nm nm2 : Bs) (a b c d : Value) : MidA W op nm nm2 a b c d ((W.alloc (.cells #[.int .u8 op, str nm, a, b] 40)).alloc (.cells #[.int .u8 op, str nm2, c, d] 40)) := by
  refine ⟨((Below.refl _ _).alloc (Nat.le_refl _) _).alloc (by simp) _, keep_new _ (heap_alloc_new W _), ?_⟩
  have := heap_alloc_new (W.alloc (.cells #[.int .u8 op, str nm, a, b] 40)) (.cells #[.int .u8 op, str nm2, c, d] 40)
  rw [World.size_alloc] at this
  exact this
def FL (f : Fm) : Prop := ∀ (g : Fm), f.alike g = true → g.right = true → ∀ (W : World) (B B2 : Nat) (x y : Value), RowsAt W → W.heap[B]? = some (.cells #[.func (.func 14) #[] #[one B]] 35 (0, 0)) → W.heap[B2]? = some (.cells #[.func (.func 15) #[] #[one B, one B2]] 34 (0, 0)) → FmVal W f x → FmVal W g y →
  Calls Tryz.prog 15 #[x, y, one B, one B2] W fun e w' => e = .returned (.bool true) ∧ Below W.heap.size W w'
set_option maxHeartbeats 8000000 in
theorem fl_step (op : Int) (nm : Bs) (ts : List Tm) (fs : List Fm) (ih : ∀ t ∈ fs, FL t) : FL (.mk op nm ts fs) := by
  intro g hal hgr W B B2 x y hr hB hB2 hx0 hy0
  obtain ⟨op', nm2, us, gs⟩ := g
  simp only [Fm.alike, Bool.and_eq_true, decide_eq_true_eq] at hal
  obtain ⟨⟨⟨⟨rfl, ha⟩, hn1⟩, hn2⟩, hs⟩ := hal
  have hy1 := hy0
  obtain ⟨xa, xn, xc, xb, N, xd, rfl, hx, hx'⟩ : ∃ a n c b m d, x = .agg #[.int .u8 op, str nm, .slice a n c, .slice b m d] ∧ TmsAt W ts (.slice a n c) ∧ FmsAt W fs (.slice b m d) := hx0
  obtain ⟨ya, yn, yc, yb, N', yd, rfl, hy, hy'⟩ : ∃ a n c b m d, y = .agg #[.int .u8 op, str nm2, .slice a n c, .slice b m d] ∧ TmsAt W us (.slice a n c) ∧ FmsAt W gs (.slice b m d) := hy0
  have hl := hx'.len
  have hl2 := hy'.len
  have hN : N = N' := by rw [hl2.1, fmsAlike_len _ _ hs, hl.1]
  subst hN
  have N0 : N ≤ 9223372036854775807 := le63 (Nat.le_trans hl.2.1 hl.2.2)
  have L1 := Lib.hid hl.1
  have L2 := Lib.hid hl2.1
  have HX := Lib.hid (And.intro hx hx')
  have HY := Lib.hid (And.intro hy hy')
  have HB := Lib.hid hB
  have HB2 := Lib.hid hB2
  have HR := Lib.hid hr
  have TC : Hid (∀ w, Below W.heap.size W w → Calls Tryz.prog 14 #[.slice xa xn xc, .slice ya yn yc, one B] w fun e w' => e = .returned (.bool true) ∧ Below w.heap.size w w') := fun w hb => tl_all ts us ha w B xa xn xc ya yn yc (kc hb hB) (hx.keep (keeps_of_below hb)) (hy.keep (keeps_of_below hb))
  have RG : Hid (∀ w, Below W.heap.size W w → Calls Tryz.prog 16 #[.agg #[.int .u8 op, str nm2, .slice ya yn yc, .slice yb N yd]] w fun e w' => e = .returned (.bool true) ∧ Below w.heap.size w w') := fun w hb => Right_yes (.mk op nm2 us gs) _ w (hr.keep (keeps_of_below hb)) (FmVal.keep hy1 (keeps_of_below hb)) hgr
  have FT : Hid (∀ (j : Nat) (T U : Fm), fs[j]? = some T → gs[j]? = some U → ∀ (w : World) (x y : Value), Below W.heap.size W w → FmVal w T x → FmVal w U y → Calls Tryz.prog 15 #[x, y, one B, one B2] w fun e w' => e = .returned (.bool true) ∧ Below w.heap.size w w') := fun j T U hT hU w x y hb h1 h2 =>
    ih T (List.mem_of_getElem? hT) U (fmsAlike_get fs gs j T U hs hT hU) (right_in hgr (List.mem_of_getElem? hU)) w B B2 x y (hr.keep (keeps_of_below hb)) (kc hb hB) (kc hb hB2) h1 h2
  have M0 := Lib.hid (midA_new W op nm nm2 (.slice xa xn xc) (.slice xb N xd) (.slice ya yn yc) (.slice yb N yd))
  obtain ⟨W0, hW0⟩ : ∃ W0, (W.alloc (.cells #[.int .u8 op, str nm, .slice xa xn xc, .slice xb N xd] 40)).alloc (.cells #[.int .u8 op, str nm2, .slice ya yn yc, .slice yb N yd] 40) = W0 := ⟨_, rfl⟩
  rw [hW0] at M0
  obtain ⟨⟨p0, p1, p2, p3⟩, -⟩ := row40 M0.out.r0
  obtain ⟨⟨q0, q1, q2, q3⟩, -⟩ := row40 M0.out.r1
  have b0 := (box_cell (kc M0.out.bt HB.out) 0).trans rfl
  clear hl hl2 hx hx' hy hy' hB hB2 ih ha hs hr hgr hy1
  go_enter Tryz.func15, Tryz.ntmps15
  by_cases h1 : op = 1
  · subst h1
    rw [if_pos rfl] at hn1
    obtain ⟨hr, rfl⟩ := head_cons hn1
    clear hn1 hn2
    go_wp2_with (go_at_call 14
                 refine (TC.out _ M0.out.bt).mono ?_
                 rintro e w1 ⟨rfl, b1⟩
                 have M1 := Lib.hid (M0.out.next b1)
                 clear b1 p0 p1 p2 p3 q0 q1 q2 q3 TC
                 obtain ⟨⟨p0, p1, p2, p3⟩, -⟩ := row40 M1.out.r0
                 obtain ⟨⟨q0, q1, q2, q3⟩, -⟩ := row40 M1.out.r1)
    clear p0 p1 p2 p3 q0 q1 q2 q3 b0
    go_loopw [61] (fun i wr => ∃ j : Nat, j ≤ N ∧ i = .int .i64 j ∧ Hid (MidA W 1 nm (80 :: hr) (.slice xa xn xc) (.slice xb N xd) (.slice ya yn yc) (.slice yb N yd) wr)) (fun i _ => N - (intOf i).toNat)
    case atStart => exact ⟨0, Nat.zero_le _, rfl, M1.out⟩
    case round =>
      obtain ⟨j, hj, rfl, HS⟩ := hrel
      clear M1
      by_cases hlt : j < N
      · obtain ⟨T, hT⟩ := get_of_lt (l := fs) (j := j) (by rw [← L1.out]; exact hlt)
        obtain ⟨U, hU⟩ := get_of_lt (l := gs) (j := j) (by rw [← L2.out]; exact hlt)
        obtain ⟨bb, off, rfl, hc⟩ := HX.out.2.get (ne_of_get hT)
        obtain ⟨x0, x1, x2, x3, x4, x5, hx⟩ := hc j _ hT
        obtain ⟨bb2, off2, rfl, hd⟩ := HY.out.2.get (ne_of_get hU)
        obtain ⟨y0, y1, y2, y3, y4, y5, hy⟩ := hd j _ hU
        have K := keeps_of_below HS.out.bt
        have HC : Hid (FmCells wr bb (off + j * 4) T x0 x1 x2 x3 x4 x5) := ⟨K _ _ hx.c0, K _ _ hx.c1, K _ _ hx.c2, K _ _ hx.c3, hx.at_.keep K, hx.at'.keep K⟩
        have HD : Hid (FmCells wr bb2 (off2 + j * 4) U y0 y1 y2 y3 y4 y5) := ⟨K _ _ hy.c0, K _ _ hy.c1, K _ _ hy.c2, K _ _ hy.c3, hy.at_.keep K, hy.at'.keep K⟩
        have HT : Hid (∀ w x y, Below wr.heap.size wr w → FmVal w T x → FmVal w U y → Calls Tryz.prog 15 #[x, y, one B, one B2] w fun e w' => e = .returned (.bool true) ∧ Below w.heap.size w w') := fun w x y hb h1 h2 => FT.out j T U hT hU w x y (belowThen HS.out.bt hb) h1 h2
        clear hc hd hx hy K hT hU
        go_wp2_with fail
        refine wp_region_flow_at og6 (by kernel_rfl) (by kernel_rfl) (by kernel_rfl) 80 rfl (by kernel_rfl) [64, 65, 66, 67, 68, 69, 70, 71, 72, 73, 74, 75, 76] (by kernel_rfl) (rAt (ogDR 1 nm (80 :: hr) T U bb off xd bb2 off2 yd j N B B2 W.heap.size (W.heap.size + 1) (.slice xa xn xc) (.slice ya yn yc))) (rAt_stays (ogD_stays 1 nm (80 :: hr) T U bb off xd bb2 off2 yd j N B B2 W.heap.size (W.heap.size + 1) (.slice xa xn xc) (.slice ya yn yc))) [0, 1, 2, 3, 4, 5, 6, 7, 8, 9, 10, 11, 12] (by kernel_rfl) (ogD_steps 1 nm (80 :: hr) T U bb off xd bb2 off2 yd j N B B2 W.heap.size (W.heap.size + 1) (.slice xa xn xc) (.slice ya yn yc) _ _ _ rfl rfl rfl rfl hlt HS.out.r0 HS.out.r1 HC.out HD.out (kc HS.out.bt HB2.out) HT.out) (fun x wy hby hx => ?_)
        have e76 : x 12 = .bool false := hx 12 (of_decide_eq_true (by kernel_rfl))
        simp only [setAll, List.map_cons, List.map_nil, List.setIfInBounds_toArray, List.set_cons_zero, List.set_cons_succ, e76]
        have BW := Lib.hid (HS.out.next hby)
        clear hx hby e76 HC HD HT
        go_wp2_with fail
        go_roundw
        case rel => exact ⟨j + 1, by omega, by go_num, BW.out⟩
        case measure => simp [intOf]; omega
      · obtain rfl : j = N := by omega
        obtain ⟨⟨q0, q1, q2, q3⟩, -⟩ := row40 HS.out.r1
        go_wp2_with (go_at_call 16; refine (RG.out _ HS.out.bt).mono ?_; rintro e w3 ⟨rfl, b3⟩; have B3 := Lib.hid (belowThen HS.out.bt b3); clear b3)
        try rw [Exit.noGoto_ret]
        go_ret
        exact ⟨rfl, B3.out⟩
  · have t1 : (op == 1) = false := by simpa using h1
    by_cases hq : quant op = true
    · rw [if_pos hq] at hn2
      obtain ⟨hr, rfl⟩ := head_cons hn2
      have h89 : op = 8 ∨ op = 9 := by simpa [quant] using hq
      clear hn1 hn2 hq
      rcases h89 with rfl | rfl
      · go_wp2_with (go_at_call 14
                     refine (TC.out _ M0.out.bt).mono ?_
                     rintro e w1 ⟨rfl, b1⟩
                     have M1 := Lib.hid (M0.out.next b1)
                     clear b1 p0 p1 p2 p3 q0 q1 q2 q3 TC
                     obtain ⟨⟨p0, p1, p2, p3⟩, -⟩ := row40 M1.out.r0
                     obtain ⟨⟨q0, q1, q2, q3⟩, -⟩ := row40 M1.out.r1)
        clear p0 p1 p2 p3 q0 q1 q2 q3 b0
        go_loopw [61] (fun i wr => ∃ j : Nat, j ≤ N ∧ i = .int .i64 j ∧ Hid (MidA W 8 nm (120 :: hr) (.slice xa xn xc) (.slice xb N xd) (.slice ya yn yc) (.slice yb N yd) wr)) (fun i _ => N - (intOf i).toNat)
        case atStart => exact ⟨0, Nat.zero_le _, rfl, M1.out⟩
        case round =>
          obtain ⟨j, hj, rfl, HS⟩ := hrel
          clear M1
          by_cases hlt : j < N
          · obtain ⟨T, hT⟩ := get_of_lt (l := fs) (j := j) (by rw [← L1.out]; exact hlt)
            obtain ⟨U, hU⟩ := get_of_lt (l := gs) (j := j) (by rw [← L2.out]; exact hlt)
            obtain ⟨bb, off, rfl, hc⟩ := HX.out.2.get (ne_of_get hT)
            obtain ⟨x0, x1, x2, x3, x4, x5, hx⟩ := hc j _ hT
            obtain ⟨bb2, off2, rfl, hd⟩ := HY.out.2.get (ne_of_get hU)
            obtain ⟨y0, y1, y2, y3, y4, y5, hy⟩ := hd j _ hU
            have K := keeps_of_below HS.out.bt
            have HC : Hid (FmCells wr bb (off + j * 4) T x0 x1 x2 x3 x4 x5) := ⟨K _ _ hx.c0, K _ _ hx.c1, K _ _ hx.c2, K _ _ hx.c3, hx.at_.keep K, hx.at'.keep K⟩
            have HD : Hid (FmCells wr bb2 (off2 + j * 4) U y0 y1 y2 y3 y4 y5) := ⟨K _ _ hy.c0, K _ _ hy.c1, K _ _ hy.c2, K _ _ hy.c3, hy.at_.keep K, hy.at'.keep K⟩
            have HT : Hid (∀ w x y, Below wr.heap.size wr w → FmVal w T x → FmVal w U y → Calls Tryz.prog 15 #[x, y, one B, one B2] w fun e w' => e = .returned (.bool true) ∧ Below w.heap.size w w') := fun w x y hb h1 h2 => FT.out j T U hT hU w x y (belowThen HS.out.bt hb) h1 h2
            clear hc hd hx hy K hT hU
            go_wp2_with fail
            refine wp_region_flow_at og6 (by kernel_rfl) (by kernel_rfl) (by kernel_rfl) 80 rfl (by kernel_rfl) [64, 65, 66, 67, 68, 69, 70, 71, 72, 73, 74, 75, 76] (by kernel_rfl) (rAt (ogDR 8 nm (120 :: hr) T U bb off xd bb2 off2 yd j N B B2 W.heap.size (W.heap.size + 1) (.slice xa xn xc) (.slice ya yn yc))) (rAt_stays (ogD_stays 8 nm (120 :: hr) T U bb off xd bb2 off2 yd j N B B2 W.heap.size (W.heap.size + 1) (.slice xa xn xc) (.slice ya yn yc))) [0, 1, 2, 3, 4, 5, 6, 7, 8, 9, 10, 11, 12] (by kernel_rfl) (ogD_steps 8 nm (120 :: hr) T U bb off xd bb2 off2 yd j N B B2 W.heap.size (W.heap.size + 1) (.slice xa xn xc) (.slice ya yn yc) _ _ _ rfl rfl rfl rfl hlt HS.out.r0 HS.out.r1 HC.out HD.out (kc HS.out.bt HB2.out) HT.out) (fun x wy hby hx => ?_)
            have e76 : x 12 = .bool false := hx 12 (of_decide_eq_true (by kernel_rfl))
            simp only [setAll, List.map_cons, List.map_nil, List.setIfInBounds_toArray, List.set_cons_zero, List.set_cons_succ, e76]
            have BW := Lib.hid (HS.out.next hby)
            clear hx hby e76 HC HD HT
            go_wp2_with fail
            go_roundw
            case rel => exact ⟨j + 1, by omega, by go_num, BW.out⟩
            case measure => simp [intOf]; omega
          · obtain rfl : j = N := by omega
            obtain ⟨⟨q0, q1, q2, q3⟩, -⟩ := row40 HS.out.r1
            go_wp2_with (go_at_call 16; refine (RG.out _ HS.out.bt).mono ?_; rintro e w3 ⟨rfl, b3⟩; have B3 := Lib.hid (belowThen HS.out.bt b3); clear b3)
            try rw [Exit.noGoto_ret]
            go_ret
            exact ⟨rfl, B3.out⟩
      · go_wp2_with (go_at_call 14
                     refine (TC.out _ M0.out.bt).mono ?_
                     rintro e w1 ⟨rfl, b1⟩
                     have M1 := Lib.hid (M0.out.next b1)
                     clear b1 p0 p1 p2 p3 q0 q1 q2 q3 TC
                     obtain ⟨⟨p0, p1, p2, p3⟩, -⟩ := row40 M1.out.r0
                     obtain ⟨⟨q0, q1, q2, q3⟩, -⟩ := row40 M1.out.r1)
        clear p0 p1 p2 p3 q0 q1 q2 q3 b0
        go_loopw [61] (fun i wr => ∃ j : Nat, j ≤ N ∧ i = .int .i64 j ∧ Hid (MidA W 9 nm (120 :: hr) (.slice xa xn xc) (.slice xb N xd) (.slice ya yn yc) (.slice yb N yd) wr)) (fun i _ => N - (intOf i).toNat)
        case atStart => exact ⟨0, Nat.zero_le _, rfl, M1.out⟩
        case round =>
          obtain ⟨j, hj, rfl, HS⟩ := hrel
          clear M1
          by_cases hlt : j < N
          · obtain ⟨T, hT⟩ := get_of_lt (l := fs) (j := j) (by rw [← L1.out]; exact hlt)
            obtain ⟨U, hU⟩ := get_of_lt (l := gs) (j := j) (by rw [← L2.out]; exact hlt)
            obtain ⟨bb, off, rfl, hc⟩ := HX.out.2.get (ne_of_get hT)
            obtain ⟨x0, x1, x2, x3, x4, x5, hx⟩ := hc j _ hT
            obtain ⟨bb2, off2, rfl, hd⟩ := HY.out.2.get (ne_of_get hU)
            obtain ⟨y0, y1, y2, y3, y4, y5, hy⟩ := hd j _ hU
            have K := keeps_of_below HS.out.bt
            have HC : Hid (FmCells wr bb (off + j * 4) T x0 x1 x2 x3 x4 x5) := ⟨K _ _ hx.c0, K _ _ hx.c1, K _ _ hx.c2, K _ _ hx.c3, hx.at_.keep K, hx.at'.keep K⟩
            have HD : Hid (FmCells wr bb2 (off2 + j * 4) U y0 y1 y2 y3 y4 y5) := ⟨K _ _ hy.c0, K _ _ hy.c1, K _ _ hy.c2, K _ _ hy.c3, hy.at_.keep K, hy.at'.keep K⟩
            have HT : Hid (∀ w x y, Below wr.heap.size wr w → FmVal w T x → FmVal w U y → Calls Tryz.prog 15 #[x, y, one B, one B2] w fun e w' => e = .returned (.bool true) ∧ Below w.heap.size w w') := fun w x y hb h1 h2 => FT.out j T U hT hU w x y (belowThen HS.out.bt hb) h1 h2
            clear hc hd hx hy K hT hU
            go_wp2_with fail
            refine wp_region_flow_at og6 (by kernel_rfl) (by kernel_rfl) (by kernel_rfl) 80 rfl (by kernel_rfl) [64, 65, 66, 67, 68, 69, 70, 71, 72, 73, 74, 75, 76] (by kernel_rfl) (rAt (ogDR 9 nm (120 :: hr) T U bb off xd bb2 off2 yd j N B B2 W.heap.size (W.heap.size + 1) (.slice xa xn xc) (.slice ya yn yc))) (rAt_stays (ogD_stays 9 nm (120 :: hr) T U bb off xd bb2 off2 yd j N B B2 W.heap.size (W.heap.size + 1) (.slice xa xn xc) (.slice ya yn yc))) [0, 1, 2, 3, 4, 5, 6, 7, 8, 9, 10, 11, 12] (by kernel_rfl) (ogD_steps 9 nm (120 :: hr) T U bb off xd bb2 off2 yd j N B B2 W.heap.size (W.heap.size + 1) (.slice xa xn xc) (.slice ya yn yc) _ _ _ rfl rfl rfl rfl hlt HS.out.r0 HS.out.r1 HC.out HD.out (kc HS.out.bt HB2.out) HT.out) (fun x wy hby hx => ?_)
            have e76 : x 12 = .bool false := hx 12 (of_decide_eq_true (by kernel_rfl))
            simp only [setAll, List.map_cons, List.map_nil, List.setIfInBounds_toArray, List.set_cons_zero, List.set_cons_succ, e76]
            have BW := Lib.hid (HS.out.next hby)
            clear hx hby e76 HC HD HT
            go_wp2_with fail
            go_roundw
            case rel => exact ⟨j + 1, by omega, by go_num, BW.out⟩
            case measure => simp [intOf]; omega
          · obtain rfl : j = N := by omega
            obtain ⟨⟨q0, q1, q2, q3⟩, -⟩ := row40 HS.out.r1
            go_wp2_with (go_at_call 16; refine (RG.out _ HS.out.bt).mono ?_; rintro e w3 ⟨rfl, b3⟩; have B3 := Lib.hid (belowThen HS.out.bt b3); clear b3)
            try rw [Exit.noGoto_ret]
            go_ret
            exact ⟨rfl, B3.out⟩
    · have h8 : (op == 8) = false := by simp [quant] at hq; simpa using hq.1
      have h9 : (op == 9) = false := by simp [quant] at hq; simpa using hq.2
      clear hn1 hn2 hq
      go_wp2_with (go_at_call 14
                   refine (TC.out _ M0.out.bt).mono ?_
                   rintro e w1 ⟨rfl, b1⟩
                   have M1 := Lib.hid (M0.out.next b1)
                   clear b1 p0 p1 p2 p3 q0 q1 q2 q3 TC
                   obtain ⟨⟨p0, p1, p2, p3⟩, -⟩ := row40 M1.out.r0
                   obtain ⟨⟨q0, q1, q2, q3⟩, -⟩ := row40 M1.out.r1)
      clear p0 p1 p2 p3 q0 q1 q2 q3 b0
      go_loopw [61] (fun i wr => ∃ j : Nat, j ≤ N ∧ i = .int .i64 j ∧ Hid (MidA W op nm nm2 (.slice xa xn xc) (.slice xb N xd) (.slice ya yn yc) (.slice yb N yd) wr)) (fun i _ => N - (intOf i).toNat)
      case atStart => exact ⟨0, Nat.zero_le _, rfl, M1.out⟩
      case round =>
        obtain ⟨j, hj, rfl, HS⟩ := hrel
        clear M1
        by_cases hlt : j < N
        · obtain ⟨T, hT⟩ := get_of_lt (l := fs) (j := j) (by rw [← L1.out]; exact hlt)
          obtain ⟨U, hU⟩ := get_of_lt (l := gs) (j := j) (by rw [← L2.out]; exact hlt)
          obtain ⟨bb, off, rfl, hc⟩ := HX.out.2.get (ne_of_get hT)
          obtain ⟨x0, x1, x2, x3, x4, x5, hx⟩ := hc j _ hT
          obtain ⟨bb2, off2, rfl, hd⟩ := HY.out.2.get (ne_of_get hU)
          obtain ⟨y0, y1, y2, y3, y4, y5, hy⟩ := hd j _ hU
          have K := keeps_of_below HS.out.bt
          have HC : Hid (FmCells wr bb (off + j * 4) T x0 x1 x2 x3 x4 x5) := ⟨K _ _ hx.c0, K _ _ hx.c1, K _ _ hx.c2, K _ _ hx.c3, hx.at_.keep K, hx.at'.keep K⟩
          have HD : Hid (FmCells wr bb2 (off2 + j * 4) U y0 y1 y2 y3 y4 y5) := ⟨K _ _ hy.c0, K _ _ hy.c1, K _ _ hy.c2, K _ _ hy.c3, hy.at_.keep K, hy.at'.keep K⟩
          have HT : Hid (∀ w x y, Below wr.heap.size wr w → FmVal w T x → FmVal w U y → Calls Tryz.prog 15 #[x, y, one B, one B2] w fun e w' => e = .returned (.bool true) ∧ Below w.heap.size w w') := fun w x y hb h1 h2 => FT.out j T U hT hU w x y (belowThen HS.out.bt hb) h1 h2
          clear hc hd hx hy K hT hU
          go_wp2_with fail
          refine wp_region_flow_at og6 (by kernel_rfl) (by kernel_rfl) (by kernel_rfl) 80 rfl (by kernel_rfl) [64, 65, 66, 67, 68, 69, 70, 71, 72, 73, 74, 75, 76] (by kernel_rfl) (rAt (ogDR op nm nm2 T U bb off xd bb2 off2 yd j N B B2 W.heap.size (W.heap.size + 1) (.slice xa xn xc) (.slice ya yn yc))) (rAt_stays (ogD_stays op nm nm2 T U bb off xd bb2 off2 yd j N B B2 W.heap.size (W.heap.size + 1) (.slice xa xn xc) (.slice ya yn yc))) [0, 1, 2, 3, 4, 5, 6, 7, 8, 9, 10, 11, 12] (by kernel_rfl) (ogD_steps op nm nm2 T U bb off xd bb2 off2 yd j N B B2 W.heap.size (W.heap.size + 1) (.slice xa xn xc) (.slice ya yn yc) _ _ _ rfl rfl rfl rfl hlt HS.out.r0 HS.out.r1 HC.out HD.out (kc HS.out.bt HB2.out) HT.out) (fun x wy hby hx => ?_)
          have e76 : x 12 = .bool false := hx 12 (of_decide_eq_true (by kernel_rfl))
          simp only [setAll, List.map_cons, List.map_nil, List.setIfInBounds_toArray, List.set_cons_zero, List.set_cons_succ, e76]
          have BW := Lib.hid (HS.out.next hby)
          clear hx hby e76 HC HD HT
          go_wp2_with fail
          go_roundw
          case rel => exact ⟨j + 1, by omega, by go_num, BW.out⟩
          case measure => simp [intOf]; omega
        · obtain rfl : j = N := by omega
          obtain ⟨⟨q0, q1, q2, q3⟩, -⟩ := row40 HS.out.r1
          go_wp2_with (go_at_call 16; refine (RG.out _ HS.out.bt).mono ?_; rintro e w3 ⟨rfl, b3⟩; have B3 := Lib.hid (belowThen HS.out.bt b3); clear b3)
          try rw [Exit.noGoto_ret]
          go_ret
          exact ⟨rfl, B3.out⟩
mutual
theorem fl_all : ∀ f : Fm, FL f
  | .mk op nm ts fs => fl_step op nm ts fs (fl_each fs)
theorem fl_each : ∀ ts : List Fm, ∀ t ∈ ts, FL t
  | [], _, h => by cases h
  | x :: xs, t, h => by
    rcases List.mem_cons.1 h with e | e
    · rw [e]; exact fl_all x
    · exact fl_each xs t e
end
end Go.Proofs.YtppfalbnhnpbnaaGreatDoor
namespace Go.Proofs.YtppfalbnhnpbnaaGreatDoor
open Go Go.RowKit Ly
set_option maxRecDepth 10000
noncomputable def ogLO : Array Oper := ((Tryz.f3.body).bind (findReg 16)).getD #[]
def ogLR (X U : Fm) (bb2 off2 d2 j n B B2 q : Nat) (y0 : Value) : List (Value → World → Prop) := [isV (.func (.func 15) #[] #[one B, one B2]),
  fmP X,
  isV (.pointer (some ⟨q, 0, none⟩)),
  isV (.slice (some ⟨bb2, off2, none⟩) n d2),
  isV (.int .i64 j),
  isV (.pointer (some ⟨bb2, off2 + j * 4, none⟩)),
  fmP U,
  isV (.bool true),
  isV (.bool false)]
theorem ogL_stays (X U : Fm) (bb2 off2 d2 j n B B2 q : Nat) (y0 : Value) : ∀ r ∈ ogLR X U bb2 off2 d2 j n B B2 q y0, Stays r := by
  unfold ogLR
  simp only [List.forall_mem_cons]
  exact ⟨isV_stays _, fmP_stays _, isV_stays _, isV_stays _, isV_stays _, isV_stays _, fmP_stays _, isV_stays _, isV_stays _, fun r h => by cases h⟩
set_option maxHeartbeats 4000000 in
theorem ogL_steps (X U : Fm) (bb2 off2 d2 j n B B2 q : Nat) (y0 : Value) (Q : Exit → Act → World → Prop) (W : World) (a0 : Act) {p : Nat} {xa : Option Addr} {xn xc : Nat} {xb : Option Addr} {xm xd : Nat} (h12 : a0.tmps.getD 12 undef = one B2) (hx : a0.tmps.getD 15 undef = one p) (h6 : a0.tmps.getD 6 undef = one q) (hi : a0.tmps.getD 14 undef = .int .i64 j) (hj : j < n) (HX : W.heap[p]? = some (.cells #[.int .u8 X.op, str X.name, .slice xa xn xc, .slice xb xm xd] 40 (0, 0))) (HV : FmVal W X (.agg #[.int .u8 X.op, str X.name, .slice xa xn xc, .slice xb xm xd])) (HQ : W.heap[q]? = some (.cells #[.slice (some ⟨bb2, off2, none⟩) n d2, y0] 26 (0, 0))) {z : Option Addr} {k2 e2 : Nat} {z' : Option Addr} {k2' e2' : Nat} (HD : FmCells W bb2 (off2 + j * 4) U z k2 e2 z' k2' e2') (HB2 : W.heap[B2]? = some (.cells #[.func (.func 15) #[] #[one B, one B2]] 34 (0, 0))) (HT : ∀ w x y, Below W.heap.size W w → FmVal w X x → FmVal w U y → Calls Tryz.prog 15 #[x, y, one B, one B2] w fun e w' => e = .returned (.bool true) ∧ Below w.heap.size w w') : FlowSteps Tryz.prog ogLO Q W a0 (rAt (ogLR X U bb2 off2 d2 j n B B2 q y0)) [0, 1, 2, 3, 4, 5, 6, 7, 8] := by
  refine FlowSteps.step (Op.load 34 (Operand.tmp 12)) (by kernel_rfl) (fun a w F => ?_) ?_
  · have e := (F.old 12 (by kernel_rfl)).trans h12
    have k0 := (box_cell (kc F.bw HB2) 0).trans rfl
    clear F
    rintro ⟨dst, op, ty, pos, af, gd⟩ rfl K Q' hK
    have HK := Lib.hid hK
    clear hK
    go_simp
    exact HK.out _ _ ⟨Below.refl _ _, rfl⟩
  refine FlowSteps.step (Op.load 40 (Operand.tmp 15)) (by kernel_rfl) (fun a w F => ?_) ?_
  · have e := (F.old 15 (by kernel_rfl)).trans hx
    obtain ⟨⟨k0, k1, k2, k3⟩, -⟩ := row40 (kc F.bw HX)
    have kv := Lib.hid (FmVal.keep HV (keeps_of_below F.bw))
    clear F
    rintro ⟨dst, op, ty, pos, af, gd⟩ rfl K Q' hK
    have HK := Lib.hid hK
    clear hK
    go_simp
    exact HK.out _ _ ⟨Below.refl _ _, kv.out⟩
  refine FlowSteps.step (Op.fieldAddr 26 (Operand.tmp 6) 0) (by kernel_rfl) (fun a w F => ?_) ?_
  · have e := (F.old 6 (by kernel_rfl)).trans h6
    clear F
    rintro ⟨dst, op, ty, pos, af, gd⟩ rfl K Q' hK
    have HK := Lib.hid hK
    clear hK
    go_simp
    exact HK.out _ _ ⟨Below.refl _ _, rfl⟩
  refine FlowSteps.step (Op.load 24 (Operand.tmp 85)) (by kernel_rfl) (fun a w F => ?_) ?_
  · have e0 : a.tmps[85]?.getD undef = .pointer (some ⟨q, 0, none⟩) := F.dep 2 85 (by kernel_rfl) (by kernel_rfl)
    obtain ⟨kk0, kk1, -, -⟩ := row2 (kc F.bw HQ)
    clear F
    rintro ⟨dst, op, ty, pos, af, gd⟩ rfl K Q' hK
    have HK := Lib.hid hK
    clear hK
    go_simp
    exact HK.out _ _ ⟨Below.refl _ _, rfl⟩
  refine FlowSteps.step (Op.move (Operand.tmp 14)) (by kernel_rfl) (fun a w F => ?_) ?_
  · have e := (F.old 14 (by kernel_rfl)).trans hi
    clear F
    rintro ⟨dst, op, ty, pos, af, gd⟩ rfl K Q' hK
    have HK := Lib.hid hK
    clear hK
    go_simp
    exact HK.out _ _ ⟨Below.refl _ _, rfl⟩
  refine FlowSteps.step (Op.indexAddr 24 (Operand.tmp 86) (Operand.tmp 87)) (by kernel_rfl) (fun a w F => ?_) ?_
  · have e0 : a.tmps[86]?.getD undef = .slice (some ⟨bb2, off2, none⟩) n d2 := F.dep 3 86 (by kernel_rfl) (by kernel_rfl)
    have e1 : a.tmps[87]?.getD undef = .int .i64 j := F.dep 4 87 (by kernel_rfl) (by kernel_rfl)
    have hj1 : (0 : Int) ≤ (j : Int) := by omega
    have hj2 : (j : Int) < (n : Int) := by omega
    have hj3 : ((j : Int)).toNat = j := by omega
    clear F
    rintro ⟨dst, op, ty, pos, af, gd⟩ rfl K Q' hK
    have HK := Lib.hid hK
    clear hK
    go_simp
    exact HK.out _ _ ⟨Below.refl _ _, rfl⟩
  refine FlowSteps.step (Op.load 40 (Operand.tmp 88)) (by kernel_rfl) (fun a w F => ?_) ?_
  · have e : a.tmps[88]?.getD undef = .pointer (some ⟨bb2, off2 + j * 4, none⟩) := F.dep 5 88 (by kernel_rfl) (by kernel_rfl)
    have K := keeps_of_below F.bw
    have k0 := K _ _ HD.c0
    have k1 := K _ _ HD.c1
    have k2 := K _ _ HD.c2
    have k3 := K _ _ HD.c3
    have ka := Lib.hid (And.intro (HD.at_.keep K) (HD.at'.keep K))
    clear F K
    rintro ⟨dst, op, ty, pos, af, gd⟩ rfl K Q' hK
    have HK := Lib.hid hK
    clear hK
    go_simp
    exact HK.out _ _ ⟨Below.refl _ _, _, _, _, _, _, _, rfl, ka.out.1, ka.out.2⟩
  refine FlowSteps.step (Op.call { callee := Callee.value (Operand.tmp 83), args := #[Operand.tmp 84, Operand.tmp 89], argTypes := #[40, 40] }) (by kernel_rfl) (fun a w F => ?_) ?_
  · have e : a.tmps[83]?.getD undef = .func (.func 15) #[] #[one B, one B2] := F.dep 0 83 (by kernel_rfl) (by kernel_rfl)
    have dx : FmVal w X (a.tmps[84]?.getD undef) := F.dep 1 84 (by kernel_rfl) (by kernel_rfl)
    obtain ⟨i1, n1, c1, j1, m1, l1, ex, -⟩ := id dx
    rw [ex] at dx
    have dy : FmVal w U (a.tmps[89]?.getD undef) := F.dep 6 89 (by kernel_rfl) (by kernel_rfl)
    obtain ⟨i2, n2, c2, j2, m2, l2, ey, -⟩ := id dy
    rw [ey] at dy
    have CA := Lib.hid (HT w _ _ F.bw dx dy)
    clear F dx dy
    rintro ⟨dst, op, ty, pos, af, gd⟩ rfl K Q' hK
    have HK := Lib.hid hK
    clear hK
    go_simp
    go_at_call 15
    refine CA.out.mono ?_
    rintro e w1 ⟨rfl, hb⟩
    exact HK.out _ _ ⟨hb, rfl⟩
  refine FlowSteps.step (Op.unOp UnOp.not 4 (Operand.tmp 90)) (by kernel_rfl) (fun a w F => ?_) ?_
  · have e0 : a.tmps[90]?.getD undef = .bool true := F.dep 7 90 (by kernel_rfl) (by kernel_rfl)
    clear F
    rintro ⟨dst, op, ty, pos, af, gd⟩ rfl K Q' hK
    have HK := Lib.hid hK
    clear hK
    go_simp
    exact HK.out _ _ ⟨Below.refl _ _, rfl⟩
  exact FlowSteps.nil
noncomputable def ogRO : Array Oper := ((Tryz.f3.body).bind (findReg 22)).getD #[]
def ogRR (X U : Fm) (bb2 off2 d2 j n B B2 q : Nat) (y0 : Value) : List (Value → World → Prop) := [isV (.func (.func 15) #[] #[one B, one B2]),
  fmP X,
  isV (.pointer (some ⟨q, 1, none⟩)),
  isV (.slice (some ⟨bb2, off2, none⟩) n d2),
  isV (.int .i64 j),
  isV (.pointer (some ⟨bb2, off2 + j * 4, none⟩)),
  fmP U,
  isV (.bool true),
  isV (.bool false)]
theorem ogR_stays (X U : Fm) (bb2 off2 d2 j n B B2 q : Nat) (y0 : Value) : ∀ r ∈ ogRR X U bb2 off2 d2 j n B B2 q y0, Stays r := by
  unfold ogRR
  simp only [List.forall_mem_cons]
  exact ⟨isV_stays _, fmP_stays _, isV_stays _, isV_stays _, isV_stays _, isV_stays _, fmP_stays _, isV_stays _, isV_stays _, fun r h => by cases h⟩
set_option maxHeartbeats 4000000 in
theorem ogR_steps (X U : Fm) (bb2 off2 d2 j n B B2 q : Nat) (y0 : Value) (Q : Exit → Act → World → Prop) (W : World) (a0 : Act) {p : Nat} {xa : Option Addr} {xn xc : Nat} {xb : Option Addr} {xm xd : Nat} (h12 : a0.tmps.getD 12 undef = one B2) (hx : a0.tmps.getD 17 undef = one p) (h6 : a0.tmps.getD 6 undef = one q) (hi : a0.tmps.getD 16 undef = .int .i64 j) (hj : j < n) (HX : W.heap[p]? = some (.cells #[.int .u8 X.op, str X.name, .slice xa xn xc, .slice xb xm xd] 40 (0, 0))) (HV : FmVal W X (.agg #[.int .u8 X.op, str X.name, .slice xa xn xc, .slice xb xm xd])) (HQ : W.heap[q]? = some (.cells #[y0, .slice (some ⟨bb2, off2, none⟩) n d2] 26 (0, 0))) {z : Option Addr} {k2 e2 : Nat} {z' : Option Addr} {k2' e2' : Nat} (HD : FmCells W bb2 (off2 + j * 4) U z k2 e2 z' k2' e2') (HB2 : W.heap[B2]? = some (.cells #[.func (.func 15) #[] #[one B, one B2]] 34 (0, 0))) (HT : ∀ w x y, Below W.heap.size W w → FmVal w X x → FmVal w U y → Calls Tryz.prog 15 #[x, y, one B, one B2] w fun e w' => e = .returned (.bool true) ∧ Below w.heap.size w w') : FlowSteps Tryz.prog ogRO Q W a0 (rAt (ogRR X U bb2 off2 d2 j n B B2 q y0)) [0, 1, 2, 3, 4, 5, 6, 7, 8] := by
  refine FlowSteps.step (Op.load 34 (Operand.tmp 12)) (by kernel_rfl) (fun a w F => ?_) ?_
  · have e := (F.old 12 (by kernel_rfl)).trans h12
    have k0 := (box_cell (kc F.bw HB2) 0).trans rfl
    clear F
    rintro ⟨dst, op, ty, pos, af, gd⟩ rfl K Q' hK
    have HK := Lib.hid hK
    clear hK
    go_simp
    exact HK.out _ _ ⟨Below.refl _ _, rfl⟩
  refine FlowSteps.step (Op.load 40 (Operand.tmp 17)) (by kernel_rfl) (fun a w F => ?_) ?_
  · have e := (F.old 17 (by kernel_rfl)).trans hx
    obtain ⟨⟨k0, k1, k2, k3⟩, -⟩ := row40 (kc F.bw HX)
    have kv := Lib.hid (FmVal.keep HV (keeps_of_below F.bw))
    clear F
    rintro ⟨dst, op, ty, pos, af, gd⟩ rfl K Q' hK
    have HK := Lib.hid hK
    clear hK
    go_simp
    exact HK.out _ _ ⟨Below.refl _ _, kv.out⟩
  refine FlowSteps.step (Op.fieldAddr 26 (Operand.tmp 6) 1) (by kernel_rfl) (fun a w F => ?_) ?_
  · have e := (F.old 6 (by kernel_rfl)).trans h6
    clear F
    rintro ⟨dst, op, ty, pos, af, gd⟩ rfl K Q' hK
    have HK := Lib.hid hK
    clear hK
    go_simp
    exact HK.out _ _ ⟨Below.refl _ _, rfl⟩
  refine FlowSteps.step (Op.load 24 (Operand.tmp 103)) (by kernel_rfl) (fun a w F => ?_) ?_
  · have e0 : a.tmps[103]?.getD undef = .pointer (some ⟨q, 1, none⟩) := F.dep 2 103 (by kernel_rfl) (by kernel_rfl)
    obtain ⟨kk0, kk1, -, -⟩ := row2 (kc F.bw HQ)
    clear F
    rintro ⟨dst, op, ty, pos, af, gd⟩ rfl K Q' hK
    have HK := Lib.hid hK
    clear hK
    go_simp
    exact HK.out _ _ ⟨Below.refl _ _, rfl⟩
  refine FlowSteps.step (Op.move (Operand.tmp 16)) (by kernel_rfl) (fun a w F => ?_) ?_
  · have e := (F.old 16 (by kernel_rfl)).trans hi
    clear F
    rintro ⟨dst, op, ty, pos, af, gd⟩ rfl K Q' hK
    have HK := Lib.hid hK
    clear hK
    go_simp
    exact HK.out _ _ ⟨Below.refl _ _, rfl⟩
  refine FlowSteps.step (Op.indexAddr 24 (Operand.tmp 104) (Operand.tmp 105)) (by kernel_rfl) (fun a w F => ?_) ?_
  · have e0 : a.tmps[104]?.getD undef = .slice (some ⟨bb2, off2, none⟩) n d2 := F.dep 3 104 (by kernel_rfl) (by kernel_rfl)
    have e1 : a.tmps[105]?.getD undef = .int .i64 j := F.dep 4 105 (by kernel_rfl) (by kernel_rfl)
    have hj1 : (0 : Int) ≤ (j : Int) := by omega
    have hj2 : (j : Int) < (n : Int) := by omega
    have hj3 : ((j : Int)).toNat = j := by omega
    clear F
    rintro ⟨dst, op, ty, pos, af, gd⟩ rfl K Q' hK
    have HK := Lib.hid hK
    clear hK
    go_simp
    exact HK.out _ _ ⟨Below.refl _ _, rfl⟩
  refine FlowSteps.step (Op.load 40 (Operand.tmp 106)) (by kernel_rfl) (fun a w F => ?_) ?_
  · have e : a.tmps[106]?.getD undef = .pointer (some ⟨bb2, off2 + j * 4, none⟩) := F.dep 5 106 (by kernel_rfl) (by kernel_rfl)
    have K := keeps_of_below F.bw
    have k0 := K _ _ HD.c0
    have k1 := K _ _ HD.c1
    have k2 := K _ _ HD.c2
    have k3 := K _ _ HD.c3
    have ka := Lib.hid (And.intro (HD.at_.keep K) (HD.at'.keep K))
    clear F K
    rintro ⟨dst, op, ty, pos, af, gd⟩ rfl K Q' hK
    have HK := Lib.hid hK
    clear hK
    go_simp
    exact HK.out _ _ ⟨Below.refl _ _, _, _, _, _, _, _, rfl, ka.out.1, ka.out.2⟩
  refine FlowSteps.step (Op.call { callee := Callee.value (Operand.tmp 101), args := #[Operand.tmp 102, Operand.tmp 107], argTypes := #[40, 40] }) (by kernel_rfl) (fun a w F => ?_) ?_
  · have e : a.tmps[101]?.getD undef = .func (.func 15) #[] #[one B, one B2] := F.dep 0 101 (by kernel_rfl) (by kernel_rfl)
    have dx : FmVal w X (a.tmps[102]?.getD undef) := F.dep 1 102 (by kernel_rfl) (by kernel_rfl)
    obtain ⟨i1, n1, c1, j1, m1, l1, ex, -⟩ := id dx
    rw [ex] at dx
    have dy : FmVal w U (a.tmps[107]?.getD undef) := F.dep 6 107 (by kernel_rfl) (by kernel_rfl)
    obtain ⟨i2, n2, c2, j2, m2, l2, ey, -⟩ := id dy
    rw [ey] at dy
    have CA := Lib.hid (HT w _ _ F.bw dx dy)
    clear F dx dy
    rintro ⟨dst, op, ty, pos, af, gd⟩ rfl K Q' hK
    have HK := Lib.hid hK
    clear hK
    go_simp
    go_at_call 15
    refine CA.out.mono ?_
    rintro e w1 ⟨rfl, hb⟩
    exact HK.out _ _ ⟨hb, rfl⟩
  refine FlowSteps.step (Op.unOp UnOp.not 4 (Operand.tmp 108)) (by kernel_rfl) (fun a w F => ?_) ?_
  · have e0 : a.tmps[108]?.getD undef = .bool true := F.dep 7 108 (by kernel_rfl) (by kernel_rfl)
    clear F
    rintro ⟨dst, op, ty, pos, af, gd⟩ rfl K Q' hK
    have HK := Lib.hid hK
    clear hK
    go_simp
    exact HK.out _ _ ⟨Below.refl _ _, rfl⟩
  exact FlowSteps.nil
end Go.Proofs.YtppfalbnhnpbnaaGreatDoor
namespace Ly
theorem fmsSk_get : ∀ (l : List Fm) (σ : List Sy) (j : Nat) (T U : Fm), (∀ f ∈ l, f.right = true) → σ.length + l.length * 400 ≤ 900000 → l[j]? = some T → (fmsSk σ l).1[j]? = some U → T.alike U = true ∧ U.right = true
  | [], _, j, T, U, _, _, h, _ => by simp at h
  | f :: fs, σ, 0, T, U, hr, hs, h, h' => by
    simp only [fmsSk, List.getElem?_cons_zero, Option.some.injEq] at h h'
    subst h h'
    simp only [List.length_cons] at hs
    exact ⟨Fm.alike_sk (hr f (by simp)), (Fm.sk_right (hr f (by simp)) (by omega)).1⟩
  | f :: fs, σ, j + 1, T, U, hr, hs, h, h' => by
    simp only [fmsSk, List.getElem?_cons_succ] at h h'
    simp only [List.length_cons] at hs
    obtain ⟨-, -, -, hl⟩ := Fm.mid_right (σ := σ) (hr f (by simp)) (by omega)
    exact fmsSk_get fs (f.sk σ).2 j T U (fun g hg => hr g (by simp [hg])) (by omega) h h'
theorem fmsSk_all : ∀ (l : List Fm) (σ : List Sy), (∀ f ∈ l, f.right = true) → σ.length + l.length * 400 ≤ 900000 → ∀ U ∈ (fmsSk σ l).1, U.right = true := fun l σ hr hs U hU => by
  obtain ⟨j, hj⟩ := List.getElem?_of_mem hU
  have hl := (List.getElem?_eq_some_iff.1 hj).1
  rw [fmsSk_len] at hl
  exact (fmsSk_get l σ j l[j] U hr hs (List.getElem?_eq_getElem hl) hj).2
section
variable {L R : List Fm} (hL : ∀ f ∈ L, f.right = true) (hR : ∀ f ∈ R, f.right = true) (h : L.length + R.length ≤ 200)
include hL h
theorem sk_left {j : Nat} {T U : Fm} (h1 : L[j]? = some T) (h2 : (skOf L R).1[j]? = some U) : T.alike U = true ∧ U.right = true := fmsSk_get L [] j T U hL (by simp; omega) h1 h2
theorem sk_leftR : ∀ U ∈ (skOf L R).1, U.right = true := fmsSk_all L [] hL (by simp; omega)
include hR
theorem sk_right {j : Nat} {T U : Fm} (h1 : R[j]? = some T) (h2 : (skOf L R).2[j]? = some U) : T.alike U = true ∧ U.right = true := by
  have b := fmsSk_le L [] hL (by simp; omega)
  simp at b
  exact fmsSk_get R (fmsSk [] L).2 j T U hR (by omega) h1 h2
theorem sk_rightR : ∀ U ∈ (skOf L R).2, U.right = true := by
  have b := fmsSk_le L [] hL (by simp; omega)
  simp at b
  exact fmsSk_all R (fmsSk [] L).2 hR (by omega)
end
end Ly
