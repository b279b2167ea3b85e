/- What SkeletonOf asks of terms (its closure terms): it answers true where they are alike. Conditions: those of each statement. -/
import Derived.Test.YtppfalbnhnpbnaaGreatDoorOgAY
import Derived.Test.YtppfalbnhnpbnaaGreatDoorRnAY
set_option linter.unusedSimpArgs false
set_option linter.unusedVariables false
namespace Go.Proofs.YtppfalbnhnpbnaaGreatDoor
open Go Go.RowKit Ly
set_option maxRecDepth 10000
theorem tmsAlike_len : ∀ ts us : List Tm, tmsAlike ts us = true → us.length = ts.length
  | [], [], _ => rfl
  | [], _ :: _, h => by simp [tmsAlike] at h
  | _ :: _, [], h => by simp [tmsAlike] at h
  | t :: ts, u :: us, h => by
    simp only [tmsAlike, Bool.and_eq_true] at h
    simp [tmsAlike_len ts us h.2]
theorem tmsAlike_get : ∀ (ts us : List Tm) (i : Nat) (t u : Tm), tmsAlike ts us = true → ts[i]? = some t → us[i]? = some u → t.alike u = true
  | [], _, i, t, u, _, h, _ => by simp at h
  | _ :: _, [], i, t, u, h, _, _ => by simp [tmsAlike] at h
  | x :: ts, y :: us, 0, t, u, h, h1, h2 => by
    simp only [List.getElem?_cons_zero, Option.some.injEq] at h1 h2
    subst h1 h2
    simp only [tmsAlike, Bool.and_eq_true] at h
    exact h.1
  | x :: ts, y :: us, i + 1, t, u, h, h1, h2 => by
    simp only [tmsAlike, Bool.and_eq_true] at h
    exact tmsAlike_get ts us i t u h.2 (by simpa using h1) (by simpa using h2)
def TL (ts : List Tm) : Prop := ∀ (us : List Tm), tmsAlike ts us = true → ∀ (W : World) (B : Nat) (a : Option Addr) (n c : Nat) (a' : Option Addr) (n' c' : Nat), W.heap[B]? = some (.cells #[.func (.func 14) #[] #[one B]] 35 (0, 0)) → TmsAt W ts (.slice a n c) → TmsAt W us (.slice a' n' c') →
  Calls Tryz.prog 14 #[.slice a n c, .slice a' n' c', one B] W fun e w' => e = .returned (.bool true) ∧ Below W.heap.size W w'
theorem head_cons {l : Bs} {x : UInt8} (h : (l.head? == some x) = true) : ∃ r, l = x :: r := by
  cases l with
  | nil => simp at h
  | cons y r => simp at h; exact ⟨r, by rw [h]⟩
set_option maxHeartbeats 4000000 in
theorem tl_step (ts : List Tm) (ih : ∀ t ∈ ts, TL t.args) : TL ts := by
  intro us hal W B a n c a' n' c2 hB hx hy
  have hl := hx.len
  have hl2 := hy.len
  have hn : n = n' := by rw [hl2.1, tmsAlike_len _ _ hal, hl.1]
  subst hn
  have N0 : n ≤ 9223372036854775807 := le63 (Nat.le_trans hl.2.1 hl.2.2)
  have L1 := Lib.hid hl.1
  have L2 := Lib.hid hl2.1
  have HX := Lib.hid hx
  have HY := Lib.hid hy
  have HB := Lib.hid hB
  have AL := Lib.hid hal
  have IH := Lib.hid ih
  clear hl hl2 hx hy hB hal ih
  go_enter Tryz.func14, Tryz.ntmps14
  go_wp2_with fail
  go_loopw [15] (fun i wr => ∃ j : Nat, j ≤ n ∧ i = .int .i64 j ∧ Hid (Below W.heap.size W wr)) (fun i _ => n - (intOf i).toNat)
  case atStart => exact ⟨0, Nat.zero_le _, rfl, Below.refl _ _⟩
  case round =>
    obtain ⟨j, hj, rfl, HS⟩ := hrel
    by_cases hlt : j < n
    · obtain ⟨T, hT⟩ := get_of_lt (l := ts) (j := j) (by rw [← L1.out]; exact hlt)
      obtain ⟨U, hU⟩ := get_of_lt (l := us) (j := j) (by rw [← L2.out]; exact hlt)
      have hTU := tmsAlike_get ts us j T U AL.out hT hU
      obtain ⟨bb, off, rfl, hc⟩ := HX.out.get (ne_of_get hT)
      obtain ⟨x0, x1, x2, hx⟩ := hc j _ hT
      obtain ⟨bb2, off2, rfl, hd⟩ := HY.out.get (ne_of_get hU)
      obtain ⟨y0, y1, y2, hy⟩ := hd j _ hU
      have K := keeps_of_below HS.out
      have hx' : TmCells wr bb (off + j * 3) T x0 x1 x2 := ⟨K _ _ hx.c0, K _ _ hx.c1, K _ _ hx.c2, hx.at_.keep K⟩
      have hy' : TmCells wr bb2 (off2 + j * 3) U y0 y1 y2 := ⟨K _ _ hy.c0, K _ _ hy.c1, K _ _ hy.c2, hy.at_.keep K⟩
      have IT := IH.out T (List.mem_of_getElem? hT)
      obtain ⟨v, nm, qs⟩ := T
      obtain ⟨v', nm', as2⟩ := U
      simp only [Tm.alike, Bool.and_eq_true] at hTU
      obtain ⟨⟨hv, hh⟩, ha⟩ := hTU
      have hv : v = v' := by simpa using hv
      subst hv
      have HT : Hid (∀ (w : World) (a : Option Addr) (n c : Nat) (a2 : Option Addr) (n2 c2 : Nat), w.heap[B]? = some (.cells #[.func (.func 14) #[] #[one B]] 35 (0, 0)) → TmsAt w qs (.slice a n c) → TmsAt w as2 (.slice a2 n2 c2) → Calls Tryz.prog 14 #[.slice a n c, .slice a2 n2 c2, one B] w fun e w' => e = .returned (.bool true) ∧ Below w.heap.size w w') := fun w a n c a2 n2 c2 h1 h2 h3 => IT as2 ha w B a n c a2 n2 c2 h1 h2 h3
      have HBr := Lib.hid (kc HS.out HB.out)
      have z0 : wr.cell? ⟨bb, off + j * 3, none⟩ = some (.bool v) := hx'.c0
      clear hc hd hx hy K IT ha hT hU
      cases v
      · rw [if_neg (by decide)] at hh
        obtain ⟨hr, rfl⟩ := head_cons hh
        have HC := Lib.hid hx'
        have HD := Lib.hid hy'
        clear hx' hy' hh
        go_wp2_with fail
        refine wp_region_flow_at og9 (by kernel_rfl) (by kernel_rfl) (by kernel_rfl) 75 rfl (by kernel_rfl) [23, 24, 25, 26, 27, 28, 29, 30, 31, 32, 33, 34, 35, 36, 37, 38, 39, 40, 41, 42, 43, 44, 45, 46, 47, 48, 49, 50, 51, 52, 53, 54, 55, 56, 57, 58, 59, 60, 61, 62, 63, 64, 65, 66, 67, 68, 69, 70, 71, 72, 73] (by kernel_rfl) (rAt (ogAR nm qs hr as2 bb off c bb2 off2 c2 j n B)) (rAt_stays (ogA_stays nm qs hr as2 bb off c bb2 off2 c2 j n B)) [0, 1, 2, 3, 4, 5, 6, 7, 8, 9, 10, 11, 12, 13, 14, 15, 16, 17, 18, 19, 20, 21, 22, 23, 24, 25, 26, 27, 28, 29, 30, 31, 32, 33, 34, 35, 36, 37, 38, 39, 40, 41, 42, 43, 44, 45, 46, 47, 48, 49, 50] (by kernel_rfl) (ogA_steps nm qs hr as2 bb off c bb2 off2 c2 j n B _ _ _ rfl rfl rfl rfl rfl hlt HC.out HD.out HBr.out HT.out) (fun x wy hby hx => ?_)
        have e73 : x 50 = .bool false := hx 50 (of_decide_eq_true (by kernel_rfl))
        simp only [setAll, List.map_cons, List.map_nil, List.setIfInBounds_toArray, List.set_cons_zero, List.set_cons_succ, e73]
        have BW := Lib.hid (belowThen HS.out hby)
        clear hx hby e73 HC HD
        go_wp2_with fail
        go_roundw
        case rel => exact ⟨j + 1, by omega, by go_num, BW.out⟩
        case measure => simp [intOf]; omega
      · rw [if_pos rfl] at hh
        rcases (Bool.or_eq_true _ _).mp hh with hh | hh
        · obtain ⟨hr, rfl⟩ := head_cons hh
          have HC := Lib.hid hx'
          have HD := Lib.hid hy'
          clear hx' hy' hh
          go_wp2_with fail
          refine wp_region_flow_at og9 (by kernel_rfl) (by kernel_rfl) (by kernel_rfl) 75 rfl (by kernel_rfl) [23, 24, 25, 26, 27, 28, 29, 30, 31, 32, 33, 34, 35, 36, 37, 38, 39, 40, 41, 42, 43, 44, 45, 46, 47, 48, 49, 50, 51, 52, 53, 54, 55, 56, 57, 58, 59, 60, 61, 62, 63, 64, 65, 66, 67, 68, 69, 70, 71, 72, 73] (by kernel_rfl) (rAt (ogBR nm qs hr as2 bb off c bb2 off2 c2 j n B)) (rAt_stays (ogB_stays nm qs hr as2 bb off c bb2 off2 c2 j n B)) [0, 1, 2, 3, 4, 5, 6, 7, 8, 9, 10, 11, 12, 13, 14, 15, 16, 17, 18, 19, 20, 21, 22, 23, 24, 25, 26, 27, 28, 29, 30, 31, 32, 33, 34, 35, 36, 37, 38, 39, 40, 41, 42, 43, 44, 45, 46, 47, 48, 49, 50] (by kernel_rfl) (ogB_steps nm qs hr as2 bb off c bb2 off2 c2 j n B _ _ _ rfl rfl rfl rfl rfl hlt HC.out HD.out HBr.out HT.out) (fun x wy hby hx => ?_)
          have e73 : x 50 = .bool false := hx 50 (of_decide_eq_true (by kernel_rfl))
          simp only [setAll, List.map_cons, List.map_nil, List.setIfInBounds_toArray, List.set_cons_zero, List.set_cons_succ, e73]
          have BW := Lib.hid (belowThen HS.out hby)
          clear hx hby e73 HC HD
          go_wp2_with fail
          go_roundw
          case rel => exact ⟨j + 1, by omega, by go_num, BW.out⟩
          case measure => simp [intOf]; omega
        · obtain ⟨hr, rfl⟩ := head_cons hh
          have HC := Lib.hid hx'
          have HD := Lib.hid hy'
          clear hx' hy' hh
          go_wp2_with fail
          refine wp_region_flow_at og9 (by kernel_rfl) (by kernel_rfl) (by kernel_rfl) 75 rfl (by kernel_rfl) [23, 24, 25, 26, 27, 28, 29, 30, 31, 32, 33, 34, 35, 36, 37, 38, 39, 40, 41, 42, 43, 44, 45, 46, 47, 48, 49, 50, 51, 52, 53, 54, 55, 56, 57, 58, 59, 60, 61, 62, 63, 64, 65, 66, 67, 68, 69, 70, 71, 72, 73] (by kernel_rfl) (rAt (ogCR nm qs hr as2 bb off c bb2 off2 c2 j n B)) (rAt_stays (ogC_stays nm qs hr as2 bb off c bb2 off2 c2 j n B)) [0, 1, 2, 3, 4, 5, 6, 7, 8, 9, 10, 11, 12, 13, 14, 15, 16, 17, 18, 19, 20, 21, 22, 23, 24, 25, 26, 27, 28, 29, 30, 31, 32, 33, 34, 35, 36, 37, 38, 39, 40, 41, 42, 43, 44, 45, 46, 47, 48, 49, 50] (by kernel_rfl) (ogC_steps nm qs hr as2 bb off c bb2 off2 c2 j n B _ _ _ rfl rfl rfl rfl rfl hlt HC.out HD.out HBr.out HT.out) (fun x wy hby hx => ?_)
          have e73 : x 50 = .bool false := hx 50 (of_decide_eq_true (by kernel_rfl))
          simp only [setAll, List.map_cons, List.map_nil, List.setIfInBounds_toArray, List.set_cons_zero, List.set_cons_succ, e73]
          have BW := Lib.hid (belowThen HS.out hby)
          clear hx hby e73 HC HD
          go_wp2_with fail
          go_roundw
          case rel => exact ⟨j + 1, by omega, by go_num, BW.out⟩
          case measure => simp [intOf]; omega
    · obtain rfl : j = n := by omega
      go_wp2_with fail
      try rw [Exit.noGoto_ret]
      go_ret
      exact ⟨rfl, HS.out⟩
mutual
theorem tl_args : ∀ t : Tm, TL t.args
  | .mk v n ts => tl_step ts (tl_each ts)
theorem tl_each : ∀ ts : List Tm, ∀ t ∈ ts, TL t.args
  | [], _, h => by cases h
  | x :: xs, t, h => by
    rcases List.mem_cons.1 h with e | e
    · rw [e]; exact tl_args x
    · exact tl_each xs t e
end
theorem tl_all (ts : List Tm) : TL ts := tl_step ts (tl_each ts)
end Go.Proofs.YtppfalbnhnpbnaaGreatDoor
namespace Go.Proofs.YtppfalbnhnpbnaaGreatDoor
open Go Go.RowKit Ly
set_option maxRecDepth 10000
noncomputable def og6 : Array Oper := ((Tryz.f15.body).bind (findReg 6)).getD #[]
def ogDR (op : Int) (nm nm2 : Bs) (X U : Fm) (bb off d bb2 off2 d2 j n B B2 p q : Nat) (y0 y1 : Value) : List (Value → World → Prop) := [isV (.func (.func 15) #[] #[one B, one B2]),
  isV (.pointer (some ⟨p, 3, none⟩)),
  isV (.slice (some ⟨bb, off, none⟩) n d),
  isV (.int .i64 j),
  isV (.pointer (some ⟨bb, off + j * 4, none⟩)),
  fmP X,
  isV (.pointer (some ⟨q, 3, none⟩)),
  isV (.slice (some ⟨bb2, off2, none⟩) n d2),
  isV (.int .i64 j),
  isV (.pointer (some ⟨bb2, off2 + j * 4, none⟩)),
  fmP U,
  isV (.bool true),
  isV (.bool false)]
theorem ogD_stays (op : Int) (nm nm2 : Bs) (X U : Fm) (bb off d bb2 off2 d2 j n B B2 p q : Nat) (y0 y1 : Value) : ∀ r ∈ ogDR op nm nm2 X U bb off d bb2 off2 d2 j n B B2 p q y0 y1, Stays r := by
  unfold ogDR
  simp only [List.forall_mem_cons]
  exact ⟨isV_stays _, isV_stays _, isV_stays _, isV_stays _, isV_stays _, fmP_stays _, isV_stays _, isV_stays _, isV_stays _, isV_stays _, fmP_stays _, isV_stays _, isV_stays _, fun r h => by cases h⟩
set_option maxHeartbeats 4000000 in
theorem ogD_steps (op : Int) (nm nm2 : Bs) (X U : Fm) (bb off d bb2 off2 d2 j n B B2 p q : Nat) (y0 y1 : Value) (Q : Exit → Act → World → Prop) (W : World) (a0 : Act) (h3 : a0.tmps.getD 3 undef = one B2) (h4 : a0.tmps.getD 4 undef = one p) (h5 : a0.tmps.getD 5 undef = one q) (h7 : a0.tmps.getD 7 undef = .int .i64 j) (hj : j < n) (HR0 : W.heap[p]? = some (.cells #[.int .u8 op, str nm, y0, .slice (some ⟨bb, off, none⟩) n d] 40 (0, 0))) (HR1 : W.heap[q]? = some (.cells #[.int .u8 op, str nm2, y1, .slice (some ⟨bb2, off2, none⟩) n d2] 40 (0, 0))) {x : Option Addr} {k e : Nat} {x' : Option Addr} {k' e' : Nat} (HC : FmCells W bb (off + j * 4) X x k e x' k' e') {z : Option Addr} {k2 e2 : Nat} {z' : Option Addr} {k2' e2' : Nat} (HD : FmCells W bb2 (off2 + j * 4) U z k2 e2 z' k2' e2') (HB2 : W.heap[B2]? = some (.cells #[.func (.func 15) #[] #[one B, one B2]] 34 (0, 0))) (HT : ∀ w x y, Below W.heap.size W w → FmVal w X x → FmVal w U y → Calls Tryz.prog 15 #[x, y, one B, one B2] w fun e w' => e = .returned (.bool true) ∧ Below w.heap.size w w') : FlowSteps Tryz.prog og6 Q W a0 (rAt (ogDR op nm nm2 X U bb off d bb2 off2 d2 j n B B2 p q y0 y1)) [0, 1, 2, 3, 4, 5, 6, 7, 8, 9, 10, 11, 12] := by
  refine FlowSteps.step (Op.load 34 (Operand.tmp 3)) (by kernel_rfl) (fun a w F => ?_) ?_
  · have e := (F.old 3 (by kernel_rfl)).trans h3
    have k0 := (box_cell (kc F.bw HB2) 0).trans rfl
    clear F
    rintro ⟨dst, op, ty, pos, af, gd⟩ rfl K Q' hK
    have HK := Lib.hid hK
    clear hK
    go_simp
    exact HK.out _ _ ⟨Below.refl _ _, rfl⟩
  refine FlowSteps.step (Op.fieldAddr 40 (Operand.tmp 4) 3) (by kernel_rfl) (fun a w F => ?_) ?_
  · have e := (F.old 4 (by kernel_rfl)).trans h4
    clear F
    rintro ⟨dst, op, ty, pos, af, gd⟩ rfl K Q' hK
    have HK := Lib.hid hK
    clear hK
    go_simp
    exact HK.out _ _ ⟨Below.refl _ _, rfl⟩
  refine FlowSteps.step (Op.load 24 (Operand.tmp 65)) (by kernel_rfl) (fun a w F => ?_) ?_
  · have e0 : a.tmps[65]?.getD undef = .pointer (some ⟨p, 3, none⟩) := F.dep 1 65 (by kernel_rfl) (by kernel_rfl)
    obtain ⟨⟨-, -, -, kk⟩, -⟩ := row40 (kc F.bw HR0)
    clear F
    rintro ⟨dst, op, ty, pos, af, gd⟩ rfl K Q' hK
    have HK := Lib.hid hK
    clear hK
    go_simp
    exact HK.out _ _ ⟨Below.refl _ _, rfl⟩
  refine FlowSteps.step (Op.move (Operand.tmp 7)) (by kernel_rfl) (fun a w F => ?_) ?_
  · have e := (F.old 7 (by kernel_rfl)).trans h7
    clear F
    rintro ⟨dst, op, ty, pos, af, gd⟩ rfl K Q' hK
    have HK := Lib.hid hK
    clear hK
    go_simp
    exact HK.out _ _ ⟨Below.refl _ _, rfl⟩
  refine FlowSteps.step (Op.indexAddr 24 (Operand.tmp 66) (Operand.tmp 67)) (by kernel_rfl) (fun a w F => ?_) ?_
  · have e0 : a.tmps[66]?.getD undef = .slice (some ⟨bb, off, none⟩) n d := F.dep 2 66 (by kernel_rfl) (by kernel_rfl)
    have e1 : a.tmps[67]?.getD undef = .int .i64 j := F.dep 3 67 (by kernel_rfl) (by kernel_rfl)
    have hj1 : (0 : Int) ≤ (j : Int) := by omega
    have hj2 : (j : Int) < (n : Int) := by omega
    have hj3 : ((j : Int)).toNat = j := by omega
    clear F
    rintro ⟨dst, op, ty, pos, af, gd⟩ rfl K Q' hK
    have HK := Lib.hid hK
    clear hK
    go_simp
    exact HK.out _ _ ⟨Below.refl _ _, rfl⟩
  refine FlowSteps.step (Op.load 40 (Operand.tmp 68)) (by kernel_rfl) (fun a w F => ?_) ?_
  · have e : a.tmps[68]?.getD undef = .pointer (some ⟨bb, off + j * 4, none⟩) := F.dep 4 68 (by kernel_rfl) (by kernel_rfl)
    have K := keeps_of_below F.bw
    have k0 := K _ _ HC.c0
    have k1 := K _ _ HC.c1
    have k2 := K _ _ HC.c2
    have k3 := K _ _ HC.c3
    have ka := Lib.hid (And.intro (HC.at_.keep K) (HC.at'.keep K))
    clear F K
    rintro ⟨dst, op, ty, pos, af, gd⟩ rfl K Q' hK
    have HK := Lib.hid hK
    clear hK
    go_simp
    exact HK.out _ _ ⟨Below.refl _ _, _, _, _, _, _, _, rfl, ka.out.1, ka.out.2⟩
  refine FlowSteps.step (Op.fieldAddr 40 (Operand.tmp 5) 3) (by kernel_rfl) (fun a w F => ?_) ?_
  · have e := (F.old 5 (by kernel_rfl)).trans h5
    clear F
    rintro ⟨dst, op, ty, pos, af, gd⟩ rfl K Q' hK
    have HK := Lib.hid hK
    clear hK
    go_simp
    exact HK.out _ _ ⟨Below.refl _ _, rfl⟩
  refine FlowSteps.step (Op.load 24 (Operand.tmp 70)) (by kernel_rfl) (fun a w F => ?_) ?_
  · have e0 : a.tmps[70]?.getD undef = .pointer (some ⟨q, 3, none⟩) := F.dep 6 70 (by kernel_rfl) (by kernel_rfl)
    obtain ⟨⟨-, -, -, kk⟩, -⟩ := row40 (kc F.bw HR1)
    clear F
    rintro ⟨dst, op, ty, pos, af, gd⟩ rfl K Q' hK
    have HK := Lib.hid hK
    clear hK
    go_simp
    exact HK.out _ _ ⟨Below.refl _ _, rfl⟩
  refine FlowSteps.step (Op.move (Operand.tmp 7)) (by kernel_rfl) (fun a w F => ?_) ?_
  · have e := (F.old 7 (by kernel_rfl)).trans h7
    clear F
    rintro ⟨dst, op, ty, pos, af, gd⟩ rfl K Q' hK
    have HK := Lib.hid hK
    clear hK
    go_simp
    exact HK.out _ _ ⟨Below.refl _ _, rfl⟩
  refine FlowSteps.step (Op.indexAddr 24 (Operand.tmp 71) (Operand.tmp 72)) (by kernel_rfl) (fun a w F => ?_) ?_
  · have e0 : a.tmps[71]?.getD undef = .slice (some ⟨bb2, off2, none⟩) n d2 := F.dep 7 71 (by kernel_rfl) (by kernel_rfl)
    have e1 : a.tmps[72]?.getD undef = .int .i64 j := F.dep 8 72 (by kernel_rfl) (by kernel_rfl)
    have hj1 : (0 : Int) ≤ (j : Int) := by omega
    have hj2 : (j : Int) < (n : Int) := by omega
    have hj3 : ((j : Int)).toNat = j := by omega
    clear F
    rintro ⟨dst, op, ty, pos, af, gd⟩ rfl K Q' hK
    have HK := Lib.hid hK
    clear hK
    go_simp
    exact HK.out _ _ ⟨Below.refl _ _, rfl⟩
  refine FlowSteps.step (Op.load 40 (Operand.tmp 73)) (by kernel_rfl) (fun a w F => ?_) ?_
  · have e : a.tmps[73]?.getD undef = .pointer (some ⟨bb2, off2 + j * 4, none⟩) := F.dep 9 73 (by kernel_rfl) (by kernel_rfl)
    have K := keeps_of_below F.bw
    have k0 := K _ _ HD.c0
    have k1 := K _ _ HD.c1
    have k2 := K _ _ HD.c2
    have k3 := K _ _ HD.c3
    have ka := Lib.hid (And.intro (HD.at_.keep K) (HD.at'.keep K))
    clear F K
    rintro ⟨dst, op, ty, pos, af, gd⟩ rfl K Q' hK
    have HK := Lib.hid hK
    clear hK
    go_simp
    exact HK.out _ _ ⟨Below.refl _ _, _, _, _, _, _, _, rfl, ka.out.1, ka.out.2⟩
  refine FlowSteps.step (Op.call { callee := Callee.value (Operand.tmp 64), args := #[Operand.tmp 69, Operand.tmp 74], argTypes := #[40, 40] }) (by kernel_rfl) (fun a w F => ?_) ?_
  · have e : a.tmps[64]?.getD undef = .func (.func 15) #[] #[one B, one B2] := F.dep 0 64 (by kernel_rfl) (by kernel_rfl)
    have dx : FmVal w X (a.tmps[69]?.getD undef) := F.dep 5 69 (by kernel_rfl) (by kernel_rfl)
    obtain ⟨i1, n1, c1, j1, m1, l1, ex, -⟩ := id dx
    rw [ex] at dx
    have dy : FmVal w U (a.tmps[74]?.getD undef) := F.dep 10 74 (by kernel_rfl) (by kernel_rfl)
    obtain ⟨i2, n2, c2, j2, m2, l2, ey, -⟩ := id dy
    rw [ey] at dy
    have CA := Lib.hid (HT w _ _ F.bw dx dy)
    clear F dx dy
    rintro ⟨dst, op, ty, pos, af, gd⟩ rfl K Q' hK
    have HK := Lib.hid hK
    clear hK
    go_simp
    go_at_call 15
    refine CA.out.mono ?_
    rintro e w1 ⟨rfl, hb⟩
    exact HK.out _ _ ⟨hb, rfl⟩
  refine FlowSteps.step (Op.unOp UnOp.not 4 (Operand.tmp 75)) (by kernel_rfl) (fun a w F => ?_) ?_
  · have e0 : a.tmps[75]?.getD undef = .bool true := F.dep 11 75 (by kernel_rfl) (by kernel_rfl)
    clear F
    rintro ⟨dst, op, ty, pos, af, gd⟩ rfl K Q' hK
    have HK := Lib.hid hK
    clear hK
    go_simp
    exact HK.out _ _ ⟨Below.refl _ _, rfl⟩
  exact FlowSteps.nil
end Go.Proofs.YtppfalbnhnpbnaaGreatDoor
