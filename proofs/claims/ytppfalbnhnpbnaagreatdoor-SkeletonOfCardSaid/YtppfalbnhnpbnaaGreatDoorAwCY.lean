/- awake's regions in any order: 4. Conditions: those of each statement. -/
import Derived.Test.YtppfalbnhnpbnaaGreatDoorFlxY
set_option linter.unusedSimpArgs false
set_option linter.unusedVariables false
namespace Go.Proofs.YtppfalbnhnpbnaaGreatDoor
open Go Go.RowKit Ly
set_option maxRecDepth 10000
noncomputable def aw4 : Array Oper := ((Tryz.f9.body).bind (findReg 4)).getD #[]
def aw4R : List (Value → World → Prop) := [isV (atV [80]),
  isV (atV [81]),
  fsP [Fm.mk 1 [80] [] [], Fm.mk 1 [81] [] []],
  fmP (Fm.mk 4 [] [] [Fm.mk 1 [80] [] [], Fm.mk 1 [81] [] []]),
  fsP [(Fm.mk 4 [] [] [Fm.mk 1 [80] [] [], Fm.mk 1 [81] [] []])],
  fsP [(Fm.mk 4 [] [] [Fm.mk 1 [80] [] [], Fm.mk 1 [81] [] []])],
  sqP [] [(Fm.mk 4 [] [] [Fm.mk 1 [80] [] [], Fm.mk 1 [81] [] []])],
  isV (atV [81]),
  isV (atV [80]),
  fsP [Fm.mk 1 [81] [] [], Fm.mk 1 [80] [] []],
  fmP (Fm.mk 4 [] [] [Fm.mk 1 [81] [] [], Fm.mk 1 [80] [] []]),
  fsP [(Fm.mk 4 [] [] [Fm.mk 1 [81] [] [], Fm.mk 1 [80] [] []])],
  fsP [(Fm.mk 4 [] [] [Fm.mk 1 [81] [] [], Fm.mk 1 [80] [] []])],
  sqP [] [(Fm.mk 4 [] [] [Fm.mk 1 [81] [] [], Fm.mk 1 [80] [] []])],
  isV (.tuple #[.bool true, .int .i64 0]),
  isV (.tuple #[.bool true, .int .i64 0]),
  isV (.bool true),
  isV (.int .i64 0),
  isV (.bool true),
  isV (.int .i64 0)]
theorem aw4_stays : ∀ r ∈ aw4R, Stays r := by
  unfold aw4R
  simp only [List.forall_mem_cons]
  exact ⟨isV_stays _, isV_stays _, fsP_stays _, fmP_stays _, fsP_stays _, fsP_stays _, sqP_stays _ _, isV_stays _, isV_stays _, fsP_stays _, fmP_stays _, fsP_stays _, fsP_stays _, sqP_stays _ _, isV_stays _, isV_stays _, isV_stays _, isV_stays _, isV_stays _, isV_stays _, fun r h => by cases h⟩
set_option maxHeartbeats 4000000 in
theorem aw4_steps (Q : Exit → Act → World → Prop) (W : World) (a0 : Act) (g1 g2 g3 : Nat) (h1 : a0.tmps.getD 1 undef = one g1) (h2 : a0.tmps.getD 2 undef = one g2) (h3 : a0.tmps.getD 3 undef = one g3) (HA : AwV g1 g2 g3 W) (hr : RowsAt W) (hp : PowAt W) : FlowSteps Tryz.prog aw4 Q W a0 (rAt aw4R) [0, 1, 2, 3, 4, 5, 6, 7, 8, 9, 10, 11, 12, 13, 14, 15, 16, 17, 18, 19] := by
  refine FlowSteps.step (Op.load 40 (Operand.tmp 1)) (by kernel_rfl) (fun a w F => ?_) ?_
  · have e := (F.old 1 (by kernel_rfl)).trans h1
    obtain ⟨⟨p0, p1, p2, p3⟩, -⟩ := row40 (kc F.bw HA.c1)
    clear F
    rintro ⟨dst, op, ty, pos, af, gd⟩ rfl K Q' hK
    have HK := Lib.hid hK
    clear hK
    go_simp
    exact HK.out _ _ ⟨Below.refl _ _, rfl⟩
  refine FlowSteps.step (Op.load 40 (Operand.tmp 2)) (by kernel_rfl) (fun a w F => ?_) ?_
  · have e := (F.old 2 (by kernel_rfl)).trans h2
    obtain ⟨⟨p0, p1, p2, p3⟩, -⟩ := row40 (kc F.bw HA.c2)
    clear F
    rintro ⟨dst, op, ty, pos, af, gd⟩ rfl K Q' hK
    have HK := Lib.hid hK
    clear hK
    go_simp
    exact HK.out _ _ ⟨Below.refl _ _, rfl⟩
  refine FlowSteps.step (Op.buildSlice 24 2 #[(0, Operand.tmp 60), (1, Operand.tmp 61)]) (by kernel_rfl) (fun a w F => ?_) ?_
  · have ex : a.tmps[60]?.getD undef = .agg #[.int .u8 1, str [80], .slice none 0 0, .slice none 0 0] := F.dep 0 60 (by kernel_rfl) (by kernel_rfl)
    have dx := at_fm w [80]
    have ey : a.tmps[61]?.getD undef = .agg #[.int .u8 1, str [81], .slice none 0 0, .slice none 0 0] := F.dep 1 61 (by kernel_rfl) (by kernel_rfl)
    have dy := at_fm w [81]
    clear F
    rintro ⟨dst, op, ty, pos, af, gd⟩ rfl K Q' hK
    have HK := Lib.hid hK
    have Dx := Lib.hid dx
    have Dy := Lib.hid dy
    clear hK dx dy
    go_simp
    exact HK.out _ _ ⟨below_new _ _, fmsA2 Dx.out Dy.out⟩
  refine FlowSteps.step (Op.call { callee := Callee.value (Operand.func 17), args := #[Operand.const (Value.int IntKind.u8 4), Operand.tmp 62], argTypes := #[5, 24] }) (by kernel_rfl) (fun a w F => ?_) ?_
  · have dx : FmsAt w [Fm.mk 1 [80] [] [], Fm.mk 1 [81] [] []] (a.tmps[62]?.getD undef) := F.dep 2 62 (by kernel_rfl) (by kernel_rfl)
    obtain ⟨ax, cx, ex, -⟩ := At.sl_inv dx
    rw [ex] at dx
    clear F
    rintro ⟨dst, op, ty, pos, af, gd⟩ rfl K Q' hK
    have HK := Lib.hid hK
    have DX := Lib.hid dx
    clear hK dx
    go_simp
    go_at_call 17
    refine (join30_c 4 [Fm.mk 1 [80] [] [], Fm.mk 1 [81] [] []] _ _ _ _ DX.out).mono ?_
    rintro e w1 ⟨v, rfl, hv, hb⟩
    exact HK.out _ _ ⟨hb, hv⟩
  refine FlowSteps.step (Op.buildSlice 24 1 #[(0, Operand.tmp 63)]) (by kernel_rfl) (fun a w F => ?_) ?_
  · have dx : FmVal w (Fm.mk 4 [] [] [Fm.mk 1 [80] [] [], Fm.mk 1 [81] [] []]) (a.tmps[63]?.getD undef) := F.dep 3 63 (by kernel_rfl) (by kernel_rfl)
    obtain ⟨ix, nx, cx, jx, mx, lx, ex, -⟩ := id dx
    rw [ex] at dx
    clear F
    rintro ⟨dst, op, ty, pos, af, gd⟩ rfl K Q' hK
    have HK := Lib.hid hK
    have Dx := Lib.hid dx
    clear hK dx
    go_simp
    exact HK.out _ _ ⟨below_new _ _, fmsA1 Dx.out⟩
  refine FlowSteps.step (Op.call { callee := Callee.value (Operand.func 21), args := #[Operand.tmp 64], argTypes := #[24] }) (by kernel_rfl) (fun a w F => ?_) ?_
  · have dx : FmsAt w [(Fm.mk 4 [] [] [Fm.mk 1 [80] [] [], Fm.mk 1 [81] [] []])] (a.tmps[64]?.getD undef) := F.dep 4 64 (by kernel_rfl) (by kernel_rfl)
    obtain ⟨ax, cx, ex, -⟩ := At.sl_inv dx
    rw [ex] at dx
    clear F
    rintro ⟨dst, op, ty, pos, af, gd⟩ rfl K Q' hK
    have HK := Lib.hid hK
    have DX := Lib.hid dx
    clear hK dx
    go_simp
    go_at_call 21
    refine (fs_c _ _).mono ?_
    rintro e w1 ⟨rfl, rfl⟩
    exact HK.out _ _ ⟨Below.refl _ _, DX.out⟩
  refine FlowSteps.step (Op.call { callee := Callee.value (Operand.func 20), args := #[Operand.const (Value.slice none 0 0), Operand.tmp 65], argTypes := #[24, 24] }) (by kernel_rfl) (fun a w F => ?_) ?_
  · have dy : FmsAt w [(Fm.mk 4 [] [] [Fm.mk 1 [80] [] [], Fm.mk 1 [81] [] []])] (a.tmps[65]?.getD undef) := F.dep 5 65 (by kernel_rfl) (by kernel_rfl)
    obtain ⟨ay, cy, ey, -⟩ := At.sl_inv dy
    rw [ey] at dy
    clear F
    rintro ⟨dst, op, ty, pos, af, gd⟩ rfl K Q' hK
    have HK := Lib.hid hK
    have DY := Lib.hid dy
    clear hK dy
    go_simp
    go_at_call 20
    refine (sq_c _ _ _ _ _ _ _).mono ?_
    rintro e w1 ⟨rfl, hb⟩
    exact HK.out _ _ ⟨hb, _, _, _, _, _, _, rfl, At.sl_nil (Nat.zero_le _), (DY.out).keep (keeps_of_below hb)⟩
  refine FlowSteps.step (Op.load 40 (Operand.tmp 2)) (by kernel_rfl) (fun a w F => ?_) ?_
  · have e := (F.old 2 (by kernel_rfl)).trans h2
    obtain ⟨⟨p0, p1, p2, p3⟩, -⟩ := row40 (kc F.bw HA.c2)
    clear F
    rintro ⟨dst, op, ty, pos, af, gd⟩ rfl K Q' hK
    have HK := Lib.hid hK
    clear hK
    go_simp
    exact HK.out _ _ ⟨Below.refl _ _, rfl⟩
  refine FlowSteps.step (Op.load 40 (Operand.tmp 1)) (by kernel_rfl) (fun a w F => ?_) ?_
  · have e := (F.old 1 (by kernel_rfl)).trans h1
    obtain ⟨⟨p0, p1, p2, p3⟩, -⟩ := row40 (kc F.bw HA.c1)
    clear F
    rintro ⟨dst, op, ty, pos, af, gd⟩ rfl K Q' hK
    have HK := Lib.hid hK
    clear hK
    go_simp
    exact HK.out _ _ ⟨Below.refl _ _, rfl⟩
  refine FlowSteps.step (Op.buildSlice 24 2 #[(0, Operand.tmp 67), (1, Operand.tmp 68)]) (by kernel_rfl) (fun a w F => ?_) ?_
  · have ex : a.tmps[67]?.getD undef = .agg #[.int .u8 1, str [81], .slice none 0 0, .slice none 0 0] := F.dep 7 67 (by kernel_rfl) (by kernel_rfl)
    have dx := at_fm w [81]
    have ey : a.tmps[68]?.getD undef = .agg #[.int .u8 1, str [80], .slice none 0 0, .slice none 0 0] := F.dep 8 68 (by kernel_rfl) (by kernel_rfl)
    have dy := at_fm w [80]
    clear F
    rintro ⟨dst, op, ty, pos, af, gd⟩ rfl K Q' hK
    have HK := Lib.hid hK
    have Dx := Lib.hid dx
    have Dy := Lib.hid dy
    clear hK dx dy
    go_simp
    exact HK.out _ _ ⟨below_new _ _, fmsA2 Dx.out Dy.out⟩
  refine FlowSteps.step (Op.call { callee := Callee.value (Operand.func 17), args := #[Operand.const (Value.int IntKind.u8 4), Operand.tmp 69], argTypes := #[5, 24] }) (by kernel_rfl) (fun a w F => ?_) ?_
  · have dx : FmsAt w [Fm.mk 1 [81] [] [], Fm.mk 1 [80] [] []] (a.tmps[69]?.getD undef) := F.dep 9 69 (by kernel_rfl) (by kernel_rfl)
    obtain ⟨ax, cx, ex, -⟩ := At.sl_inv dx
    rw [ex] at dx
    clear F
    rintro ⟨dst, op, ty, pos, af, gd⟩ rfl K Q' hK
    have HK := Lib.hid hK
    have DX := Lib.hid dx
    clear hK dx
    go_simp
    go_at_call 17
    refine (join30_c 4 [Fm.mk 1 [81] [] [], Fm.mk 1 [80] [] []] _ _ _ _ DX.out).mono ?_
    rintro e w1 ⟨v, rfl, hv, hb⟩
    exact HK.out _ _ ⟨hb, hv⟩
  refine FlowSteps.step (Op.buildSlice 24 1 #[(0, Operand.tmp 70)]) (by kernel_rfl) (fun a w F => ?_) ?_
  · have dx : FmVal w (Fm.mk 4 [] [] [Fm.mk 1 [81] [] [], Fm.mk 1 [80] [] []]) (a.tmps[70]?.getD undef) := F.dep 10 70 (by kernel_rfl) (by kernel_rfl)
    obtain ⟨ix, nx, cx, jx, mx, lx, ex, -⟩ := id dx
    rw [ex] at dx
    clear F
    rintro ⟨dst, op, ty, pos, af, gd⟩ rfl K Q' hK
    have HK := Lib.hid hK
    have Dx := Lib.hid dx
    clear hK dx
    go_simp
    exact HK.out _ _ ⟨below_new _ _, fmsA1 Dx.out⟩
  refine FlowSteps.step (Op.call { callee := Callee.value (Operand.func 21), args := #[Operand.tmp 71], argTypes := #[24] }) (by kernel_rfl) (fun a w F => ?_) ?_
  · have dx : FmsAt w [(Fm.mk 4 [] [] [Fm.mk 1 [81] [] [], Fm.mk 1 [80] [] []])] (a.tmps[71]?.getD undef) := F.dep 11 71 (by kernel_rfl) (by kernel_rfl)
    obtain ⟨ax, cx, ex, -⟩ := At.sl_inv dx
    rw [ex] at dx
    clear F
    rintro ⟨dst, op, ty, pos, af, gd⟩ rfl K Q' hK
    have HK := Lib.hid hK
    have DX := Lib.hid dx
    clear hK dx
    go_simp
    go_at_call 21
    refine (fs_c _ _).mono ?_
    rintro e w1 ⟨rfl, rfl⟩
    exact HK.out _ _ ⟨Below.refl _ _, DX.out⟩
  refine FlowSteps.step (Op.call { callee := Callee.value (Operand.func 20), args := #[Operand.const (Value.slice none 0 0), Operand.tmp 72], argTypes := #[24, 24] }) (by kernel_rfl) (fun a w F => ?_) ?_
  · have dy : FmsAt w [(Fm.mk 4 [] [] [Fm.mk 1 [81] [] [], Fm.mk 1 [80] [] []])] (a.tmps[72]?.getD undef) := F.dep 12 72 (by kernel_rfl) (by kernel_rfl)
    obtain ⟨ay, cy, ey, -⟩ := At.sl_inv dy
    rw [ey] at dy
    clear F
    rintro ⟨dst, op, ty, pos, af, gd⟩ rfl K Q' hK
    have HK := Lib.hid hK
    have DY := Lib.hid dy
    clear hK dy
    go_simp
    go_at_call 20
    refine (sq_c _ _ _ _ _ _ _).mono ?_
    rintro e w1 ⟨rfl, hb⟩
    exact HK.out _ _ ⟨hb, _, _, _, _, _, _, rfl, At.sl_nil (Nat.zero_le _), (DY.out).keep (keeps_of_below hb)⟩
  refine FlowSteps.step (Op.call { callee := Callee.value (Operand.func 12), args := #[Operand.tmp 66, Operand.tmp 73], argTypes := #[26, 26] }) (by kernel_rfl) (fun a w F => ?_) ?_
  · have dx : SqVal w [] [(Fm.mk 4 [] [] [Fm.mk 1 [80] [] [], Fm.mk 1 [81] [] []])] (a.tmps[66]?.getD undef) := F.dep 6 66 (by kernel_rfl) (by kernel_rfl)
    obtain ⟨a1, n1, c1, b1, m1, l1, ex, -⟩ := id dx
    rw [ex] at dx
    have dy : SqVal w [] [(Fm.mk 4 [] [] [Fm.mk 1 [81] [] [], Fm.mk 1 [80] [] []])] (a.tmps[73]?.getD undef) := F.dep 13 73 (by kernel_rfl) (by kernel_rfl)
    obtain ⟨a2, n2, c2, b2, m2, l2, ey, -⟩ := id dy
    rw [ey] at dy
    have rows := hr.keep (keeps_of_below F.bw)
    have pows := hp.below F.bw
    clear F
    rintro ⟨dst, op, ty, pos, af, gd⟩ rfl K Q' hK
    have HK := Lib.hid hK
    have DX := Lib.hid dx
    have DY := Lib.hid dy
    have ROWS := Lib.hid rows
    have POWS := Lib.hid pows
    clear hK dx dy rows pows
    go_simp
    go_at_call 12
    refine (Same_c _ _ _ _ _ _ _ ROWS.out POWS.out DX.out DY.out (okSq_of (by kernel_rfl)) (okSq_of (by kernel_rfl))).mono ?_
    rintro e w1 ⟨rfl, hb⟩
    exact HK.out _ _ ⟨hb, congrArg (fun b => Value.tuple #[.bool b, .int .i64 0]) (sameSk_eq Ly.aw2)⟩
  refine FlowSteps.step (Op.move (Operand.tmp 74)) (by kernel_rfl) (fun a w F => ?_) ?_
  · have e : a.tmps[74]?.getD undef = .tuple #[.bool true, .int .i64 0] := F.dep 14 74 (by kernel_rfl) (by kernel_rfl)
    clear F
    rintro ⟨dst, op, ty, pos, af, gd⟩ rfl K Q' hK
    have HK := Lib.hid hK
    clear hK
    go_simp
    exact HK.out _ _ ⟨Below.refl _ _, rfl⟩
  refine FlowSteps.step (Op.extract (Operand.tmp 59) 0) (by kernel_rfl) (fun a w F => ?_) ?_
  · have e : a.tmps[59]?.getD undef = .tuple #[.bool true, .int .i64 0] := F.dep 15 59 (by kernel_rfl) (by kernel_rfl)
    clear F
    rintro ⟨dst, op, ty, pos, af, gd⟩ rfl K Q' hK
    have HK := Lib.hid hK
    clear hK
    go_simp
    exact HK.out _ _ ⟨Below.refl _ _, rfl⟩
  refine FlowSteps.step (Op.extract (Operand.tmp 59) 1) (by kernel_rfl) (fun a w F => ?_) ?_
  · have e : a.tmps[59]?.getD undef = .tuple #[.bool true, .int .i64 0] := F.dep 15 59 (by kernel_rfl) (by kernel_rfl)
    clear F
    rintro ⟨dst, op, ty, pos, af, gd⟩ rfl K Q' hK
    have HK := Lib.hid hK
    clear hK
    go_simp
    exact HK.out _ _ ⟨Below.refl _ _, rfl⟩
  refine FlowSteps.step (Op.assign (Operand.tmp 75)) (by kernel_rfl) (fun a w F => ?_) ?_
  · have e : a.tmps[75]?.getD undef = .bool true := F.dep 16 75 (by kernel_rfl) (by kernel_rfl)
    clear F
    rintro ⟨dst, op, ty, pos, af, gd⟩ rfl K Q' hK
    have HK := Lib.hid hK
    clear hK
    go_simp
    exact HK.out _ _ ⟨Below.refl _ _, rfl⟩
  refine FlowSteps.step (Op.assign (Operand.tmp 76)) (by kernel_rfl) (fun a w F => ?_) ?_
  · have e : a.tmps[76]?.getD undef = .int .i64 0 := F.dep 17 76 (by kernel_rfl) (by kernel_rfl)
    clear F
    rintro ⟨dst, op, ty, pos, af, gd⟩ rfl K Q' hK
    have HK := Lib.hid hK
    clear hK
    go_simp
    exact HK.out _ _ ⟨Below.refl _ _, rfl⟩
  exact FlowSteps.nil
end Go.Proofs.YtppfalbnhnpbnaaGreatDoor
namespace Go.Proofs.YtppfalbnhnpbnaaGreatDoor
open Go Go.RowKit Ly
set_option maxRecDepth 10000
noncomputable def aw5 : Array Oper := ((Tryz.f9.body).bind (findReg 5)).getD #[]
def aw5R : List (Value → World → Prop) := [isV (atV [80]),
  isV (atV [81]),
  fsP [Fm.mk 1 [80] [] [], Fm.mk 1 [81] [] []],
  fmP (Fm.mk 4 [] [] [Fm.mk 1 [80] [] [], Fm.mk 1 [81] [] []]),
  fsP [(Fm.mk 4 [] [] [Fm.mk 1 [80] [] [], Fm.mk 1 [81] [] []])],
  fsP [(Fm.mk 4 [] [] [Fm.mk 1 [80] [] [], Fm.mk 1 [81] [] []])],
  sqP [] [(Fm.mk 4 [] [] [Fm.mk 1 [80] [] [], Fm.mk 1 [81] [] []])],
  isV (atV [80]),
  isV (atV [80]),
  fsP [Fm.mk 1 [80] [] [], Fm.mk 1 [80] [] []],
  fmP (Fm.mk 4 [] [] [Fm.mk 1 [80] [] [], Fm.mk 1 [80] [] []]),
  fsP [(Fm.mk 4 [] [] [Fm.mk 1 [80] [] [], Fm.mk 1 [80] [] []])],
  fsP [(Fm.mk 4 [] [] [Fm.mk 1 [80] [] [], Fm.mk 1 [80] [] []])],
  sqP [] [(Fm.mk 4 [] [] [Fm.mk 1 [80] [] [], Fm.mk 1 [80] [] []])],
  isV (.tuple #[.bool false, .int .i64 0]),
  isV (.tuple #[.bool false, .int .i64 0]),
  isV (.bool false),
  isV (.int .i64 0),
  isV (.bool false),
  isV (.int .i64 0)]
theorem aw5_stays : ∀ r ∈ aw5R, Stays r := by
  unfold aw5R
  simp only [List.forall_mem_cons]
  exact ⟨isV_stays _, isV_stays _, fsP_stays _, fmP_stays _, fsP_stays _, fsP_stays _, sqP_stays _ _, isV_stays _, isV_stays _, fsP_stays _, fmP_stays _, fsP_stays _, fsP_stays _, sqP_stays _ _, isV_stays _, isV_stays _, isV_stays _, isV_stays _, isV_stays _, isV_stays _, fun r h => by cases h⟩
set_option maxHeartbeats 4000000 in
theorem aw5_steps (Q : Exit → Act → World → Prop) (W : World) (a0 : Act) (g1 g2 g3 : Nat) (h1 : a0.tmps.getD 1 undef = one g1) (h2 : a0.tmps.getD 2 undef = one g2) (h3 : a0.tmps.getD 3 undef = one g3) (HA : AwV g1 g2 g3 W) (hr : RowsAt W) (hp : PowAt W) : FlowSteps Tryz.prog aw5 Q W a0 (rAt aw5R) [0, 1, 2, 3, 4, 5, 6, 7, 8, 9, 10, 11, 12, 13, 14, 15, 16, 17, 18, 19] := by
  refine FlowSteps.step (Op.load 40 (Operand.tmp 1)) (by kernel_rfl) (fun a w F => ?_) ?_
  · have e := (F.old 1 (by kernel_rfl)).trans h1
    obtain ⟨⟨p0, p1, p2, p3⟩, -⟩ := row40 (kc F.bw HA.c1)
    clear F
    rintro ⟨dst, op, ty, pos, af, gd⟩ rfl K Q' hK
    have HK := Lib.hid hK
    clear hK
    go_simp
    exact HK.out _ _ ⟨Below.refl _ _, rfl⟩
  refine FlowSteps.step (Op.load 40 (Operand.tmp 2)) (by kernel_rfl) (fun a w F => ?_) ?_
  · have e := (F.old 2 (by kernel_rfl)).trans h2
    obtain ⟨⟨p0, p1, p2, p3⟩, -⟩ := row40 (kc F.bw HA.c2)
    clear F
    rintro ⟨dst, op, ty, pos, af, gd⟩ rfl K Q' hK
    have HK := Lib.hid hK
    clear hK
    go_simp
    exact HK.out _ _ ⟨Below.refl _ _, rfl⟩
  refine FlowSteps.step (Op.buildSlice 24 2 #[(0, Operand.tmp 78), (1, Operand.tmp 79)]) (by kernel_rfl) (fun a w F => ?_) ?_
  · have ex : a.tmps[78]?.getD undef = .agg #[.int .u8 1, str [80], .slice none 0 0, .slice none 0 0] := F.dep 0 78 (by kernel_rfl) (by kernel_rfl)
    have dx := at_fm w [80]
    have ey : a.tmps[79]?.getD undef = .agg #[.int .u8 1, str [81], .slice none 0 0, .slice none 0 0] := F.dep 1 79 (by kernel_rfl) (by kernel_rfl)
    have dy := at_fm w [81]
    clear F
    rintro ⟨dst, op, ty, pos, af, gd⟩ rfl K Q' hK
    have HK := Lib.hid hK
    have Dx := Lib.hid dx
    have Dy := Lib.hid dy
    clear hK dx dy
    go_simp
    exact HK.out _ _ ⟨below_new _ _, fmsA2 Dx.out Dy.out⟩
  refine FlowSteps.step (Op.call { callee := Callee.value (Operand.func 17), args := #[Operand.const (Value.int IntKind.u8 4), Operand.tmp 80], argTypes := #[5, 24] }) (by kernel_rfl) (fun a w F => ?_) ?_
  · have dx : FmsAt w [Fm.mk 1 [80] [] [], Fm.mk 1 [81] [] []] (a.tmps[80]?.getD undef) := F.dep 2 80 (by kernel_rfl) (by kernel_rfl)
    obtain ⟨ax, cx, ex, -⟩ := At.sl_inv dx
    rw [ex] at dx
    clear F
    rintro ⟨dst, op, ty, pos, af, gd⟩ rfl K Q' hK
    have HK := Lib.hid hK
    have DX := Lib.hid dx
    clear hK dx
    go_simp
    go_at_call 17
    refine (join30_c 4 [Fm.mk 1 [80] [] [], Fm.mk 1 [81] [] []] _ _ _ _ DX.out).mono ?_
    rintro e w1 ⟨v, rfl, hv, hb⟩
    exact HK.out _ _ ⟨hb, hv⟩
  refine FlowSteps.step (Op.buildSlice 24 1 #[(0, Operand.tmp 81)]) (by kernel_rfl) (fun a w F => ?_) ?_
  · have dx : FmVal w (Fm.mk 4 [] [] [Fm.mk 1 [80] [] [], Fm.mk 1 [81] [] []]) (a.tmps[81]?.getD undef) := F.dep 3 81 (by kernel_rfl) (by kernel_rfl)
    obtain ⟨ix, nx, cx, jx, mx, lx, ex, -⟩ := id dx
    rw [ex] at dx
    clear F
    rintro ⟨dst, op, ty, pos, af, gd⟩ rfl K Q' hK
    have HK := Lib.hid hK
    have Dx := Lib.hid dx
    clear hK dx
    go_simp
    exact HK.out _ _ ⟨below_new _ _, fmsA1 Dx.out⟩
  refine FlowSteps.step (Op.call { callee := Callee.value (Operand.func 21), args := #[Operand.tmp 82], argTypes := #[24] }) (by kernel_rfl) (fun a w F => ?_) ?_
  · have dx : FmsAt w [(Fm.mk 4 [] [] [Fm.mk 1 [80] [] [], Fm.mk 1 [81] [] []])] (a.tmps[82]?.getD undef) := F.dep 4 82 (by kernel_rfl) (by kernel_rfl)
    obtain ⟨ax, cx, ex, -⟩ := At.sl_inv dx
    rw [ex] at dx
    clear F
    rintro ⟨dst, op, ty, pos, af, gd⟩ rfl K Q' hK
    have HK := Lib.hid hK
    have DX := Lib.hid dx
    clear hK dx
    go_simp
    go_at_call 21
    refine (fs_c _ _).mono ?_
    rintro e w1 ⟨rfl, rfl⟩
    exact HK.out _ _ ⟨Below.refl _ _, DX.out⟩
  refine FlowSteps.step (Op.call { callee := Callee.value (Operand.func 20), args := #[Operand.const (Value.slice none 0 0), Operand.tmp 83], argTypes := #[24, 24] }) (by kernel_rfl) (fun a w F => ?_) ?_
  · have dy : FmsAt w [(Fm.mk 4 [] [] [Fm.mk 1 [80] [] [], Fm.mk 1 [81] [] []])] (a.tmps[83]?.getD undef) := F.dep 5 83 (by kernel_rfl) (by kernel_rfl)
    obtain ⟨ay, cy, ey, -⟩ := At.sl_inv dy
    rw [ey] at dy
    clear F
    rintro ⟨dst, op, ty, pos, af, gd⟩ rfl K Q' hK
    have HK := Lib.hid hK
    have DY := Lib.hid dy
    clear hK dy
    go_simp
    go_at_call 20
    refine (sq_c _ _ _ _ _ _ _).mono ?_
    rintro e w1 ⟨rfl, hb⟩
    exact HK.out _ _ ⟨hb, _, _, _, _, _, _, rfl, At.sl_nil (Nat.zero_le _), (DY.out).keep (keeps_of_below hb)⟩
  refine FlowSteps.step (Op.load 40 (Operand.tmp 1)) (by kernel_rfl) (fun a w F => ?_) ?_
  · have e := (F.old 1 (by kernel_rfl)).trans h1
    obtain ⟨⟨p0, p1, p2, p3⟩, -⟩ := row40 (kc F.bw HA.c1)
    clear F
    rintro ⟨dst, op, ty, pos, af, gd⟩ rfl K Q' hK
    have HK := Lib.hid hK
    clear hK
    go_simp
    exact HK.out _ _ ⟨Below.refl _ _, rfl⟩
  refine FlowSteps.step (Op.load 40 (Operand.tmp 1)) (by kernel_rfl) (fun a w F => ?_) ?_
  · have e := (F.old 1 (by kernel_rfl)).trans h1
    obtain ⟨⟨p0, p1, p2, p3⟩, -⟩ := row40 (kc F.bw HA.c1)
    clear F
    rintro ⟨dst, op, ty, pos, af, gd⟩ rfl K Q' hK
    have HK := Lib.hid hK
    clear hK
    go_simp
    exact HK.out _ _ ⟨Below.refl _ _, rfl⟩
  refine FlowSteps.step (Op.buildSlice 24 2 #[(0, Operand.tmp 85), (1, Operand.tmp 86)]) (by kernel_rfl) (fun a w F => ?_) ?_
  · have ex : a.tmps[85]?.getD undef = .agg #[.int .u8 1, str [80], .slice none 0 0, .slice none 0 0] := F.dep 7 85 (by kernel_rfl) (by kernel_rfl)
    have dx := at_fm w [80]
    have ey : a.tmps[86]?.getD undef = .agg #[.int .u8 1, str [80], .slice none 0 0, .slice none 0 0] := F.dep 8 86 (by kernel_rfl) (by kernel_rfl)
    have dy := at_fm w [80]
    clear F
    rintro ⟨dst, op, ty, pos, af, gd⟩ rfl K Q' hK
    have HK := Lib.hid hK
    have Dx := Lib.hid dx
    have Dy := Lib.hid dy
    clear hK dx dy
    go_simp
    exact HK.out _ _ ⟨below_new _ _, fmsA2 Dx.out Dy.out⟩
  refine FlowSteps.step (Op.call { callee := Callee.value (Operand.func 17), args := #[Operand.const (Value.int IntKind.u8 4), Operand.tmp 87], argTypes := #[5, 24] }) (by kernel_rfl) (fun a w F => ?_) ?_
  · have dx : FmsAt w [Fm.mk 1 [80] [] [], Fm.mk 1 [80] [] []] (a.tmps[87]?.getD undef) := F.dep 9 87 (by kernel_rfl) (by kernel_rfl)
    obtain ⟨ax, cx, ex, -⟩ := At.sl_inv dx
    rw [ex] at dx
    clear F
    rintro ⟨dst, op, ty, pos, af, gd⟩ rfl K Q' hK
    have HK := Lib.hid hK
    have DX := Lib.hid dx
    clear hK dx
    go_simp
    go_at_call 17
    refine (join30_c 4 [Fm.mk 1 [80] [] [], Fm.mk 1 [80] [] []] _ _ _ _ DX.out).mono ?_
    rintro e w1 ⟨v, rfl, hv, hb⟩
    exact HK.out _ _ ⟨hb, hv⟩
  refine FlowSteps.step (Op.buildSlice 24 1 #[(0, Operand.tmp 88)]) (by kernel_rfl) (fun a w F => ?_) ?_
  · have dx : FmVal w (Fm.mk 4 [] [] [Fm.mk 1 [80] [] [], Fm.mk 1 [80] [] []]) (a.tmps[88]?.getD undef) := F.dep 10 88 (by kernel_rfl) (by kernel_rfl)
    obtain ⟨ix, nx, cx, jx, mx, lx, ex, -⟩ := id dx
    rw [ex] at dx
    clear F
    rintro ⟨dst, op, ty, pos, af, gd⟩ rfl K Q' hK
    have HK := Lib.hid hK
    have Dx := Lib.hid dx
    clear hK dx
    go_simp
    exact HK.out _ _ ⟨below_new _ _, fmsA1 Dx.out⟩
  refine FlowSteps.step (Op.call { callee := Callee.value (Operand.func 21), args := #[Operand.tmp 89], argTypes := #[24] }) (by kernel_rfl) (fun a w F => ?_) ?_
  · have dx : FmsAt w [(Fm.mk 4 [] [] [Fm.mk 1 [80] [] [], Fm.mk 1 [80] [] []])] (a.tmps[89]?.getD undef) := F.dep 11 89 (by kernel_rfl) (by kernel_rfl)
    obtain ⟨ax, cx, ex, -⟩ := At.sl_inv dx
    rw [ex] at dx
    clear F
    rintro ⟨dst, op, ty, pos, af, gd⟩ rfl K Q' hK
    have HK := Lib.hid hK
    have DX := Lib.hid dx
    clear hK dx
    go_simp
    go_at_call 21
    refine (fs_c _ _).mono ?_
    rintro e w1 ⟨rfl, rfl⟩
    exact HK.out _ _ ⟨Below.refl _ _, DX.out⟩
  refine FlowSteps.step (Op.call { callee := Callee.value (Operand.func 20), args := #[Operand.const (Value.slice none 0 0), Operand.tmp 90], argTypes := #[24, 24] }) (by kernel_rfl) (fun a w F => ?_) ?_
  · have dy : FmsAt w [(Fm.mk 4 [] [] [Fm.mk 1 [80] [] [], Fm.mk 1 [80] [] []])] (a.tmps[90]?.getD undef) := F.dep 12 90 (by kernel_rfl) (by kernel_rfl)
    obtain ⟨ay, cy, ey, -⟩ := At.sl_inv dy
    rw [ey] at dy
    clear F
    rintro ⟨dst, op, ty, pos, af, gd⟩ rfl K Q' hK
    have HK := Lib.hid hK
    have DY := Lib.hid dy
    clear hK dy
    go_simp
    go_at_call 20
    refine (sq_c _ _ _ _ _ _ _).mono ?_
    rintro e w1 ⟨rfl, hb⟩
    exact HK.out _ _ ⟨hb, _, _, _, _, _, _, rfl, At.sl_nil (Nat.zero_le _), (DY.out).keep (keeps_of_below hb)⟩
  refine FlowSteps.step (Op.call { callee := Callee.value (Operand.func 12), args := #[Operand.tmp 84, Operand.tmp 91], argTypes := #[26, 26] }) (by kernel_rfl) (fun a w F => ?_) ?_
  · have dx : SqVal w [] [(Fm.mk 4 [] [] [Fm.mk 1 [80] [] [], Fm.mk 1 [81] [] []])] (a.tmps[84]?.getD undef) := F.dep 6 84 (by kernel_rfl) (by kernel_rfl)
    obtain ⟨a1, n1, c1, b1, m1, l1, ex, -⟩ := id dx
    rw [ex] at dx
    have dy : SqVal w [] [(Fm.mk 4 [] [] [Fm.mk 1 [80] [] [], Fm.mk 1 [80] [] []])] (a.tmps[91]?.getD undef) := F.dep 13 91 (by kernel_rfl) (by kernel_rfl)
    obtain ⟨a2, n2, c2, b2, m2, l2, ey, -⟩ := id dy
    rw [ey] at dy
    have rows := hr.keep (keeps_of_below F.bw)
    have pows := hp.below F.bw
    clear F
    rintro ⟨dst, op, ty, pos, af, gd⟩ rfl K Q' hK
    have HK := Lib.hid hK
    have DX := Lib.hid dx
    have DY := Lib.hid dy
    have ROWS := Lib.hid rows
    have POWS := Lib.hid pows
    clear hK dx dy rows pows
    go_simp
    go_at_call 12
    refine (Same_c _ _ _ _ _ _ _ ROWS.out POWS.out DX.out DY.out (okSq_of (by kernel_rfl)) (okSq_of (by kernel_rfl))).mono ?_
    rintro e w1 ⟨rfl, hb⟩
    exact HK.out _ _ ⟨hb, congrArg (fun b => Value.tuple #[.bool b, .int .i64 0]) (sameSk_ne Ly.aw3)⟩
  refine FlowSteps.step (Op.move (Operand.tmp 92)) (by kernel_rfl) (fun a w F => ?_) ?_
  · have e : a.tmps[92]?.getD undef = .tuple #[.bool false, .int .i64 0] := F.dep 14 92 (by kernel_rfl) (by kernel_rfl)
    clear F
    rintro ⟨dst, op, ty, pos, af, gd⟩ rfl K Q' hK
    have HK := Lib.hid hK
    clear hK
    go_simp
    exact HK.out _ _ ⟨Below.refl _ _, rfl⟩
  refine FlowSteps.step (Op.extract (Operand.tmp 77) 0) (by kernel_rfl) (fun a w F => ?_) ?_
  · have e : a.tmps[77]?.getD undef = .tuple #[.bool false, .int .i64 0] := F.dep 15 77 (by kernel_rfl) (by kernel_rfl)
    clear F
    rintro ⟨dst, op, ty, pos, af, gd⟩ rfl K Q' hK
    have HK := Lib.hid hK
    clear hK
    go_simp
    exact HK.out _ _ ⟨Below.refl _ _, rfl⟩
  refine FlowSteps.step (Op.extract (Operand.tmp 77) 1) (by kernel_rfl) (fun a w F => ?_) ?_
  · have e : a.tmps[77]?.getD undef = .tuple #[.bool false, .int .i64 0] := F.dep 15 77 (by kernel_rfl) (by kernel_rfl)
    clear F
    rintro ⟨dst, op, ty, pos, af, gd⟩ rfl K Q' hK
    have HK := Lib.hid hK
    clear hK
    go_simp
    exact HK.out _ _ ⟨Below.refl _ _, rfl⟩
  refine FlowSteps.step (Op.assign (Operand.tmp 93)) (by kernel_rfl) (fun a w F => ?_) ?_
  · have e : a.tmps[93]?.getD undef = .bool false := F.dep 16 93 (by kernel_rfl) (by kernel_rfl)
    clear F
    rintro ⟨dst, op, ty, pos, af, gd⟩ rfl K Q' hK
    have HK := Lib.hid hK
    clear hK
    go_simp
    exact HK.out _ _ ⟨Below.refl _ _, rfl⟩
  refine FlowSteps.step (Op.assign (Operand.tmp 94)) (by kernel_rfl) (fun a w F => ?_) ?_
  · have e : a.tmps[94]?.getD undef = .int .i64 0 := F.dep 17 94 (by kernel_rfl) (by kernel_rfl)
    clear F
    rintro ⟨dst, op, ty, pos, af, gd⟩ rfl K Q' hK
    have HK := Lib.hid hK
    clear hK
    go_simp
    exact HK.out _ _ ⟨Below.refl _ _, rfl⟩
  exact FlowSteps.nil
end Go.Proofs.YtppfalbnhnpbnaaGreatDoor
