/- awake's regions in any order: 6. Conditions: those of each statement. -/
import Derived.Test.YtppfalbnhnpbnaaGreatDoorFlxY
set_option linter.unusedSimpArgs false
set_option linter.unusedVariables false
namespace Go.Proofs.YtppfalbnhnpbnaaGreatDoor
open Go Go.RowKit Ly
set_option maxRecDepth 10000
noncomputable def aw6 : Array Oper := ((Tryz.f9.body).bind (findReg 6)).getD #[]
def aw6R : List (Value → World → Prop) := [isV (atV [80]),
  isV (atV [81]),
  fsP [Fm.mk 1 [80] [] [], Fm.mk 1 [81] [] []],
  fmP (Fm.mk 6 [] [] [Fm.mk 1 [80] [] [], Fm.mk 1 [81] [] []]),
  isV (atV [80]),
  fsP [(Fm.mk 6 [] [] [Fm.mk 1 [80] [] [], Fm.mk 1 [81] [] []]), Fm.mk 1 [80] [] []],
  fsP [(Fm.mk 6 [] [] [Fm.mk 1 [80] [] [], Fm.mk 1 [81] [] []]), Fm.mk 1 [80] [] []],
  isV (atV [81]),
  fsP [Fm.mk 1 [81] [] []],
  fsP [Fm.mk 1 [81] [] []],
  sqP [(Fm.mk 6 [] [] [Fm.mk 1 [80] [] [], Fm.mk 1 [81] [] []]), Fm.mk 1 [80] [] []] [Fm.mk 1 [81] [] []],
  isV (atV [80]),
  isV (atV [80]),
  isV (atV [81]),
  fsP [Fm.mk 1 [80] [] [], Fm.mk 1 [81] [] []],
  fmP (Fm.mk 6 [] [] [Fm.mk 1 [80] [] [], Fm.mk 1 [81] [] []]),
  fsP [Fm.mk 1 [80] [] [], (Fm.mk 6 [] [] [Fm.mk 1 [80] [] [], Fm.mk 1 [81] [] []])],
  fsP [Fm.mk 1 [80] [] [], (Fm.mk 6 [] [] [Fm.mk 1 [80] [] [], Fm.mk 1 [81] [] []])],
  isV (atV [81]),
  fsP [Fm.mk 1 [81] [] []],
  fsP [Fm.mk 1 [81] [] []],
  sqP [Fm.mk 1 [80] [] [], (Fm.mk 6 [] [] [Fm.mk 1 [80] [] [], Fm.mk 1 [81] [] []])] [Fm.mk 1 [81] [] []],
  isV (.tuple #[.bool false, .int .i64 0]),
  isV (.tuple #[.bool false, .int .i64 0]),
  isV (.bool false),
  isV (.int .i64 0),
  isV (.bool false),
  isV (.int .i64 0)]
theorem aw6_stays : ∀ r ∈ aw6R, Stays r := by
  unfold aw6R
  simp only [List.forall_mem_cons]
  exact ⟨isV_stays _, isV_stays _, fsP_stays _, fmP_stays _, isV_stays _, fsP_stays _, fsP_stays _, isV_stays _, fsP_stays _, fsP_stays _, sqP_stays _ _, isV_stays _, isV_stays _, isV_stays _, fsP_stays _, fmP_stays _, fsP_stays _, fsP_stays _, isV_stays _, fsP_stays _, fsP_stays _, sqP_stays _ _, isV_stays _, isV_stays _, isV_stays _, isV_stays _, isV_stays _, isV_stays _, fun r h => by cases h⟩
set_option maxHeartbeats 4000000 in
theorem aw6_steps (Q : Exit → Act → World → Prop) (W : World) (a0 : Act) (g1 g2 g3 : Nat) (h1 : a0.tmps.getD 1 undef = one g1) (h2 : a0.tmps.getD 2 undef = one g2) (h3 : a0.tmps.getD 3 undef = one g3) (HA : AwV g1 g2 g3 W) (hr : RowsAt W) (hp : PowAt W) : FlowSteps Tryz.prog aw6 Q W a0 (rAt aw6R) [0, 1, 2, 3, 4, 5, 6, 7, 8, 9, 10, 11, 12, 13, 14, 15, 16, 17, 18, 19, 20, 21, 22, 23, 24, 25, 26, 27] := by
  refine FlowSteps.step (Op.load 40 (Operand.tmp 1)) (by kernel_rfl) (fun a w F => ?_) ?_
  · have e := (F.old 1 (by kernel_rfl)).trans h1
    obtain ⟨⟨p0, p1, p2, p3⟩, -⟩ := row40 (kc F.bw HA.c1)
    clear F
    rintro ⟨dst, op, ty, pos, af, gd⟩ rfl K Q' hK
    have HK := Lib.hid hK
    clear hK
    go_simp
    exact HK.out _ _ ⟨Below.refl _ _, rfl⟩
  refine FlowSteps.step (Op.load 40 (Operand.tmp 2)) (by kernel_rfl) (fun a w F => ?_) ?_
  · have e := (F.old 2 (by kernel_rfl)).trans h2
    obtain ⟨⟨p0, p1, p2, p3⟩, -⟩ := row40 (kc F.bw HA.c2)
    clear F
    rintro ⟨dst, op, ty, pos, af, gd⟩ rfl K Q' hK
    have HK := Lib.hid hK
    clear hK
    go_simp
    exact HK.out _ _ ⟨Below.refl _ _, rfl⟩
  refine FlowSteps.step (Op.buildSlice 24 2 #[(0, Operand.tmp 96), (1, Operand.tmp 97)]) (by kernel_rfl) (fun a w F => ?_) ?_
  · have ex : a.tmps[96]?.getD undef = .agg #[.int .u8 1, str [80], .slice none 0 0, .slice none 0 0] := F.dep 0 96 (by kernel_rfl) (by kernel_rfl)
    have dx := at_fm w [80]
    have ey : a.tmps[97]?.getD undef = .agg #[.int .u8 1, str [81], .slice none 0 0, .slice none 0 0] := F.dep 1 97 (by kernel_rfl) (by kernel_rfl)
    have dy := at_fm w [81]
    clear F
    rintro ⟨dst, op, ty, pos, af, gd⟩ rfl K Q' hK
    have HK := Lib.hid hK
    have Dx := Lib.hid dx
    have Dy := Lib.hid dy
    clear hK dx dy
    go_simp
    exact HK.out _ _ ⟨below_new _ _, fmsA2 Dx.out Dy.out⟩
  refine FlowSteps.step (Op.call { callee := Callee.value (Operand.func 17), args := #[Operand.const (Value.int IntKind.u8 6), Operand.tmp 98], argTypes := #[5, 24] }) (by kernel_rfl) (fun a w F => ?_) ?_
  · have dx : FmsAt w [Fm.mk 1 [80] [] [], Fm.mk 1 [81] [] []] (a.tmps[98]?.getD undef) := F.dep 2 98 (by kernel_rfl) (by kernel_rfl)
    obtain ⟨ax, cx, ex, -⟩ := At.sl_inv dx
    rw [ex] at dx
    clear F
    rintro ⟨dst, op, ty, pos, af, gd⟩ rfl K Q' hK
    have HK := Lib.hid hK
    have DX := Lib.hid dx
    clear hK dx
    go_simp
    go_at_call 17
    refine (join30_c 6 [Fm.mk 1 [80] [] [], Fm.mk 1 [81] [] []] _ _ _ _ DX.out).mono ?_
    rintro e w1 ⟨v, rfl, hv, hb⟩
    exact HK.out _ _ ⟨hb, hv⟩
  refine FlowSteps.step (Op.load 40 (Operand.tmp 1)) (by kernel_rfl) (fun a w F => ?_) ?_
  · have e := (F.old 1 (by kernel_rfl)).trans h1
    obtain ⟨⟨p0, p1, p2, p3⟩, -⟩ := row40 (kc F.bw HA.c1)
    clear F
    rintro ⟨dst, op, ty, pos, af, gd⟩ rfl K Q' hK
    have HK := Lib.hid hK
    clear hK
    go_simp
    exact HK.out _ _ ⟨Below.refl _ _, rfl⟩
  refine FlowSteps.step (Op.buildSlice 24 2 #[(0, Operand.tmp 99), (1, Operand.tmp 100)]) (by kernel_rfl) (fun a w F => ?_) ?_
  · have dx : FmVal w (Fm.mk 6 [] [] [Fm.mk 1 [80] [] [], Fm.mk 1 [81] [] []]) (a.tmps[99]?.getD undef) := F.dep 3 99 (by kernel_rfl) (by kernel_rfl)
    obtain ⟨ix, nx, cx, jx, mx, lx, ex, -⟩ := id dx
    rw [ex] at dx
    have ey : a.tmps[100]?.getD undef = .agg #[.int .u8 1, str [80], .slice none 0 0, .slice none 0 0] := F.dep 4 100 (by kernel_rfl) (by kernel_rfl)
    have dy := at_fm w [80]
    clear F
    rintro ⟨dst, op, ty, pos, af, gd⟩ rfl K Q' hK
    have HK := Lib.hid hK
    have Dx := Lib.hid dx
    have Dy := Lib.hid dy
    clear hK dx dy
    go_simp
    exact HK.out _ _ ⟨below_new _ _, fmsA2 Dx.out Dy.out⟩
  refine FlowSteps.step (Op.call { callee := Callee.value (Operand.func 21), args := #[Operand.tmp 101], argTypes := #[24] }) (by kernel_rfl) (fun a w F => ?_) ?_
  · have dx : FmsAt w [(Fm.mk 6 [] [] [Fm.mk 1 [80] [] [], Fm.mk 1 [81] [] []]), Fm.mk 1 [80] [] []] (a.tmps[101]?.getD undef) := F.dep 5 101 (by kernel_rfl) (by kernel_rfl)
    obtain ⟨ax, cx, ex, -⟩ := At.sl_inv dx
    rw [ex] at dx
    clear F
    rintro ⟨dst, op, ty, pos, af, gd⟩ rfl K Q' hK
    have HK := Lib.hid hK
    have DX := Lib.hid dx
    clear hK dx
    go_simp
    go_at_call 21
    refine (fs_c _ _).mono ?_
    rintro e w1 ⟨rfl, rfl⟩
    exact HK.out _ _ ⟨Below.refl _ _, DX.out⟩
  refine FlowSteps.step (Op.load 40 (Operand.tmp 2)) (by kernel_rfl) (fun a w F => ?_) ?_
  · have e := (F.old 2 (by kernel_rfl)).trans h2
    obtain ⟨⟨p0, p1, p2, p3⟩, -⟩ := row40 (kc F.bw HA.c2)
    clear F
    rintro ⟨dst, op, ty, pos, af, gd⟩ rfl K Q' hK
    have HK := Lib.hid hK
    clear hK
    go_simp
    exact HK.out _ _ ⟨Below.refl _ _, rfl⟩
  refine FlowSteps.step (Op.buildSlice 24 1 #[(0, Operand.tmp 103)]) (by kernel_rfl) (fun a w F => ?_) ?_
  · have ex : a.tmps[103]?.getD undef = .agg #[.int .u8 1, str [81], .slice none 0 0, .slice none 0 0] := F.dep 7 103 (by kernel_rfl) (by kernel_rfl)
    have dx := at_fm w [81]
    clear F
    rintro ⟨dst, op, ty, pos, af, gd⟩ rfl K Q' hK
    have HK := Lib.hid hK
    have Dx := Lib.hid dx
    clear hK dx
    go_simp
    exact HK.out _ _ ⟨below_new _ _, fmsA1 Dx.out⟩
  refine FlowSteps.step (Op.call { callee := Callee.value (Operand.func 21), args := #[Operand.tmp 104], argTypes := #[24] }) (by kernel_rfl) (fun a w F => ?_) ?_
  · have dx : FmsAt w [Fm.mk 1 [81] [] []] (a.tmps[104]?.getD undef) := F.dep 8 104 (by kernel_rfl) (by kernel_rfl)
    obtain ⟨ax, cx, ex, -⟩ := At.sl_inv dx
    rw [ex] at dx
    clear F
    rintro ⟨dst, op, ty, pos, af, gd⟩ rfl K Q' hK
    have HK := Lib.hid hK
    have DX := Lib.hid dx
    clear hK dx
    go_simp
    go_at_call 21
    refine (fs_c _ _).mono ?_
    rintro e w1 ⟨rfl, rfl⟩
    exact HK.out _ _ ⟨Below.refl _ _, DX.out⟩
  refine FlowSteps.step (Op.call { callee := Callee.value (Operand.func 20), args := #[Operand.tmp 102, Operand.tmp 105], argTypes := #[24, 24] }) (by kernel_rfl) (fun a w F => ?_) ?_
  · have dx : FmsAt w [(Fm.mk 6 [] [] [Fm.mk 1 [80] [] [], Fm.mk 1 [81] [] []]), Fm.mk 1 [80] [] []] (a.tmps[102]?.getD undef) := F.dep 6 102 (by kernel_rfl) (by kernel_rfl)
    obtain ⟨ax, cx, ex, -⟩ := At.sl_inv dx
    rw [ex] at dx
    have dy : FmsAt w [Fm.mk 1 [81] [] []] (a.tmps[105]?.getD undef) := F.dep 9 105 (by kernel_rfl) (by kernel_rfl)
    obtain ⟨ay, cy, ey, -⟩ := At.sl_inv dy
    rw [ey] at dy
    clear F
    rintro ⟨dst, op, ty, pos, af, gd⟩ rfl K Q' hK
    have HK := Lib.hid hK
    have DX := Lib.hid dx
    have DY := Lib.hid dy
    clear hK dx dy
    go_simp
    go_at_call 20
    refine (sq_c _ _ _ _ _ _ _).mono ?_
    rintro e w1 ⟨rfl, hb⟩
    exact HK.out _ _ ⟨hb, _, _, _, _, _, _, rfl, (DX.out).keep (keeps_of_below hb), (DY.out).keep (keeps_of_below hb)⟩
  refine FlowSteps.step (Op.load 40 (Operand.tmp 1)) (by kernel_rfl) (fun a w F => ?_) ?_
  · have e := (F.old 1 (by kernel_rfl)).trans h1
    obtain ⟨⟨p0, p1, p2, p3⟩, -⟩ := row40 (kc F.bw HA.c1)
    clear F
    rintro ⟨dst, op, ty, pos, af, gd⟩ rfl K Q' hK
    have HK := Lib.hid hK
    clear hK
    go_simp
    exact HK.out _ _ ⟨Below.refl _ _, rfl⟩
  refine FlowSteps.step (Op.load 40 (Operand.tmp 1)) (by kernel_rfl) (fun a w F => ?_) ?_
  · have e := (F.old 1 (by kernel_rfl)).trans h1
    obtain ⟨⟨p0, p1, p2, p3⟩, -⟩ := row40 (kc F.bw HA.c1)
    clear F
    rintro ⟨dst, op, ty, pos, af, gd⟩ rfl K Q' hK
    have HK := Lib.hid hK
    clear hK
    go_simp
    exact HK.out _ _ ⟨Below.refl _ _, rfl⟩
  refine FlowSteps.step (Op.load 40 (Operand.tmp 2)) (by kernel_rfl) (fun a w F => ?_) ?_
  · have e := (F.old 2 (by kernel_rfl)).trans h2
    obtain ⟨⟨p0, p1, p2, p3⟩, -⟩ := row40 (kc F.bw HA.c2)
    clear F
    rintro ⟨dst, op, ty, pos, af, gd⟩ rfl K Q' hK
    have HK := Lib.hid hK
    clear hK
    go_simp
    exact HK.out _ _ ⟨Below.refl _ _, rfl⟩
  refine FlowSteps.step (Op.buildSlice 24 2 #[(0, Operand.tmp 108), (1, Operand.tmp 109)]) (by kernel_rfl) (fun a w F => ?_) ?_
  · have ex : a.tmps[108]?.getD undef = .agg #[.int .u8 1, str [80], .slice none 0 0, .slice none 0 0] := F.dep 12 108 (by kernel_rfl) (by kernel_rfl)
    have dx := at_fm w [80]
    have ey : a.tmps[109]?.getD undef = .agg #[.int .u8 1, str [81], .slice none 0 0, .slice none 0 0] := F.dep 13 109 (by kernel_rfl) (by kernel_rfl)
    have dy := at_fm w [81]
    clear F
    rintro ⟨dst, op, ty, pos, af, gd⟩ rfl K Q' hK
    have HK := Lib.hid hK
    have Dx := Lib.hid dx
    have Dy := Lib.hid dy
    clear hK dx dy
    go_simp
    exact HK.out _ _ ⟨below_new _ _, fmsA2 Dx.out Dy.out⟩
  refine FlowSteps.step (Op.call { callee := Callee.value (Operand.func 17), args := #[Operand.const (Value.int IntKind.u8 6), Operand.tmp 110], argTypes := #[5, 24] }) (by kernel_rfl) (fun a w F => ?_) ?_
  · have dx : FmsAt w [Fm.mk 1 [80] [] [], Fm.mk 1 [81] [] []] (a.tmps[110]?.getD undef) := F.dep 14 110 (by kernel_rfl) (by kernel_rfl)
    obtain ⟨ax, cx, ex, -⟩ := At.sl_inv dx
    rw [ex] at dx
    clear F
    rintro ⟨dst, op, ty, pos, af, gd⟩ rfl K Q' hK
    have HK := Lib.hid hK
    have DX := Lib.hid dx
    clear hK dx
    go_simp
    go_at_call 17
    refine (join30_c 6 [Fm.mk 1 [80] [] [], Fm.mk 1 [81] [] []] _ _ _ _ DX.out).mono ?_
    rintro e w1 ⟨v, rfl, hv, hb⟩
    exact HK.out _ _ ⟨hb, hv⟩
  refine FlowSteps.step (Op.buildSlice 24 2 #[(0, Operand.tmp 107), (1, Operand.tmp 111)]) (by kernel_rfl) (fun a w F => ?_) ?_
  · have ex : a.tmps[107]?.getD undef = .agg #[.int .u8 1, str [80], .slice none 0 0, .slice none 0 0] := F.dep 11 107 (by kernel_rfl) (by kernel_rfl)
    have dx := at_fm w [80]
    have dy : FmVal w (Fm.mk 6 [] [] [Fm.mk 1 [80] [] [], Fm.mk 1 [81] [] []]) (a.tmps[111]?.getD undef) := F.dep 15 111 (by kernel_rfl) (by kernel_rfl)
    obtain ⟨iy, ny, cy, jy, my, ly, ey, -⟩ := id dy
    rw [ey] at dy
    clear F
    rintro ⟨dst, op, ty, pos, af, gd⟩ rfl K Q' hK
    have HK := Lib.hid hK
    have Dx := Lib.hid dx
    have Dy := Lib.hid dy
    clear hK dx dy
    go_simp
    exact HK.out _ _ ⟨below_new _ _, fmsA2 Dx.out Dy.out⟩
  refine FlowSteps.step (Op.call { callee := Callee.value (Operand.func 21), args := #[Operand.tmp 112], argTypes := #[24] }) (by kernel_rfl) (fun a w F => ?_) ?_
  · have dx : FmsAt w [Fm.mk 1 [80] [] [], (Fm.mk 6 [] [] [Fm.mk 1 [80] [] [], Fm.mk 1 [81] [] []])] (a.tmps[112]?.getD undef) := F.dep 16 112 (by kernel_rfl) (by kernel_rfl)
    obtain ⟨ax, cx, ex, -⟩ := At.sl_inv dx
    rw [ex] at dx
    clear F
    rintro ⟨dst, op, ty, pos, af, gd⟩ rfl K Q' hK
    have HK := Lib.hid hK
    have DX := Lib.hid dx
    clear hK dx
    go_simp
    go_at_call 21
    refine (fs_c _ _).mono ?_
    rintro e w1 ⟨rfl, rfl⟩
    exact HK.out _ _ ⟨Below.refl _ _, DX.out⟩
  refine FlowSteps.step (Op.load 40 (Operand.tmp 2)) (by kernel_rfl) (fun a w F => ?_) ?_
  · have e := (F.old 2 (by kernel_rfl)).trans h2
    obtain ⟨⟨p0, p1, p2, p3⟩, -⟩ := row40 (kc F.bw HA.c2)
    clear F
    rintro ⟨dst, op, ty, pos, af, gd⟩ rfl K Q' hK
    have HK := Lib.hid hK
    clear hK
    go_simp
    exact HK.out _ _ ⟨Below.refl _ _, rfl⟩
  refine FlowSteps.step (Op.buildSlice 24 1 #[(0, Operand.tmp 114)]) (by kernel_rfl) (fun a w F => ?_) ?_
  · have ex : a.tmps[114]?.getD undef = .agg #[.int .u8 1, str [81], .slice none 0 0, .slice none 0 0] := F.dep 18 114 (by kernel_rfl) (by kernel_rfl)
    have dx := at_fm w [81]
    clear F
    rintro ⟨dst, op, ty, pos, af, gd⟩ rfl K Q' hK
    have HK := Lib.hid hK
    have Dx := Lib.hid dx
    clear hK dx
    go_simp
    exact HK.out _ _ ⟨below_new _ _, fmsA1 Dx.out⟩
  refine FlowSteps.step (Op.call { callee := Callee.value (Operand.func 21), args := #[Operand.tmp 115], argTypes := #[24] }) (by kernel_rfl) (fun a w F => ?_) ?_
  · have dx : FmsAt w [Fm.mk 1 [81] [] []] (a.tmps[115]?.getD undef) := F.dep 19 115 (by kernel_rfl) (by kernel_rfl)
    obtain ⟨ax, cx, ex, -⟩ := At.sl_inv dx
    rw [ex] at dx
    clear F
    rintro ⟨dst, op, ty, pos, af, gd⟩ rfl K Q' hK
    have HK := Lib.hid hK
    have DX := Lib.hid dx
    clear hK dx
    go_simp
    go_at_call 21
    refine (fs_c _ _).mono ?_
    rintro e w1 ⟨rfl, rfl⟩
    exact HK.out _ _ ⟨Below.refl _ _, DX.out⟩
  refine FlowSteps.step (Op.call { callee := Callee.value (Operand.func 20), args := #[Operand.tmp 113, Operand.tmp 116], argTypes := #[24, 24] }) (by kernel_rfl) (fun a w F => ?_) ?_
  · have dx : FmsAt w [Fm.mk 1 [80] [] [], (Fm.mk 6 [] [] [Fm.mk 1 [80] [] [], Fm.mk 1 [81] [] []])] (a.tmps[113]?.getD undef) := F.dep 17 113 (by kernel_rfl) (by kernel_rfl)
    obtain ⟨ax, cx, ex, -⟩ := At.sl_inv dx
    rw [ex] at dx
    have dy : FmsAt w [Fm.mk 1 [81] [] []] (a.tmps[116]?.getD undef) := F.dep 20 116 (by kernel_rfl) (by kernel_rfl)
    obtain ⟨ay, cy, ey, -⟩ := At.sl_inv dy
    rw [ey] at dy
    clear F
    rintro ⟨dst, op, ty, pos, af, gd⟩ rfl K Q' hK
    have HK := Lib.hid hK
    have DX := Lib.hid dx
    have DY := Lib.hid dy
    clear hK dx dy
    go_simp
    go_at_call 20
    refine (sq_c _ _ _ _ _ _ _).mono ?_
    rintro e w1 ⟨rfl, hb⟩
    exact HK.out _ _ ⟨hb, _, _, _, _, _, _, rfl, (DX.out).keep (keeps_of_below hb), (DY.out).keep (keeps_of_below hb)⟩
  refine FlowSteps.step (Op.call { callee := Callee.value (Operand.func 12), args := #[Operand.tmp 106, Operand.tmp 117], argTypes := #[26, 26] }) (by kernel_rfl) (fun a w F => ?_) ?_
  · have dx : SqVal w [(Fm.mk 6 [] [] [Fm.mk 1 [80] [] [], Fm.mk 1 [81] [] []]), Fm.mk 1 [80] [] []] [Fm.mk 1 [81] [] []] (a.tmps[106]?.getD undef) := F.dep 10 106 (by kernel_rfl) (by kernel_rfl)
    obtain ⟨a1, n1, c1, b1, m1, l1, ex, -⟩ := id dx
    rw [ex] at dx
    have dy : SqVal w [Fm.mk 1 [80] [] [], (Fm.mk 6 [] [] [Fm.mk 1 [80] [] [], Fm.mk 1 [81] [] []])] [Fm.mk 1 [81] [] []] (a.tmps[117]?.getD undef) := F.dep 21 117 (by kernel_rfl) (by kernel_rfl)
    obtain ⟨a2, n2, c2, b2, m2, l2, ey, -⟩ := id dy
    rw [ey] at dy
    have rows := hr.keep (keeps_of_below F.bw)
    have pows := hp.below F.bw
    clear F
    rintro ⟨dst, op, ty, pos, af, gd⟩ rfl K Q' hK
    have HK := Lib.hid hK
    have DX := Lib.hid dx
    have DY := Lib.hid dy
    have ROWS := Lib.hid rows
    have POWS := Lib.hid pows
    clear hK dx dy rows pows
    go_simp
    go_at_call 12
    refine (Same_c _ _ _ _ _ _ _ ROWS.out POWS.out DX.out DY.out (okSq_of (by kernel_rfl)) (okSq_of (by kernel_rfl))).mono ?_
    rintro e w1 ⟨rfl, hb⟩
    exact HK.out _ _ ⟨hb, congrArg (fun b => Value.tuple #[.bool b, .int .i64 0]) (sameSk_ne Ly.aw4)⟩
  refine FlowSteps.step (Op.move (Operand.tmp 118)) (by kernel_rfl) (fun a w F => ?_) ?_
  · have e : a.tmps[118]?.getD undef = .tuple #[.bool false, .int .i64 0] := F.dep 22 118 (by kernel_rfl) (by kernel_rfl)
    clear F
    rintro ⟨dst, op, ty, pos, af, gd⟩ rfl K Q' hK
    have HK := Lib.hid hK
    clear hK
    go_simp
    exact HK.out _ _ ⟨Below.refl _ _, rfl⟩
  refine FlowSteps.step (Op.extract (Operand.tmp 95) 0) (by kernel_rfl) (fun a w F => ?_) ?_
  · have e : a.tmps[95]?.getD undef = .tuple #[.bool false, .int .i64 0] := F.dep 23 95 (by kernel_rfl) (by kernel_rfl)
    clear F
    rintro ⟨dst, op, ty, pos, af, gd⟩ rfl K Q' hK
    have HK := Lib.hid hK
    clear hK
    go_simp
    exact HK.out _ _ ⟨Below.refl _ _, rfl⟩
  refine FlowSteps.step (Op.extract (Operand.tmp 95) 1) (by kernel_rfl) (fun a w F => ?_) ?_
  · have e : a.tmps[95]?.getD undef = .tuple #[.bool false, .int .i64 0] := F.dep 23 95 (by kernel_rfl) (by kernel_rfl)
    clear F
    rintro ⟨dst, op, ty, pos, af, gd⟩ rfl K Q' hK
    have HK := Lib.hid hK
    clear hK
    go_simp
    exact HK.out _ _ ⟨Below.refl _ _, rfl⟩
  refine FlowSteps.step (Op.assign (Operand.tmp 119)) (by kernel_rfl) (fun a w F => ?_) ?_
  · have e : a.tmps[119]?.getD undef = .bool false := F.dep 24 119 (by kernel_rfl) (by kernel_rfl)
    clear F
    rintro ⟨dst, op, ty, pos, af, gd⟩ rfl K Q' hK
    have HK := Lib.hid hK
    clear hK
    go_simp
    exact HK.out _ _ ⟨Below.refl _ _, rfl⟩
  refine FlowSteps.step (Op.assign (Operand.tmp 120)) (by kernel_rfl) (fun a w F => ?_) ?_
  · have e : a.tmps[120]?.getD undef = .int .i64 0 := F.dep 25 120 (by kernel_rfl) (by kernel_rfl)
    clear F
    rintro ⟨dst, op, ty, pos, af, gd⟩ rfl K Q' hK
    have HK := Lib.hid hK
    clear hK
    go_simp
    exact HK.out _ _ ⟨Below.refl _ _, rfl⟩
  exact FlowSteps.nil
end Go.Proofs.YtppfalbnhnpbnaaGreatDoor
namespace Go.Proofs.YtppfalbnhnpbnaaGreatDoor
open Go Go.RowKit Ly
set_option maxRecDepth 10000
noncomputable def aw11 : Array Oper := ((Tryz.f9.body).bind (findReg 11)).getD #[]
def aw11R (L4 R4 : List Fm) : List (Value → World → Prop) := [isV (.int .i64 0),
  isV (.int .i64 0),
  isV (.int .i64 0),
  isV (.int .i64 0),
  isV (.int .i64 0),
  isV (.int .i64 0),
  isV (.int .i64 0),
  isV (.int .i64 0),
  isV (.int .i64 0),
  isV (.bool true),
  isV (.bool true),
  sqP L4 R4,
  sqP L4 R4,
  isV (.bool true),
  isV (.bool true),
  isV (.bool true),
  isV (.bool true),
  isV (.bool true),
  isV (.bool true),
  isV (.bool false),
  isV (.bool true),
  isV (.bool true),
  isV (.bool true),
  isV (.bool false),
  isV (.bool true),
  isV (.bool true),
  isV (.bool true),
  sqP [] [(Fm.mk 4 [] [] [Fm.mk 1 [80] [] [], Fm.mk 1 [82] [] []])],
  isV (atV [80]),
  isV (atV [82]),
  fsP [Fm.mk 1 [80] [] [], Fm.mk 1 [82] [] []],
  fmP (Fm.mk 4 [] [] [Fm.mk 1 [80] [] [], Fm.mk 1 [82] [] []]),
  fsP [(Fm.mk 4 [] [] [Fm.mk 1 [80] [] [], Fm.mk 1 [82] [] []])],
  fsP [(Fm.mk 4 [] [] [Fm.mk 1 [80] [] [], Fm.mk 1 [82] [] []])],
  sqP [] [(Fm.mk 4 [] [] [Fm.mk 1 [80] [] [], Fm.mk 1 [82] [] []])],
  isV (.bool true),
  isV (.bool true),
  isV (.bool true),
  isV (.int .i64 300),
  isV (.bool true),
  isV (.bool true),
  isV (.bool true),
  isV (.int .i64 6),
  isV (.bool true),
  isV (.bool true),
  isV (.bool true)]
theorem aw11_stays (L4 R4 : List Fm) : ∀ r ∈ aw11R L4 R4, Stays r := by
  unfold aw11R
  simp only [List.forall_mem_cons]
  exact ⟨isV_stays _, isV_stays _, isV_stays _, isV_stays _, isV_stays _, isV_stays _, isV_stays _, isV_stays _, isV_stays _, isV_stays _, isV_stays _, sqP_stays _ _, sqP_stays _ _, isV_stays _, isV_stays _, isV_stays _, isV_stays _, isV_stays _, isV_stays _, isV_stays _, isV_stays _, isV_stays _, isV_stays _, isV_stays _, isV_stays _, isV_stays _, isV_stays _, sqP_stays _ _, isV_stays _, isV_stays _, fsP_stays _, fmP_stays _, fsP_stays _, fsP_stays _, sqP_stays _ _, isV_stays _, isV_stays _, isV_stays _, isV_stays _, isV_stays _, isV_stays _, isV_stays _, isV_stays _, isV_stays _, isV_stays _, isV_stays _, fun r h => by cases h⟩
set_option maxHeartbeats 4000000 in
theorem aw11_steps (L4 R4 : List Fm) (Q : Exit → Act → World → Prop) (W : World) (a0 : Act) (g1 g2 g3 g4 g6 g14 : Nat) (h1 : a0.tmps.getD 1 undef = one g1) (h3 : a0.tmps.getD 3 undef = one g3) (h4 : a0.tmps.getD 4 undef = one g4) (h6 : a0.tmps.getD 6 undef = one g6) (h14 : a0.tmps.getD 14 undef = one g14) (h5 : a0.tmps.getD 5 undef = .int .i64 0) (h8 : a0.tmps.getD 8 undef = .int .i64 0) (h10 : a0.tmps.getD 10 undef = .int .i64 0) (h12 : a0.tmps.getD 12 undef = .int .i64 0) (h15 : a0.tmps.getD 15 undef = .int .i64 0) (h7 : a0.tmps.getD 7 undef = .bool true) (h9 : a0.tmps.getD 9 undef = .bool false) (h11 : a0.tmps.getD 11 undef = .bool false) (h17 : a0.tmps.getD 17 undef = .int .i64 300) (h19 : a0.tmps.getD 19 undef = .int .i64 6) (HA : AwV g1 g2 g3 W) (B4 : SqBox g4 L4 R4 W) (B6 : SqBox g6 L4 R4 W) (B14 : SqBox g14 [] [Fm.mk 4 [] [] [Fm.mk 1 [80] [] [], Fm.mk 1 [82] [] []]] W) : FlowSteps Tryz.prog aw11 Q W a0 (rAt (aw11R L4 R4)) [0, 1, 2, 3, 4, 5, 6, 7, 8, 9, 10, 11, 12, 13, 14, 15, 16, 17, 18, 19, 20, 21, 22, 23, 24, 25, 26, 27, 28, 29, 30, 31, 32, 33, 34, 35, 36, 37, 38, 39, 40, 41, 42, 43, 44, 45] := by
  refine FlowSteps.step (Op.move (Operand.tmp 5)) (by kernel_rfl) (fun a w F => ?_) ?_
  · have e := (F.old 5 (by kernel_rfl)).trans h5
    clear F
    rintro ⟨dst, op, ty, pos, af, gd⟩ rfl K Q' hK
    have HK := Lib.hid hK
    clear hK
    go_simp
    exact HK.out _ _ ⟨Below.refl _ _, rfl⟩
  refine FlowSteps.step (Op.move (Operand.tmp 8)) (by kernel_rfl) (fun a w F => ?_) ?_
  · have e := (F.old 8 (by kernel_rfl)).trans h8
    clear F
    rintro ⟨dst, op, ty, pos, af, gd⟩ rfl K Q' hK
    have HK := Lib.hid hK
    clear hK
    go_simp
    exact HK.out _ _ ⟨Below.refl _ _, rfl⟩
  refine FlowSteps.step (Op.binOp BinOp.add 28 (Operand.tmp 149) (Operand.tmp 150) 28) (by kernel_rfl) (fun a w F => ?_) ?_
  · have e1 : a.tmps[149]?.getD undef = .int .i64 0 := F.dep 0 149 (by kernel_rfl) (by kernel_rfl)
    have e2 : a.tmps[150]?.getD undef = .int .i64 0 := F.dep 1 150 (by kernel_rfl) (by kernel_rfl)
    clear F
    rintro ⟨dst, op, ty, pos, af, gd⟩ rfl K Q' hK
    have HK := Lib.hid hK
    clear hK
    go_simp
    exact HK.out _ _ ⟨Below.refl _ _, rfl⟩
  refine FlowSteps.step (Op.move (Operand.tmp 10)) (by kernel_rfl) (fun a w F => ?_) ?_
  · have e := (F.old 10 (by kernel_rfl)).trans h10
    clear F
    rintro ⟨dst, op, ty, pos, af, gd⟩ rfl K Q' hK
    have HK := Lib.hid hK
    clear hK
    go_simp
    exact HK.out _ _ ⟨Below.refl _ _, rfl⟩
  refine FlowSteps.step (Op.binOp BinOp.add 28 (Operand.tmp 151) (Operand.tmp 152) 28) (by kernel_rfl) (fun a w F => ?_) ?_
  · have e1 : a.tmps[151]?.getD undef = .int .i64 0 := F.dep 2 151 (by kernel_rfl) (by kernel_rfl)
    have e2 : a.tmps[152]?.getD undef = .int .i64 0 := F.dep 3 152 (by kernel_rfl) (by kernel_rfl)
    clear F
    rintro ⟨dst, op, ty, pos, af, gd⟩ rfl K Q' hK
    have HK := Lib.hid hK
    clear hK
    go_simp
    exact HK.out _ _ ⟨Below.refl _ _, rfl⟩
  refine FlowSteps.step (Op.move (Operand.tmp 12)) (by kernel_rfl) (fun a w F => ?_) ?_
  · have e := (F.old 12 (by kernel_rfl)).trans h12
    clear F
    rintro ⟨dst, op, ty, pos, af, gd⟩ rfl K Q' hK
    have HK := Lib.hid hK
    clear hK
    go_simp
    exact HK.out _ _ ⟨Below.refl _ _, rfl⟩
  refine FlowSteps.step (Op.binOp BinOp.add 28 (Operand.tmp 153) (Operand.tmp 154) 28) (by kernel_rfl) (fun a w F => ?_) ?_
  · have e1 : a.tmps[153]?.getD undef = .int .i64 0 := F.dep 4 153 (by kernel_rfl) (by kernel_rfl)
    have e2 : a.tmps[154]?.getD undef = .int .i64 0 := F.dep 5 154 (by kernel_rfl) (by kernel_rfl)
    clear F
    rintro ⟨dst, op, ty, pos, af, gd⟩ rfl K Q' hK
    have HK := Lib.hid hK
    clear hK
    go_simp
    exact HK.out _ _ ⟨Below.refl _ _, rfl⟩
  refine FlowSteps.step (Op.move (Operand.tmp 15)) (by kernel_rfl) (fun a w F => ?_) ?_
  · have e := (F.old 15 (by kernel_rfl)).trans h15
    clear F
    rintro ⟨dst, op, ty, pos, af, gd⟩ rfl K Q' hK
    have HK := Lib.hid hK
    clear hK
    go_simp
    exact HK.out _ _ ⟨Below.refl _ _, rfl⟩
  refine FlowSteps.step (Op.binOp BinOp.add 28 (Operand.tmp 155) (Operand.tmp 156) 28) (by kernel_rfl) (fun a w F => ?_) ?_
  · have e1 : a.tmps[155]?.getD undef = .int .i64 0 := F.dep 6 155 (by kernel_rfl) (by kernel_rfl)
    have e2 : a.tmps[156]?.getD undef = .int .i64 0 := F.dep 7 156 (by kernel_rfl) (by kernel_rfl)
    clear F
    rintro ⟨dst, op, ty, pos, af, gd⟩ rfl K Q' hK
    have HK := Lib.hid hK
    clear hK
    go_simp
    exact HK.out _ _ ⟨Below.refl _ _, rfl⟩
  refine FlowSteps.step (Op.binOp BinOp.eql 28 (Operand.tmp 157) (Operand.const (Value.int IntKind.i64 0)) 28) (by kernel_rfl) (fun a w F => ?_) ?_
  · have e : a.tmps[157]?.getD undef = .int .i64 0 := F.dep 8 157 (by kernel_rfl) (by kernel_rfl)
    clear F
    rintro ⟨dst, op, ty, pos, af, gd⟩ rfl K Q' hK
    have HK := Lib.hid hK
    clear hK
    go_simp
    exact HK.out _ _ ⟨Below.refl _ _, rfl⟩
  refine FlowSteps.step (Op.move (Operand.tmp 158)) (by kernel_rfl) (fun a w F => ?_) ?_
  · have e : a.tmps[158]?.getD undef = .bool true := F.dep 9 158 (by kernel_rfl) (by kernel_rfl)
    clear F
    rintro ⟨dst, op, ty, pos, af, gd⟩ rfl K Q' hK
    have HK := Lib.hid hK
    clear hK
    go_simp
    exact HK.out _ _ ⟨Below.refl _ _, rfl⟩
  refine FlowSteps.stepIf (Op.load 26 (Operand.tmp 4)) 10 159 true (by kernel_rfl) (by kernel_rfl) (by kernel_rfl) (fun v w h => h) (fun a w F => ?_) ?_
  · have e := (F.old 4 (by kernel_rfl)).trans h4
    obtain ⟨a1, n1, c1, b1, m1, l1, hg, hL, hR⟩ := B4.below F.bw
    obtain ⟨p0, p1, -, -⟩ := row2 hg
    clear F
    rintro ⟨dst, op, ty, pos, af, gd⟩ rfl K Q' hK
    have HK := Lib.hid hK
    have HL := Lib.hid hL
    have HR := Lib.hid hR
    clear hK hg hL hR
    go_simp
    exact HK.out _ _ ⟨Below.refl _ _, _, _, _, _, _, _, rfl, HL.out, HR.out⟩
  refine FlowSteps.stepIf (Op.load 26 (Operand.tmp 6)) 10 159 true (by kernel_rfl) (by kernel_rfl) (by kernel_rfl) (fun v w h => h) (fun a w F => ?_) ?_
  · have e := (F.old 6 (by kernel_rfl)).trans h6
    obtain ⟨a1, n1, c1, b1, m1, l1, hg, hL, hR⟩ := B6.below F.bw
    obtain ⟨p0, p1, -, -⟩ := row2 hg
    clear F
    rintro ⟨dst, op, ty, pos, af, gd⟩ rfl K Q' hK
    have HK := Lib.hid hK
    have HL := Lib.hid hL
    have HR := Lib.hid hR
    clear hK hg hL hR
    go_simp
    exact HK.out _ _ ⟨Below.refl _ _, _, _, _, _, _, _, rfl, HL.out, HR.out⟩
  refine FlowSteps.stepIf (Op.call { callee := Callee.value (Operand.func 13), args := #[Operand.tmp 160, Operand.tmp 161], argTypes := #[26, 26] }) 10 159 true (by kernel_rfl) (by kernel_rfl) (by kernel_rfl) (fun v w h => h) (fun a w F => ?_) ?_
  · have dx : SqVal w L4 R4 (a.tmps[160]?.getD undef) := F.dep 11 160 (by kernel_rfl) (by kernel_rfl)
    obtain ⟨a1, n1, c1, b1, m1, l1, ex, -⟩ := id dx
    rw [ex] at dx
    have dy : SqVal w L4 R4 (a.tmps[161]?.getD undef) := F.dep 12 161 (by kernel_rfl) (by kernel_rfl)
    obtain ⟨a2, n2, c2, b2, m2, l2, ey, -⟩ := id dy
    rw [ey] at dy
    clear F
    rintro ⟨dst, op, ty, pos, af, gd⟩ rfl K Q' hK
    have HK := Lib.hid hK
    have DX := Lib.hid dx
    have DY := Lib.hid dy
    clear hK dx dy
    go_simp
    go_at_call 13
    refine (SameSeq_c _ _ _ _ _ _ _ DX.out DY.out).mono ?_
    rintro e w1 ⟨rfl, hb⟩
    exact HK.out _ _ ⟨hb, congrArg Value.bool (fmsSame_self _ _)⟩
  refine FlowSteps.step (Op.pick (Operand.tmp 159) (Operand.tmp 162) (Operand.const (Value.bool false))) (by kernel_rfl) (fun a w F => ?_) ?_
  · have e1 : a.tmps[159]?.getD undef = .bool true := F.dep 10 159 (by kernel_rfl) (by kernel_rfl)
    have e2 : a.tmps[162]?.getD undef = .bool true := F.dep 13 162 (by kernel_rfl) (by kernel_rfl)
    clear F
    rintro ⟨dst, op, ty, pos, af, gd⟩ rfl K Q' hK
    have HK := Lib.hid hK
    clear hK
    go_simp
    exact HK.out _ _ ⟨Below.refl _ _, rfl⟩
  refine FlowSteps.step (Op.move (Operand.tmp 163)) (by kernel_rfl) (fun a w F => ?_) ?_
  · have e : a.tmps[163]?.getD undef = .bool true := F.dep 14 163 (by kernel_rfl) (by kernel_rfl)
    clear F
    rintro ⟨dst, op, ty, pos, af, gd⟩ rfl K Q' hK
    have HK := Lib.hid hK
    clear hK
    go_simp
    exact HK.out _ _ ⟨Below.refl _ _, rfl⟩
  refine FlowSteps.stepIf (Op.move (Operand.tmp 7)) 15 164 true (by kernel_rfl) (by kernel_rfl) (by kernel_rfl) (fun v w h => h) (fun a w F => ?_) ?_
  · have e := (F.old 7 (by kernel_rfl)).trans h7
    clear F
    rintro ⟨dst, op, ty, pos, af, gd⟩ rfl K Q' hK
    have HK := Lib.hid hK
    clear hK
    go_simp
    exact HK.out _ _ ⟨Below.refl _ _, rfl⟩
  refine FlowSteps.step (Op.pick (Operand.tmp 164) (Operand.tmp 165) (Operand.const (Value.bool false))) (by kernel_rfl) (fun a w F => ?_) ?_
  · have e1 : a.tmps[164]?.getD undef = .bool true := F.dep 15 164 (by kernel_rfl) (by kernel_rfl)
    have e2 : a.tmps[165]?.getD undef = .bool true := F.dep 16 165 (by kernel_rfl) (by kernel_rfl)
    clear F
    rintro ⟨dst, op, ty, pos, af, gd⟩ rfl K Q' hK
    have HK := Lib.hid hK
    clear hK
    go_simp
    exact HK.out _ _ ⟨Below.refl _ _, rfl⟩
  refine FlowSteps.step (Op.move (Operand.tmp 166)) (by kernel_rfl) (fun a w F => ?_) ?_
  · have e : a.tmps[166]?.getD undef = .bool true := F.dep 17 166 (by kernel_rfl) (by kernel_rfl)
    clear F
    rintro ⟨dst, op, ty, pos, af, gd⟩ rfl K Q' hK
    have HK := Lib.hid hK
    clear hK
    go_simp
    exact HK.out _ _ ⟨Below.refl _ _, rfl⟩
  refine FlowSteps.stepIf (Op.move (Operand.tmp 9)) 18 167 true (by kernel_rfl) (by kernel_rfl) (by kernel_rfl) (fun v w h => h) (fun a w F => ?_) ?_
  · have e := (F.old 9 (by kernel_rfl)).trans h9
    clear F
    rintro ⟨dst, op, ty, pos, af, gd⟩ rfl K Q' hK
    have HK := Lib.hid hK
    clear hK
    go_simp
    exact HK.out _ _ ⟨Below.refl _ _, rfl⟩
  refine FlowSteps.stepIf (Op.unOp UnOp.not 4 (Operand.tmp 168)) 18 167 true (by kernel_rfl) (by kernel_rfl) (by kernel_rfl) (fun v w h => h) (fun a w F => ?_) ?_
  · have e : a.tmps[168]?.getD undef = .bool false := F.dep 19 168 (by kernel_rfl) (by kernel_rfl)
    clear F
    rintro ⟨dst, op, ty, pos, af, gd⟩ rfl K Q' hK
    have HK := Lib.hid hK
    clear hK
    go_simp
    exact HK.out _ _ ⟨Below.refl _ _, rfl⟩
  refine FlowSteps.step (Op.pick (Operand.tmp 167) (Operand.tmp 169) (Operand.const (Value.bool false))) (by kernel_rfl) (fun a w F => ?_) ?_
  · have e1 : a.tmps[167]?.getD undef = .bool true := F.dep 18 167 (by kernel_rfl) (by kernel_rfl)
    have e2 : a.tmps[169]?.getD undef = .bool true := F.dep 20 169 (by kernel_rfl) (by kernel_rfl)
    clear F
    rintro ⟨dst, op, ty, pos, af, gd⟩ rfl K Q' hK
    have HK := Lib.hid hK
    clear hK
    go_simp
    exact HK.out _ _ ⟨Below.refl _ _, rfl⟩
  refine FlowSteps.step (Op.move (Operand.tmp 170)) (by kernel_rfl) (fun a w F => ?_) ?_
  · have e : a.tmps[170]?.getD undef = .bool true := F.dep 21 170 (by kernel_rfl) (by kernel_rfl)
    clear F
    rintro ⟨dst, op, ty, pos, af, gd⟩ rfl K Q' hK
    have HK := Lib.hid hK
    clear hK
    go_simp
    exact HK.out _ _ ⟨Below.refl _ _, rfl⟩
  refine FlowSteps.stepIf (Op.move (Operand.tmp 11)) 22 171 true (by kernel_rfl) (by kernel_rfl) (by kernel_rfl) (fun v w h => h) (fun a w F => ?_) ?_
  · have e := (F.old 11 (by kernel_rfl)).trans h11
    clear F
    rintro ⟨dst, op, ty, pos, af, gd⟩ rfl K Q' hK
    have HK := Lib.hid hK
    clear hK
    go_simp
    exact HK.out _ _ ⟨Below.refl _ _, rfl⟩
  refine FlowSteps.stepIf (Op.unOp UnOp.not 4 (Operand.tmp 172)) 22 171 true (by kernel_rfl) (by kernel_rfl) (by kernel_rfl) (fun v w h => h) (fun a w F => ?_) ?_
  · have e : a.tmps[172]?.getD undef = .bool false := F.dep 23 172 (by kernel_rfl) (by kernel_rfl)
    clear F
    rintro ⟨dst, op, ty, pos, af, gd⟩ rfl K Q' hK
    have HK := Lib.hid hK
    clear hK
    go_simp
    exact HK.out _ _ ⟨Below.refl _ _, rfl⟩
  refine FlowSteps.step (Op.pick (Operand.tmp 171) (Operand.tmp 173) (Operand.const (Value.bool false))) (by kernel_rfl) (fun a w F => ?_) ?_
  · have e1 : a.tmps[171]?.getD undef = .bool true := F.dep 22 171 (by kernel_rfl) (by kernel_rfl)
    have e2 : a.tmps[173]?.getD undef = .bool true := F.dep 24 173 (by kernel_rfl) (by kernel_rfl)
    clear F
    rintro ⟨dst, op, ty, pos, af, gd⟩ rfl K Q' hK
    have HK := Lib.hid hK
    clear hK
    go_simp
    exact HK.out _ _ ⟨Below.refl _ _, rfl⟩
  refine FlowSteps.step (Op.move (Operand.tmp 174)) (by kernel_rfl) (fun a w F => ?_) ?_
  · have e : a.tmps[174]?.getD undef = .bool true := F.dep 25 174 (by kernel_rfl) (by kernel_rfl)
    clear F
    rintro ⟨dst, op, ty, pos, af, gd⟩ rfl K Q' hK
    have HK := Lib.hid hK
    clear hK
    go_simp
    exact HK.out _ _ ⟨Below.refl _ _, rfl⟩
  refine FlowSteps.stepIf (Op.load 26 (Operand.tmp 14)) 26 175 true (by kernel_rfl) (by kernel_rfl) (by kernel_rfl) (fun v w h => h) (fun a w F => ?_) ?_
  · have e := (F.old 14 (by kernel_rfl)).trans h14
    obtain ⟨a1, n1, c1, b1, m1, l1, hg, hL, hR⟩ := B14.below F.bw
    obtain ⟨p0, p1, -, -⟩ := row2 hg
    clear F
    rintro ⟨dst, op, ty, pos, af, gd⟩ rfl K Q' hK
    have HK := Lib.hid hK
    have HL := Lib.hid hL
    have HR := Lib.hid hR
    clear hK hg hL hR
    go_simp
    exact HK.out _ _ ⟨Below.refl _ _, _, _, _, _, _, _, rfl, HL.out, HR.out⟩
  refine FlowSteps.stepIf (Op.load 40 (Operand.tmp 1)) 26 175 true (by kernel_rfl) (by kernel_rfl) (by kernel_rfl) (fun v w h => h) (fun a w F => ?_) ?_
  · have e := (F.old 1 (by kernel_rfl)).trans h1
    obtain ⟨⟨p0, p1, p2, p3⟩, -⟩ := row40 (kc F.bw HA.c1)
    clear F
    rintro ⟨dst, op, ty, pos, af, gd⟩ rfl K Q' hK
    have HK := Lib.hid hK
    clear hK
    go_simp
    exact HK.out _ _ ⟨Below.refl _ _, rfl⟩
  refine FlowSteps.stepIf (Op.load 40 (Operand.tmp 3)) 26 175 true (by kernel_rfl) (by kernel_rfl) (by kernel_rfl) (fun v w h => h) (fun a w F => ?_) ?_
  · have e := (F.old 3 (by kernel_rfl)).trans h3
    obtain ⟨⟨p0, p1, p2, p3⟩, -⟩ := row40 (kc F.bw HA.c3)
    clear F
    rintro ⟨dst, op, ty, pos, af, gd⟩ rfl K Q' hK
    have HK := Lib.hid hK
    clear hK
    go_simp
    exact HK.out _ _ ⟨Below.refl _ _, rfl⟩
  refine FlowSteps.stepIf (Op.buildSlice 24 2 #[(0, Operand.tmp 177), (1, Operand.tmp 178)]) 26 175 true (by kernel_rfl) (by kernel_rfl) (by kernel_rfl) (fun v w h => h) (fun a w F => ?_) ?_
  · have ex : a.tmps[177]?.getD undef = .agg #[.int .u8 1, str [80], .slice none 0 0, .slice none 0 0] := F.dep 28 177 (by kernel_rfl) (by kernel_rfl)
    have dx := at_fm w [80]
    have ey : a.tmps[178]?.getD undef = .agg #[.int .u8 1, str [82], .slice none 0 0, .slice none 0 0] := F.dep 29 178 (by kernel_rfl) (by kernel_rfl)
    have dy := at_fm w [82]
    clear F
    rintro ⟨dst, op, ty, pos, af, gd⟩ rfl K Q' hK
    have HK := Lib.hid hK
    have Dx := Lib.hid dx
    have Dy := Lib.hid dy
    clear hK dx dy
    go_simp
    exact HK.out _ _ ⟨below_new _ _, fmsA2 Dx.out Dy.out⟩
  refine FlowSteps.stepIf (Op.call { callee := Callee.value (Operand.func 17), args := #[Operand.const (Value.int IntKind.u8 4), Operand.tmp 179], argTypes := #[5, 24] }) 26 175 true (by kernel_rfl) (by kernel_rfl) (by kernel_rfl) (fun v w h => h) (fun a w F => ?_) ?_
  · have dx : FmsAt w [Fm.mk 1 [80] [] [], Fm.mk 1 [82] [] []] (a.tmps[179]?.getD undef) := F.dep 30 179 (by kernel_rfl) (by kernel_rfl)
    obtain ⟨ax, cx, ex, -⟩ := At.sl_inv dx
    rw [ex] at dx
    clear F
    rintro ⟨dst, op, ty, pos, af, gd⟩ rfl K Q' hK
    have HK := Lib.hid hK
    have DX := Lib.hid dx
    clear hK dx
    go_simp
    go_at_call 17
    refine (join30_c 4 [Fm.mk 1 [80] [] [], Fm.mk 1 [82] [] []] _ _ _ _ DX.out).mono ?_
    rintro e w1 ⟨v, rfl, hv, hb⟩
    exact HK.out _ _ ⟨hb, hv⟩
  refine FlowSteps.stepIf (Op.buildSlice 24 1 #[(0, Operand.tmp 180)]) 26 175 true (by kernel_rfl) (by kernel_rfl) (by kernel_rfl) (fun v w h => h) (fun a w F => ?_) ?_
  · have dx : FmVal w (Fm.mk 4 [] [] [Fm.mk 1 [80] [] [], Fm.mk 1 [82] [] []]) (a.tmps[180]?.getD undef) := F.dep 31 180 (by kernel_rfl) (by kernel_rfl)
    obtain ⟨ix, nx, cx, jx, mx, lx, ex, -⟩ := id dx
    rw [ex] at dx
    clear F
    rintro ⟨dst, op, ty, pos, af, gd⟩ rfl K Q' hK
    have HK := Lib.hid hK
    have Dx := Lib.hid dx
    clear hK dx
    go_simp
    exact HK.out _ _ ⟨below_new _ _, fmsA1 Dx.out⟩
  refine FlowSteps.stepIf (Op.call { callee := Callee.value (Operand.func 21), args := #[Operand.tmp 181], argTypes := #[24] }) 26 175 true (by kernel_rfl) (by kernel_rfl) (by kernel_rfl) (fun v w h => h) (fun a w F => ?_) ?_
  · have dx : FmsAt w [(Fm.mk 4 [] [] [Fm.mk 1 [80] [] [], Fm.mk 1 [82] [] []])] (a.tmps[181]?.getD undef) := F.dep 32 181 (by kernel_rfl) (by kernel_rfl)
    obtain ⟨ax, cx, ex, -⟩ := At.sl_inv dx
    rw [ex] at dx
    clear F
    rintro ⟨dst, op, ty, pos, af, gd⟩ rfl K Q' hK
    have HK := Lib.hid hK
    have DX := Lib.hid dx
    clear hK dx
    go_simp
    go_at_call 21
    refine (fs_c _ _).mono ?_
    rintro e w1 ⟨rfl, rfl⟩
    exact HK.out _ _ ⟨Below.refl _ _, DX.out⟩
  refine FlowSteps.stepIf (Op.call { callee := Callee.value (Operand.func 20), args := #[Operand.const (Value.slice none 0 0), Operand.tmp 182], argTypes := #[24, 24] }) 26 175 true (by kernel_rfl) (by kernel_rfl) (by kernel_rfl) (fun v w h => h) (fun a w F => ?_) ?_
  · have dy : FmsAt w [(Fm.mk 4 [] [] [Fm.mk 1 [80] [] [], Fm.mk 1 [82] [] []])] (a.tmps[182]?.getD undef) := F.dep 33 182 (by kernel_rfl) (by kernel_rfl)
    obtain ⟨ay, cy, ey, -⟩ := At.sl_inv dy
    rw [ey] at dy
    clear F
    rintro ⟨dst, op, ty, pos, af, gd⟩ rfl K Q' hK
    have HK := Lib.hid hK
    have DY := Lib.hid dy
    clear hK dy
    go_simp
    go_at_call 20
    refine (sq_c _ _ _ _ _ _ _).mono ?_
    rintro e w1 ⟨rfl, hb⟩
    exact HK.out _ _ ⟨hb, _, _, _, _, _, _, rfl, At.sl_nil (Nat.zero_le _), (DY.out).keep (keeps_of_below hb)⟩
  refine FlowSteps.stepIf (Op.call { callee := Callee.value (Operand.func 13), args := #[Operand.tmp 176, Operand.tmp 183], argTypes := #[26, 26] }) 26 175 true (by kernel_rfl) (by kernel_rfl) (by kernel_rfl) (fun v w h => h) (fun a w F => ?_) ?_
  · have dx : SqVal w [] [(Fm.mk 4 [] [] [Fm.mk 1 [80] [] [], Fm.mk 1 [82] [] []])] (a.tmps[176]?.getD undef) := F.dep 27 176 (by kernel_rfl) (by kernel_rfl)
    obtain ⟨a1, n1, c1, b1, m1, l1, ex, -⟩ := id dx
    rw [ex] at dx
    have dy : SqVal w [] [(Fm.mk 4 [] [] [Fm.mk 1 [80] [] [], Fm.mk 1 [82] [] []])] (a.tmps[183]?.getD undef) := F.dep 34 183 (by kernel_rfl) (by kernel_rfl)
    obtain ⟨a2, n2, c2, b2, m2, l2, ey, -⟩ := id dy
    rw [ey] at dy
    clear F
    rintro ⟨dst, op, ty, pos, af, gd⟩ rfl K Q' hK
    have HK := Lib.hid hK
    have DX := Lib.hid dx
    have DY := Lib.hid dy
    clear hK dx dy
    go_simp
    go_at_call 13
    refine (SameSeq_c _ _ _ _ _ _ _ DX.out DY.out).mono ?_
    rintro e w1 ⟨rfl, hb⟩
    exact HK.out _ _ ⟨hb, congrArg Value.bool (fmsSame_self _ _)⟩
  refine FlowSteps.step (Op.pick (Operand.tmp 175) (Operand.tmp 184) (Operand.const (Value.bool false))) (by kernel_rfl) (fun a w F => ?_) ?_
  · have e1 : a.tmps[175]?.getD undef = .bool true := F.dep 26 175 (by kernel_rfl) (by kernel_rfl)
    have e2 : a.tmps[184]?.getD undef = .bool true := F.dep 35 184 (by kernel_rfl) (by kernel_rfl)
    clear F
    rintro ⟨dst, op, ty, pos, af, gd⟩ rfl K Q' hK
    have HK := Lib.hid hK
    clear hK
    go_simp
    exact HK.out _ _ ⟨Below.refl _ _, rfl⟩
  refine FlowSteps.step (Op.move (Operand.tmp 185)) (by kernel_rfl) (fun a w F => ?_) ?_
  · have e : a.tmps[185]?.getD undef = .bool true := F.dep 36 185 (by kernel_rfl) (by kernel_rfl)
    clear F
    rintro ⟨dst, op, ty, pos, af, gd⟩ rfl K Q' hK
    have HK := Lib.hid hK
    clear hK
    go_simp
    exact HK.out _ _ ⟨Below.refl _ _, rfl⟩
  refine FlowSteps.stepIf (Op.move (Operand.tmp 17)) 37 186 true (by kernel_rfl) (by kernel_rfl) (by kernel_rfl) (fun v w h => h) (fun a w F => ?_) ?_
  · have e := (F.old 17 (by kernel_rfl)).trans h17
    clear F
    rintro ⟨dst, op, ty, pos, af, gd⟩ rfl K Q' hK
    have HK := Lib.hid hK
    clear hK
    go_simp
    exact HK.out _ _ ⟨Below.refl _ _, rfl⟩
  refine FlowSteps.stepIf (Op.binOp BinOp.eql 28 (Operand.tmp 187) (Operand.const (Value.int IntKind.i64 300)) 28) 37 186 true (by kernel_rfl) (by kernel_rfl) (by kernel_rfl) (fun v w h => h) (fun a w F => ?_) ?_
  · have e : a.tmps[187]?.getD undef = .int .i64 300 := F.dep 38 187 (by kernel_rfl) (by kernel_rfl)
    clear F
    rintro ⟨dst, op, ty, pos, af, gd⟩ rfl K Q' hK
    have HK := Lib.hid hK
    clear hK
    go_simp
    exact HK.out _ _ ⟨Below.refl _ _, rfl⟩
  refine FlowSteps.step (Op.pick (Operand.tmp 186) (Operand.tmp 188) (Operand.const (Value.bool false))) (by kernel_rfl) (fun a w F => ?_) ?_
  · have e1 : a.tmps[186]?.getD undef = .bool true := F.dep 37 186 (by kernel_rfl) (by kernel_rfl)
    have e2 : a.tmps[188]?.getD undef = .bool true := F.dep 39 188 (by kernel_rfl) (by kernel_rfl)
    clear F
    rintro ⟨dst, op, ty, pos, af, gd⟩ rfl K Q' hK
    have HK := Lib.hid hK
    clear hK
    go_simp
    exact HK.out _ _ ⟨Below.refl _ _, rfl⟩
  refine FlowSteps.step (Op.move (Operand.tmp 189)) (by kernel_rfl) (fun a w F => ?_) ?_
  · have e : a.tmps[189]?.getD undef = .bool true := F.dep 40 189 (by kernel_rfl) (by kernel_rfl)
    clear F
    rintro ⟨dst, op, ty, pos, af, gd⟩ rfl K Q' hK
    have HK := Lib.hid hK
    clear hK
    go_simp
    exact HK.out _ _ ⟨Below.refl _ _, rfl⟩
  refine FlowSteps.stepIf (Op.move (Operand.tmp 19)) 41 190 true (by kernel_rfl) (by kernel_rfl) (by kernel_rfl) (fun v w h => h) (fun a w F => ?_) ?_
  · have e := (F.old 19 (by kernel_rfl)).trans h19
    clear F
    rintro ⟨dst, op, ty, pos, af, gd⟩ rfl K Q' hK
    have HK := Lib.hid hK
    clear hK
    go_simp
    exact HK.out _ _ ⟨Below.refl _ _, rfl⟩
  refine FlowSteps.stepIf (Op.binOp BinOp.eql 28 (Operand.tmp 191) (Operand.const (Value.int IntKind.i64 6)) 28) 41 190 true (by kernel_rfl) (by kernel_rfl) (by kernel_rfl) (fun v w h => h) (fun a w F => ?_) ?_
  · have e : a.tmps[191]?.getD undef = .int .i64 6 := F.dep 42 191 (by kernel_rfl) (by kernel_rfl)
    clear F
    rintro ⟨dst, op, ty, pos, af, gd⟩ rfl K Q' hK
    have HK := Lib.hid hK
    clear hK
    go_simp
    exact HK.out _ _ ⟨Below.refl _ _, rfl⟩
  refine FlowSteps.step (Op.pick (Operand.tmp 190) (Operand.tmp 192) (Operand.const (Value.bool false))) (by kernel_rfl) (fun a w F => ?_) ?_
  · have e1 : a.tmps[190]?.getD undef = .bool true := F.dep 41 190 (by kernel_rfl) (by kernel_rfl)
    have e2 : a.tmps[192]?.getD undef = .bool true := F.dep 43 192 (by kernel_rfl) (by kernel_rfl)
    clear F
    rintro ⟨dst, op, ty, pos, af, gd⟩ rfl K Q' hK
    have HK := Lib.hid hK
    clear hK
    go_simp
    exact HK.out _ _ ⟨Below.refl _ _, rfl⟩
  refine FlowSteps.step (Op.assign (Operand.tmp 193)) (by kernel_rfl) (fun a w F => ?_) ?_
  · have e : a.tmps[193]?.getD undef = .bool true := F.dep 44 193 (by kernel_rfl) (by kernel_rfl)
    clear F
    rintro ⟨dst, op, ty, pos, af, gd⟩ rfl K Q' hK
    have HK := Lib.hid hK
    clear hK
    go_simp
    exact HK.out _ _ ⟨Below.refl _ _, rfl⟩
  exact FlowSteps.nil
end Go.Proofs.YtppfalbnhnpbnaaGreatDoor
