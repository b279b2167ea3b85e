/- What SkeletonOf asks of terms: its region in any order, three ways. Conditions: those of each statement. -/
import Derived.Test.YtppfalbnhnpbnaaGreatDoorFlxY
set_option linter.unusedSimpArgs false
set_option linter.unusedVariables false
namespace Go.Proofs.YtppfalbnhnpbnaaGreatDoor
open Go Go.RowKit Ly
set_option maxRecDepth 10000
def tsP (ts : List Tm) : Value → World → Prop := fun v w => TmsAt w ts v
theorem tsP_stays (ts : List Tm) : Stays (tsP ts) := fun _ _ _ h hb => TmsAt.keep h (keeps_of_below hb)
noncomputable def og9 : Array Oper := ((Tryz.f14.body).bind (findReg 9)).getD #[]
def ogAR (nm : Bs) (ts : List Tm) (hr : Bs) (as2 : List Tm) (bb off c bb2 off2 c2 j n B : Nat) : List (Value → World → Prop) := [isV (.slice (some ⟨bb, off, none⟩) n c),
  isV (.int .i64 j),
  isV (.pointer (some ⟨bb, off + j * 3, none⟩)),
  isV (.pointer (some ⟨bb, off + j * 3, none⟩)),
  isV (.bool false),
  isV (.slice (some ⟨bb2, off2, none⟩) n c2),
  isV (.int .i64 j),
  isV (.pointer (some ⟨bb2, off2 + j * 3, none⟩)),
  isV (.pointer (some ⟨bb2, off2 + j * 3, none⟩)),
  isV (.bool false),
  isV (.bool false),
  isV (.bool false),
  isV (.slice (some ⟨bb2, off2, none⟩) n c2),
  isV (.int .i64 j),
  isV (.pointer (some ⟨bb2, off2 + j * 3, none⟩)),
  isV (.pointer (some ⟨bb2, off2 + j * 3 + 1, none⟩)),
  isV (str (97 :: hr)),
  isV (.int .u8 97),
  isV (.string ⟨#[97]⟩),
  isV (.int .u8 97),
  isV (.bool false),
  isV (.bool false),
  anyV,
  anyV,
  anyV,
  anyV,
  anyV,
  anyV,
  anyV,
  anyV,
  anyV,
  anyV,
  anyV,
  anyV,
  isV (.bool false),
  isV (.bool false),
  isV (.bool false),
  isV (.func (.func 14) #[] #[one B]),
  isV (.slice (some ⟨bb, off, none⟩) n c),
  isV (.int .i64 j),
  isV (.pointer (some ⟨bb, off + j * 3, none⟩)),
  isV (.pointer (some ⟨bb, off + j * 3 + 2, none⟩)),
  tsP ts,
  isV (.slice (some ⟨bb2, off2, none⟩) n c2),
  isV (.int .i64 j),
  isV (.pointer (some ⟨bb2, off2 + j * 3, none⟩)),
  isV (.pointer (some ⟨bb2, off2 + j * 3 + 2, none⟩)),
  tsP as2,
  isV (.bool true),
  isV (.bool false),
  isV (.bool false)]
theorem ogA_stays (nm : Bs) (ts : List Tm) (hr : Bs) (as2 : List Tm) (bb off c bb2 off2 c2 j n B : Nat) : ∀ r ∈ ogAR nm ts hr as2 bb off c bb2 off2 c2 j n B, Stays r := by
  unfold ogAR
  simp only [List.forall_mem_cons]
  exact ⟨isV_stays _, isV_stays _, isV_stays _, isV_stays _, isV_stays _, isV_stays _, isV_stays _, isV_stays _, isV_stays _, isV_stays _, isV_stays _, isV_stays _, isV_stays _, isV_stays _, isV_stays _, isV_stays _, isV_stays _, isV_stays _, isV_stays _, isV_stays _, isV_stays _, isV_stays _, anyV_stays, anyV_stays, anyV_stays, anyV_stays, anyV_stays, anyV_stays, anyV_stays, anyV_stays, anyV_stays, anyV_stays, anyV_stays, anyV_stays, isV_stays _, isV_stays _, isV_stays _, isV_stays _, isV_stays _, isV_stays _, isV_stays _, isV_stays _, tsP_stays _, isV_stays _, isV_stays _, isV_stays _, isV_stays _, tsP_stays _, isV_stays _, isV_stays _, isV_stays _, fun r h => by cases h⟩
set_option maxHeartbeats 4000000 in
theorem ogA_steps (nm : Bs) (ts : List Tm) (hr : Bs) (as2 : List Tm) (bb off c bb2 off2 c2 j n B : Nat) (Q : Exit → Act → World → Prop) (W : World) (a0 : Act) (h0 : a0.tmps.getD 0 undef = .slice (some ⟨bb, off, none⟩) n c) (h1 : a0.tmps.getD 1 undef = .slice (some ⟨bb2, off2, none⟩) n c2) (h2 : a0.tmps.getD 2 undef = one B) (h6 : a0.tmps.getD 6 undef = .int .i64 j) (h7 : a0.tmps.getD 7 undef = .string ⟨#[97]⟩) (hj : j < n) {x : Option Addr} {k e : Nat} (HC : TmCells W bb (off + j * 3) (.mk false nm ts) x k e) {x2 : Option Addr} {k2 e2 : Nat} (HD : TmCells W bb2 (off2 + j * 3) (.mk false (97 :: hr) as2) x2 k2 e2) (HB : W.heap[B]? = some (.cells #[.func (.func 14) #[] #[one B]] 35 (0, 0))) (HT : ∀ w a n c a2 n2 c2, w.heap[B]? = some (.cells #[.func (.func 14) #[] #[one B]] 35 (0, 0)) → TmsAt w ts (.slice a n c) → TmsAt w as2 (.slice a2 n2 c2) → Calls Tryz.prog 14 #[.slice a n c, .slice a2 n2 c2, one B] w fun e w' => e = .returned (.bool true) ∧ Below w.heap.size w w') : FlowSteps Tryz.prog og9 Q W a0 (rAt (ogAR nm ts hr as2 bb off c bb2 off2 c2 j n B)) [0, 1, 2, 3, 4, 5, 6, 7, 8, 9, 10, 11, 12, 13, 14, 15, 16, 17, 18, 19, 20, 21, 22, 23, 24, 25, 26, 27, 28, 29, 30, 31, 32, 33, 34, 35, 36, 37, 38, 39, 40, 41, 42, 43, 44, 45, 46, 47, 48, 49, 50] := by
  refine FlowSteps.step (Op.move (Operand.tmp 0)) (by kernel_rfl) (fun a w F => ?_) ?_
  · have e := (F.old 0 (by kernel_rfl)).trans h0
    clear F
    rintro ⟨dst, op, ty, pos, af, gd⟩ rfl K Q' hK
    have HK := Lib.hid hK
    clear hK
    go_simp
    exact HK.out _ _ ⟨Below.refl _ _, rfl⟩
  refine FlowSteps.step (Op.move (Operand.tmp 6)) (by kernel_rfl) (fun a w F => ?_) ?_
  · have e := (F.old 6 (by kernel_rfl)).trans h6
    clear F
    rintro ⟨dst, op, ty, pos, af, gd⟩ rfl K Q' hK
    have HK := Lib.hid hK
    clear hK
    go_simp
    exact HK.out _ _ ⟨Below.refl _ _, rfl⟩
  refine FlowSteps.step (Op.indexAddr 36 (Operand.tmp 23) (Operand.tmp 24)) (by kernel_rfl) (fun a w F => ?_) ?_
  · have e0 : a.tmps[23]?.getD undef = .slice (some ⟨bb, off, none⟩) n c := F.dep 0 23 (by kernel_rfl) (by kernel_rfl)
    have e1 : a.tmps[24]?.getD undef = .int .i64 j := F.dep 1 24 (by kernel_rfl) (by kernel_rfl)
    have hj1 : (0 : Int) ≤ (j : Int) := by omega
    have hj2 : (j : Int) < (n : Int) := by omega
    have hj3 : ((j : Int)).toNat = j := by omega
    clear F
    rintro ⟨dst, op, ty, pos, af, gd⟩ rfl K Q' hK
    have HK := Lib.hid hK
    clear hK
    go_simp
    exact HK.out _ _ ⟨Below.refl _ _, rfl⟩
  refine FlowSteps.step (Op.fieldAddr 38 (Operand.tmp 25) 0) (by kernel_rfl) (fun a w F => ?_) ?_
  · have e0 : a.tmps[25]?.getD undef = .pointer (some ⟨bb, off + j * 3, none⟩) := F.dep 2 25 (by kernel_rfl) (by kernel_rfl)
    clear F
    rintro ⟨dst, op, ty, pos, af, gd⟩ rfl K Q' hK
    have HK := Lib.hid hK
    clear hK
    go_simp
    exact HK.out _ _ ⟨Below.refl _ _, rfl⟩
  refine FlowSteps.step (Op.load 4 (Operand.tmp 26)) (by kernel_rfl) (fun a w F => ?_) ?_
  · have e0 : a.tmps[26]?.getD undef = .pointer (some ⟨bb, off + j * 3, none⟩) := F.dep 3 26 (by kernel_rfl) (by kernel_rfl)
    have kk : w.cell? ⟨bb, off + j * 3, none⟩ = some (.bool false) := keeps_of_below F.bw _ _ HC.c0
    clear F
    rintro ⟨dst, op, ty, pos, af, gd⟩ rfl K Q' hK
    have HK := Lib.hid hK
    clear hK
    go_simp
    exact HK.out _ _ ⟨Below.refl _ _, rfl⟩
  refine FlowSteps.step (Op.move (Operand.tmp 1)) (by kernel_rfl) (fun a w F => ?_) ?_
  · have e := (F.old 1 (by kernel_rfl)).trans h1
    clear F
    rintro ⟨dst, op, ty, pos, af, gd⟩ rfl K Q' hK
    have HK := Lib.hid hK
    clear hK
    go_simp
    exact HK.out _ _ ⟨Below.refl _ _, rfl⟩
  refine FlowSteps.step (Op.move (Operand.tmp 6)) (by kernel_rfl) (fun a w F => ?_) ?_
  · have e := (F.old 6 (by kernel_rfl)).trans h6
    clear F
    rintro ⟨dst, op, ty, pos, af, gd⟩ rfl K Q' hK
    have HK := Lib.hid hK
    clear hK
    go_simp
    exact HK.out _ _ ⟨Below.refl _ _, rfl⟩
  refine FlowSteps.step (Op.indexAddr 36 (Operand.tmp 28) (Operand.tmp 29)) (by kernel_rfl) (fun a w F => ?_) ?_
  · have e0 : a.tmps[28]?.getD undef = .slice (some ⟨bb2, off2, none⟩) n c2 := F.dep 5 28 (by kernel_rfl) (by kernel_rfl)
    have e1 : a.tmps[29]?.getD undef = .int .i64 j := F.dep 6 29 (by kernel_rfl) (by kernel_rfl)
    have hj1 : (0 : Int) ≤ (j : Int) := by omega
    have hj2 : (j : Int) < (n : Int) := by omega
    have hj3 : ((j : Int)).toNat = j := by omega
    clear F
    rintro ⟨dst, op, ty, pos, af, gd⟩ rfl K Q' hK
    have HK := Lib.hid hK
    clear hK
    go_simp
    exact HK.out _ _ ⟨Below.refl _ _, rfl⟩
  refine FlowSteps.step (Op.fieldAddr 38 (Operand.tmp 30) 0) (by kernel_rfl) (fun a w F => ?_) ?_
  · have e0 : a.tmps[30]?.getD undef = .pointer (some ⟨bb2, off2 + j * 3, none⟩) := F.dep 7 30 (by kernel_rfl) (by kernel_rfl)
    clear F
    rintro ⟨dst, op, ty, pos, af, gd⟩ rfl K Q' hK
    have HK := Lib.hid hK
    clear hK
    go_simp
    exact HK.out _ _ ⟨Below.refl _ _, rfl⟩
  refine FlowSteps.step (Op.load 4 (Operand.tmp 31)) (by kernel_rfl) (fun a w F => ?_) ?_
  · have e0 : a.tmps[31]?.getD undef = .pointer (some ⟨bb2, off2 + j * 3, none⟩) := F.dep 8 31 (by kernel_rfl) (by kernel_rfl)
    have kk : w.cell? ⟨bb2, off2 + j * 3, none⟩ = some (.bool false) := keeps_of_below F.bw _ _ HD.c0
    clear F
    rintro ⟨dst, op, ty, pos, af, gd⟩ rfl K Q' hK
    have HK := Lib.hid hK
    clear hK
    go_simp
    exact HK.out _ _ ⟨Below.refl _ _, rfl⟩
  refine FlowSteps.step (Op.binOp BinOp.neq 4 (Operand.tmp 27) (Operand.tmp 32) 4) (by kernel_rfl) (fun a w F => ?_) ?_
  · have e0 : a.tmps[27]?.getD undef = .bool false := F.dep 4 27 (by kernel_rfl) (by kernel_rfl)
    have e1 : a.tmps[32]?.getD undef = .bool false := F.dep 9 32 (by kernel_rfl) (by kernel_rfl)
    clear F
    rintro ⟨dst, op, ty, pos, af, gd⟩ rfl K Q' hK
    have HK := Lib.hid hK
    clear hK
    go_simp
    exact HK.out _ _ ⟨Below.refl _ _, rfl⟩
  refine FlowSteps.step (Op.move (Operand.tmp 33)) (by kernel_rfl) (fun a w F => ?_) ?_
  · have e0 : a.tmps[33]?.getD undef = .bool false := F.dep 10 33 (by kernel_rfl) (by kernel_rfl)
    clear F
    rintro ⟨dst, op, ty, pos, af, gd⟩ rfl K Q' hK
    have HK := Lib.hid hK
    clear hK
    go_simp
    exact HK.out _ _ ⟨Below.refl _ _, rfl⟩
  refine FlowSteps.stepIf (Op.move (Operand.tmp 1)) 11 34 false (by kernel_rfl) (by kernel_rfl) (by kernel_rfl) (fun v w h => h) (fun a w F => ?_) ?_
  · have e := (F.old 1 (by kernel_rfl)).trans h1
    clear F
    rintro ⟨dst, op, ty, pos, af, gd⟩ rfl K Q' hK
    have HK := Lib.hid hK
    clear hK
    go_simp
    exact HK.out _ _ ⟨Below.refl _ _, rfl⟩
  refine FlowSteps.stepIf (Op.move (Operand.tmp 6)) 11 34 false (by kernel_rfl) (by kernel_rfl) (by kernel_rfl) (fun v w h => h) (fun a w F => ?_) ?_
  · have e := (F.old 6 (by kernel_rfl)).trans h6
    clear F
    rintro ⟨dst, op, ty, pos, af, gd⟩ rfl K Q' hK
    have HK := Lib.hid hK
    clear hK
    go_simp
    exact HK.out _ _ ⟨Below.refl _ _, rfl⟩
  refine FlowSteps.stepIf (Op.indexAddr 36 (Operand.tmp 35) (Operand.tmp 36)) 11 34 false (by kernel_rfl) (by kernel_rfl) (by kernel_rfl) (fun v w h => h) (fun a w F => ?_) ?_
  · have e0 : a.tmps[35]?.getD undef = .slice (some ⟨bb2, off2, none⟩) n c2 := F.dep 12 35 (by kernel_rfl) (by kernel_rfl)
    have e1 : a.tmps[36]?.getD undef = .int .i64 j := F.dep 13 36 (by kernel_rfl) (by kernel_rfl)
    have hj1 : (0 : Int) ≤ (j : Int) := by omega
    have hj2 : (j : Int) < (n : Int) := by omega
    have hj3 : ((j : Int)).toNat = j := by omega
    clear F
    rintro ⟨dst, op, ty, pos, af, gd⟩ rfl K Q' hK
    have HK := Lib.hid hK
    clear hK
    go_simp
    exact HK.out _ _ ⟨Below.refl _ _, rfl⟩
  refine FlowSteps.stepIf (Op.fieldAddr 38 (Operand.tmp 37) 1) 11 34 false (by kernel_rfl) (by kernel_rfl) (by kernel_rfl) (fun v w h => h) (fun a w F => ?_) ?_
  · have e0 : a.tmps[37]?.getD undef = .pointer (some ⟨bb2, off2 + j * 3, none⟩) := F.dep 14 37 (by kernel_rfl) (by kernel_rfl)
    clear F
    rintro ⟨dst, op, ty, pos, af, gd⟩ rfl K Q' hK
    have HK := Lib.hid hK
    clear hK
    go_simp
    exact HK.out _ _ ⟨Below.refl _ _, rfl⟩
  refine FlowSteps.stepIf (Op.load 9 (Operand.tmp 38)) 11 34 false (by kernel_rfl) (by kernel_rfl) (by kernel_rfl) (fun v w h => h) (fun a w F => ?_) ?_
  · have e0 : a.tmps[38]?.getD undef = .pointer (some ⟨bb2, off2 + j * 3 + 1, none⟩) := F.dep 15 38 (by kernel_rfl) (by kernel_rfl)
    have kk : w.cell? ⟨bb2, off2 + j * 3 + 1, none⟩ = some (str (97 :: hr)) := keeps_of_below F.bw _ _ HD.c1
    clear F
    rintro ⟨dst, op, ty, pos, af, gd⟩ rfl K Q' hK
    have HK := Lib.hid hK
    clear hK
    go_simp
    exact HK.out _ _ ⟨Below.refl _ _, rfl⟩
  refine FlowSteps.stepIf (Op.index 9 (Operand.tmp 39) (Operand.const (Value.int IntKind.i64 0))) 11 34 false (by kernel_rfl) (by kernel_rfl) (by kernel_rfl) (fun v w h => h) (fun a w F => ?_) ?_
  · have e0 : a.tmps[39]?.getD undef = str (97 :: hr) := F.dep 16 39 (by kernel_rfl) (by kernel_rfl)
    clear F
    rintro ⟨dst, op, ty, pos, af, gd⟩ rfl K Q' hK
    have HK := Lib.hid hK
    clear hK
    go_simp
    exact HK.out _ _ ⟨Below.refl _ _, rfl⟩
  refine FlowSteps.stepIf (Op.move (Operand.tmp 7)) 11 34 false (by kernel_rfl) (by kernel_rfl) (by kernel_rfl) (fun v w h => h) (fun a w F => ?_) ?_
  · have e := (F.old 7 (by kernel_rfl)).trans h7
    clear F
    rintro ⟨dst, op, ty, pos, af, gd⟩ rfl K Q' hK
    have HK := Lib.hid hK
    clear hK
    go_simp
    exact HK.out _ _ ⟨Below.refl _ _, rfl⟩
  refine FlowSteps.stepIf (Op.index 9 (Operand.tmp 41) (Operand.const (Value.int IntKind.i64 0))) 11 34 false (by kernel_rfl) (by kernel_rfl) (by kernel_rfl) (fun v w h => h) (fun a w F => ?_) ?_
  · have e0 : a.tmps[41]?.getD undef = .string ⟨#[97]⟩ := F.dep 18 41 (by kernel_rfl) (by kernel_rfl)
    clear F
    rintro ⟨dst, op, ty, pos, af, gd⟩ rfl K Q' hK
    have HK := Lib.hid hK
    clear hK
    go_simp
    exact HK.out _ _ ⟨Below.refl _ _, rfl⟩
  refine FlowSteps.stepIf (Op.binOp BinOp.neq 5 (Operand.tmp 40) (Operand.tmp 42) 5) 11 34 false (by kernel_rfl) (by kernel_rfl) (by kernel_rfl) (fun v w h => h) (fun a w F => ?_) ?_
  · have e0 : a.tmps[40]?.getD undef = .int .u8 97 := F.dep 17 40 (by kernel_rfl) (by kernel_rfl)
    have e1 : a.tmps[42]?.getD undef = .int .u8 97 := F.dep 19 42 (by kernel_rfl) (by kernel_rfl)
    clear F
    rintro ⟨dst, op, ty, pos, af, gd⟩ rfl K Q' hK
    have HK := Lib.hid hK
    clear hK
    go_simp
    exact HK.out _ _ ⟨Below.refl _ _, rfl⟩
  refine FlowSteps.stepIf (Op.move (Operand.tmp 43)) 11 34 false (by kernel_rfl) (by kernel_rfl) (by kernel_rfl) (fun v w h => h) (fun a w F => ?_) ?_
  · have e0 : a.tmps[43]?.getD undef = .bool false := F.dep 20 43 (by kernel_rfl) (by kernel_rfl)
    clear F
    rintro ⟨dst, op, ty, pos, af, gd⟩ rfl K Q' hK
    have HK := Lib.hid hK
    clear hK
    go_simp
    exact HK.out _ _ ⟨Below.refl _ _, rfl⟩
  refine FlowSteps.stepNo 21 44 true (by kernel_rfl) (by kernel_rfl) (by kernel_rfl) (fun v w h => h) (fun w => trivial) ?_
  refine FlowSteps.stepNo 21 44 true (by kernel_rfl) (by kernel_rfl) (by kernel_rfl) (fun v w h => h) (fun w => trivial) ?_
  refine FlowSteps.stepNo 21 44 true (by kernel_rfl) (by kernel_rfl) (by kernel_rfl) (fun v w h => h) (fun w => trivial) ?_
  refine FlowSteps.stepNo 21 44 true (by kernel_rfl) (by kernel_rfl) (by kernel_rfl) (fun v w h => h) (fun w => trivial) ?_
  refine FlowSteps.stepNo 21 44 true (by kernel_rfl) (by kernel_rfl) (by kernel_rfl) (fun v w h => h) (fun w => trivial) ?_
  refine FlowSteps.stepNo 21 44 true (by kernel_rfl) (by kernel_rfl) (by kernel_rfl) (fun v w h => h) (fun w => trivial) ?_
  refine FlowSteps.stepNo 21 44 true (by kernel_rfl) (by kernel_rfl) (by kernel_rfl) (fun v w h => h) (fun w => trivial) ?_
  refine FlowSteps.stepNo 21 44 true (by kernel_rfl) (by kernel_rfl) (by kernel_rfl) (fun v w h => h) (fun w => trivial) ?_
  refine FlowSteps.stepNo 21 44 true (by kernel_rfl) (by kernel_rfl) (by kernel_rfl) (fun v w h => h) (fun w => trivial) ?_
  refine FlowSteps.stepNo 21 44 true (by kernel_rfl) (by kernel_rfl) (by kernel_rfl) (fun v w h => h) (fun w => trivial) ?_
  refine FlowSteps.stepNo 21 44 true (by kernel_rfl) (by kernel_rfl) (by kernel_rfl) (fun v w h => h) (fun w => trivial) ?_
  refine FlowSteps.stepNo 21 44 true (by kernel_rfl) (by kernel_rfl) (by kernel_rfl) (fun v w h => h) (fun w => trivial) ?_
  refine FlowSteps.stepIf (Op.pick (Operand.tmp 44) (Operand.tmp 56) (Operand.const (Value.bool false))) 11 34 false (by kernel_rfl) (by kernel_rfl) (by kernel_rfl) (fun v w h => h) (fun a w F => ?_) ?_
  · have e0 : a.tmps[44]?.getD undef = .bool false := F.dep 21 44 (by kernel_rfl) (by kernel_rfl)
    clear F
    rintro ⟨dst, op, ty, pos, af, gd⟩ rfl K Q' hK
    have HK := Lib.hid hK
    clear hK
    go_simp
    exact HK.out _ _ ⟨Below.refl _ _, rfl⟩
  refine FlowSteps.step (Op.pick (Operand.tmp 34) (Operand.const (Value.bool true)) (Operand.tmp 57)) (by kernel_rfl) (fun a w F => ?_) ?_
  · have e0 : a.tmps[34]?.getD undef = .bool false := F.dep 11 34 (by kernel_rfl) (by kernel_rfl)
    have e1 : a.tmps[57]?.getD undef = .bool false := F.dep 34 57 (by kernel_rfl) (by kernel_rfl)
    clear F
    rintro ⟨dst, op, ty, pos, af, gd⟩ rfl K Q' hK
    have HK := Lib.hid hK
    clear hK
    go_simp
    exact HK.out _ _ ⟨Below.refl _ _, rfl⟩
  refine FlowSteps.step (Op.move (Operand.tmp 58)) (by kernel_rfl) (fun a w F => ?_) ?_
  · have e0 : a.tmps[58]?.getD undef = .bool false := F.dep 35 58 (by kernel_rfl) (by kernel_rfl)
    clear F
    rintro ⟨dst, op, ty, pos, af, gd⟩ rfl K Q' hK
    have HK := Lib.hid hK
    clear hK
    go_simp
    exact HK.out _ _ ⟨Below.refl _ _, rfl⟩
  refine FlowSteps.stepIf (Op.load 35 (Operand.tmp 2)) 36 59 false (by kernel_rfl) (by kernel_rfl) (by kernel_rfl) (fun v w h => h) (fun a w F => ?_) ?_
  · have e := (F.old 2 (by kernel_rfl)).trans h2
    have k0 := (box_cell (kc F.bw HB) 0).trans rfl
    clear F
    rintro ⟨dst, op, ty, pos, af, gd⟩ rfl K Q' hK
    have HK := Lib.hid hK
    clear hK
    go_simp
    exact HK.out _ _ ⟨Below.refl _ _, rfl⟩
  refine FlowSteps.stepIf (Op.move (Operand.tmp 0)) 36 59 false (by kernel_rfl) (by kernel_rfl) (by kernel_rfl) (fun v w h => h) (fun a w F => ?_) ?_
  · have e := (F.old 0 (by kernel_rfl)).trans h0
    clear F
    rintro ⟨dst, op, ty, pos, af, gd⟩ rfl K Q' hK
    have HK := Lib.hid hK
    clear hK
    go_simp
    exact HK.out _ _ ⟨Below.refl _ _, rfl⟩
  refine FlowSteps.stepIf (Op.move (Operand.tmp 6)) 36 59 false (by kernel_rfl) (by kernel_rfl) (by kernel_rfl) (fun v w h => h) (fun a w F => ?_) ?_
  · have e := (F.old 6 (by kernel_rfl)).trans h6
    clear F
    rintro ⟨dst, op, ty, pos, af, gd⟩ rfl K Q' hK
    have HK := Lib.hid hK
    clear hK
    go_simp
    exact HK.out _ _ ⟨Below.refl _ _, rfl⟩
  refine FlowSteps.stepIf (Op.indexAddr 36 (Operand.tmp 61) (Operand.tmp 62)) 36 59 false (by kernel_rfl) (by kernel_rfl) (by kernel_rfl) (fun v w h => h) (fun a w F => ?_) ?_
  · have e0 : a.tmps[61]?.getD undef = .slice (some ⟨bb, off, none⟩) n c := F.dep 38 61 (by kernel_rfl) (by kernel_rfl)
    have e1 : a.tmps[62]?.getD undef = .int .i64 j := F.dep 39 62 (by kernel_rfl) (by kernel_rfl)
    have hj1 : (0 : Int) ≤ (j : Int) := by omega
    have hj2 : (j : Int) < (n : Int) := by omega
    have hj3 : ((j : Int)).toNat = j := by omega
    clear F
    rintro ⟨dst, op, ty, pos, af, gd⟩ rfl K Q' hK
    have HK := Lib.hid hK
    clear hK
    go_simp
    exact HK.out _ _ ⟨Below.refl _ _, rfl⟩
  refine FlowSteps.stepIf (Op.fieldAddr 38 (Operand.tmp 63) 2) 36 59 false (by kernel_rfl) (by kernel_rfl) (by kernel_rfl) (fun v w h => h) (fun a w F => ?_) ?_
  · have e0 : a.tmps[63]?.getD undef = .pointer (some ⟨bb, off + j * 3, none⟩) := F.dep 40 63 (by kernel_rfl) (by kernel_rfl)
    clear F
    rintro ⟨dst, op, ty, pos, af, gd⟩ rfl K Q' hK
    have HK := Lib.hid hK
    clear hK
    go_simp
    exact HK.out _ _ ⟨Below.refl _ _, rfl⟩
  refine FlowSteps.stepIf (Op.load 36 (Operand.tmp 64)) 36 59 false (by kernel_rfl) (by kernel_rfl) (by kernel_rfl) (fun v w h => h) (fun a w F => ?_) ?_
  · have e : a.tmps[64]?.getD undef = .pointer (some ⟨bb, off + j * 3 + 2, none⟩) := F.dep 41 64 (by kernel_rfl) (by kernel_rfl)
    have kk : w.cell? ⟨bb, off + j * 3 + 2, none⟩ = some _ := keeps_of_below F.bw _ _ HC.c2
    have ka := HC.at_.keep (keeps_of_below F.bw)
    clear F
    rintro ⟨dst, op, ty, pos, af, gd⟩ rfl K Q' hK
    have HK := Lib.hid hK
    have KA := Lib.hid ka
    clear hK ka
    go_simp
    exact HK.out _ _ ⟨Below.refl _ _, KA.out⟩
  refine FlowSteps.stepIf (Op.move (Operand.tmp 1)) 36 59 false (by kernel_rfl) (by kernel_rfl) (by kernel_rfl) (fun v w h => h) (fun a w F => ?_) ?_
  · have e := (F.old 1 (by kernel_rfl)).trans h1
    clear F
    rintro ⟨dst, op, ty, pos, af, gd⟩ rfl K Q' hK
    have HK := Lib.hid hK
    clear hK
    go_simp
    exact HK.out _ _ ⟨Below.refl _ _, rfl⟩
  refine FlowSteps.stepIf (Op.move (Operand.tmp 6)) 36 59 false (by kernel_rfl) (by kernel_rfl) (by kernel_rfl) (fun v w h => h) (fun a w F => ?_) ?_
  · have e := (F.old 6 (by kernel_rfl)).trans h6
    clear F
    rintro ⟨dst, op, ty, pos, af, gd⟩ rfl K Q' hK
    have HK := Lib.hid hK
    clear hK
    go_simp
    exact HK.out _ _ ⟨Below.refl _ _, rfl⟩
  refine FlowSteps.stepIf (Op.indexAddr 36 (Operand.tmp 66) (Operand.tmp 67)) 36 59 false (by kernel_rfl) (by kernel_rfl) (by kernel_rfl) (fun v w h => h) (fun a w F => ?_) ?_
  · have e0 : a.tmps[66]?.getD undef = .slice (some ⟨bb2, off2, none⟩) n c2 := F.dep 43 66 (by kernel_rfl) (by kernel_rfl)
    have e1 : a.tmps[67]?.getD undef = .int .i64 j := F.dep 44 67 (by kernel_rfl) (by kernel_rfl)
    have hj1 : (0 : Int) ≤ (j : Int) := by omega
    have hj2 : (j : Int) < (n : Int) := by omega
    have hj3 : ((j : Int)).toNat = j := by omega
    clear F
    rintro ⟨dst, op, ty, pos, af, gd⟩ rfl K Q' hK
    have HK := Lib.hid hK
    clear hK
    go_simp
    exact HK.out _ _ ⟨Below.refl _ _, rfl⟩
  refine FlowSteps.stepIf (Op.fieldAddr 38 (Operand.tmp 68) 2) 36 59 false (by kernel_rfl) (by kernel_rfl) (by kernel_rfl) (fun v w h => h) (fun a w F => ?_) ?_
  · have e0 : a.tmps[68]?.getD undef = .pointer (some ⟨bb2, off2 + j * 3, none⟩) := F.dep 45 68 (by kernel_rfl) (by kernel_rfl)
    clear F
    rintro ⟨dst, op, ty, pos, af, gd⟩ rfl K Q' hK
    have HK := Lib.hid hK
    clear hK
    go_simp
    exact HK.out _ _ ⟨Below.refl _ _, rfl⟩
  refine FlowSteps.stepIf (Op.load 36 (Operand.tmp 69)) 36 59 false (by kernel_rfl) (by kernel_rfl) (by kernel_rfl) (fun v w h => h) (fun a w F => ?_) ?_
  · have e : a.tmps[69]?.getD undef = .pointer (some ⟨bb2, off2 + j * 3 + 2, none⟩) := F.dep 46 69 (by kernel_rfl) (by kernel_rfl)
    have kk : w.cell? ⟨bb2, off2 + j * 3 + 2, none⟩ = some _ := keeps_of_below F.bw _ _ HD.c2
    have ka := HD.at_.keep (keeps_of_below F.bw)
    clear F
    rintro ⟨dst, op, ty, pos, af, gd⟩ rfl K Q' hK
    have HK := Lib.hid hK
    have KA := Lib.hid ka
    clear hK ka
    go_simp
    exact HK.out _ _ ⟨Below.refl _ _, KA.out⟩
  refine FlowSteps.stepIf (Op.call { callee := Callee.value (Operand.tmp 60), args := #[Operand.tmp 65, Operand.tmp 70], argTypes := #[36, 36] }) 36 59 false (by kernel_rfl) (by kernel_rfl) (by kernel_rfl) (fun v w h => h) (fun a w F => ?_) ?_
  · have e : a.tmps[60]?.getD undef = .func (.func 14) #[] #[one B] := F.dep 37 60 (by kernel_rfl) (by kernel_rfl)
    have dx : TmsAt w ts (a.tmps[65]?.getD undef) := F.dep 42 65 (by kernel_rfl) (by kernel_rfl)
    obtain ⟨a1, c1, ex, -⟩ := At.sl_inv dx
    rw [ex] at dx
    have dy : TmsAt w as2 (a.tmps[70]?.getD undef) := F.dep 47 70 (by kernel_rfl) (by kernel_rfl)
    obtain ⟨a2, c4, ey, -⟩ := At.sl_inv dy
    rw [ey] at dy
    have CA := Lib.hid (HT w _ _ _ _ _ _ (kc F.bw HB) dx dy)
    clear F dx dy
    rintro ⟨dst, op, ty, pos, af, gd⟩ rfl K Q' hK
    have HK := Lib.hid hK
    clear hK
    go_simp
    go_at_call 14
    refine CA.out.mono ?_
    rintro e w1 ⟨rfl, hb⟩
    exact HK.out _ _ ⟨hb, rfl⟩
  refine FlowSteps.stepIf (Op.unOp UnOp.not 4 (Operand.tmp 71)) 36 59 false (by kernel_rfl) (by kernel_rfl) (by kernel_rfl) (fun v w h => h) (fun a w F => ?_) ?_
  · have e0 : a.tmps[71]?.getD undef = .bool true := F.dep 48 71 (by kernel_rfl) (by kernel_rfl)
    clear F
    rintro ⟨dst, op, ty, pos, af, gd⟩ rfl K Q' hK
    have HK := Lib.hid hK
    clear hK
    go_simp
    exact HK.out _ _ ⟨Below.refl _ _, rfl⟩
  refine FlowSteps.step (Op.pick (Operand.tmp 59) (Operand.const (Value.bool true)) (Operand.tmp 72)) (by kernel_rfl) (fun a w F => ?_) ?_
  · have e0 : a.tmps[59]?.getD undef = .bool false := F.dep 36 59 (by kernel_rfl) (by kernel_rfl)
    have e1 : a.tmps[72]?.getD undef = .bool false := F.dep 49 72 (by kernel_rfl) (by kernel_rfl)
    clear F
    rintro ⟨dst, op, ty, pos, af, gd⟩ rfl K Q' hK
    have HK := Lib.hid hK
    clear hK
    go_simp
    exact HK.out _ _ ⟨Below.refl _ _, rfl⟩
  exact FlowSteps.nil
def ogBR (nm : Bs) (ts : List Tm) (hr : Bs) (as2 : List Tm) (bb off c bb2 off2 c2 j n B : Nat) : List (Value → World → Prop) := [isV (.slice (some ⟨bb, off, none⟩) n c),
  isV (.int .i64 j),
  isV (.pointer (some ⟨bb, off + j * 3, none⟩)),
  isV (.pointer (some ⟨bb, off + j * 3, none⟩)),
  isV (.bool true),
  isV (.slice (some ⟨bb2, off2, none⟩) n c2),
  isV (.int .i64 j),
  isV (.pointer (some ⟨bb2, off2 + j * 3, none⟩)),
  isV (.pointer (some ⟨bb2, off2 + j * 3, none⟩)),
  isV (.bool true),
  isV (.bool false),
  isV (.bool false),
  isV (.slice (some ⟨bb2, off2, none⟩) n c2),
  isV (.int .i64 j),
  isV (.pointer (some ⟨bb2, off2 + j * 3, none⟩)),
  isV (.pointer (some ⟨bb2, off2 + j * 3 + 1, none⟩)),
  isV (str (117 :: hr)),
  isV (.int .u8 117),
  isV (.string ⟨#[117, 120]⟩),
  isV (.int .u8 117),
  isV (.bool false),
  isV (.bool false),
  anyV,
  anyV,
  anyV,
  anyV,
  anyV,
  anyV,
  anyV,
  anyV,
  anyV,
  anyV,
  anyV,
  anyV,
  isV (.bool false),
  isV (.bool false),
  isV (.bool false),
  isV (.func (.func 14) #[] #[one B]),
  isV (.slice (some ⟨bb, off, none⟩) n c),
  isV (.int .i64 j),
  isV (.pointer (some ⟨bb, off + j * 3, none⟩)),
  isV (.pointer (some ⟨bb, off + j * 3 + 2, none⟩)),
  tsP ts,
  isV (.slice (some ⟨bb2, off2, none⟩) n c2),
  isV (.int .i64 j),
  isV (.pointer (some ⟨bb2, off2 + j * 3, none⟩)),
  isV (.pointer (some ⟨bb2, off2 + j * 3 + 2, none⟩)),
  tsP as2,
  isV (.bool true),
  isV (.bool false),
  isV (.bool false)]
theorem ogB_stays (nm : Bs) (ts : List Tm) (hr : Bs) (as2 : List Tm) (bb off c bb2 off2 c2 j n B : Nat) : ∀ r ∈ ogBR nm ts hr as2 bb off c bb2 off2 c2 j n B, Stays r := by
  unfold ogBR
  simp only [List.forall_mem_cons]
  exact ⟨isV_stays _, isV_stays _, isV_stays _, isV_stays _, isV_stays _, isV_stays _, isV_stays _, isV_stays _, isV_stays _, isV_stays _, isV_stays _, isV_stays _, isV_stays _, isV_stays _, isV_stays _, isV_stays _, isV_stays _, isV_stays _, isV_stays _, isV_stays _, isV_stays _, isV_stays _, anyV_stays, anyV_stays, anyV_stays, anyV_stays, anyV_stays, anyV_stays, anyV_stays, anyV_stays, anyV_stays, anyV_stays, anyV_stays, anyV_stays, isV_stays _, isV_stays _, isV_stays _, isV_stays _, isV_stays _, isV_stays _, isV_stays _, isV_stays _, tsP_stays _, isV_stays _, isV_stays _, isV_stays _, isV_stays _, tsP_stays _, isV_stays _, isV_stays _, isV_stays _, fun r h => by cases h⟩
set_option maxHeartbeats 4000000 in
theorem ogB_steps (nm : Bs) (ts : List Tm) (hr : Bs) (as2 : List Tm) (bb off c bb2 off2 c2 j n B : Nat) (Q : Exit → Act → World → Prop) (W : World) (a0 : Act) (h0 : a0.tmps.getD 0 undef = .slice (some ⟨bb, off, none⟩) n c) (h1 : a0.tmps.getD 1 undef = .slice (some ⟨bb2, off2, none⟩) n c2) (h2 : a0.tmps.getD 2 undef = one B) (h6 : a0.tmps.getD 6 undef = .int .i64 j) (h7 : a0.tmps.getD 7 undef = .string ⟨#[117, 120]⟩) (hj : j < n) {x : Option Addr} {k e : Nat} (HC : TmCells W bb (off + j * 3) (.mk true nm ts) x k e) {x2 : Option Addr} {k2 e2 : Nat} (HD : TmCells W bb2 (off2 + j * 3) (.mk true (117 :: hr) as2) x2 k2 e2) (HB : W.heap[B]? = some (.cells #[.func (.func 14) #[] #[one B]] 35 (0, 0))) (HT : ∀ w a n c a2 n2 c2, w.heap[B]? = some (.cells #[.func (.func 14) #[] #[one B]] 35 (0, 0)) → TmsAt w ts (.slice a n c) → TmsAt w as2 (.slice a2 n2 c2) → Calls Tryz.prog 14 #[.slice a n c, .slice a2 n2 c2, one B] w fun e w' => e = .returned (.bool true) ∧ Below w.heap.size w w') : FlowSteps Tryz.prog og9 Q W a0 (rAt (ogBR nm ts hr as2 bb off c bb2 off2 c2 j n B)) [0, 1, 2, 3, 4, 5, 6, 7, 8, 9, 10, 11, 12, 13, 14, 15, 16, 17, 18, 19, 20, 21, 22, 23, 24, 25, 26, 27, 28, 29, 30, 31, 32, 33, 34, 35, 36, 37, 38, 39, 40, 41, 42, 43, 44, 45, 46, 47, 48, 49, 50] := by
  refine FlowSteps.step (Op.move (Operand.tmp 0)) (by kernel_rfl) (fun a w F => ?_) ?_
  · have e := (F.old 0 (by kernel_rfl)).trans h0
    clear F
    rintro ⟨dst, op, ty, pos, af, gd⟩ rfl K Q' hK
    have HK := Lib.hid hK
    clear hK
    go_simp
    exact HK.out _ _ ⟨Below.refl _ _, rfl⟩
  refine FlowSteps.step (Op.move (Operand.tmp 6)) (by kernel_rfl) (fun a w F => ?_) ?_
  · have e := (F.old 6 (by kernel_rfl)).trans h6
    clear F
    rintro ⟨dst, op, ty, pos, af, gd⟩ rfl K Q' hK
    have HK := Lib.hid hK
    clear hK
    go_simp
    exact HK.out _ _ ⟨Below.refl _ _, rfl⟩
  refine FlowSteps.step (Op.indexAddr 36 (Operand.tmp 23) (Operand.tmp 24)) (by kernel_rfl) (fun a w F => ?_) ?_
  · have e0 : a.tmps[23]?.getD undef = .slice (some ⟨bb, off, none⟩) n c := F.dep 0 23 (by kernel_rfl) (by kernel_rfl)
    have e1 : a.tmps[24]?.getD undef = .int .i64 j := F.dep 1 24 (by kernel_rfl) (by kernel_rfl)
    have hj1 : (0 : Int) ≤ (j : Int) := by omega
    have hj2 : (j : Int) < (n : Int) := by omega
    have hj3 : ((j : Int)).toNat = j := by omega
    clear F
    rintro ⟨dst, op, ty, pos, af, gd⟩ rfl K Q' hK
    have HK := Lib.hid hK
    clear hK
    go_simp
    exact HK.out _ _ ⟨Below.refl _ _, rfl⟩
  refine FlowSteps.step (Op.fieldAddr 38 (Operand.tmp 25) 0) (by kernel_rfl) (fun a w F => ?_) ?_
  · have e0 : a.tmps[25]?.getD undef = .pointer (some ⟨bb, off + j * 3, none⟩) := F.dep 2 25 (by kernel_rfl) (by kernel_rfl)
    clear F
    rintro ⟨dst, op, ty, pos, af, gd⟩ rfl K Q' hK
    have HK := Lib.hid hK
    clear hK
    go_simp
    exact HK.out _ _ ⟨Below.refl _ _, rfl⟩
  refine FlowSteps.step (Op.load 4 (Operand.tmp 26)) (by kernel_rfl) (fun a w F => ?_) ?_
  · have e0 : a.tmps[26]?.getD undef = .pointer (some ⟨bb, off + j * 3, none⟩) := F.dep 3 26 (by kernel_rfl) (by kernel_rfl)
    have kk : w.cell? ⟨bb, off + j * 3, none⟩ = some (.bool true) := keeps_of_below F.bw _ _ HC.c0
    clear F
    rintro ⟨dst, op, ty, pos, af, gd⟩ rfl K Q' hK
    have HK := Lib.hid hK
    clear hK
    go_simp
    exact HK.out _ _ ⟨Below.refl _ _, rfl⟩
  refine FlowSteps.step (Op.move (Operand.tmp 1)) (by kernel_rfl) (fun a w F => ?_) ?_
  · have e := (F.old 1 (by kernel_rfl)).trans h1
    clear F
    rintro ⟨dst, op, ty, pos, af, gd⟩ rfl K Q' hK
    have HK := Lib.hid hK
    clear hK
    go_simp
    exact HK.out _ _ ⟨Below.refl _ _, rfl⟩
  refine FlowSteps.step (Op.move (Operand.tmp 6)) (by kernel_rfl) (fun a w F => ?_) ?_
  · have e := (F.old 6 (by kernel_rfl)).trans h6
    clear F
    rintro ⟨dst, op, ty, pos, af, gd⟩ rfl K Q' hK
    have HK := Lib.hid hK
    clear hK
    go_simp
    exact HK.out _ _ ⟨Below.refl _ _, rfl⟩
  refine FlowSteps.step (Op.indexAddr 36 (Operand.tmp 28) (Operand.tmp 29)) (by kernel_rfl) (fun a w F => ?_) ?_
  · have e0 : a.tmps[28]?.getD undef = .slice (some ⟨bb2, off2, none⟩) n c2 := F.dep 5 28 (by kernel_rfl) (by kernel_rfl)
    have e1 : a.tmps[29]?.getD undef = .int .i64 j := F.dep 6 29 (by kernel_rfl) (by kernel_rfl)
    have hj1 : (0 : Int) ≤ (j : Int) := by omega
    have hj2 : (j : Int) < (n : Int) := by omega
    have hj3 : ((j : Int)).toNat = j := by omega
    clear F
    rintro ⟨dst, op, ty, pos, af, gd⟩ rfl K Q' hK
    have HK := Lib.hid hK
    clear hK
    go_simp
    exact HK.out _ _ ⟨Below.refl _ _, rfl⟩
  refine FlowSteps.step (Op.fieldAddr 38 (Operand.tmp 30) 0) (by kernel_rfl) (fun a w F => ?_) ?_
  · have e0 : a.tmps[30]?.getD undef = .pointer (some ⟨bb2, off2 + j * 3, none⟩) := F.dep 7 30 (by kernel_rfl) (by kernel_rfl)
    clear F
    rintro ⟨dst, op, ty, pos, af, gd⟩ rfl K Q' hK
    have HK := Lib.hid hK
    clear hK
    go_simp
    exact HK.out _ _ ⟨Below.refl _ _, rfl⟩
  refine FlowSteps.step (Op.load 4 (Operand.tmp 31)) (by kernel_rfl) (fun a w F => ?_) ?_
  · have e0 : a.tmps[31]?.getD undef = .pointer (some ⟨bb2, off2 + j * 3, none⟩) := F.dep 8 31 (by kernel_rfl) (by kernel_rfl)
    have kk : w.cell? ⟨bb2, off2 + j * 3, none⟩ = some (.bool true) := keeps_of_below F.bw _ _ HD.c0
    clear F
    rintro ⟨dst, op, ty, pos, af, gd⟩ rfl K Q' hK
    have HK := Lib.hid hK
    clear hK
    go_simp
    exact HK.out _ _ ⟨Below.refl _ _, rfl⟩
  refine FlowSteps.step (Op.binOp BinOp.neq 4 (Operand.tmp 27) (Operand.tmp 32) 4) (by kernel_rfl) (fun a w F => ?_) ?_
  · have e0 : a.tmps[27]?.getD undef = .bool true := F.dep 4 27 (by kernel_rfl) (by kernel_rfl)
    have e1 : a.tmps[32]?.getD undef = .bool true := F.dep 9 32 (by kernel_rfl) (by kernel_rfl)
    clear F
    rintro ⟨dst, op, ty, pos, af, gd⟩ rfl K Q' hK
    have HK := Lib.hid hK
    clear hK
    go_simp
    exact HK.out _ _ ⟨Below.refl _ _, rfl⟩
  refine FlowSteps.step (Op.move (Operand.tmp 33)) (by kernel_rfl) (fun a w F => ?_) ?_
  · have e0 : a.tmps[33]?.getD undef = .bool false := F.dep 10 33 (by kernel_rfl) (by kernel_rfl)
    clear F
    rintro ⟨dst, op, ty, pos, af, gd⟩ rfl K Q' hK
    have HK := Lib.hid hK
    clear hK
    go_simp
    exact HK.out _ _ ⟨Below.refl _ _, rfl⟩
  refine FlowSteps.stepIf (Op.move (Operand.tmp 1)) 11 34 false (by kernel_rfl) (by kernel_rfl) (by kernel_rfl) (fun v w h => h) (fun a w F => ?_) ?_
  · have e := (F.old 1 (by kernel_rfl)).trans h1
    clear F
    rintro ⟨dst, op, ty, pos, af, gd⟩ rfl K Q' hK
    have HK := Lib.hid hK
    clear hK
    go_simp
    exact HK.out _ _ ⟨Below.refl _ _, rfl⟩
  refine FlowSteps.stepIf (Op.move (Operand.tmp 6)) 11 34 false (by kernel_rfl) (by kernel_rfl) (by kernel_rfl) (fun v w h => h) (fun a w F => ?_) ?_
  · have e := (F.old 6 (by kernel_rfl)).trans h6
    clear F
    rintro ⟨dst, op, ty, pos, af, gd⟩ rfl K Q' hK
    have HK := Lib.hid hK
    clear hK
    go_simp
    exact HK.out _ _ ⟨Below.refl _ _, rfl⟩
  refine FlowSteps.stepIf (Op.indexAddr 36 (Operand.tmp 35) (Operand.tmp 36)) 11 34 false (by kernel_rfl) (by kernel_rfl) (by kernel_rfl) (fun v w h => h) (fun a w F => ?_) ?_
  · have e0 : a.tmps[35]?.getD undef = .slice (some ⟨bb2, off2, none⟩) n c2 := F.dep 12 35 (by kernel_rfl) (by kernel_rfl)
    have e1 : a.tmps[36]?.getD undef = .int .i64 j := F.dep 13 36 (by kernel_rfl) (by kernel_rfl)
    have hj1 : (0 : Int) ≤ (j : Int) := by omega
    have hj2 : (j : Int) < (n : Int) := by omega
    have hj3 : ((j : Int)).toNat = j := by omega
    clear F
    rintro ⟨dst, op, ty, pos, af, gd⟩ rfl K Q' hK
    have HK := Lib.hid hK
    clear hK
    go_simp
    exact HK.out _ _ ⟨Below.refl _ _, rfl⟩
  refine FlowSteps.stepIf (Op.fieldAddr 38 (Operand.tmp 37) 1) 11 34 false (by kernel_rfl) (by kernel_rfl) (by kernel_rfl) (fun v w h => h) (fun a w F => ?_) ?_
  · have e0 : a.tmps[37]?.getD undef = .pointer (some ⟨bb2, off2 + j * 3, none⟩) := F.dep 14 37 (by kernel_rfl) (by kernel_rfl)
    clear F
    rintro ⟨dst, op, ty, pos, af, gd⟩ rfl K Q' hK
    have HK := Lib.hid hK
    clear hK
    go_simp
    exact HK.out _ _ ⟨Below.refl _ _, rfl⟩
  refine FlowSteps.stepIf (Op.load 9 (Operand.tmp 38)) 11 34 false (by kernel_rfl) (by kernel_rfl) (by kernel_rfl) (fun v w h => h) (fun a w F => ?_) ?_
  · have e0 : a.tmps[38]?.getD undef = .pointer (some ⟨bb2, off2 + j * 3 + 1, none⟩) := F.dep 15 38 (by kernel_rfl) (by kernel_rfl)
    have kk : w.cell? ⟨bb2, off2 + j * 3 + 1, none⟩ = some (str (117 :: hr)) := keeps_of_below F.bw _ _ HD.c1
    clear F
    rintro ⟨dst, op, ty, pos, af, gd⟩ rfl K Q' hK
    have HK := Lib.hid hK
    clear hK
    go_simp
    exact HK.out _ _ ⟨Below.refl _ _, rfl⟩
  refine FlowSteps.stepIf (Op.index 9 (Operand.tmp 39) (Operand.const (Value.int IntKind.i64 0))) 11 34 false (by kernel_rfl) (by kernel_rfl) (by kernel_rfl) (fun v w h => h) (fun a w F => ?_) ?_
  · have e0 : a.tmps[39]?.getD undef = str (117 :: hr) := F.dep 16 39 (by kernel_rfl) (by kernel_rfl)
    clear F
    rintro ⟨dst, op, ty, pos, af, gd⟩ rfl K Q' hK
    have HK := Lib.hid hK
    clear hK
    go_simp
    exact HK.out _ _ ⟨Below.refl _ _, rfl⟩
  refine FlowSteps.stepIf (Op.move (Operand.tmp 7)) 11 34 false (by kernel_rfl) (by kernel_rfl) (by kernel_rfl) (fun v w h => h) (fun a w F => ?_) ?_
  · have e := (F.old 7 (by kernel_rfl)).trans h7
    clear F
    rintro ⟨dst, op, ty, pos, af, gd⟩ rfl K Q' hK
    have HK := Lib.hid hK
    clear hK
    go_simp
    exact HK.out _ _ ⟨Below.refl _ _, rfl⟩
  refine FlowSteps.stepIf (Op.index 9 (Operand.tmp 41) (Operand.const (Value.int IntKind.i64 0))) 11 34 false (by kernel_rfl) (by kernel_rfl) (by kernel_rfl) (fun v w h => h) (fun a w F => ?_) ?_
  · have e0 : a.tmps[41]?.getD undef = .string ⟨#[117, 120]⟩ := F.dep 18 41 (by kernel_rfl) (by kernel_rfl)
    clear F
    rintro ⟨dst, op, ty, pos, af, gd⟩ rfl K Q' hK
    have HK := Lib.hid hK
    clear hK
    go_simp
    exact HK.out _ _ ⟨Below.refl _ _, rfl⟩
  refine FlowSteps.stepIf (Op.binOp BinOp.neq 5 (Operand.tmp 40) (Operand.tmp 42) 5) 11 34 false (by kernel_rfl) (by kernel_rfl) (by kernel_rfl) (fun v w h => h) (fun a w F => ?_) ?_
  · have e0 : a.tmps[40]?.getD undef = .int .u8 117 := F.dep 17 40 (by kernel_rfl) (by kernel_rfl)
    have e1 : a.tmps[42]?.getD undef = .int .u8 117 := F.dep 19 42 (by kernel_rfl) (by kernel_rfl)
    clear F
    rintro ⟨dst, op, ty, pos, af, gd⟩ rfl K Q' hK
    have HK := Lib.hid hK
    clear hK
    go_simp
    exact HK.out _ _ ⟨Below.refl _ _, rfl⟩
  refine FlowSteps.stepIf (Op.move (Operand.tmp 43)) 11 34 false (by kernel_rfl) (by kernel_rfl) (by kernel_rfl) (fun v w h => h) (fun a w F => ?_) ?_
  · have e0 : a.tmps[43]?.getD undef = .bool false := F.dep 20 43 (by kernel_rfl) (by kernel_rfl)
    clear F
    rintro ⟨dst, op, ty, pos, af, gd⟩ rfl K Q' hK
    have HK := Lib.hid hK
    clear hK
    go_simp
    exact HK.out _ _ ⟨Below.refl _ _, rfl⟩
  refine FlowSteps.stepNo 21 44 true (by kernel_rfl) (by kernel_rfl) (by kernel_rfl) (fun v w h => h) (fun w => trivial) ?_
  refine FlowSteps.stepNo 21 44 true (by kernel_rfl) (by kernel_rfl) (by kernel_rfl) (fun v w h => h) (fun w => trivial) ?_
  refine FlowSteps.stepNo 21 44 true (by kernel_rfl) (by kernel_rfl) (by kernel_rfl) (fun v w h => h) (fun w => trivial) ?_
  refine FlowSteps.stepNo 21 44 true (by kernel_rfl) (by kernel_rfl) (by kernel_rfl) (fun v w h => h) (fun w => trivial) ?_
  refine FlowSteps.stepNo 21 44 true (by kernel_rfl) (by kernel_rfl) (by kernel_rfl) (fun v w h => h) (fun w => trivial) ?_
  refine FlowSteps.stepNo 21 44 true (by kernel_rfl) (by kernel_rfl) (by kernel_rfl) (fun v w h => h) (fun w => trivial) ?_
  refine FlowSteps.stepNo 21 44 true (by kernel_rfl) (by kernel_rfl) (by kernel_rfl) (fun v w h => h) (fun w => trivial) ?_
  refine FlowSteps.stepNo 21 44 true (by kernel_rfl) (by kernel_rfl) (by kernel_rfl) (fun v w h => h) (fun w => trivial) ?_
  refine FlowSteps.stepNo 21 44 true (by kernel_rfl) (by kernel_rfl) (by kernel_rfl) (fun v w h => h) (fun w => trivial) ?_
  refine FlowSteps.stepNo 21 44 true (by kernel_rfl) (by kernel_rfl) (by kernel_rfl) (fun v w h => h) (fun w => trivial) ?_
  refine FlowSteps.stepNo 21 44 true (by kernel_rfl) (by kernel_rfl) (by kernel_rfl) (fun v w h => h) (fun w => trivial) ?_
  refine FlowSteps.stepNo 21 44 true (by kernel_rfl) (by kernel_rfl) (by kernel_rfl) (fun v w h => h) (fun w => trivial) ?_
  refine FlowSteps.stepIf (Op.pick (Operand.tmp 44) (Operand.tmp 56) (Operand.const (Value.bool false))) 11 34 false (by kernel_rfl) (by kernel_rfl) (by kernel_rfl) (fun v w h => h) (fun a w F => ?_) ?_
  · have e0 : a.tmps[44]?.getD undef = .bool false := F.dep 21 44 (by kernel_rfl) (by kernel_rfl)
    clear F
    rintro ⟨dst, op, ty, pos, af, gd⟩ rfl K Q' hK
    have HK := Lib.hid hK
    clear hK
    go_simp
    exact HK.out _ _ ⟨Below.refl _ _, rfl⟩
  refine FlowSteps.step (Op.pick (Operand.tmp 34) (Operand.const (Value.bool true)) (Operand.tmp 57)) (by kernel_rfl) (fun a w F => ?_) ?_
  · have e0 : a.tmps[34]?.getD undef = .bool false := F.dep 11 34 (by kernel_rfl) (by kernel_rfl)
    have e1 : a.tmps[57]?.getD undef = .bool false := F.dep 34 57 (by kernel_rfl) (by kernel_rfl)
    clear F
    rintro ⟨dst, op, ty, pos, af, gd⟩ rfl K Q' hK
    have HK := Lib.hid hK
    clear hK
    go_simp
    exact HK.out _ _ ⟨Below.refl _ _, rfl⟩
  refine FlowSteps.step (Op.move (Operand.tmp 58)) (by kernel_rfl) (fun a w F => ?_) ?_
  · have e0 : a.tmps[58]?.getD undef = .bool false := F.dep 35 58 (by kernel_rfl) (by kernel_rfl)
    clear F
    rintro ⟨dst, op, ty, pos, af, gd⟩ rfl K Q' hK
    have HK := Lib.hid hK
    clear hK
    go_simp
    exact HK.out _ _ ⟨Below.refl _ _, rfl⟩
  refine FlowSteps.stepIf (Op.load 35 (Operand.tmp 2)) 36 59 false (by kernel_rfl) (by kernel_rfl) (by kernel_rfl) (fun v w h => h) (fun a w F => ?_) ?_
  · have e := (F.old 2 (by kernel_rfl)).trans h2
    have k0 := (box_cell (kc F.bw HB) 0).trans rfl
    clear F
    rintro ⟨dst, op, ty, pos, af, gd⟩ rfl K Q' hK
    have HK := Lib.hid hK
    clear hK
    go_simp
    exact HK.out _ _ ⟨Below.refl _ _, rfl⟩
  refine FlowSteps.stepIf (Op.move (Operand.tmp 0)) 36 59 false (by kernel_rfl) (by kernel_rfl) (by kernel_rfl) (fun v w h => h) (fun a w F => ?_) ?_
  · have e := (F.old 0 (by kernel_rfl)).trans h0
    clear F
    rintro ⟨dst, op, ty, pos, af, gd⟩ rfl K Q' hK
    have HK := Lib.hid hK
    clear hK
    go_simp
    exact HK.out _ _ ⟨Below.refl _ _, rfl⟩
  refine FlowSteps.stepIf (Op.move (Operand.tmp 6)) 36 59 false (by kernel_rfl) (by kernel_rfl) (by kernel_rfl) (fun v w h => h) (fun a w F => ?_) ?_
  · have e := (F.old 6 (by kernel_rfl)).trans h6
    clear F
    rintro ⟨dst, op, ty, pos, af, gd⟩ rfl K Q' hK
    have HK := Lib.hid hK
    clear hK
    go_simp
    exact HK.out _ _ ⟨Below.refl _ _, rfl⟩
  refine FlowSteps.stepIf (Op.indexAddr 36 (Operand.tmp 61) (Operand.tmp 62)) 36 59 false (by kernel_rfl) (by kernel_rfl) (by kernel_rfl) (fun v w h => h) (fun a w F => ?_) ?_
  · have e0 : a.tmps[61]?.getD undef = .slice (some ⟨bb, off, none⟩) n c := F.dep 38 61 (by kernel_rfl) (by kernel_rfl)
    have e1 : a.tmps[62]?.getD undef = .int .i64 j := F.dep 39 62 (by kernel_rfl) (by kernel_rfl)
    have hj1 : (0 : Int) ≤ (j : Int) := by omega
    have hj2 : (j : Int) < (n : Int) := by omega
    have hj3 : ((j : Int)).toNat = j := by omega
    clear F
    rintro ⟨dst, op, ty, pos, af, gd⟩ rfl K Q' hK
    have HK := Lib.hid hK
    clear hK
    go_simp
    exact HK.out _ _ ⟨Below.refl _ _, rfl⟩
  refine FlowSteps.stepIf (Op.fieldAddr 38 (Operand.tmp 63) 2) 36 59 false (by kernel_rfl) (by kernel_rfl) (by kernel_rfl) (fun v w h => h) (fun a w F => ?_) ?_
  · have e0 : a.tmps[63]?.getD undef = .pointer (some ⟨bb, off + j * 3, none⟩) := F.dep 40 63 (by kernel_rfl) (by kernel_rfl)
    clear F
    rintro ⟨dst, op, ty, pos, af, gd⟩ rfl K Q' hK
    have HK := Lib.hid hK
    clear hK
    go_simp
    exact HK.out _ _ ⟨Below.refl _ _, rfl⟩
  refine FlowSteps.stepIf (Op.load 36 (Operand.tmp 64)) 36 59 false (by kernel_rfl) (by kernel_rfl) (by kernel_rfl) (fun v w h => h) (fun a w F => ?_) ?_
  · have e : a.tmps[64]?.getD undef = .pointer (some ⟨bb, off + j * 3 + 2, none⟩) := F.dep 41 64 (by kernel_rfl) (by kernel_rfl)
    have kk : w.cell? ⟨bb, off + j * 3 + 2, none⟩ = some _ := keeps_of_below F.bw _ _ HC.c2
    have ka := HC.at_.keep (keeps_of_below F.bw)
    clear F
    rintro ⟨dst, op, ty, pos, af, gd⟩ rfl K Q' hK
    have HK := Lib.hid hK
    have KA := Lib.hid ka
    clear hK ka
    go_simp
    exact HK.out _ _ ⟨Below.refl _ _, KA.out⟩
  refine FlowSteps.stepIf (Op.move (Operand.tmp 1)) 36 59 false (by kernel_rfl) (by kernel_rfl) (by kernel_rfl) (fun v w h => h) (fun a w F => ?_) ?_
  · have e := (F.old 1 (by kernel_rfl)).trans h1
    clear F
    rintro ⟨dst, op, ty, pos, af, gd⟩ rfl K Q' hK
    have HK := Lib.hid hK
    clear hK
    go_simp
    exact HK.out _ _ ⟨Below.refl _ _, rfl⟩
  refine FlowSteps.stepIf (Op.move (Operand.tmp 6)) 36 59 false (by kernel_rfl) (by kernel_rfl) (by kernel_rfl) (fun v w h => h) (fun a w F => ?_) ?_
  · have e := (F.old 6 (by kernel_rfl)).trans h6
    clear F
    rintro ⟨dst, op, ty, pos, af, gd⟩ rfl K Q' hK
    have HK := Lib.hid hK
    clear hK
    go_simp
    exact HK.out _ _ ⟨Below.refl _ _, rfl⟩
  refine FlowSteps.stepIf (Op.indexAddr 36 (Operand.tmp 66) (Operand.tmp 67)) 36 59 false (by kernel_rfl) (by kernel_rfl) (by kernel_rfl) (fun v w h => h) (fun a w F => ?_) ?_
  · have e0 : a.tmps[66]?.getD undef = .slice (some ⟨bb2, off2, none⟩) n c2 := F.dep 43 66 (by kernel_rfl) (by kernel_rfl)
    have e1 : a.tmps[67]?.getD undef = .int .i64 j := F.dep 44 67 (by kernel_rfl) (by kernel_rfl)
    have hj1 : (0 : Int) ≤ (j : Int) := by omega
    have hj2 : (j : Int) < (n : Int) := by omega
    have hj3 : ((j : Int)).toNat = j := by omega
    clear F
    rintro ⟨dst, op, ty, pos, af, gd⟩ rfl K Q' hK
    have HK := Lib.hid hK
    clear hK
    go_simp
    exact HK.out _ _ ⟨Below.refl _ _, rfl⟩
  refine FlowSteps.stepIf (Op.fieldAddr 38 (Operand.tmp 68) 2) 36 59 false (by kernel_rfl) (by kernel_rfl) (by kernel_rfl) (fun v w h => h) (fun a w F => ?_) ?_
  · have e0 : a.tmps[68]?.getD undef = .pointer (some ⟨bb2, off2 + j * 3, none⟩) := F.dep 45 68 (by kernel_rfl) (by kernel_rfl)
    clear F
    rintro ⟨dst, op, ty, pos, af, gd⟩ rfl K Q' hK
    have HK := Lib.hid hK
    clear hK
    go_simp
    exact HK.out _ _ ⟨Below.refl _ _, rfl⟩
  refine FlowSteps.stepIf (Op.load 36 (Operand.tmp 69)) 36 59 false (by kernel_rfl) (by kernel_rfl) (by kernel_rfl) (fun v w h => h) (fun a w F => ?_) ?_
  · have e : a.tmps[69]?.getD undef = .pointer (some ⟨bb2, off2 + j * 3 + 2, none⟩) := F.dep 46 69 (by kernel_rfl) (by kernel_rfl)
    have kk : w.cell? ⟨bb2, off2 + j * 3 + 2, none⟩ = some _ := keeps_of_below F.bw _ _ HD.c2
    have ka := HD.at_.keep (keeps_of_below F.bw)
    clear F
    rintro ⟨dst, op, ty, pos, af, gd⟩ rfl K Q' hK
    have HK := Lib.hid hK
    have KA := Lib.hid ka
    clear hK ka
    go_simp
    exact HK.out _ _ ⟨Below.refl _ _, KA.out⟩
  refine FlowSteps.stepIf (Op.call { callee := Callee.value (Operand.tmp 60), args := #[Operand.tmp 65, Operand.tmp 70], argTypes := #[36, 36] }) 36 59 false (by kernel_rfl) (by kernel_rfl) (by kernel_rfl) (fun v w h => h) (fun a w F => ?_) ?_
  · have e : a.tmps[60]?.getD undef = .func (.func 14) #[] #[one B] := F.dep 37 60 (by kernel_rfl) (by kernel_rfl)
    have dx : TmsAt w ts (a.tmps[65]?.getD undef) := F.dep 42 65 (by kernel_rfl) (by kernel_rfl)
    obtain ⟨a1, c1, ex, -⟩ := At.sl_inv dx
    rw [ex] at dx
    have dy : TmsAt w as2 (a.tmps[70]?.getD undef) := F.dep 47 70 (by kernel_rfl) (by kernel_rfl)
    obtain ⟨a2, c4, ey, -⟩ := At.sl_inv dy
    rw [ey] at dy
    have CA := Lib.hid (HT w _ _ _ _ _ _ (kc F.bw HB) dx dy)
    clear F dx dy
    rintro ⟨dst, op, ty, pos, af, gd⟩ rfl K Q' hK
    have HK := Lib.hid hK
    clear hK
    go_simp
    go_at_call 14
    refine CA.out.mono ?_
    rintro e w1 ⟨rfl, hb⟩
    exact HK.out _ _ ⟨hb, rfl⟩
  refine FlowSteps.stepIf (Op.unOp UnOp.not 4 (Operand.tmp 71)) 36 59 false (by kernel_rfl) (by kernel_rfl) (by kernel_rfl) (fun v w h => h) (fun a w F => ?_) ?_
  · have e0 : a.tmps[71]?.getD undef = .bool true := F.dep 48 71 (by kernel_rfl) (by kernel_rfl)
    clear F
    rintro ⟨dst, op, ty, pos, af, gd⟩ rfl K Q' hK
    have HK := Lib.hid hK
    clear hK
    go_simp
    exact HK.out _ _ ⟨Below.refl _ _, rfl⟩
  refine FlowSteps.step (Op.pick (Operand.tmp 59) (Operand.const (Value.bool true)) (Operand.tmp 72)) (by kernel_rfl) (fun a w F => ?_) ?_
  · have e0 : a.tmps[59]?.getD undef = .bool false := F.dep 36 59 (by kernel_rfl) (by kernel_rfl)
    have e1 : a.tmps[72]?.getD undef = .bool false := F.dep 49 72 (by kernel_rfl) (by kernel_rfl)
    clear F
    rintro ⟨dst, op, ty, pos, af, gd⟩ rfl K Q' hK
    have HK := Lib.hid hK
    clear hK
    go_simp
    exact HK.out _ _ ⟨Below.refl _ _, rfl⟩
  exact FlowSteps.nil
def ogCR (nm : Bs) (ts : List Tm) (hr : Bs) (as2 : List Tm) (bb off c bb2 off2 c2 j n B : Nat) : List (Value → World → Prop) := [isV (.slice (some ⟨bb, off, none⟩) n c),
  isV (.int .i64 j),
  isV (.pointer (some ⟨bb, off + j * 3, none⟩)),
  isV (.pointer (some ⟨bb, off + j * 3, none⟩)),
  isV (.bool true),
  isV (.slice (some ⟨bb2, off2, none⟩) n c2),
  isV (.int .i64 j),
  isV (.pointer (some ⟨bb2, off2 + j * 3, none⟩)),
  isV (.pointer (some ⟨bb2, off2 + j * 3, none⟩)),
  isV (.bool true),
  isV (.bool false),
  isV (.bool false),
  isV (.slice (some ⟨bb2, off2, none⟩) n c2),
  isV (.int .i64 j),
  isV (.pointer (some ⟨bb2, off2 + j * 3, none⟩)),
  isV (.pointer (some ⟨bb2, off2 + j * 3 + 1, none⟩)),
  isV (str (120 :: hr)),
  isV (.int .u8 120),
  isV (.string ⟨#[117, 120]⟩),
  isV (.int .u8 117),
  isV (.bool true),
  isV (.bool true),
  isV (.slice (some ⟨bb2, off2, none⟩) n c2),
  isV (.int .i64 j),
  isV (.pointer (some ⟨bb2, off2 + j * 3, none⟩)),
  isV (.pointer (some ⟨bb2, off2 + j * 3 + 1, none⟩)),
  isV (str (120 :: hr)),
  isV (.int .u8 120),
  isV (.string ⟨#[117, 120]⟩),
  isV (.string ⟨#[117, 120]⟩),
  isV (.int .i64 2),
  isV (.int .i64 1),
  isV (.int .u8 120),
  isV (.bool false),
  isV (.bool false),
  isV (.bool false),
  isV (.bool false),
  isV (.func (.func 14) #[] #[one B]),
  isV (.slice (some ⟨bb, off, none⟩) n c),
  isV (.int .i64 j),
  isV (.pointer (some ⟨bb, off + j * 3, none⟩)),
  isV (.pointer (some ⟨bb, off + j * 3 + 2, none⟩)),
  tsP ts,
  isV (.slice (some ⟨bb2, off2, none⟩) n c2),
  isV (.int .i64 j),
  isV (.pointer (some ⟨bb2, off2 + j * 3, none⟩)),
  isV (.pointer (some ⟨bb2, off2 + j * 3 + 2, none⟩)),
  tsP as2,
  isV (.bool true),
  isV (.bool false),
  isV (.bool false)]
theorem ogC_stays (nm : Bs) (ts : List Tm) (hr : Bs) (as2 : List Tm) (bb off c bb2 off2 c2 j n B : Nat) : ∀ r ∈ ogCR nm ts hr as2 bb off c bb2 off2 c2 j n B, Stays r := by
  unfold ogCR
  simp only [List.forall_mem_cons]
  exact ⟨isV_stays _, isV_stays _, isV_stays _, isV_stays _, isV_stays _, isV_stays _, isV_stays _, isV_stays _, isV_stays _, isV_stays _, isV_stays _, isV_stays _, isV_stays _, isV_stays _, isV_stays _, isV_stays _, isV_stays _, isV_stays _, isV_stays _, isV_stays _, isV_stays _, isV_stays _, isV_stays _, isV_stays _, isV_stays _, isV_stays _, isV_stays _, isV_stays _, isV_stays _, isV_stays _, isV_stays _, isV_stays _, isV_stays _, isV_stays _, isV_stays _, isV_stays _, isV_stays _, isV_stays _, isV_stays _, isV_stays _, isV_stays _, isV_stays _, tsP_stays _, isV_stays _, isV_stays _, isV_stays _, isV_stays _, tsP_stays _, isV_stays _, isV_stays _, isV_stays _, fun r h => by cases h⟩
set_option maxHeartbeats 4000000 in
theorem ogC_steps (nm : Bs) (ts : List Tm) (hr : Bs) (as2 : List Tm) (bb off c bb2 off2 c2 j n B : Nat) (Q : Exit → Act → World → Prop) (W : World) (a0 : Act) (h0 : a0.tmps.getD 0 undef = .slice (some ⟨bb, off, none⟩) n c) (h1 : a0.tmps.getD 1 undef = .slice (some ⟨bb2, off2, none⟩) n c2) (h2 : a0.tmps.getD 2 undef = one B) (h6 : a0.tmps.getD 6 undef = .int .i64 j) (h7 : a0.tmps.getD 7 undef = .string ⟨#[117, 120]⟩) (hj : j < n) {x : Option Addr} {k e : Nat} (HC : TmCells W bb (off + j * 3) (.mk true nm ts) x k e) {x2 : Option Addr} {k2 e2 : Nat} (HD : TmCells W bb2 (off2 + j * 3) (.mk true (120 :: hr) as2) x2 k2 e2) (HB : W.heap[B]? = some (.cells #[.func (.func 14) #[] #[one B]] 35 (0, 0))) (HT : ∀ w a n c a2 n2 c2, w.heap[B]? = some (.cells #[.func (.func 14) #[] #[one B]] 35 (0, 0)) → TmsAt w ts (.slice a n c) → TmsAt w as2 (.slice a2 n2 c2) → Calls Tryz.prog 14 #[.slice a n c, .slice a2 n2 c2, one B] w fun e w' => e = .returned (.bool true) ∧ Below w.heap.size w w') : FlowSteps Tryz.prog og9 Q W a0 (rAt (ogCR nm ts hr as2 bb off c bb2 off2 c2 j n B)) [0, 1, 2, 3, 4, 5, 6, 7, 8, 9, 10, 11, 12, 13, 14, 15, 16, 17, 18, 19, 20, 21, 22, 23, 24, 25, 26, 27, 28, 29, 30, 31, 32, 33, 34, 35, 36, 37, 38, 39, 40, 41, 42, 43, 44, 45, 46, 47, 48, 49, 50] := by
  refine FlowSteps.step (Op.move (Operand.tmp 0)) (by kernel_rfl) (fun a w F => ?_) ?_
  · have e := (F.old 0 (by kernel_rfl)).trans h0
    clear F
    rintro ⟨dst, op, ty, pos, af, gd⟩ rfl K Q' hK
    have HK := Lib.hid hK
    clear hK
    go_simp
    exact HK.out _ _ ⟨Below.refl _ _, rfl⟩
  refine FlowSteps.step (Op.move (Operand.tmp 6)) (by kernel_rfl) (fun a w F => ?_) ?_
  · have e := (F.old 6 (by kernel_rfl)).trans h6
    clear F
    rintro ⟨dst, op, ty, pos, af, gd⟩ rfl K Q' hK
    have HK := Lib.hid hK
    clear hK
    go_simp
    exact HK.out _ _ ⟨Below.refl _ _, rfl⟩
  refine FlowSteps.step (Op.indexAddr 36 (Operand.tmp 23) (Operand.tmp 24)) (by kernel_rfl) (fun a w F => ?_) ?_
  · have e0 : a.tmps[23]?.getD undef = .slice (some ⟨bb, off, none⟩) n c := F.dep 0 23 (by kernel_rfl) (by kernel_rfl)
    have e1 : a.tmps[24]?.getD undef = .int .i64 j := F.dep 1 24 (by kernel_rfl) (by kernel_rfl)
    have hj1 : (0 : Int) ≤ (j : Int) := by omega
    have hj2 : (j : Int) < (n : Int) := by omega
    have hj3 : ((j : Int)).toNat = j := by omega
    clear F
    rintro ⟨dst, op, ty, pos, af, gd⟩ rfl K Q' hK
    have HK := Lib.hid hK
    clear hK
    go_simp
    exact HK.out _ _ ⟨Below.refl _ _, rfl⟩
  refine FlowSteps.step (Op.fieldAddr 38 (Operand.tmp 25) 0) (by kernel_rfl) (fun a w F => ?_) ?_
  · have e0 : a.tmps[25]?.getD undef = .pointer (some ⟨bb, off + j * 3, none⟩) := F.dep 2 25 (by kernel_rfl) (by kernel_rfl)
    clear F
    rintro ⟨dst, op, ty, pos, af, gd⟩ rfl K Q' hK
    have HK := Lib.hid hK
    clear hK
    go_simp
    exact HK.out _ _ ⟨Below.refl _ _, rfl⟩
  refine FlowSteps.step (Op.load 4 (Operand.tmp 26)) (by kernel_rfl) (fun a w F => ?_) ?_
  · have e0 : a.tmps[26]?.getD undef = .pointer (some ⟨bb, off + j * 3, none⟩) := F.dep 3 26 (by kernel_rfl) (by kernel_rfl)
    have kk : w.cell? ⟨bb, off + j * 3, none⟩ = some (.bool true) := keeps_of_below F.bw _ _ HC.c0
    clear F
    rintro ⟨dst, op, ty, pos, af, gd⟩ rfl K Q' hK
    have HK := Lib.hid hK
    clear hK
    go_simp
    exact HK.out _ _ ⟨Below.refl _ _, rfl⟩
  refine FlowSteps.step (Op.move (Operand.tmp 1)) (by kernel_rfl) (fun a w F => ?_) ?_
  · have e := (F.old 1 (by kernel_rfl)).trans h1
    clear F
    rintro ⟨dst, op, ty, pos, af, gd⟩ rfl K Q' hK
    have HK := Lib.hid hK
    clear hK
    go_simp
    exact HK.out _ _ ⟨Below.refl _ _, rfl⟩
  refine FlowSteps.step (Op.move (Operand.tmp 6)) (by kernel_rfl) (fun a w F => ?_) ?_
  · have e := (F.old 6 (by kernel_rfl)).trans h6
    clear F
    rintro ⟨dst, op, ty, pos, af, gd⟩ rfl K Q' hK
    have HK := Lib.hid hK
    clear hK
    go_simp
    exact HK.out _ _ ⟨Below.refl _ _, rfl⟩
  refine FlowSteps.step (Op.indexAddr 36 (Operand.tmp 28) (Operand.tmp 29)) (by kernel_rfl) (fun a w F => ?_) ?_
  · have e0 : a.tmps[28]?.getD undef = .slice (some ⟨bb2, off2, none⟩) n c2 := F.dep 5 28 (by kernel_rfl) (by kernel_rfl)
    have e1 : a.tmps[29]?.getD undef = .int .i64 j := F.dep 6 29 (by kernel_rfl) (by kernel_rfl)
    have hj1 : (0 : Int) ≤ (j : Int) := by omega
    have hj2 : (j : Int) < (n : Int) := by omega
    have hj3 : ((j : Int)).toNat = j := by omega
    clear F
    rintro ⟨dst, op, ty, pos, af, gd⟩ rfl K Q' hK
    have HK := Lib.hid hK
    clear hK
    go_simp
    exact HK.out _ _ ⟨Below.refl _ _, rfl⟩
  refine FlowSteps.step (Op.fieldAddr 38 (Operand.tmp 30) 0) (by kernel_rfl) (fun a w F => ?_) ?_
  · have e0 : a.tmps[30]?.getD undef = .pointer (some ⟨bb2, off2 + j * 3, none⟩) := F.dep 7 30 (by kernel_rfl) (by kernel_rfl)
    clear F
    rintro ⟨dst, op, ty, pos, af, gd⟩ rfl K Q' hK
    have HK := Lib.hid hK
    clear hK
    go_simp
    exact HK.out _ _ ⟨Below.refl _ _, rfl⟩
  refine FlowSteps.step (Op.load 4 (Operand.tmp 31)) (by kernel_rfl) (fun a w F => ?_) ?_
  · have e0 : a.tmps[31]?.getD undef = .pointer (some ⟨bb2, off2 + j * 3, none⟩) := F.dep 8 31 (by kernel_rfl) (by kernel_rfl)
    have kk : w.cell? ⟨bb2, off2 + j * 3, none⟩ = some (.bool true) := keeps_of_below F.bw _ _ HD.c0
    clear F
    rintro ⟨dst, op, ty, pos, af, gd⟩ rfl K Q' hK
    have HK := Lib.hid hK
    clear hK
    go_simp
    exact HK.out _ _ ⟨Below.refl _ _, rfl⟩
  refine FlowSteps.step (Op.binOp BinOp.neq 4 (Operand.tmp 27) (Operand.tmp 32) 4) (by kernel_rfl) (fun a w F => ?_) ?_
  · have e0 : a.tmps[27]?.getD undef = .bool true := F.dep 4 27 (by kernel_rfl) (by kernel_rfl)
    have e1 : a.tmps[32]?.getD undef = .bool true := F.dep 9 32 (by kernel_rfl) (by kernel_rfl)
    clear F
    rintro ⟨dst, op, ty, pos, af, gd⟩ rfl K Q' hK
    have HK := Lib.hid hK
    clear hK
    go_simp
    exact HK.out _ _ ⟨Below.refl _ _, rfl⟩
  refine FlowSteps.step (Op.move (Operand.tmp 33)) (by kernel_rfl) (fun a w F => ?_) ?_
  · have e0 : a.tmps[33]?.getD undef = .bool false := F.dep 10 33 (by kernel_rfl) (by kernel_rfl)
    clear F
    rintro ⟨dst, op, ty, pos, af, gd⟩ rfl K Q' hK
    have HK := Lib.hid hK
    clear hK
    go_simp
    exact HK.out _ _ ⟨Below.refl _ _, rfl⟩
  refine FlowSteps.stepIf (Op.move (Operand.tmp 1)) 11 34 false (by kernel_rfl) (by kernel_rfl) (by kernel_rfl) (fun v w h => h) (fun a w F => ?_) ?_
  · have e := (F.old 1 (by kernel_rfl)).trans h1
    clear F
    rintro ⟨dst, op, ty, pos, af, gd⟩ rfl K Q' hK
    have HK := Lib.hid hK
    clear hK
    go_simp
    exact HK.out _ _ ⟨Below.refl _ _, rfl⟩
  refine FlowSteps.stepIf (Op.move (Operand.tmp 6)) 11 34 false (by kernel_rfl) (by kernel_rfl) (by kernel_rfl) (fun v w h => h) (fun a w F => ?_) ?_
  · have e := (F.old 6 (by kernel_rfl)).trans h6
    clear F
    rintro ⟨dst, op, ty, pos, af, gd⟩ rfl K Q' hK
    have HK := Lib.hid hK
    clear hK
    go_simp
    exact HK.out _ _ ⟨Below.refl _ _, rfl⟩
  refine FlowSteps.stepIf (Op.indexAddr 36 (Operand.tmp 35) (Operand.tmp 36)) 11 34 false (by kernel_rfl) (by kernel_rfl) (by kernel_rfl) (fun v w h => h) (fun a w F => ?_) ?_
  · have e0 : a.tmps[35]?.getD undef = .slice (some ⟨bb2, off2, none⟩) n c2 := F.dep 12 35 (by kernel_rfl) (by kernel_rfl)
    have e1 : a.tmps[36]?.getD undef = .int .i64 j := F.dep 13 36 (by kernel_rfl) (by kernel_rfl)
    have hj1 : (0 : Int) ≤ (j : Int) := by omega
    have hj2 : (j : Int) < (n : Int) := by omega
    have hj3 : ((j : Int)).toNat = j := by omega
    clear F
    rintro ⟨dst, op, ty, pos, af, gd⟩ rfl K Q' hK
    have HK := Lib.hid hK
    clear hK
    go_simp
    exact HK.out _ _ ⟨Below.refl _ _, rfl⟩
  refine FlowSteps.stepIf (Op.fieldAddr 38 (Operand.tmp 37) 1) 11 34 false (by kernel_rfl) (by kernel_rfl) (by kernel_rfl) (fun v w h => h) (fun a w F => ?_) ?_
  · have e0 : a.tmps[37]?.getD undef = .pointer (some ⟨bb2, off2 + j * 3, none⟩) := F.dep 14 37 (by kernel_rfl) (by kernel_rfl)
    clear F
    rintro ⟨dst, op, ty, pos, af, gd⟩ rfl K Q' hK
    have HK := Lib.hid hK
    clear hK
    go_simp
    exact HK.out _ _ ⟨Below.refl _ _, rfl⟩
  refine FlowSteps.stepIf (Op.load 9 (Operand.tmp 38)) 11 34 false (by kernel_rfl) (by kernel_rfl) (by kernel_rfl) (fun v w h => h) (fun a w F => ?_) ?_
  · have e0 : a.tmps[38]?.getD undef = .pointer (some ⟨bb2, off2 + j * 3 + 1, none⟩) := F.dep 15 38 (by kernel_rfl) (by kernel_rfl)
    have kk : w.cell? ⟨bb2, off2 + j * 3 + 1, none⟩ = some (str (120 :: hr)) := keeps_of_below F.bw _ _ HD.c1
    clear F
    rintro ⟨dst, op, ty, pos, af, gd⟩ rfl K Q' hK
    have HK := Lib.hid hK
    clear hK
    go_simp
    exact HK.out _ _ ⟨Below.refl _ _, rfl⟩
  refine FlowSteps.stepIf (Op.index 9 (Operand.tmp 39) (Operand.const (Value.int IntKind.i64 0))) 11 34 false (by kernel_rfl) (by kernel_rfl) (by kernel_rfl) (fun v w h => h) (fun a w F => ?_) ?_
  · have e0 : a.tmps[39]?.getD undef = str (120 :: hr) := F.dep 16 39 (by kernel_rfl) (by kernel_rfl)
    clear F
    rintro ⟨dst, op, ty, pos, af, gd⟩ rfl K Q' hK
    have HK := Lib.hid hK
    clear hK
    go_simp
    exact HK.out _ _ ⟨Below.refl _ _, rfl⟩
  refine FlowSteps.stepIf (Op.move (Operand.tmp 7)) 11 34 false (by kernel_rfl) (by kernel_rfl) (by kernel_rfl) (fun v w h => h) (fun a w F => ?_) ?_
  · have e := (F.old 7 (by kernel_rfl)).trans h7
    clear F
    rintro ⟨dst, op, ty, pos, af, gd⟩ rfl K Q' hK
    have HK := Lib.hid hK
    clear hK
    go_simp
    exact HK.out _ _ ⟨Below.refl _ _, rfl⟩
  refine FlowSteps.stepIf (Op.index 9 (Operand.tmp 41) (Operand.const (Value.int IntKind.i64 0))) 11 34 false (by kernel_rfl) (by kernel_rfl) (by kernel_rfl) (fun v w h => h) (fun a w F => ?_) ?_
  · have e0 : a.tmps[41]?.getD undef = .string ⟨#[117, 120]⟩ := F.dep 18 41 (by kernel_rfl) (by kernel_rfl)
    clear F
    rintro ⟨dst, op, ty, pos, af, gd⟩ rfl K Q' hK
    have HK := Lib.hid hK
    clear hK
    go_simp
    exact HK.out _ _ ⟨Below.refl _ _, rfl⟩
  refine FlowSteps.stepIf (Op.binOp BinOp.neq 5 (Operand.tmp 40) (Operand.tmp 42) 5) 11 34 false (by kernel_rfl) (by kernel_rfl) (by kernel_rfl) (fun v w h => h) (fun a w F => ?_) ?_
  · have e0 : a.tmps[40]?.getD undef = .int .u8 120 := F.dep 17 40 (by kernel_rfl) (by kernel_rfl)
    have e1 : a.tmps[42]?.getD undef = .int .u8 117 := F.dep 19 42 (by kernel_rfl) (by kernel_rfl)
    clear F
    rintro ⟨dst, op, ty, pos, af, gd⟩ rfl K Q' hK
    have HK := Lib.hid hK
    clear hK
    go_simp
    exact HK.out _ _ ⟨Below.refl _ _, rfl⟩
  refine FlowSteps.stepIf (Op.move (Operand.tmp 43)) 11 34 false (by kernel_rfl) (by kernel_rfl) (by kernel_rfl) (fun v w h => h) (fun a w F => ?_) ?_
  · have e0 : a.tmps[43]?.getD undef = .bool true := F.dep 20 43 (by kernel_rfl) (by kernel_rfl)
    clear F
    rintro ⟨dst, op, ty, pos, af, gd⟩ rfl K Q' hK
    have HK := Lib.hid hK
    clear hK
    go_simp
    exact HK.out _ _ ⟨Below.refl _ _, rfl⟩
  refine FlowSteps.stepIf (Op.move (Operand.tmp 1)) 21 44 true (by kernel_rfl) (by kernel_rfl) (by kernel_rfl) (fun v w h => h) (fun a w F => ?_) ?_
  · have e := (F.old 1 (by kernel_rfl)).trans h1
    clear F
    rintro ⟨dst, op, ty, pos, af, gd⟩ rfl K Q' hK
    have HK := Lib.hid hK
    clear hK
    go_simp
    exact HK.out _ _ ⟨Below.refl _ _, rfl⟩
  refine FlowSteps.stepIf (Op.move (Operand.tmp 6)) 21 44 true (by kernel_rfl) (by kernel_rfl) (by kernel_rfl) (fun v w h => h) (fun a w F => ?_) ?_
  · have e := (F.old 6 (by kernel_rfl)).trans h6
    clear F
    rintro ⟨dst, op, ty, pos, af, gd⟩ rfl K Q' hK
    have HK := Lib.hid hK
    clear hK
    go_simp
    exact HK.out _ _ ⟨Below.refl _ _, rfl⟩
  refine FlowSteps.stepIf (Op.indexAddr 36 (Operand.tmp 45) (Operand.tmp 46)) 21 44 true (by kernel_rfl) (by kernel_rfl) (by kernel_rfl) (fun v w h => h) (fun a w F => ?_) ?_
  · have e0 : a.tmps[45]?.getD undef = .slice (some ⟨bb2, off2, none⟩) n c2 := F.dep 22 45 (by kernel_rfl) (by kernel_rfl)
    have e1 : a.tmps[46]?.getD undef = .int .i64 j := F.dep 23 46 (by kernel_rfl) (by kernel_rfl)
    have hj1 : (0 : Int) ≤ (j : Int) := by omega
    have hj2 : (j : Int) < (n : Int) := by omega
    have hj3 : ((j : Int)).toNat = j := by omega
    clear F
    rintro ⟨dst, op, ty, pos, af, gd⟩ rfl K Q' hK
    have HK := Lib.hid hK
    clear hK
    go_simp
    exact HK.out _ _ ⟨Below.refl _ _, rfl⟩
  refine FlowSteps.stepIf (Op.fieldAddr 38 (Operand.tmp 47) 1) 21 44 true (by kernel_rfl) (by kernel_rfl) (by kernel_rfl) (fun v w h => h) (fun a w F => ?_) ?_
  · have e0 : a.tmps[47]?.getD undef = .pointer (some ⟨bb2, off2 + j * 3, none⟩) := F.dep 24 47 (by kernel_rfl) (by kernel_rfl)
    clear F
    rintro ⟨dst, op, ty, pos, af, gd⟩ rfl K Q' hK
    have HK := Lib.hid hK
    clear hK
    go_simp
    exact HK.out _ _ ⟨Below.refl _ _, rfl⟩
  refine FlowSteps.stepIf (Op.load 9 (Operand.tmp 48)) 21 44 true (by kernel_rfl) (by kernel_rfl) (by kernel_rfl) (fun v w h => h) (fun a w F => ?_) ?_
  · have e0 : a.tmps[48]?.getD undef = .pointer (some ⟨bb2, off2 + j * 3 + 1, none⟩) := F.dep 25 48 (by kernel_rfl) (by kernel_rfl)
    have kk : w.cell? ⟨bb2, off2 + j * 3 + 1, none⟩ = some (str (120 :: hr)) := keeps_of_below F.bw _ _ HD.c1
    clear F
    rintro ⟨dst, op, ty, pos, af, gd⟩ rfl K Q' hK
    have HK := Lib.hid hK
    clear hK
    go_simp
    exact HK.out _ _ ⟨Below.refl _ _, rfl⟩
  refine FlowSteps.stepIf (Op.index 9 (Operand.tmp 49) (Operand.const (Value.int IntKind.i64 0))) 21 44 true (by kernel_rfl) (by kernel_rfl) (by kernel_rfl) (fun v w h => h) (fun a w F => ?_) ?_
  · have e0 : a.tmps[49]?.getD undef = str (120 :: hr) := F.dep 26 49 (by kernel_rfl) (by kernel_rfl)
    clear F
    rintro ⟨dst, op, ty, pos, af, gd⟩ rfl K Q' hK
    have HK := Lib.hid hK
    clear hK
    go_simp
    exact HK.out _ _ ⟨Below.refl _ _, rfl⟩
  refine FlowSteps.stepIf (Op.move (Operand.tmp 7)) 21 44 true (by kernel_rfl) (by kernel_rfl) (by kernel_rfl) (fun v w h => h) (fun a w F => ?_) ?_
  · have e := (F.old 7 (by kernel_rfl)).trans h7
    clear F
    rintro ⟨dst, op, ty, pos, af, gd⟩ rfl K Q' hK
    have HK := Lib.hid hK
    clear hK
    go_simp
    exact HK.out _ _ ⟨Below.refl _ _, rfl⟩
  refine FlowSteps.stepIf (Op.move (Operand.tmp 7)) 21 44 true (by kernel_rfl) (by kernel_rfl) (by kernel_rfl) (fun v w h => h) (fun a w F => ?_) ?_
  · have e := (F.old 7 (by kernel_rfl)).trans h7
    clear F
    rintro ⟨dst, op, ty, pos, af, gd⟩ rfl K Q' hK
    have HK := Lib.hid hK
    clear hK
    go_simp
    exact HK.out _ _ ⟨Below.refl _ _, rfl⟩
  refine FlowSteps.stepIf (Op.call { callee := Callee.builtin Builtin.len, args := #[Operand.tmp 52], argTypes := #[9] }) 21 44 true (by kernel_rfl) (by kernel_rfl) (by kernel_rfl) (fun v w h => h) (fun a w F => ?_) ?_
  · have e0 : a.tmps[52]?.getD undef = .string ⟨#[117, 120]⟩ := F.dep 29 52 (by kernel_rfl) (by kernel_rfl)
    clear F
    rintro ⟨dst, op, ty, pos, af, gd⟩ rfl K Q' hK
    have HK := Lib.hid hK
    clear hK
    go_simp
    exact HK.out _ _ ⟨Below.refl _ _, rfl⟩
  refine FlowSteps.stepIf (Op.binOp BinOp.sub 3 (Operand.tmp 53) (Operand.const (Value.int IntKind.i64 1)) 3) 21 44 true (by kernel_rfl) (by kernel_rfl) (by kernel_rfl) (fun v w h => h) (fun a w F => ?_) ?_
  · have e0 : a.tmps[53]?.getD undef = .int .i64 2 := F.dep 30 53 (by kernel_rfl) (by kernel_rfl)
    clear F
    rintro ⟨dst, op, ty, pos, af, gd⟩ rfl K Q' hK
    have HK := Lib.hid hK
    clear hK
    go_simp
    exact HK.out _ _ ⟨Below.refl _ _, rfl⟩
  refine FlowSteps.stepIf (Op.index 9 (Operand.tmp 51) (Operand.tmp 54)) 21 44 true (by kernel_rfl) (by kernel_rfl) (by kernel_rfl) (fun v w h => h) (fun a w F => ?_) ?_
  · have e0 : a.tmps[51]?.getD undef = .string ⟨#[117, 120]⟩ := F.dep 28 51 (by kernel_rfl) (by kernel_rfl)
    have e1 : a.tmps[54]?.getD undef = .int .i64 1 := F.dep 31 54 (by kernel_rfl) (by kernel_rfl)
    clear F
    rintro ⟨dst, op, ty, pos, af, gd⟩ rfl K Q' hK
    have HK := Lib.hid hK
    clear hK
    go_simp
    exact HK.out _ _ ⟨Below.refl _ _, rfl⟩
  refine FlowSteps.stepIf (Op.binOp BinOp.neq 5 (Operand.tmp 50) (Operand.tmp 55) 5) 21 44 true (by kernel_rfl) (by kernel_rfl) (by kernel_rfl) (fun v w h => h) (fun a w F => ?_) ?_
  · have e0 : a.tmps[50]?.getD undef = .int .u8 120 := F.dep 27 50 (by kernel_rfl) (by kernel_rfl)
    have e1 : a.tmps[55]?.getD undef = .int .u8 120 := F.dep 32 55 (by kernel_rfl) (by kernel_rfl)
    clear F
    rintro ⟨dst, op, ty, pos, af, gd⟩ rfl K Q' hK
    have HK := Lib.hid hK
    clear hK
    go_simp
    exact HK.out _ _ ⟨Below.refl _ _, rfl⟩
  refine FlowSteps.stepIf (Op.pick (Operand.tmp 44) (Operand.tmp 56) (Operand.const (Value.bool false))) 11 34 false (by kernel_rfl) (by kernel_rfl) (by kernel_rfl) (fun v w h => h) (fun a w F => ?_) ?_
  · have e0 : a.tmps[44]?.getD undef = .bool true := F.dep 21 44 (by kernel_rfl) (by kernel_rfl)
    have e1 : a.tmps[56]?.getD undef = .bool false := F.dep 33 56 (by kernel_rfl) (by kernel_rfl)
    clear F
    rintro ⟨dst, op, ty, pos, af, gd⟩ rfl K Q' hK
    have HK := Lib.hid hK
    clear hK
    go_simp
    exact HK.out _ _ ⟨Below.refl _ _, rfl⟩
  refine FlowSteps.step (Op.pick (Operand.tmp 34) (Operand.const (Value.bool true)) (Operand.tmp 57)) (by kernel_rfl) (fun a w F => ?_) ?_
  · have e0 : a.tmps[34]?.getD undef = .bool false := F.dep 11 34 (by kernel_rfl) (by kernel_rfl)
    have e1 : a.tmps[57]?.getD undef = .bool false := F.dep 34 57 (by kernel_rfl) (by kernel_rfl)
    clear F
    rintro ⟨dst, op, ty, pos, af, gd⟩ rfl K Q' hK
    have HK := Lib.hid hK
    clear hK
    go_simp
    exact HK.out _ _ ⟨Below.refl _ _, rfl⟩
  refine FlowSteps.step (Op.move (Operand.tmp 58)) (by kernel_rfl) (fun a w F => ?_) ?_
  · have e0 : a.tmps[58]?.getD undef = .bool false := F.dep 35 58 (by kernel_rfl) (by kernel_rfl)
    clear F
    rintro ⟨dst, op, ty, pos, af, gd⟩ rfl K Q' hK
    have HK := Lib.hid hK
    clear hK
    go_simp
    exact HK.out _ _ ⟨Below.refl _ _, rfl⟩
  refine FlowSteps.stepIf (Op.load 35 (Operand.tmp 2)) 36 59 false (by kernel_rfl) (by kernel_rfl) (by kernel_rfl) (fun v w h => h) (fun a w F => ?_) ?_
  · have e := (F.old 2 (by kernel_rfl)).trans h2
    have k0 := (box_cell (kc F.bw HB) 0).trans rfl
    clear F
    rintro ⟨dst, op, ty, pos, af, gd⟩ rfl K Q' hK
    have HK := Lib.hid hK
    clear hK
    go_simp
    exact HK.out _ _ ⟨Below.refl _ _, rfl⟩
  refine FlowSteps.stepIf (Op.move (Operand.tmp 0)) 36 59 false (by kernel_rfl) (by kernel_rfl) (by kernel_rfl) (fun v w h => h) (fun a w F => ?_) ?_
  · have e := (F.old 0 (by kernel_rfl)).trans h0
    clear F
    rintro ⟨dst, op, ty, pos, af, gd⟩ rfl K Q' hK
    have HK := Lib.hid hK
    clear hK
    go_simp
    exact HK.out _ _ ⟨Below.refl _ _, rfl⟩
  refine FlowSteps.stepIf (Op.move (Operand.tmp 6)) 36 59 false (by kernel_rfl) (by kernel_rfl) (by kernel_rfl) (fun v w h => h) (fun a w F => ?_) ?_
  · have e := (F.old 6 (by kernel_rfl)).trans h6
    clear F
    rintro ⟨dst, op, ty, pos, af, gd⟩ rfl K Q' hK
    have HK := Lib.hid hK
    clear hK
    go_simp
    exact HK.out _ _ ⟨Below.refl _ _, rfl⟩
  refine FlowSteps.stepIf (Op.indexAddr 36 (Operand.tmp 61) (Operand.tmp 62)) 36 59 false (by kernel_rfl) (by kernel_rfl) (by kernel_rfl) (fun v w h => h) (fun a w F => ?_) ?_
  · have e0 : a.tmps[61]?.getD undef = .slice (some ⟨bb, off, none⟩) n c := F.dep 38 61 (by kernel_rfl) (by kernel_rfl)
    have e1 : a.tmps[62]?.getD undef = .int .i64 j := F.dep 39 62 (by kernel_rfl) (by kernel_rfl)
    have hj1 : (0 : Int) ≤ (j : Int) := by omega
    have hj2 : (j : Int) < (n : Int) := by omega
    have hj3 : ((j : Int)).toNat = j := by omega
    clear F
    rintro ⟨dst, op, ty, pos, af, gd⟩ rfl K Q' hK
    have HK := Lib.hid hK
    clear hK
    go_simp
    exact HK.out _ _ ⟨Below.refl _ _, rfl⟩
  refine FlowSteps.stepIf (Op.fieldAddr 38 (Operand.tmp 63) 2) 36 59 false (by kernel_rfl) (by kernel_rfl) (by kernel_rfl) (fun v w h => h) (fun a w F => ?_) ?_
  · have e0 : a.tmps[63]?.getD undef = .pointer (some ⟨bb, off + j * 3, none⟩) := F.dep 40 63 (by kernel_rfl) (by kernel_rfl)
    clear F
    rintro ⟨dst, op, ty, pos, af, gd⟩ rfl K Q' hK
    have HK := Lib.hid hK
    clear hK
    go_simp
    exact HK.out _ _ ⟨Below.refl _ _, rfl⟩
  refine FlowSteps.stepIf (Op.load 36 (Operand.tmp 64)) 36 59 false (by kernel_rfl) (by kernel_rfl) (by kernel_rfl) (fun v w h => h) (fun a w F => ?_) ?_
  · have e : a.tmps[64]?.getD undef = .pointer (some ⟨bb, off + j * 3 + 2, none⟩) := F.dep 41 64 (by kernel_rfl) (by kernel_rfl)
    have kk : w.cell? ⟨bb, off + j * 3 + 2, none⟩ = some _ := keeps_of_below F.bw _ _ HC.c2
    have ka := HC.at_.keep (keeps_of_below F.bw)
    clear F
    rintro ⟨dst, op, ty, pos, af, gd⟩ rfl K Q' hK
    have HK := Lib.hid hK
    have KA := Lib.hid ka
    clear hK ka
    go_simp
    exact HK.out _ _ ⟨Below.refl _ _, KA.out⟩
  refine FlowSteps.stepIf (Op.move (Operand.tmp 1)) 36 59 false (by kernel_rfl) (by kernel_rfl) (by kernel_rfl) (fun v w h => h) (fun a w F => ?_) ?_
  · have e := (F.old 1 (by kernel_rfl)).trans h1
    clear F
    rintro ⟨dst, op, ty, pos, af, gd⟩ rfl K Q' hK
    have HK := Lib.hid hK
    clear hK
    go_simp
    exact HK.out _ _ ⟨Below.refl _ _, rfl⟩
  refine FlowSteps.stepIf (Op.move (Operand.tmp 6)) 36 59 false (by kernel_rfl) (by kernel_rfl) (by kernel_rfl) (fun v w h => h) (fun a w F => ?_) ?_
  · have e := (F.old 6 (by kernel_rfl)).trans h6
    clear F
    rintro ⟨dst, op, ty, pos, af, gd⟩ rfl K Q' hK
    have HK := Lib.hid hK
    clear hK
    go_simp
    exact HK.out _ _ ⟨Below.refl _ _, rfl⟩
  refine FlowSteps.stepIf (Op.indexAddr 36 (Operand.tmp 66) (Operand.tmp 67)) 36 59 false (by kernel_rfl) (by kernel_rfl) (by kernel_rfl) (fun v w h => h) (fun a w F => ?_) ?_
  · have e0 : a.tmps[66]?.getD undef = .slice (some ⟨bb2, off2, none⟩) n c2 := F.dep 43 66 (by kernel_rfl) (by kernel_rfl)
    have e1 : a.tmps[67]?.getD undef = .int .i64 j := F.dep 44 67 (by kernel_rfl) (by kernel_rfl)
    have hj1 : (0 : Int) ≤ (j : Int) := by omega
    have hj2 : (j : Int) < (n : Int) := by omega
    have hj3 : ((j : Int)).toNat = j := by omega
    clear F
    rintro ⟨dst, op, ty, pos, af, gd⟩ rfl K Q' hK
    have HK := Lib.hid hK
    clear hK
    go_simp
    exact HK.out _ _ ⟨Below.refl _ _, rfl⟩
  refine FlowSteps.stepIf (Op.fieldAddr 38 (Operand.tmp 68) 2) 36 59 false (by kernel_rfl) (by kernel_rfl) (by kernel_rfl) (fun v w h => h) (fun a w F => ?_) ?_
  · have e0 : a.tmps[68]?.getD undef = .pointer (some ⟨bb2, off2 + j * 3, none⟩) := F.dep 45 68 (by kernel_rfl) (by kernel_rfl)
    clear F
    rintro ⟨dst, op, ty, pos, af, gd⟩ rfl K Q' hK
    have HK := Lib.hid hK
    clear hK
    go_simp
    exact HK.out _ _ ⟨Below.refl _ _, rfl⟩
  refine FlowSteps.stepIf (Op.load 36 (Operand.tmp 69)) 36 59 false (by kernel_rfl) (by kernel_rfl) (by kernel_rfl) (fun v w h => h) (fun a w F => ?_) ?_
  · have e : a.tmps[69]?.getD undef = .pointer (some ⟨bb2, off2 + j * 3 + 2, none⟩) := F.dep 46 69 (by kernel_rfl) (by kernel_rfl)
    have kk : w.cell? ⟨bb2, off2 + j * 3 + 2, none⟩ = some _ := keeps_of_below F.bw _ _ HD.c2
    have ka := HD.at_.keep (keeps_of_below F.bw)
    clear F
    rintro ⟨dst, op, ty, pos, af, gd⟩ rfl K Q' hK
    have HK := Lib.hid hK
    have KA := Lib.hid ka
    clear hK ka
    go_simp
    exact HK.out _ _ ⟨Below.refl _ _, KA.out⟩
  refine FlowSteps.stepIf (Op.call { callee := Callee.value (Operand.tmp 60), args := #[Operand.tmp 65, Operand.tmp 70], argTypes := #[36, 36] }) 36 59 false (by kernel_rfl) (by kernel_rfl) (by kernel_rfl) (fun v w h => h) (fun a w F => ?_) ?_
  · have e : a.tmps[60]?.getD undef = .func (.func 14) #[] #[one B] := F.dep 37 60 (by kernel_rfl) (by kernel_rfl)
    have dx : TmsAt w ts (a.tmps[65]?.getD undef) := F.dep 42 65 (by kernel_rfl) (by kernel_rfl)
    obtain ⟨a1, c1, ex, -⟩ := At.sl_inv dx
    rw [ex] at dx
    have dy : TmsAt w as2 (a.tmps[70]?.getD undef) := F.dep 47 70 (by kernel_rfl) (by kernel_rfl)
    obtain ⟨a2, c4, ey, -⟩ := At.sl_inv dy
    rw [ey] at dy
    have CA := Lib.hid (HT w _ _ _ _ _ _ (kc F.bw HB) dx dy)
    clear F dx dy
    rintro ⟨dst, op, ty, pos, af, gd⟩ rfl K Q' hK
    have HK := Lib.hid hK
    clear hK
    go_simp
    go_at_call 14
    refine CA.out.mono ?_
    rintro e w1 ⟨rfl, hb⟩
    exact HK.out _ _ ⟨hb, rfl⟩
  refine FlowSteps.stepIf (Op.unOp UnOp.not 4 (Operand.tmp 71)) 36 59 false (by kernel_rfl) (by kernel_rfl) (by kernel_rfl) (fun v w h => h) (fun a w F => ?_) ?_
  · have e0 : a.tmps[71]?.getD undef = .bool true := F.dep 48 71 (by kernel_rfl) (by kernel_rfl)
    clear F
    rintro ⟨dst, op, ty, pos, af, gd⟩ rfl K Q' hK
    have HK := Lib.hid hK
    clear hK
    go_simp
    exact HK.out _ _ ⟨Below.refl _ _, rfl⟩
  refine FlowSteps.step (Op.pick (Operand.tmp 59) (Operand.const (Value.bool true)) (Operand.tmp 72)) (by kernel_rfl) (fun a w F => ?_) ?_
  · have e0 : a.tmps[59]?.getD undef = .bool false := F.dep 36 59 (by kernel_rfl) (by kernel_rfl)
    have e1 : a.tmps[72]?.getD undef = .bool false := F.dep 49 72 (by kernel_rfl) (by kernel_rfl)
    clear F
    rintro ⟨dst, op, ty, pos, af, gd⟩ rfl K Q' hK
    have HK := Lib.hid hK
    clear hK
    go_simp
    exact HK.out _ _ ⟨Below.refl _ _, rfl⟩
  exact FlowSteps.nil
end Go.Proofs.YtppfalbnhnpbnaaGreatDoor
