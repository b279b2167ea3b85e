/- lyceumlaw30's sq and fs. Conditions: those of each statement. -/
import Derived.Test.YtppfalbnhnpbnaaGreatDoorChBZ
import Derived.Test.YtppfalbnhnpbnaaGreatDoorFlwZ
import Derived.Test.YtppfalbnhnpbnaaGreatDoorBuiltBZ
import Derived.Test.YtppfalbnhnpbnaaGreatDoorRnDZ
import Derived.Test.YtppfalbnhnpbnaaGreatDoorSameBZ
set_option linter.unusedSimpArgs false
set_option linter.unusedVariables false
namespace Go.Proofs.YtppfalbnhnpbnaaGreatDoor
open Go Go.RowKit Ly
set_option maxRecDepth 10000
theorem fs_c (v : Value) (w : World) : Calls Tryz.prog 21 #[v] w fun e w' => e = .returned v ∧ w' = w := by
  go_enter Tryz.func21, Tryz.ntmps21
  go_wp2
  go_ret
  exact ⟨rfl, rfl⟩
theorem sq_c (a b : Option Addr) (n c m d : Nat) (w : World) : Calls Tryz.prog 20 #[.slice a n c, .slice b m d] w fun e w' => e = .returned (.agg #[.slice a n c, .slice b m d]) ∧ Below w.heap.size w w' := by
  go_enter Tryz.func20, Tryz.ntmps20
  go_wp2
  refine bodyPost_ret (results_cell_row rfl _ _ w.heap.size 26 _ (0, 0) _ rfl (heap_alloc_new w _) Tryz.underlying26 rfl iSq) rfl ?_
  exact ⟨rfl, (Below.refl _ _).alloc (Nat.le_refl _) _⟩
end Go.Proofs.YtppfalbnhnpbnaaGreatDoor
namespace Go.Proofs.YtppfalbnhnpbnaaGreatDoor
open Go Go.RowKit Ly
set_option maxRecDepth 10000
def findReg (n : Nat) : Code → Option (Array Oper)
  | .region i ops _ => if i = n then some ops else none
  | .block _ c => findReg n c
  | .seq a b => match findReg n a with
    | some c => some c
    | none => findReg n b
  | .cond _ a b => match findReg n a with
    | some c => some c
    | none => findReg n b
  | .loop c => findReg n c
  | .scope c => findReg n c
  | _ => none
def fmP (f : Fm) : Value → World → Prop := fun v w => FmVal w f v
def fsP (fs : List Fm) : Value → World → Prop := fun v w => FmsAt w fs v
def sqP (L R : List Fm) : Value → World → Prop := fun v w => SqVal w L R v
theorem fmP_stays (f : Fm) : Stays (fmP f) := fun _ _ _ h hb => FmVal.keep h (keeps_of_below hb)
theorem fsP_stays (fs : List Fm) : Stays (fsP fs) := fun _ _ _ h hb => FmsAt.keep h (keeps_of_below hb)
theorem sqP_keep {w w' : World} {L R : List Fm} {v : Value} (h : SqVal w L R v) (hb : Below w.heap.size w w') : SqVal w' L R v := by
  obtain ⟨a, n, c, b, m, d, e, h1, h2⟩ := h
  exact ⟨a, n, c, b, m, d, e, h1.keep (keeps_of_below hb), h2.keep (keeps_of_below hb)⟩
theorem sqP_stays (L R : List Fm) : Stays (sqP L R) := fun _ _ _ h hb => sqP_keep h hb
def atV (nm : Bs) : Value := .agg #[.int .u8 1, str nm, .slice none 0 0, .slice none 0 0]
theorem fm_parts {w : World} {f : Fm} {o : Int} {nm : Bs} {a b : Option Addr} {n c m d : Nat} (h : FmVal w f (.agg #[.int .u8 o, str nm, .slice a n c, .slice b m d])) : o = f.op ∧ str nm = str f.name ∧ TmsAt w f.args (.slice a n c) ∧ FmsAt w f.sub (.slice b m d) := by
  obtain ⟨a', n', c', b', m', d', e, h1, h2⟩ := h
  simp only [Value.agg.injEq, Array.mk.injEq, List.cons.injEq, Value.int.injEq, and_true, true_and] at e
  obtain ⟨e0, e1, e2, e3⟩ := e
  rw [← e2] at h1
  rw [← e3] at h2
  exact ⟨e0, e1, h1, h2⟩
theorem at_fm (w : World) (nm : Bs) : FmVal w (.mk 1 nm [] []) (atV nm) := ⟨none, 0, 0, none, 0, 0, rfl, At.sl_nil (Nat.zero_le _), At.sl_nil (Nat.zero_le _)⟩
theorem fmsA1 {w : World} {f : Fm} {o : Int} {nm : Bs} {a b : Option Addr} {n c m d : Nat} (h : FmVal w f (.agg #[.int .u8 o, str nm, .slice a n c, .slice b m d])) :
    FmsAt (w.alloc (.cells #[.int .u8 o, str nm, .slice a n c, .slice b m d] 40)) [f] (.slice (some ⟨w.heap.size, 0, none⟩) 1 1) := by
  obtain ⟨rfl, e1, h1, h2⟩ := fm_parts h
  have K := keeps_of_below ((Below.refl _ w).alloc (Nat.le_refl _) (.cells #[.int .u8 f.op, str nm, .slice a n c, .slice b m d] 40))
  exact fms_of1 (by rw [← e1]; exact heap_alloc_new w _) (h1.keep K) (h2.keep K)
theorem fmsA2 {w : World} {f f' : Fm} {o o' : Int} {nm nm' : Bs} {a b a' b' : Option Addr} {n c m d n' c' m' d' : Nat} (h : FmVal w f (.agg #[.int .u8 o, str nm, .slice a n c, .slice b m d])) (h' : FmVal w f' (.agg #[.int .u8 o', str nm', .slice a' n' c', .slice b' m' d'])) :
    FmsAt (w.alloc (.cells #[.int .u8 o, str nm, .slice a n c, .slice b m d, .int .u8 o', str nm', .slice a' n' c', .slice b' m' d'] 40)) [f, f'] (.slice (some ⟨w.heap.size, 0, none⟩) 2 2) := by
  obtain ⟨rfl, e1, h1, h2⟩ := fm_parts h
  obtain ⟨rfl, e1', h1', h2'⟩ := fm_parts h'
  have K := keeps_of_below ((Below.refl _ w).alloc (Nat.le_refl _) (.cells #[.int .u8 f.op, str nm, .slice a n c, .slice b m d, .int .u8 f'.op, str nm', .slice a' n' c', .slice b' m' d'] 40))
  exact fms_of2 (by rw [← e1, ← e1']; exact heap_alloc_new w _) (h1.keep K) (h2.keep K) (h1'.keep K) (h2'.keep K)
theorem below_new (w : World) (o : Obj) : Below w.heap.size w (w.alloc o) := (Below.refl _ _).alloc (Nat.le_refl _) o
def okB (L R : List Fm) : Bool := L.all Fm.right && R.all Fm.right && decide (L.length ≤ 64) && decide (R.length ≤ 64)
theorem okSq_of {L R : List Fm} (h : okB L R = true) : okSq L R := by
  simp only [okB, Bool.and_eq_true, List.all_eq_true, decide_eq_true_eq] at h
  exact ⟨h.1.1.1, h.1.1.2, h.1.2, h.2⟩
theorem sameSk_eq {L R L2 R2 : List Fm} (h : skOf L R = skOf L2 R2) : sameSk L R L2 R2 = true := by
  unfold sameSk
  rw [h, (fmsSame_iff _ _).2 rfl, (fmsSame_iff _ _).2 rfl]
  rfl
theorem sameSk_ne {L R L2 R2 : List Fm} (h : skOf L R ≠ skOf L2 R2) : sameSk L R L2 R2 = false := by
  rw [Bool.eq_false_iff]
  intro e
  simp only [sameSk, Bool.and_eq_true, fmsSame_iff] at e
  exact h (Prod.ext e.1 e.2)
structure AwV (g1 g2 g3 : Nat) (w : World) : Prop where
  c1 : w.heap[g1]? = some (.cells #[.int .u8 1, str [80], .slice none 0 0, .slice none 0 0] 40 (0, 0))
  c2 : w.heap[g2]? = some (.cells #[.int .u8 1, str [81], .slice none 0 0, .slice none 0 0] 40 (0, 0))
  c3 : w.heap[g3]? = some (.cells #[.int .u8 1, str [82], .slice none 0 0, .slice none 0 0] 40 (0, 0))
theorem AwV.below {g1 g2 g3 : Nat} {w w' : World} (h : AwV g1 g2 g3 w) (b : Below w.heap.size w w') : AwV g1 g2 g3 w' := ⟨kc b h.c1, kc b h.c2, kc b h.c3⟩
def SqBox (g : Nat) (L R : List Fm) (w : World) : Prop := ∃ a n c b m d, w.heap[g]? = some (.cells #[.slice a n c, .slice b m d] 26 (0, 0)) ∧ FmsAt w L (.slice a n c) ∧ FmsAt w R (.slice b m d)
theorem SqBox.below {g : Nat} {L R : List Fm} {w w' : World} (h : SqBox g L R w) (hb : Below w.heap.size w w') : SqBox g L R w' := by
  obtain ⟨a, n, c, b, m, d, h0, h1, h2⟩ := h
  exact ⟨a, n, c, b, m, d, kc hb h0, h1.keep (keeps_of_below hb), h2.keep (keeps_of_below hb)⟩
theorem fmsSame_self (L R : List Fm) : (fmsSame L L && fmsSame R R) = true := by rw [(fmsSame_iff _ _).2 rfl, (fmsSame_iff _ _).2 rfl]; rfl
end Go.Proofs.YtppfalbnhnpbnaaGreatDoor
namespace Go.Proofs.YtppfalbnhnpbnaaGreatDoor
open Go Go.RowKit Ly
set_option maxRecDepth 10000
noncomputable def aw4 : Array Oper := ((Tryz.f9.body).bind (findReg 4)).getD #[]
def aw4R : List (Value → World → Prop) := [isV (atV [80]),
  isV (atV [81]),
  fsP [Fm.mk 1 [80] [] [], Fm.mk 1 [81] [] []],
  fmP (Fm.mk 4 [] [] [Fm.mk 1 [80] [] [], Fm.mk 1 [81] [] []]),
  fsP [(Fm.mk 4 [] [] [Fm.mk 1 [80] [] [], Fm.mk 1 [81] [] []])],
  fsP [(Fm.mk 4 [] [] [Fm.mk 1 [80] [] [], Fm.mk 1 [81] [] []])],
  sqP [] [(Fm.mk 4 [] [] [Fm.mk 1 [80] [] [], Fm.mk 1 [81] [] []])],
  isV (atV [81]),
  isV (atV [80]),
  fsP [Fm.mk 1 [81] [] [], Fm.mk 1 [80] [] []],
  fmP (Fm.mk 4 [] [] [Fm.mk 1 [81] [] [], Fm.mk 1 [80] [] []]),
  fsP [(Fm.mk 4 [] [] [Fm.mk 1 [81] [] [], Fm.mk 1 [80] [] []])],
  fsP [(Fm.mk 4 [] [] [Fm.mk 1 [81] [] [], Fm.mk 1 [80] [] []])],
  sqP [] [(Fm.mk 4 [] [] [Fm.mk 1 [81] [] [], Fm.mk 1 [80] [] []])],
  isV (.tuple #[.bool true, .int .i64 0]),
  isV (.tuple #[.bool true, .int .i64 0]),
  isV (.bool true),
  isV (.int .i64 0),
  isV (.bool true),
  isV (.int .i64 0)]
theorem aw4_stays : ∀ r ∈ aw4R, Stays r := by
  unfold aw4R
  simp only [List.forall_mem_cons]
  exact ⟨isV_stays _, isV_stays _, fsP_stays _, fmP_stays _, fsP_stays _, fsP_stays _, sqP_stays _ _, isV_stays _, isV_stays _, fsP_stays _, fmP_stays _, fsP_stays _, fsP_stays _, sqP_stays _ _, isV_stays _, isV_stays _, isV_stays _, isV_stays _, isV_stays _, isV_stays _, fun r h => by cases h⟩
set_option maxHeartbeats 4000000 in
theorem aw4_steps (Q : Exit → Act → World → Prop) (W : World) (a0 : Act) (g1 g2 g3 : Nat) (h1 : a0.tmps.getD 1 undef = one g1) (h2 : a0.tmps.getD 2 undef = one g2) (h3 : a0.tmps.getD 3 undef = one g3) (HA : AwV g1 g2 g3 W) (hr : RowsAt W) (hp : PowAt W) : FlowSteps Tryz.prog aw4 Q W a0 (rAt aw4R) [0, 1, 2, 3, 4, 5, 6, 7, 8, 9, 10, 11, 12, 13, 14, 15, 16, 17, 18, 19] := by
  refine FlowSteps.step (Op.load 40 (Operand.tmp 1)) (by kernel_rfl) (fun a w F => ?_) ?_
  · have e := (F.old 1 (by kernel_rfl)).trans h1
    obtain ⟨⟨p0, p1, p2, p3⟩, -⟩ := row40 (kc F.bw HA.c1)
    clear F
    rintro ⟨dst, op, ty, pos, af, gd⟩ rfl K Q' hK
    have HK := Lib.hid hK
    clear hK
    go_simp
    exact HK.out _ _ ⟨Below.refl _ _, rfl⟩
  refine FlowSteps.step (Op.load 40 (Operand.tmp 2)) (by kernel_rfl) (fun a w F => ?_) ?_
  · have e := (F.old 2 (by kernel_rfl)).trans h2
    obtain ⟨⟨p0, p1, p2, p3⟩, -⟩ := row40 (kc F.bw HA.c2)
    clear F
    rintro ⟨dst, op, ty, pos, af, gd⟩ rfl K Q' hK
    have HK := Lib.hid hK
    clear hK
    go_simp
    exact HK.out _ _ ⟨Below.refl _ _, rfl⟩
  refine FlowSteps.step (Op.buildSlice 24 2 #[(0, Operand.tmp 60), (1, Operand.tmp 61)]) (by kernel_rfl) (fun a w F => ?_) ?_
  · have ex : a.tmps[60]?.getD undef = .agg #[.int .u8 1, str [80], .slice none 0 0, .slice none 0 0] := F.dep 0 60 (by kernel_rfl) (by kernel_rfl)
    have dx := at_fm w [80]
    have ey : a.tmps[61]?.getD undef = .agg #[.int .u8 1, str [81], .slice none 0 0, .slice none 0 0] := F.dep 1 61 (by kernel_rfl) (by kernel_rfl)
    have dy := at_fm w [81]
    clear F
    rintro ⟨dst, op, ty, pos, af, gd⟩ rfl K Q' hK
    have HK := Lib.hid hK
    have Dx := Lib.hid dx
    have Dy := Lib.hid dy
    clear hK dx dy
    go_simp
    exact HK.out _ _ ⟨below_new _ _, fmsA2 Dx.out Dy.out⟩
  refine FlowSteps.step (Op.call { callee := Callee.value (Operand.func 17), args := #[Operand.const (Value.int IntKind.u8 4), Operand.tmp 62], argTypes := #[5, 24] }) (by kernel_rfl) (fun a w F => ?_) ?_
  · have dx : FmsAt w [Fm.mk 1 [80] [] [], Fm.mk 1 [81] [] []] (a.tmps[62]?.getD undef) := F.dep 2 62 (by kernel_rfl) (by kernel_rfl)
    obtain ⟨ax, cx, ex, -⟩ := At.sl_inv dx
    rw [ex] at dx
    clear F
    rintro ⟨dst, op, ty, pos, af, gd⟩ rfl K Q' hK
    have HK := Lib.hid hK
    have DX := Lib.hid dx
    clear hK dx
    go_simp
    go_at_call 17
    refine (join30_c 4 [Fm.mk 1 [80] [] [], Fm.mk 1 [81] [] []] _ _ _ _ DX.out).mono ?_
    rintro e w1 ⟨v, rfl, hv, hb⟩
    exact HK.out _ _ ⟨hb, hv⟩
  refine FlowSteps.step (Op.buildSlice 24 1 #[(0, Operand.tmp 63)]) (by kernel_rfl) (fun a w F => ?_) ?_
  · have dx : FmVal w (Fm.mk 4 [] [] [Fm.mk 1 [80] [] [], Fm.mk 1 [81] [] []]) (a.tmps[63]?.getD undef) := F.dep 3 63 (by kernel_rfl) (by kernel_rfl)
    obtain ⟨ix, nx, cx, jx, mx, lx, ex, -⟩ := id dx
    rw [ex] at dx
    clear F
    rintro ⟨dst, op, ty, pos, af, gd⟩ rfl K Q' hK
    have HK := Lib.hid hK
    have Dx := Lib.hid dx
    clear hK dx
    go_simp
    exact HK.out _ _ ⟨below_new _ _, fmsA1 Dx.out⟩
  refine FlowSteps.step (Op.call { callee := Callee.value (Operand.func 21), args := #[Operand.tmp 64], argTypes := #[24] }) (by kernel_rfl) (fun a w F => ?_) ?_
  · have dx : FmsAt w [(Fm.mk 4 [] [] [Fm.mk 1 [80] [] [], Fm.mk 1 [81] [] []])] (a.tmps[64]?.getD undef) := F.dep 4 64 (by kernel_rfl) (by kernel_rfl)
    obtain ⟨ax, cx, ex, -⟩ := At.sl_inv dx
    rw [ex] at dx
    clear F
    rintro ⟨dst, op, ty, pos, af, gd⟩ rfl K Q' hK
    have HK := Lib.hid hK
    have DX := Lib.hid dx
    clear hK dx
    go_simp
    go_at_call 21
    refine (fs_c _ _).mono ?_
    rintro e w1 ⟨rfl, rfl⟩
    exact HK.out _ _ ⟨Below.refl _ _, DX.out⟩
  refine FlowSteps.step (Op.call { callee := Callee.value (Operand.func 20), args := #[Operand.const (Value.slice none 0 0), Operand.tmp 65], argTypes := #[24, 24] }) (by kernel_rfl) (fun a w F => ?_) ?_
  · have dy : FmsAt w [(Fm.mk 4 [] [] [Fm.mk 1 [80] [] [], Fm.mk 1 [81] [] []])] (a.tmps[65]?.getD undef) := F.dep 5 65 (by kernel_rfl) (by kernel_rfl)
    obtain ⟨ay, cy, ey, -⟩ := At.sl_inv dy
    rw [ey] at dy
    clear F
    rintro ⟨dst, op, ty, pos, af, gd⟩ rfl K Q' hK
    have HK := Lib.hid hK
    have DY := Lib.hid dy
    clear hK dy
    go_simp
    go_at_call 20
    refine (sq_c _ _ _ _ _ _ _).mono ?_
    rintro e w1 ⟨rfl, hb⟩
    exact HK.out _ _ ⟨hb, _, _, _, _, _, _, rfl, At.sl_nil (Nat.zero_le _), (DY.out).keep (keeps_of_below hb)⟩
  refine FlowSteps.step (Op.load 40 (Operand.tmp 2)) (by kernel_rfl) (fun a w F => ?_) ?_
  · have e := (F.old 2 (by kernel_rfl)).trans h2
    obtain ⟨⟨p0, p1, p2, p3⟩, -⟩ := row40 (kc F.bw HA.c2)
    clear F
    rintro ⟨dst, op, ty, pos, af, gd⟩ rfl K Q' hK
    have HK := Lib.hid hK
    clear hK
    go_simp
    exact HK.out _ _ ⟨Below.refl _ _, rfl⟩
  refine FlowSteps.step (Op.load 40 (Operand.tmp 1)) (by kernel_rfl) (fun a w F => ?_) ?_
  · have e := (F.old 1 (by kernel_rfl)).trans h1
    obtain ⟨⟨p0, p1, p2, p3⟩, -⟩ := row40 (kc F.bw HA.c1)
    clear F
    rintro ⟨dst, op, ty, pos, af, gd⟩ rfl K Q' hK
    have HK := Lib.hid hK
    clear hK
    go_simp
    exact HK.out _ _ ⟨Below.refl _ _, rfl⟩
  refine FlowSteps.step (Op.buildSlice 24 2 #[(0, Operand.tmp 67), (1, Operand.tmp 68)]) (by kernel_rfl) (fun a w F => ?_) ?_
  · have ex : a.tmps[67]?.getD undef = .agg #[.int .u8 1, str [81], .slice none 0 0, .slice none 0 0] := F.dep 7 67 (by kernel_rfl) (by kernel_rfl)
    have dx := at_fm w [81]
    have ey : a.tmps[68]?.getD undef = .agg #[.int .u8 1, str [80], .slice none 0 0, .slice none 0 0] := F.dep 8 68 (by kernel_rfl) (by kernel_rfl)
    have dy := at_fm w [80]
    clear F
    rintro ⟨dst, op, ty, pos, af, gd⟩ rfl K Q' hK
    have HK := Lib.hid hK
    have Dx := Lib.hid dx
    have Dy := Lib.hid dy
    clear hK dx dy
    go_simp
    exact HK.out _ _ ⟨below_new _ _, fmsA2 Dx.out Dy.out⟩
  refine FlowSteps.step (Op.call { callee := Callee.value (Operand.func 17), args := #[Operand.const (Value.int IntKind.u8 4), Operand.tmp 69], argTypes := #[5, 24] }) (by kernel_rfl) (fun a w F => ?_) ?_
  · have dx : FmsAt w [Fm.mk 1 [81] [] [], Fm.mk 1 [80] [] []] (a.tmps[69]?.getD undef) := F.dep 9 69 (by kernel_rfl) (by kernel_rfl)
    obtain ⟨ax, cx, ex, -⟩ := At.sl_inv dx
    rw [ex] at dx
    clear F
    rintro ⟨dst, op, ty, pos, af, gd⟩ rfl K Q' hK
    have HK := Lib.hid hK
    have DX := Lib.hid dx
    clear hK dx
    go_simp
    go_at_call 17
    refine (join30_c 4 [Fm.mk 1 [81] [] [], Fm.mk 1 [80] [] []] _ _ _ _ DX.out).mono ?_
    rintro e w1 ⟨v, rfl, hv, hb⟩
    exact HK.out _ _ ⟨hb, hv⟩
  refine FlowSteps.step (Op.buildSlice 24 1 #[(0, Operand.tmp 70)]) (by kernel_rfl) (fun a w F => ?_) ?_
  · have dx : FmVal w (Fm.mk 4 [] [] [Fm.mk 1 [81] [] [], Fm.mk 1 [80] [] []]) (a.tmps[70]?.getD undef) := F.dep 10 70 (by kernel_rfl) (by kernel_rfl)
    obtain ⟨ix, nx, cx, jx, mx, lx, ex, -⟩ := id dx
    rw [ex] at dx
    clear F
    rintro ⟨dst, op, ty, pos, af, gd⟩ rfl K Q' hK
    have HK := Lib.hid hK
    have Dx := Lib.hid dx
    clear hK dx
    go_simp
    exact HK.out _ _ ⟨below_new _ _, fmsA1 Dx.out⟩
  refine FlowSteps.step (Op.call { callee := Callee.value (Operand.func 21), args := #[Operand.tmp 71], argTypes := #[24] }) (by kernel_rfl) (fun a w F => ?_) ?_
  · have dx : FmsAt w [(Fm.mk 4 [] [] [Fm.mk 1 [81] [] [], Fm.mk 1 [80] [] []])] (a.tmps[71]?.getD undef) := F.dep 11 71 (by kernel_rfl) (by kernel_rfl)
    obtain ⟨ax, cx, ex, -⟩ := At.sl_inv dx
    rw [ex] at dx
    clear F
    rintro ⟨dst, op, ty, pos, af, gd⟩ rfl K Q' hK
    have HK := Lib.hid hK
    have DX := Lib.hid dx
    clear hK dx
    go_simp
    go_at_call 21
    refine (fs_c _ _).mono ?_
    rintro e w1 ⟨rfl, rfl⟩
    exact HK.out _ _ ⟨Below.refl _ _, DX.out⟩
  refine FlowSteps.step (Op.call { callee := Callee.value (Operand.func 20), args := #[Operand.const (Value.slice none 0 0), Operand.tmp 72], argTypes := #[24, 24] }) (by kernel_rfl) (fun a w F => ?_) ?_
  · have dy : FmsAt w [(Fm.mk 4 [] [] [Fm.mk 1 [81] [] [], Fm.mk 1 [80] [] []])] (a.tmps[72]?.getD undef) := F.dep 12 72 (by kernel_rfl) (by kernel_rfl)
    obtain ⟨ay, cy, ey, -⟩ := At.sl_inv dy
    rw [ey] at dy
    clear F
    rintro ⟨dst, op, ty, pos, af, gd⟩ rfl K Q' hK
    have HK := Lib.hid hK
    have DY := Lib.hid dy
    clear hK dy
    go_simp
    go_at_call 20
    refine (sq_c _ _ _ _ _ _ _).mono ?_
    rintro e w1 ⟨rfl, hb⟩
    exact HK.out _ _ ⟨hb, _, _, _, _, _, _, rfl, At.sl_nil (Nat.zero_le _), (DY.out).keep (keeps_of_below hb)⟩
  refine FlowSteps.step (Op.call { callee := Callee.value (Operand.func 12), args := #[Operand.tmp 66, Operand.tmp 73], argTypes := #[26, 26] }) (by kernel_rfl) (fun a w F => ?_) ?_
  · have dx : SqVal w [] [(Fm.mk 4 [] [] [Fm.mk 1 [80] [] [], Fm.mk 1 [81] [] []])] (a.tmps[66]?.getD undef) := F.dep 6 66 (by kernel_rfl) (by kernel_rfl)
    obtain ⟨a1, n1, c1, b1, m1, l1, ex, -⟩ := id dx
    rw [ex] at dx
    have dy : SqVal w [] [(Fm.mk 4 [] [] [Fm.mk 1 [81] [] [], Fm.mk 1 [80] [] []])] (a.tmps[73]?.getD undef) := F.dep 13 73 (by kernel_rfl) (by kernel_rfl)
    obtain ⟨a2, n2, c2, b2, m2, l2, ey, -⟩ := id dy
    rw [ey] at dy
    have rows := hr.keep (keeps_of_below F.bw)
    have pows := hp.below F.bw
    clear F
    rintro ⟨dst, op, ty, pos, af, gd⟩ rfl K Q' hK
    have HK := Lib.hid hK
    have DX := Lib.hid dx
    have DY := Lib.hid dy
    have ROWS := Lib.hid rows
    have POWS := Lib.hid pows
    clear hK dx dy rows pows
    go_simp
    go_at_call 12
    refine (Same_c _ _ _ _ _ _ _ ROWS.out POWS.out DX.out DY.out (okSq_of (by kernel_rfl)) (okSq_of (by kernel_rfl))).mono ?_
    rintro e w1 ⟨rfl, hb⟩
    exact HK.out _ _ ⟨hb, congrArg (fun b => Value.tuple #[.bool b, .int .i64 0]) (sameSk_eq Ly.aw2)⟩
  refine FlowSteps.step (Op.move (Operand.tmp 74)) (by kernel_rfl) (fun a w F => ?_) ?_
  · have e : a.tmps[74]?.getD undef = .tuple #[.bool true, .int .i64 0] := F.dep 14 74 (by kernel_rfl) (by kernel_rfl)
    clear F
    rintro ⟨dst, op, ty, pos, af, gd⟩ rfl K Q' hK
    have HK := Lib.hid hK
    clear hK
    go_simp
    exact HK.out _ _ ⟨Below.refl _ _, rfl⟩
  refine FlowSteps.step (Op.extract (Operand.tmp 59) 0) (by kernel_rfl) (fun a w F => ?_) ?_
  · have e : a.tmps[59]?.getD undef = .tuple #[.bool true, .int .i64 0] := F.dep 15 59 (by kernel_rfl) (by kernel_rfl)
    clear F
    rintro ⟨dst, op, ty, pos, af, gd⟩ rfl K Q' hK
    have HK := Lib.hid hK
    clear hK
    go_simp
    exact HK.out _ _ ⟨Below.refl _ _, rfl⟩
  refine FlowSteps.step (Op.extract (Operand.tmp 59) 1) (by kernel_rfl) (fun a w F => ?_) ?_
  · have e : a.tmps[59]?.getD undef = .tuple #[.bool true, .int .i64 0] := F.dep 15 59 (by kernel_rfl) (by kernel_rfl)
    clear F
    rintro ⟨dst, op, ty, pos, af, gd⟩ rfl K Q' hK
    have HK := Lib.hid hK
    clear hK
    go_simp
    exact HK.out _ _ ⟨Below.refl _ _, rfl⟩
  refine FlowSteps.step (Op.assign (Operand.tmp 75)) (by kernel_rfl) (fun a w F => ?_) ?_
  · have e : a.tmps[75]?.getD undef = .bool true := F.dep 16 75 (by kernel_rfl) (by kernel_rfl)
    clear F
    rintro ⟨dst, op, ty, pos, af, gd⟩ rfl K Q' hK
    have HK := Lib.hid hK
    clear hK
    go_simp
    exact HK.out _ _ ⟨Below.refl _ _, rfl⟩
  refine FlowSteps.step (Op.assign (Operand.tmp 76)) (by kernel_rfl) (fun a w F => ?_) ?_
  · have e : a.tmps[76]?.getD undef = .int .i64 0 := F.dep 17 76 (by kernel_rfl) (by kernel_rfl)
    clear F
    rintro ⟨dst, op, ty, pos, af, gd⟩ rfl K Q' hK
    have HK := Lib.hid hK
    clear hK
    go_simp
    exact HK.out _ _ ⟨Below.refl _ _, rfl⟩
  exact FlowSteps.nil
end Go.Proofs.YtppfalbnhnpbnaaGreatDoor
