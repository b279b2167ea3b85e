/- Plain law: SkeletonApart: claims of different shape have different skeletons. Nothing of the program is imported. -/
import Derived.Test.YtppfalbnhnpbnaaGreatDoorRnAZ
import Derived.Test.YtppfalbnhnpbnaaGreatDoorRdCZ
import Derived.Test.YtppfalbnhnpbnaaGreatDoorAwBZ
set_option linter.unusedSimpArgs false
set_option linter.unusedVariables false
namespace Ly
open Go.Lib (itoa decDigits)
theorem built_small (l : Bs) : (built l).ok = true ∧ (built l).nodes ≤ 300 ∧ (built l).depth ≤ 36 := by
  have h := bFold_inv (l.take 20)
  have hl : (l.take 20).length ≤ 20 := by simp; omega
  generalize (l.take 20).length = k at *
  unfold built
  generalize bFold (l.take 20) = s at *
  obtain ⟨h1, h2, h3⟩ := h
  cases s with
  | nil => decide
  | cons f r =>
    simp only [List.length_cons] at h1 h3
    simp only [fmsNodes] at h2
    have hf := h3 f (by simp)
    obtain ⟨a, b, c⟩ := untils_ok r f (2 + k - r.length) hf.1 (by omega) (fun g hg => ⟨(h3 g (by simp [hg])).1, by have := (h3 g (by simp [hg])).2; omega⟩)
    exact ⟨a, by show (untils f r).nodes ≤ 300; omega, by show (untils f r).depth ≤ 36; omega⟩
def atomY : Fm := .mk 1 [89] [] []
def atomZ : Fm := .mk 1 [90] [] []
def apF (f : Fm) : Fm := .mk 4 [] [] [.mk 7 [] [] [atomY, atomZ], f]
def apG (f : Fm) : Fm := .mk 4 [] [] [.mk 7 [] [] [atomY, atomY], f]
def apH (f : Fm) : Fm := .mk 4 [] [] [.mk 7 [] [] [atomY, atomZ], .mk 3 [] [] [f]]
theorem ap_right (l : Bs) : (apF (built l)).right = true ∧ (apG (built l)).right = true ∧ (apH (built l)).right = true := by
  obtain ⟨h1, h2, h3⟩ := built_small l
  refine ⟨?_, ?_, ?_⟩
  all_goals
    simp [Fm.right, apF, apG, apH, atomY, atomZ, Fm.ok, fmsOk, tmsOk, h1, arity, Fm.nodes, fmsNodes, tmsNodes, Fm.depth, fmsDepth, tmsDepth]
    refine ⟨⟨by decide, ?_⟩, ?_⟩ <;> omega
def second : Fm → Bs
  | .mk _ _ _ (.mk _ _ _ (_ :: .mk _ n _ _ :: _) :: _) => n
  | _ => []
theorem itoa_dg {n : Nat} (h : n < 10) : itoa (n : Int) = [UInt8.ofNat (48 + n)] := by rw [itoa_nat, Go.Lib.decDigits_one h]
theorem itoa02 : itoa 0 ++ itoa 2 = [48, 50] := by
  rw [show itoa 0 = _ from itoa_dg (n := 0) (by decide), show itoa 2 = _ from itoa_dg (n := 2) (by decide)]; rfl
theorem itoa01 : itoa 0 ++ itoa 1 = [48, 49] := by
  rw [show itoa 0 = _ from itoa_dg (n := 0) (by decide), show itoa 1 = _ from itoa_dg (n := 1) (by decide)]; rfl
theorem second_F (f : Fm) : second ((apF f).sk []).1 = [80, 48, 50] := by
  simp [Fm.sk, Fm.normal, apF, atomY, atomZ, Fm.norm, fmsNorm, quant, tmsSwap, Fm.told, fmsTold, tmsTold, nameF, second, Sy.told, Sy.add, Sy.kind, Sy.place]
  exact itoa02
theorem second_G (f : Fm) : second ((apG f).sk []).1 = [80, 48, 49] := by
  simp [Fm.sk, Fm.normal, apG, atomY, atomZ, Fm.norm, fmsNorm, quant, tmsSwap, Fm.told, fmsTold, tmsTold, nameF, second, Sy.told, Sy.add, Sy.kind, Sy.place]
  exact itoa01
theorem ap_skeletons (l : Bs) : skOf [apF (built l)] [] ≠ skOf [apG (built l)] [] ∧ skOf [apF (built l)] [] ≠ skOf [apH (built l)] [] ∧ skOf [apF (built l)] [] ≠ skOf [] [apF (built l)] := by
  obtain ⟨h1, h2, h3⟩ := ap_right l
  refine ⟨fun e => ?_, fun e => ?_, fun e => ?_⟩
  · have e1 : ((apF (built l)).sk []).1 = ((apG (built l)).sk []).1 := by
      have := congrArg Prod.fst e; simpa [skOf, fmsSk] using this
    have := congrArg second e1
    rw [second_F, second_G] at this
    exact absurd this (by decide)
  · have e1 : ((apF (built l)).sk []).1 = ((apH (built l)).sk []).1 := by
      have := congrArg Prod.fst e; simpa [skOf, fmsSk] using this
    have := congrArg Fm.nodes e1
    rw [(Fm.sk_right h1 (by simp)).2.1, (Fm.sk_right h3 (by simp)).2.1] at this
    simp [apF, apH, Fm.nodes, fmsNodes, tmsNodes, atomY, atomZ] at this
  · have := congrArg Prod.fst e
    simp [skOf, fmsSk] at this
end Ly
namespace Go.Proofs.YtppfalbnhnpbnaaGreatDoor
open Go Go.RowKit Ly
set_option maxRecDepth 10000
def apI : Fm := .mk 7 [] [] [atomY, atomZ]
def ApX (X : Fm) (g5 bb off d2 : Nat) (w : World) : Prop := ∃ a n c, w.heap[g5]? = some (.cells #[.int .u8 4, str [], .slice a n c, .slice (some ⟨bb, off, none⟩) 2 d2] 40 (0, 0)) ∧ TmsAt w [] (.slice a n c) ∧ FmsAt w [apI, X] (.slice (some ⟨bb, off, none⟩) 2 d2)
section
variable {X : Fm} {g5 bb off d2 : Nat} {w w' : World}
theorem ApX.below (h : ApX X g5 bb off d2 w) (hb : Below w.heap.size w w') : ApX X g5 bb off d2 w' := by
  obtain ⟨a, n, c, h0, h1, h2⟩ := h
  exact ⟨a, n, c, kc hb h0, h1.keep (keeps_of_below hb), h2.keep (keeps_of_below hb)⟩
theorem ApX.el0 (h : ApX X g5 bb off d2 w) (hb : Below w.heap.size w w') : ∃ x k e y m d, FmCells w' bb off apI x k e y m d := by
  obtain ⟨a, n, c, h0, h1, h2⟩ := h.below hb
  obtain ⟨b', o', e, hc⟩ := h2.get (by simp)
  cases e
  exact hc 0 apI rfl
theorem ApX.el1 (h : ApX X g5 bb off d2 w) (hb : Below w.heap.size w w') : ∃ x k e y m d, FmCells w' bb (off + 4) X x k e y m d := by
  obtain ⟨a, n, c, h0, h1, h2⟩ := h.below hb
  obtain ⟨b', o', e, hc⟩ := h2.get (by simp)
  cases e
  exact hc 1 X rfl
theorem ApX.val (h : ApX X g5 bb off d2 w) : ∃ a n c, w.heap[g5]? = some (.cells #[.int .u8 4, str [], .slice a n c, .slice (some ⟨bb, off, none⟩) 2 d2] 40 (0, 0)) ∧ FmVal w (.mk 4 [] [] [apI, X]) (.agg #[.int .u8 4, str [], .slice a n c, .slice (some ⟨bb, off, none⟩) 2 d2]) := by
  obtain ⟨a, n, c, h0, h1, h2⟩ := h
  exact ⟨a, n, c, h0, _, _, _, _, _, _, rfl, h1, h2⟩
end
noncomputable def la11 : Array Oper := ((Tryz.f4.body).bind (findReg 11)).getD #[]
def la11R (X : Fm) (g5 bb off d2 : Nat) : List (Value → World → Prop) := [isV (.pointer (some ⟨g5, 3, none⟩)),
  isV (.slice (some ⟨bb, off, none⟩) 2 d2),
  isV (.pointer (some ⟨bb, off, none⟩)),
  fmP apI,
  isV (.pointer (some ⟨g5, 3, none⟩)),
  isV (.slice (some ⟨bb, off, none⟩) 2 d2),
  isV (.pointer (some ⟨bb, off + 4, none⟩)),
  fmP X,
  fsP [X],
  fmP (Fm.mk 3 [] [] [X]),
  fsP [apI, (Fm.mk 3 [] [] [X])],
  fmP (Fm.mk 4 [] [] [apI, (Fm.mk 3 [] [] [X])]),
  fsP [(Fm.mk 4 [] [] [apI, (Fm.mk 3 [] [] [X])])],
  fsP [(Fm.mk 4 [] [] [apI, (Fm.mk 3 [] [] [X])])],
  sqP [(Fm.mk 4 [] [] [apI, (Fm.mk 3 [] [] [X])])] []]
theorem la11_stays (X : Fm) (g5 bb off d2 : Nat) : ∀ r ∈ la11R X g5 bb off d2, Stays r := by
  unfold la11R
  simp only [List.forall_mem_cons]
  exact ⟨isV_stays _, isV_stays _, isV_stays _, fmP_stays _, isV_stays _, isV_stays _, isV_stays _, fmP_stays _, fsP_stays _, fmP_stays _, fsP_stays _, fmP_stays _, fsP_stays _, fsP_stays _, sqP_stays _ _, fun r h => by cases h⟩
set_option maxHeartbeats 4000000 in
theorem la11_steps (X : Fm) (bb off d2 : Nat) (Q : Exit → Act → World → Prop) (W : World) (a0 : Act) (g5 : Nat) (h5 : a0.tmps.getD 5 undef = one g5) (HA : ApX X g5 bb off d2 W) : FlowSteps Tryz.prog la11 Q W a0 (rAt (la11R X g5 bb off d2)) [0, 1, 2, 3, 4, 5, 6, 7, 8, 9, 10, 11, 12, 13, 14] := by
  refine FlowSteps.step (Op.fieldAddr 40 (Operand.tmp 5) 3) (by kernel_rfl) (fun a w F => ?_) ?_
  · have e := (F.old 5 (by kernel_rfl)).trans h5
    clear F
    rintro ⟨dst, op, ty, pos, af, gd⟩ rfl K Q' hK
    have HK := Lib.hid hK
    skip
    clear hK 
    go_simp
    exact HK.out _ _ ⟨Below.refl _ _, rfl⟩
  refine FlowSteps.step (Op.load 24 (Operand.tmp 47)) (by kernel_rfl) (fun a w F => ?_) ?_
  · have e : a.tmps[47]?.getD undef = .pointer (some ⟨g5, 3, none⟩) := F.dep 0 47 (by kernel_rfl) (by kernel_rfl)
    obtain ⟨a1, n1, c1, hg, -, -⟩ := HA.below F.bw
    obtain ⟨⟨-, -, -, p3⟩, -⟩ := row40 hg
    clear hg
    clear F
    rintro ⟨dst, op, ty, pos, af, gd⟩ rfl K Q' hK
    have HK := Lib.hid hK
    skip
    clear hK 
    go_simp
    exact HK.out _ _ ⟨Below.refl _ _, rfl⟩
  refine FlowSteps.step (Op.indexAddr 24 (Operand.tmp 48) (Operand.const (Value.int IntKind.i64 0))) (by kernel_rfl) (fun a w F => ?_) ?_
  · have e : a.tmps[48]?.getD undef = .slice (some ⟨bb, off, none⟩) 2 d2 := F.dep 1 48 (by kernel_rfl) (by kernel_rfl)
    clear F
    rintro ⟨dst, op, ty, pos, af, gd⟩ rfl K Q' hK
    have HK := Lib.hid hK
    skip
    clear hK 
    go_simp
    exact HK.out _ _ ⟨Below.refl _ _, rfl⟩
  refine FlowSteps.step (Op.load 40 (Operand.tmp 49)) (by kernel_rfl) (fun a w F => ?_) ?_
  · have e : a.tmps[49]?.getD undef = .pointer (some ⟨bb, off, none⟩) := F.dep 2 49 (by kernel_rfl) (by kernel_rfl)
    obtain ⟨x0, x1, x2, x3, x4, x5, hc⟩ := HA.el0 F.bw
    have k0 := hc.c0
    have k1 := hc.c1
    have k2 := hc.c2
    have k3 := hc.c3
    clear F
    rintro ⟨dst, op, ty, pos, af, gd⟩ rfl K Q' hK
    have HK := Lib.hid hK
    have HC := Lib.hid hc
    clear hK hc
    go_simp
    exact HK.out _ _ ⟨Below.refl _ _, _, _, _, _, _, _, rfl, HC.out.at_, HC.out.at'⟩
  refine FlowSteps.step (Op.fieldAddr 40 (Operand.tmp 5) 3) (by kernel_rfl) (fun a w F => ?_) ?_
  · have e := (F.old 5 (by kernel_rfl)).trans h5
    clear F
    rintro ⟨dst, op, ty, pos, af, gd⟩ rfl K Q' hK
    have HK := Lib.hid hK
    skip
    clear hK 
    go_simp
    exact HK.out _ _ ⟨Below.refl _ _, rfl⟩
  refine FlowSteps.step (Op.load 24 (Operand.tmp 51)) (by kernel_rfl) (fun a w F => ?_) ?_
  · have e : a.tmps[51]?.getD undef = .pointer (some ⟨g5, 3, none⟩) := F.dep 4 51 (by kernel_rfl) (by kernel_rfl)
    obtain ⟨a1, n1, c1, hg, -, -⟩ := HA.below F.bw
    obtain ⟨⟨-, -, -, p3⟩, -⟩ := row40 hg
    clear hg
    clear F
    rintro ⟨dst, op, ty, pos, af, gd⟩ rfl K Q' hK
    have HK := Lib.hid hK
    skip
    clear hK 
    go_simp
    exact HK.out _ _ ⟨Below.refl _ _, rfl⟩
  refine FlowSteps.step (Op.indexAddr 24 (Operand.tmp 52) (Operand.const (Value.int IntKind.i64 1))) (by kernel_rfl) (fun a w F => ?_) ?_
  · have e : a.tmps[52]?.getD undef = .slice (some ⟨bb, off, none⟩) 2 d2 := F.dep 5 52 (by kernel_rfl) (by kernel_rfl)
    clear F
    rintro ⟨dst, op, ty, pos, af, gd⟩ rfl K Q' hK
    have HK := Lib.hid hK
    skip
    clear hK 
    go_simp
    exact HK.out _ _ ⟨Below.refl _ _, rfl⟩
  refine FlowSteps.step (Op.load 40 (Operand.tmp 53)) (by kernel_rfl) (fun a w F => ?_) ?_
  · have e : a.tmps[53]?.getD undef = .pointer (some ⟨bb, off + 4, none⟩) := F.dep 6 53 (by kernel_rfl) (by kernel_rfl)
    obtain ⟨x0, x1, x2, x3, x4, x5, hc⟩ := HA.el1 F.bw
    have k0 := hc.c0
    have k1 := hc.c1
    have k2 := hc.c2
    have k3 := hc.c3
    clear F
    rintro ⟨dst, op, ty, pos, af, gd⟩ rfl K Q' hK
    have HK := Lib.hid hK
    have HC := Lib.hid hc
    clear hK hc
    go_simp
    exact HK.out _ _ ⟨Below.refl _ _, _, _, _, _, _, _, rfl, HC.out.at_, HC.out.at'⟩
  refine FlowSteps.step (Op.buildSlice 24 1 #[(0, Operand.tmp 54)]) (by kernel_rfl) (fun a w F => ?_) ?_
  · have dx : FmVal w X (a.tmps[54]?.getD undef) := F.dep 7 54 (by kernel_rfl) (by kernel_rfl)
    obtain ⟨ix, nx, cx, jx, mx, lx, ex, -⟩ := id dx
    rw [ex] at dx
    clear F
    rintro ⟨dst, op, ty, pos, af, gd⟩ rfl K Q' hK
    have HK := Lib.hid hK
    have Dx := Lib.hid dx
    clear hK dx
    go_simp
    exact HK.out _ _ ⟨below_new _ _, fmsA1 Dx.out⟩
  refine FlowSteps.step (Op.call { callee := Callee.value (Operand.func 17), args := #[Operand.const (Value.int IntKind.u8 3), Operand.tmp 55], argTypes := #[5, 24] }) (by kernel_rfl) (fun a w F => ?_) ?_
  · have dx : FmsAt w [X] (a.tmps[55]?.getD undef) := F.dep 8 55 (by kernel_rfl) (by kernel_rfl)
    obtain ⟨ax, cx, ex, -⟩ := At.sl_inv dx
    rw [ex] at dx
    clear F
    rintro ⟨dst, op, ty, pos, af, gd⟩ rfl K Q' hK
    have HK := Lib.hid hK
    have DX := Lib.hid dx
    clear hK dx
    go_simp
    go_at_call 17
    refine (join30_c 3 [X] _ _ _ _ DX.out).mono ?_
    rintro e w1 ⟨v, rfl, hv, hb⟩
    exact HK.out _ _ ⟨hb, hv⟩
  refine FlowSteps.step (Op.buildSlice 24 2 #[(0, Operand.tmp 50), (1, Operand.tmp 56)]) (by kernel_rfl) (fun a w F => ?_) ?_
  · have dx : FmVal w apI (a.tmps[50]?.getD undef) := F.dep 3 50 (by kernel_rfl) (by kernel_rfl)
    obtain ⟨ix, nx, cx, jx, mx, lx, ex, -⟩ := id dx
    rw [ex] at dx
    have dy : FmVal w (Fm.mk 3 [] [] [X]) (a.tmps[56]?.getD undef) := F.dep 9 56 (by kernel_rfl) (by kernel_rfl)
    obtain ⟨iy, ny, cy, jy, my, ly, ey, -⟩ := id dy
    rw [ey] at dy
    clear F
    rintro ⟨dst, op, ty, pos, af, gd⟩ rfl K Q' hK
    have HK := Lib.hid hK
    have Dx := Lib.hid dx
    have Dy := Lib.hid dy
    clear hK dx dy
    go_simp
    exact HK.out _ _ ⟨below_new _ _, fmsA2 Dx.out Dy.out⟩
  refine FlowSteps.step (Op.call { callee := Callee.value (Operand.func 17), args := #[Operand.const (Value.int IntKind.u8 4), Operand.tmp 57], argTypes := #[5, 24] }) (by kernel_rfl) (fun a w F => ?_) ?_
  · have dx : FmsAt w [apI, (Fm.mk 3 [] [] [X])] (a.tmps[57]?.getD undef) := F.dep 10 57 (by kernel_rfl) (by kernel_rfl)
    obtain ⟨ax, cx, ex, -⟩ := At.sl_inv dx
    rw [ex] at dx
    clear F
    rintro ⟨dst, op, ty, pos, af, gd⟩ rfl K Q' hK
    have HK := Lib.hid hK
    have DX := Lib.hid dx
    clear hK dx
    go_simp
    go_at_call 17
    refine (join30_c 4 [apI, (Fm.mk 3 [] [] [X])] _ _ _ _ DX.out).mono ?_
    rintro e w1 ⟨v, rfl, hv, hb⟩
    exact HK.out _ _ ⟨hb, hv⟩
  refine FlowSteps.step (Op.buildSlice 24 1 #[(0, Operand.tmp 58)]) (by kernel_rfl) (fun a w F => ?_) ?_
  · have dx : FmVal w (Fm.mk 4 [] [] [apI, (Fm.mk 3 [] [] [X])]) (a.tmps[58]?.getD undef) := F.dep 11 58 (by kernel_rfl) (by kernel_rfl)
    obtain ⟨ix, nx, cx, jx, mx, lx, ex, -⟩ := id dx
    rw [ex] at dx
    clear F
    rintro ⟨dst, op, ty, pos, af, gd⟩ rfl K Q' hK
    have HK := Lib.hid hK
    have Dx := Lib.hid dx
    clear hK dx
    go_simp
    exact HK.out _ _ ⟨below_new _ _, fmsA1 Dx.out⟩
  refine FlowSteps.step (Op.call { callee := Callee.value (Operand.func 21), args := #[Operand.tmp 59], argTypes := #[24] }) (by kernel_rfl) (fun a w F => ?_) ?_
  · have dx : FmsAt w [(Fm.mk 4 [] [] [apI, (Fm.mk 3 [] [] [X])])] (a.tmps[59]?.getD undef) := F.dep 12 59 (by kernel_rfl) (by kernel_rfl)
    obtain ⟨ax, cx, ex, -⟩ := At.sl_inv dx
    rw [ex] at dx
    clear F
    rintro ⟨dst, op, ty, pos, af, gd⟩ rfl K Q' hK
    have HK := Lib.hid hK
    have DX := Lib.hid dx
    clear hK dx
    go_simp
    go_at_call 21
    refine (fs_c _ _).mono ?_
    rintro e w1 ⟨rfl, rfl⟩
    exact HK.out _ _ ⟨Below.refl _ _, DX.out⟩
  refine FlowSteps.step (Op.call { callee := Callee.value (Operand.func 20), args := #[Operand.tmp 60, Operand.const (Value.slice none 0 0)], argTypes := #[24, 24] }) (by kernel_rfl) (fun a w F => ?_) ?_
  · have dx : FmsAt w [(Fm.mk 4 [] [] [apI, (Fm.mk 3 [] [] [X])])] (a.tmps[60]?.getD undef) := F.dep 13 60 (by kernel_rfl) (by kernel_rfl)
    obtain ⟨ax, cx, ex, -⟩ := At.sl_inv dx
    rw [ex] at dx
    clear F
    rintro ⟨dst, op, ty, pos, af, gd⟩ rfl K Q' hK
    have HK := Lib.hid hK
    have DX := Lib.hid dx
    clear hK dx
    go_simp
    go_at_call 20
    refine (sq_c _ _ _ _ _ _ _).mono ?_
    rintro e w1 ⟨rfl, hb⟩
    exact HK.out _ _ ⟨hb, _, _, _, _, _, _, rfl, (DX.out).keep (keeps_of_below hb), At.sl_nil (Nat.zero_le _)⟩
  exact FlowSteps.nil
end Go.Proofs.YtppfalbnhnpbnaaGreatDoor
