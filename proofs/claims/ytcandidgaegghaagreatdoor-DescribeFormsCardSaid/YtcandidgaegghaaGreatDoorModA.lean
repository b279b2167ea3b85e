/- The modal model in words, first part: the frame's kinds, the limits, and whether a model is valid. Conditions: the cells of the program's tables lie as laid. -/
import Derived.Test.YtcandidgaegghaaGreatDoorProofB
import Derived.LoopN
import Derived.Lib.QuietBelow
import Derived.BigQuiet
namespace Go.Proofs.YtcandidgaegghaaGreatDoor
open Go Go.RowKit Ly
set_option maxRecDepth 10000
set_option linter.unusedSimpArgs false
set_option linter.unusedVariables false
set_option maxHeartbeats 800000
theorem kinds_c (w : World) : Calls Tryz.prog 218 #[] w fun e w' => e = .returned (.agg #[.iface 249 (.agg #[]), .iface 302 (.agg #[]), .iface 304 (.agg #[.int .u8 3]), .iface 304 (.agg #[.int .u8 4]), .iface 305 (.agg #[])]) ∧ Below w.heap.size w w' := by
  go_enter Tryz.func218, Tryz.ntmps218
  go_wp2
  exact bodyPost_ret (v := .agg #[.iface 249 (.agg #[]), .iface 302 (.agg #[]), .iface 304 (.agg #[.int .u8 3]), .iface 304 (.agg #[.int .u8 4]), .iface 305 (.agg #[])]) (by simp [results, Tryz.results218, go_sem]) rfl
    ⟨rfl, (Below.refl _ _).alloc (Nat.le_refl _) _⟩
theorem kindOf_modal (w : World) : Calls Tryz.prog 141 #[.int .u8 4] w fun e w' => e = .returned (.tuple #[.iface 304 (.agg #[.int .u8 4]), .bool true]) ∧ Below w.heap.size w w' := by
  have hix : ∀ wx, (Instr.index 250 (.agg #[.iface 249 (.agg #[]), .iface 302 (.agg #[]), .iface 304 (.agg #[.int .u8 3]), .iface 304 (.agg #[.int .u8 4]), .iface 305 (.agg #[])]) (.int .u8 3)).run Tryz.prog wx = .ok (.iface 304 (.agg #[.int .u8 4])) wx := fun _ => by kernel_rfl
  go_enter Tryz.func141, Tryz.ntmps141
  go_wp2_with (go_at_call 218; refine (kinds_c _).mono ?_; rintro e w1 ⟨rfl, b1⟩)
  go_ret2
  exact ⟨rfl, b1⟩
theorem limits_modal (w : World) : Calls Tryz.prog 364 #[.agg #[.int .u8 4]] w fun e w' => e = .returned (.tuple #[.int .u32 3072, .int .i64 4]) ∧ Below w.heap.size w w' := by
  go_enter Tryz.func364, Tryz.ntmps364
  go_wp2
  go_ret2
  exact ⟨rfl, (Below.refl _ _).alloc (Nat.le_refl _) _⟩
theorem Allowed_modal (w : World) : Calls Tryz.prog 66 #[.int .u8 4] w fun e w' => e = .returned (.int .u32 3326) ∧ Below w.heap.size w w' := by
  have hmt : ∀ wx, (method 474 304 (.agg #[.int .u8 4]) "lyceum/holds.limits").run Tryz.prog wx = .ok (364, .agg #[.int .u8 4]) wx := fun _ => by kernel_rfl
  go_enter Tryz.func66, Tryz.ntmps66
  go_wp2_with fail
  refine (kindOf_modal _).mono ?_
  rintro e w1 ⟨rfl, b1⟩
  have B1 := Lib.hid b1
  clear b1
  go_wp2_with fail
  refine (limits_modal _).mono ?_
  rintro e w2 ⟨rfl, b2⟩
  have B2 := Lib.hid (belowThen B1.out b2)
  clear b2
  go_wp2_with fail
  go_ret
  exact ⟨rfl, B2.out⟩
end Go.Proofs.YtcandidgaegghaaGreatDoor
namespace Go.Proofs.YtcandidgaegghaaGreatDoor
open Go Go.RowKit Ly
set_option maxRecDepth 10000
set_option linter.unusedSimpArgs false
set_option linter.unusedVariables false
set_option maxHeartbeats 800000
/-- The relation of awake's model. -/
structure RelAt (w : World) (b : Nat) : Prop where
  c0 : w.cell? ⟨b, 0, none⟩ = some (.int .i64 2)
  c1 : w.cell? ⟨b, 1, none⟩ = some (.int .i64 0)
theorem RelAt.keep {w w' : World} {b : Nat} (h : RelAt w b) (k : Keeps w w') : RelAt w' b := ⟨k _ _ h.c0, k _ _ h.c1⟩
theorem relation_c (b : Nat) (w : World) (h : RelAt w b) : Calls Tryz.prog 372 #[.slice (some ⟨b, 0, none⟩) 2 2] w fun e w' => e = .returned (.bool true) ∧ w = w' := by
  obtain ⟨c0, c1⟩ := h
  go_enter Tryz.func372, Tryz.ntmps372
  go_wp2_with fail
  refine wp_loop_rounds 3 ?_
  rw [rounds_succ]; go_wp2_with fail
  rw [rounds_succ]; go_wp2_with fail
  rw [rounds_succ]; go_wp2_with fail
  go_ret
  exact ⟨rfl, rfl⟩
theorem lacking_c (b : Nat) (n : Int) (w : World) : Calls Tryz.prog 375 #[.slice (some ⟨b, 0, none⟩) 2 2, .int .u8 0, .int .i64 n] w fun e w' => e = .returned (.int .i64 0) ∧ w = w' := by
  go_enter Tryz.func375, Tryz.ntmps375
  go_wp2_with fail
  go_ret
  exact ⟨rfl, rfl⟩
theorem suits_c (b : Nat) (w : World) : Calls Tryz.prog 373 #[.int .u8 4, .int .u8 0, .slice (some ⟨b, 0, none⟩) 2 2, .int .i64 1] w fun e w' => e = .returned (.bool true) ∧ w = w' := by
  go_enter Tryz.func373, Tryz.ntmps373
  go_wp2_with fail
  refine wp_loop_rounds 3 ?_
  rw [rounds_succ]; go_wp2_with (go_at_call 375; refine (lacking_c _ _ _).mono ?_; rintro e w1 ⟨rfl, rfl⟩)
  rw [rounds_succ]; go_wp2_with (go_at_call 375; refine (lacking_c _ _ _).mono ?_; rintro e w1 ⟨rfl, rfl⟩)
  rw [rounds_succ]; go_wp2_with (go_at_call 375; refine (lacking_c _ _ _).mono ?_; rintro e w1 ⟨rfl, rfl⟩)
  go_ret
  exact ⟨rfl, rfl⟩
end Go.Proofs.YtcandidgaegghaaGreatDoor
namespace Go.Proofs.YtcandidgaegghaaGreatDoor
open Go Go.RowKit Ly
open Go.Sort (grow)
set_option maxRecDepth 10000
set_option linter.unusedSimpArgs false
set_option linter.unusedVariables false
set_option maxHeartbeats 800000
/-- The fact of awake's model. -/
structure FactAt (w : World) (b : Nat) : Prop where
  c0 : w.cell? ⟨b, 0, none⟩ = some (str [80])
  c1 : w.cell? ⟨b, 1, none⟩ = some (.int .i64 0)
  c2 : w.cell? ⟨b, 2, none⟩ = some (.int .i64 2)
theorem FactAt.keep {w w' : World} {b : Nat} (h : FactAt w b) (k : Keeps w w') : FactAt w' b := ⟨k _ _ h.c0, k _ _ h.c1, k _ _ h.c2⟩
theorem Fits_c (b : Nat) (w : World) (h : RelAt w b) : Calls Tryz.prog 371 #[.slice (some ⟨b, 0, none⟩) 2 2, .int .u8 0] w fun e w' => e = .returned (.bool true) ∧ w = w' := by
  have H := Lib.hid h
  clear h
  go_enter Tryz.func371, Tryz.ntmps371
  go_wp2_with (first | (go_at_call 372; refine (relation_c _ _ H.out).mono ?_; rintro e w1 ⟨rfl, rfl⟩) | (go_at_call 373; refine (suits_c _ _).mono ?_; rintro e w1 ⟨rfl, rfl⟩))
  go_ret
  exact ⟨rfl, rfl⟩
theorem frameValid_c (b fb : Nat) (w : World) (h : RelAt w b) (hf : FactAt w fb) :
    Calls Tryz.prog 370 #[.agg #[.int .u8 4, .int .i64 2, .slice (some ⟨b, 0, none⟩) 2 2, .int .i64 0, .slice (some ⟨fb, 0, none⟩) 1 1, .slice none 0 0, .slice none 0 0]] w fun e w' => e = .returned (.bool true) ∧ Below w.heap.size w w' := by
  have H := Lib.hid (h.keep (keeps1 w (.cells #[.int .u8 4, .int .i64 2, .slice (some ⟨b, 0, none⟩) 2 2, .int .i64 0, .slice (some ⟨fb, 0, none⟩) 1 1, .slice none 0 0, .slice none 0 0] 34)))
  obtain ⟨f0, f1, f2⟩ := hf
  have hfb : fb < w.heap.size := World.block_lt_of_cell? w ⟨fb, 0, none⟩ f0
  clear h
  go_enter Tryz.func370, Tryz.ntmps370
  go_wp2_with (first | (go_at_call 372; refine (relation_c _ _ H.out).mono ?_; rintro e w1 ⟨rfl, rfl⟩) | (go_at_call 373; refine (suits_c _ _).mono ?_; rintro e w1 ⟨rfl, rfl⟩))
  refine wp_loop_rounds 2 ?_
  rw [rounds_succ]; go_wp2_with fail
  have WB : Hid (Below w.heap.size w ((w.alloc (.cells #[.int .u8 4, .int .i64 2, .slice (some ⟨b, 0, none⟩) 2 2, .int .i64 0, .slice (some ⟨fb, 0, none⟩) 1 1, .slice none 0 0, .slice none 0 0] 34)).alloc (.cells #[str [80], .int .i64 0, .int .i64 2] 102))) := ((Below.refl _ _).alloc (Nat.le_refl _) _).alloc (by simp) _
  have k0 : ((w.alloc (.cells #[.int .u8 4, .int .i64 2, .slice (some ⟨b, 0, none⟩) 2 2, .int .i64 0, .slice (some ⟨fb, 0, none⟩) 1 1, .slice none 0 0, .slice none 0 0] 34)).alloc (.cells #[str [80], .int .i64 0, .int .i64 2] 102)).cell? ⟨w.heap.size + 1, 0, none⟩ = some (str [80]) := by simp [go_sem]
  have k1 : ((w.alloc (.cells #[.int .u8 4, .int .i64 2, .slice (some ⟨b, 0, none⟩) 2 2, .int .i64 0, .slice (some ⟨fb, 0, none⟩) 1 1, .slice none 0 0, .slice none 0 0] 34)).alloc (.cells #[str [80], .int .i64 0, .int .i64 2] 102)).cell? ⟨w.heap.size + 1, 1, none⟩ = some (.int .i64 0) := by simp [go_sem]
  have k2 : ((w.alloc (.cells #[.int .u8 4, .int .i64 2, .slice (some ⟨b, 0, none⟩) 2 2, .int .i64 0, .slice (some ⟨fb, 0, none⟩) 1 1, .slice none 0 0, .slice none 0 0] 34)).alloc (.cells #[str [80], .int .i64 0, .int .i64 2] 102)).cell? ⟨w.heap.size + 1, 2, none⟩ = some (.int .i64 2) := by simp [go_sem]
  have k3 : ((w.alloc (.cells #[.int .u8 4, .int .i64 2, .slice (some ⟨b, 0, none⟩) 2 2, .int .i64 0, .slice (some ⟨fb, 0, none⟩) 1 1, .slice none 0 0, .slice none 0 0] 34)).alloc (.cells #[str [80], .int .i64 0, .int .i64 2] 102)).cell? ⟨w.heap.size, 0, none⟩ = some (.int .u8 4) := by simp [go_sem]
  have k4 : ((w.alloc (.cells #[.int .u8 4, .int .i64 2, .slice (some ⟨b, 0, none⟩) 2 2, .int .i64 0, .slice (some ⟨fb, 0, none⟩) 1 1, .slice none 0 0, .slice none 0 0] 34)).alloc (.cells #[str [80], .int .i64 0, .int .i64 2] 102)).cell? ⟨w.heap.size, 1, none⟩ = some (.int .i64 2) := by simp [go_sem]
  have k5 : ((w.alloc (.cells #[.int .u8 4, .int .i64 2, .slice (some ⟨b, 0, none⟩) 2 2, .int .i64 0, .slice (some ⟨fb, 0, none⟩) 1 1, .slice none 0 0, .slice none 0 0] 34)).alloc (.cells #[str [80], .int .i64 0, .int .i64 2] 102)).cell? ⟨w.heap.size, 2, none⟩ = some (.slice (some ⟨b, 0, none⟩) 2 2) := by simp [go_sem]
  generalize hW : (w.alloc (.cells #[.int .u8 4, .int .i64 2, .slice (some ⟨b, 0, none⟩) 2 2, .int .i64 0, .slice (some ⟨fb, 0, none⟩) 1 1, .slice none 0 0, .slice none 0 0] 34)).alloc (.cells #[str [80], .int .i64 0, .int .i64 2] 102) = W at *
  have hW1 := H.out
  clear hW hW1
  have cP : Hid (∀ d os, Calls Tryz.prog 198 #[str [80]] (grow (redrawn W d) os) fun e w'' => e = .returned (.bool true) ∧ ∃ p : Regrown, w'' = grow (redrawn W p.d) p.os) := fun d os => Calls.regrown_of ((Predicate_c [80] _ (by decide)).mono fun e w' ⟨he, hb⟩ => ⟨by rw [he]; rfl, hb⟩)
  have r0 := cell_regrown k0; have r1 := cell_regrown k1; have r2 := cell_regrown k2; have r3 := cell_regrown k3; have r4 := cell_regrown k4; have r5 := cell_regrown k5
  refine wp_region_quiet_below (by kernel_rfl) (by kernel_rfl) ?_
  repeat (go_big_quiet_step (first | (go_at_call 198; exact cP.out _ _)))
  refine wpQuiet_nil ?_
  intro wq hw'
  have WQ : Hid (Below W.heap.size W wq) := by
    obtain ⟨⟨dq, osq⟩, hw''⟩ := hw'
    rw [hw'']; exact below_regrown W dq osq
  clear hw' r0 r1 r2 r3 r4 r5
  have KQ := keeps_of_below WQ.out
  have q0 := KQ _ _ k0; have q1 := KQ _ _ k1; have q2 := KQ _ _ k2; have q3 := KQ _ _ k3; have q4 := KQ _ _ k4; have q5 := KQ _ _ k5
  clear k0 k1 k2 k3 k4 k5 KQ cP
  go_wp2_with fail
  go_quiet (fail)
  go_wp2_with fail
  rw [rounds_succ]; go_wp2_with fail
  go_ret
  exact ⟨rfl, (WB.out.trans (WQ.out.mono WB.out.size)).trans ⟨rfl, rfl, rfl, Nat.le_refl _, fun _ _ => rfl⟩⟩
end Go.Proofs.YtcandidgaegghaaGreatDoor
namespace Go.Proofs.YtcandidgaegghaaGreatDoor
open Go Go.RowKit Ly
open Go.Sort (grow)
set_option maxRecDepth 10000
set_option linter.unusedSimpArgs false
set_option linter.unusedVariables false
set_option maxHeartbeats 1600000
theorem framesValid_c (b fb : Nat) (w : World) (h : RelAt w b) (hf : FactAt w fb) :
    Calls Tryz.prog 369 #[.agg #[.int .u8 4], .agg #[.int .u8 4, .int .i64 2, .slice (some ⟨b, 0, none⟩) 2 2, .int .i64 0, .slice (some ⟨fb, 0, none⟩) 1 1, .slice none 0 0, .slice none 0 0], .int .u8 0] w fun e w' => e = .returned (.bool true) ∧ Below w.heap.size w w' := by
  have H := Lib.hid h
  have HF := Lib.hid hf
  clear h hf
  go_enter Tryz.func369, Tryz.ntmps369
  go_wp2_with fail
  refine (frameValid_c b fb _ (H.out.keep (keeps2 _ _ _)) (HF.out.keep (keeps2 _ _ _))).mono ?_
  rintro e w1 ⟨rfl, b1⟩
  obtain ⟨hc1, hf1⟩ := bcell b1
  have B1 : Hid (Below w.heap.size w w1) := below2 b1
  have H1 := Lib.hid (H.out.keep (keeps_of_below B1.out))
  clear b1
  go_wp2_with (go_at_call 371; refine (Fits_c _ _ H1.out).mono ?_; rintro e w2 ⟨rfl, rfl⟩)
  go_ret
  exact ⟨rfl, B1.out⟩
theorem logical_c (r : Value) (w : World) (hr : r = .slice none 0 0) : Calls Tryz.prog 142 #[.agg #[str [], .int .u32 3326, .int .u8 4, .int .u8 0, r]] w fun e w' => e = .returned (.bool true) ∧ Below w.heap.size w w' := by
  subst hr
  have k0 : (w.alloc (.cells #[str [], .int .u32 3326, .int .u8 4, .int .u8 0, .slice none 0 0] 112)).cell? ⟨w.heap.size, 1, none⟩ = some (.int .u32 3326) := by simp [go_sem]
  have k1 : (w.alloc (.cells #[str [], .int .u32 3326, .int .u8 4, .int .u8 0, .slice none 0 0] 112)).cell? ⟨w.heap.size, 2, none⟩ = some (.int .u8 4) := by simp [go_sem]
  have k2 : (w.alloc (.cells #[str [], .int .u32 3326, .int .u8 4, .int .u8 0, .slice none 0 0] 112)).cell? ⟨w.heap.size, 3, none⟩ = some (.int .u8 0) := by simp [go_sem]
  have WB : Hid (Below w.heap.size w (w.alloc (.cells #[str [], .int .u32 3326, .int .u8 4, .int .u8 0, .slice none 0 0] 112))) := (Below.refl _ _).alloc (Nat.le_refl _) _
  go_enter Tryz.func142, Tryz.ntmps142
  go_wp2_with fail
  generalize hW : w.alloc (.cells #[str [], .int .u32 3326, .int .u8 4, .int .u8 0, .slice none 0 0] 112) = W at *
  clear hW
  have cP : Hid (∀ d os, Calls Tryz.prog 66 #[.int .u8 4] (grow (redrawn W d) os) fun e w'' => e = .returned (.int .u32 3326) ∧ ∃ p : Regrown, w'' = grow (redrawn W p.d) p.os) := fun d os => Calls.regrown_of (Allowed_modal _)
  have r0 := cell_regrown k0; have r1 := cell_regrown k1; have r2 := cell_regrown k2
  refine wp_region_quiet_below (by kernel_rfl) (by kernel_rfl) ?_
  repeat (go_big_quiet_step (first | (go_at_call 66; exact cP.out _ _)))
  refine wpQuiet_nil ?_
  intro wq hw'
  have WQ : Hid (Below W.heap.size W wq) := by
    obtain ⟨⟨dq, osq⟩, hw''⟩ := hw'
    rw [hw'']; exact below_regrown W dq osq
  clear hw' r0 r1 r2
  have KQ := keeps_of_below WQ.out
  have q0 := KQ _ _ k0; have q1 := KQ _ _ k1; have q2 := KQ _ _ k2
  clear k0 k1 k2 KQ cP
  go_wp2_with fail
  go_ret
  exact ⟨rfl, WB.out.trans (WQ.out.mono WB.out.size)⟩
theorem Valid_c (b fb : Nat) (w : World) (h : RelAt w b) (hf : FactAt w fb) :
    Calls Tryz.prog 65 #[.agg #[str [], .int .u32 3326, .int .u8 4, .int .u8 0, .slice none 0 0], .agg #[.int .u8 4, .int .i64 2, .slice (some ⟨b, 0, none⟩) 2 2, .int .i64 0, .slice (some ⟨fb, 0, none⟩) 1 1, .slice none 0 0, .slice none 0 0]] w fun e w' => e = .returned (.bool true) ∧ Below w.heap.size w w' := by
  have H := Lib.hid h
  have HF := Lib.hid hf
  have hmt : ∀ wx, (method 474 304 (.agg #[.int .u8 4]) "lyceum/holds.valid").run Tryz.prog wx = .ok (369, .agg #[.int .u8 4]) wx := fun _ => by kernel_rfl
  clear h hf
  go_enter Tryz.func65, Tryz.ntmps65
  go_wp2_with fail
  refine (kindOf_modal _).mono ?_
  rintro e w1 ⟨rfl, b1⟩
  obtain ⟨hc1, hf1⟩ := bcell b1
  have B1 := Lib.hid b1
  have z1 : w.heap.size + 1 < w1.heap.size := by have := b1.size; simp at this; omega
  clear b1
  go_wp2_with fail
  refine (logical_c _ _ rfl).mono ?_
  rintro e w2 ⟨rfl, b2⟩
  obtain ⟨hc2, hf2⟩ := bcell (belowThen B1.out b2)
  have B2 := Lib.hid (belowThen B1.out b2)
  have z2 : w.heap.size + 1 < w2.heap.size := Nat.lt_of_lt_of_le z1 b2.size
  clear b2 hc1 hf1
  go_wp2_with fail
  have K2 : Keeps w w2 := keeps_of_below (below2 B2.out)
  refine (framesValid_c b fb _ (H.out.keep K2) (HF.out.keep K2)).mono ?_
  rintro e w3 ⟨rfl, b3⟩
  have B3 := Lib.hid (below2 (belowThen B2.out b3))
  clear b3 K2
  go_wp2_with fail
  go_ret
  exact ⟨rfl, B3.out⟩
end Go.Proofs.YtcandidgaegghaaGreatDoor
namespace Go.Proofs.YtcandidgaegghaaGreatDoor
open Go Go.RowKit Ly
open Go.Sort (grow)
set_option maxRecDepth 10000
set_option linter.unusedSimpArgs false
set_option linter.unusedVariables false
set_option maxHeartbeats 1600000
theorem info3 : (Tryz.prog.info? 3).map (fun i => (i.zero, i.size, i.bytes)) = some (some (.int .i64 0), 1, 8) := by kernel_rfl
theorem bits0_c (w : World) : Calls Tryz.prog 71 #[.int .i64 0] w fun e w' => e = .returned (.slice none 0 0) ∧ w = w' := by
  go_enter Tryz.func71, Tryz.ntmps71
  go_wp2_with fail
  refine wp_loop_rounds 1 ?_
  rw [rounds_succ]; go_wp2_with fail
  go_ret
  exact ⟨rfl, rfl⟩
/-- A list of numbers in new memory. -/
def RetInts (l : List Int) (w : World) (e : Ending) (w' : World) : Prop := ∃ v, e = .returned v ∧ IntsAt w' l v ∧ Below w.heap.size w w'
theorem ints_own1 {w : World} {B : Nat} {v : Value} {x : Int} (h : w.ownsRow B 3 1 v 1 [.int .i64 x]) : IntsAt w [x] v := by
  have h0 := h
  obtain ⟨h1, h2⟩ := h
  rcases h2 with ⟨_, hn⟩ | ⟨g, cap, cur, rfl, hb, hg, hc, hm, hs, ht⟩
  · cases hn
  · refine At.sl_mk (by simp) hc hm fun j d hd => ?_
    have hj : j = 0 := by have := (List.getElem?_eq_some_iff.1 hd).1; simp at this; omega
    subst hj
    have hcell := h0.cells (g := g) rfl 0 (.int .i64 x) rfl
    cases hd
    refine ⟨_, ?_, rfl⟩
    rw [← hcell]; rfl
theorem bits2_c (w : World) : Calls Tryz.prog 71 #[.int .i64 2] w (RetInts [1] w) := by
  obtain ⟨i0, hi0, hz0, hs0, hb0⟩ := info_parts info3
  go_enter Tryz.func71, Tryz.ntmps71
  go_wp2_with fail
  refine wp_loop_rounds 3 ?_
  rw [rounds_succ]; go_wp2_with fail
  rw [rounds_succ]
  go_wp2_with (at_builtin; refine wpList_append_own _ rfl _ _ 29 rfl w.heap.size 3 i0 (.int .i64 0) 1 8 Tryz.underlying29 hi0 hz0 hs0 hb0 rfl (by decide) _ _ _ rfl (World.ownsRow_nil _ _ _ _) ⟨w.heap.size, 0, none⟩ 1 1 [.int .i64 1] rfl rfl (cell_one_new _ _ _) (by intro u hu; simp at hu; subst hu; rfl) (by decide) (by decide) (by simp) ?_)
  intro v' w2 hown hg _
  have I2 := Lib.hid (ints_own1 hown)
  have B2 : Hid (Below w.heap.size w w2) := ((Below.refl _ _).alloc (Nat.le_refl _) _).grown hg (by simp) (fun k hk => by simp [Value.ownBlock] at hk)
  clear hown hg
  go_wp2_with fail
  rw [rounds_succ]; go_wp2_with fail
  go_ret
  exact ⟨_, rfl, I2.out, B2.out⟩
end Go.Proofs.YtcandidgaegghaaGreatDoor
