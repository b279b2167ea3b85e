/- describe.Model at a model of nothing but a kind and a size below 1: no words. Conditions: none but those of each statement. -/
import Derived.Test.YtcandidgaegghaaGreatDoorModBZ
import Derived.Outline
namespace Go.Proofs.YtcandidgaegghaaGreatDoor
open Go Go.RowKit Ly
open Go.Sort (grow)
set_option maxRecDepth 10000
set_option linter.unusedSimpArgs false
set_option linter.unusedVariables false
set_option maxHeartbeats 1600000
theorem isNames_nil (w : World) : Calls Tryz.prog 343 #[.slice none 0 0] w fun e w' => e = .returned (.bool true) ∧ w = w' := by
  go_enter Tryz.func343, Tryz.ntmps343
  go_wp2_with fail
  go_loop [7] (fun i => i = .int .i64 0) (fun i => 1 - (intOf i).toNat)
  case atStart => rfl
  case round =>
    obtain rfl := hrel
    go_wp2_with fail
    go_ret
    exact ⟨rfl, rfl⟩
theorem valuation_nil (z : Int) (w : World) : Calls Tryz.prog 340 #[.agg #[.int .u8 1, .int .i64 z, .slice none 0 0, .int .i64 0, .slice none 0 0, .slice none 0 0, .slice none 0 0]] w fun e w' => e = .returned (.tuple #[.slice none 0 0, .int .i64 0, .bool true]) ∧ Below w.heap.size w w' := by
  go_enter Tryz.func340, Tryz.ntmps340
  go_wp2_with fail
  go_loop [5, 6, 16] (fun a b i => a = .slice none 0 0 ∧ b = .int .i64 0 ∧ i = .int .i64 0) (fun _ _ i => 1 - (intOf i).toNat)
  case atStart => exact ⟨rfl, rfl, rfl⟩
  case round =>
    obtain ⟨rfl, rfl, rfl⟩ := hrel
    go_wp2_with fail
    go_ret3
    exact ⟨rfl, (Below.refl _ _).alloc (Nat.le_refl _) _⟩

theorem relation_nil (w : World) : Calls Tryz.prog 372 #[.slice none 0 0] w fun e w' => e = .returned (.bool false) ∧ w = w' := by
  go_enter Tryz.func372, Tryz.ntmps372
  go_wp2_with fail
  go_ret
  exact ⟨rfl, rfl⟩
theorem finValid_no (z : Int) (hz : z ≤ 0) (w : World) : Calls Tryz.prog 352 #[.agg #[.int .u8 2, .int .i64 z, .slice none 0 0, .int .i64 0, .slice none 0 0, .slice none 0 0, .slice none 0 0]] w fun e w' => e = .returned (.bool false) ∧ Below w.heap.size w w' := by
  have t0 : decide (z < 1) = true := by simp; omega
  go_enter Tryz.func352, Tryz.ntmps352
  go_wp2_with (fail)
  go_ret
  exact ⟨rfl, (Below.refl _ _).alloc (Nat.le_refl _) _⟩
theorem traceValid_no (z : Int) (hz : z ≤ 0) (w : World) : Calls Tryz.prog 388 #[.agg #[.int .u8 5, .int .i64 z, .slice none 0 0, .int .i64 0, .slice none 0 0, .slice none 0 0, .slice none 0 0]] w fun e w' => e = .returned (.bool false) ∧ Below w.heap.size w w' := by
  have t0 : decide (z < 1) = true := by simp; omega
  go_enter Tryz.func388, Tryz.ntmps388
  go_wp2_with (fail)
  go_ret
  exact ⟨rfl, (Below.refl _ _).alloc (Nat.le_refl _) _⟩
theorem frameValid_no3 (z : Int) (w : World) : Calls Tryz.prog 370 #[.agg #[.int .u8 3, .int .i64 z, .slice none 0 0, .int .i64 0, .slice none 0 0, .slice none 0 0, .slice none 0 0]] w fun e w' => e = .returned (.bool false) ∧ Below w.heap.size w w' := by
  go_enter Tryz.func370, Tryz.ntmps370
  go_wp2_with (go_at_call 372; refine (relation_nil _).mono ?_; rintro e w1 ⟨rfl, rfl⟩)
  go_ret
  exact ⟨rfl, (Below.refl _ _).alloc (Nat.le_refl _) _⟩
theorem frameValid_no4 (z : Int) (w : World) : Calls Tryz.prog 370 #[.agg #[.int .u8 4, .int .i64 z, .slice none 0 0, .int .i64 0, .slice none 0 0, .slice none 0 0, .slice none 0 0]] w fun e w' => e = .returned (.bool false) ∧ Below w.heap.size w w' := by
  go_enter Tryz.func370, Tryz.ntmps370
  go_wp2_with (go_at_call 372; refine (relation_nil _).mono ?_; rintro e w1 ⟨rfl, rfl⟩)
  go_ret
  exact ⟨rfl, (Below.refl _ _).alloc (Nat.le_refl _) _⟩
theorem u34 : ∃ fs, Tryz.prog.underlying 34 = some (.struct fs) := ⟨_, Tryz.underlying34⟩
theorem i34 : (Tryz.prog.info? 34).map (·.size) = some 7 := by kernel_rfl
theorem res341 (tmps : Array Value) (w : World) (g : Nat) (a b c d e f x z : Value) (h2 : tmps.getD 4 undef = .pointer (some ⟨g, 0, none⟩)) (h3 : tmps.getD 5 undef = z) (hg : w.heap[g]? = some (.cells #[a, b, c, d, e, f, x] 34 (0, 0))) :
    (results Tryz.f341 tmps).run Tryz.prog w = .ok (.tuple #[.agg #[a, b, c, d, e, f, x], z]) w := by
  obtain ⟨fs, h1⟩ := u34
  have e2 : tmps[4]?.getD undef = .pointer (some ⟨g, 0, none⟩) := by simpa using h2
  have e3 : tmps[5]?.getD undef = z := by simpa using h3
  simp [results, Tryz.results341, e2, e3, asAddr, run_loadVar_row w g 34 34 #[a, b, c, d, e, f, x] (0, 0) _ hg h1 rfl i34]
def modelW (W : World) (g : Nat) (a b c d e f x : Value) : World := ((((((W.setCell ⟨g, 0, none⟩ a).setCell ⟨g, 1, none⟩ b).setCell ⟨g, 2, none⟩ c).setCell ⟨g, 3, none⟩ d).setCell ⟨g, 4, none⟩ e).setCell ⟨g, 5, none⟩ f).setCell ⟨g, 6, none⟩ x
theorem truthModel_nil (w : World) : Calls Tryz.prog 341 #[.slice none 0 0, .int .i64 0] w fun e w' => e = .returned (.tuple #[.agg #[.int .u8 1, .int .i64 1, .slice none 0 0, .int .i64 0, .slice none 0 0, .slice none 0 0, .slice none 0 0], .int .i64 0]) ∧ Below w.heap.size w w' := by
  have z0 := heap_alloc_new w (.cells #[.int .u8 0, .int .i64 0, .slice none 0 0, .int .i64 0, .slice none 0 0, .slice none 0 0, .slice none 0 0] 34)
  go_enter Tryz.func341, Tryz.ntmps341
  go_wp2_with (go_at_call 343; refine (isNames_nil _).mono ?_; rintro e w1 ⟨rfl, rfl⟩)
  go_loopw [31] (fun i wr => i = .int .i64 0 ∧ wr = (w.alloc (.cells #[.int .u8 0, .int .i64 0, .slice none 0 0, .int .i64 0, .slice none 0 0, .slice none 0 0, .slice none 0 0] 34)).alloc (.cells #[.int .u8 1, .int .i64 1, .slice none 0 0, .int .i64 0, .slice none 0 0, .slice none 0 0, .slice none 0 0] 34)) (fun i _ => 1 - (intOf i).toNat)
  case atStart => exact ⟨rfl, rfl⟩
  case round =>
    obtain ⟨rfl, rfl⟩ := hrel
    go_wp2_with fail
    refine bodyPost_ret (res341 _ _ w.heap.size _ _ _ _ _ _ _ _ rfl rfl ((heap_alloc_old _ _ (by simp)).trans (heap_alloc_new w _))) rfl ⟨rfl, ((Below.refl _ _).alloc (Nat.le_refl _) _).alloc (by simp) _⟩
theorem kindOf_0 (w : World) : Calls Tryz.prog 141 #[.int .u8 0] w fun e w' => e = .returned (.tuple #[.iface 249 (.agg #[]), .bool false]) ∧ Below w.heap.size w w' := by
  go_enter Tryz.func141, Tryz.ntmps141
  go_wp2_with fail
  go_ret2
  exact ⟨rfl, Below.refl _ _⟩
theorem Allowed_0 (w : World) : Calls Tryz.prog 66 #[.int .u8 0] w fun e w' => e = .returned (.int .u32 0) ∧ Below w.heap.size w w' := by
  go_enter Tryz.func66, Tryz.ntmps66
  go_wp2_with (go_at_call 141; refine (kindOf_0 _).mono ?_; rintro e w1 ⟨rfl, b1⟩)
  go_ret
  exact ⟨rfl, b1⟩
theorem Valid_0 (z : Int) (w : World) : Calls Tryz.prog 65 #[.agg #[str [], .int .u32 0, .int .u8 0, .int .u8 0, .slice none 0 0], .agg #[.int .u8 0, .int .i64 z, .slice none 0 0, .int .i64 0, .slice none 0 0, .slice none 0 0, .slice none 0 0]] w fun e w' => e = .returned (.bool false) ∧ Below w.heap.size w w' := by
  go_enter Tryz.func65, Tryz.ntmps65
  go_wp2_with (go_at_call 141; refine (kindOf_0 _).mono ?_; rintro e w1 ⟨rfl, b1⟩)
  go_ret
  exact ⟨rfl, below2 b1⟩

theorem kindOf_6 (w : World) : Calls Tryz.prog 141 #[.int .u8 6] w fun e w' => e = .returned (.tuple #[.iface 249 (.agg #[]), .bool false]) ∧ Below w.heap.size w w' := by
  go_enter Tryz.func141, Tryz.ntmps141
  go_wp2_with fail
  go_ret2
  exact ⟨rfl, Below.refl _ _⟩
theorem Allowed_6 (w : World) : Calls Tryz.prog 66 #[.int .u8 6] w fun e w' => e = .returned (.int .u32 0) ∧ Below w.heap.size w w' := by
  go_enter Tryz.func66, Tryz.ntmps66
  go_wp2_with (go_at_call 141; refine (kindOf_6 _).mono ?_; rintro e w1 ⟨rfl, b1⟩)
  go_ret
  exact ⟨rfl, b1⟩
theorem Valid_6 (z : Int) (w : World) : Calls Tryz.prog 65 #[.agg #[str [], .int .u32 0, .int .u8 6, .int .u8 0, .slice none 0 0], .agg #[.int .u8 6, .int .i64 z, .slice none 0 0, .int .i64 0, .slice none 0 0, .slice none 0 0, .slice none 0 0]] w fun e w' => e = .returned (.bool false) ∧ Below w.heap.size w w' := by
  go_enter Tryz.func65, Tryz.ntmps65
  go_wp2_with (go_at_call 141; refine (kindOf_6 _).mono ?_; rintro e w1 ⟨rfl, b1⟩)
  go_ret
  exact ⟨rfl, below2 b1⟩

theorem kindOf_7 (w : World) : Calls Tryz.prog 141 #[.int .u8 7] w fun e w' => e = .returned (.tuple #[.iface 249 (.agg #[]), .bool false]) ∧ Below w.heap.size w w' := by
  go_enter Tryz.func141, Tryz.ntmps141
  go_wp2_with fail
  go_ret2
  exact ⟨rfl, Below.refl _ _⟩
theorem Allowed_7 (w : World) : Calls Tryz.prog 66 #[.int .u8 7] w fun e w' => e = .returned (.int .u32 0) ∧ Below w.heap.size w w' := by
  go_enter Tryz.func66, Tryz.ntmps66
  go_wp2_with (go_at_call 141; refine (kindOf_7 _).mono ?_; rintro e w1 ⟨rfl, b1⟩)
  go_ret
  exact ⟨rfl, b1⟩
theorem Valid_7 (z : Int) (w : World) : Calls Tryz.prog 65 #[.agg #[str [], .int .u32 0, .int .u8 7, .int .u8 0, .slice none 0 0], .agg #[.int .u8 7, .int .i64 z, .slice none 0 0, .int .i64 0, .slice none 0 0, .slice none 0 0, .slice none 0 0]] w fun e w' => e = .returned (.bool false) ∧ Below w.heap.size w w' := by
  go_enter Tryz.func65, Tryz.ntmps65
  go_wp2_with (go_at_call 141; refine (kindOf_7 _).mono ?_; rintro e w1 ⟨rfl, b1⟩)
  go_ret
  exact ⟨rfl, below2 b1⟩

theorem kindOf_1 (w : World) : Calls Tryz.prog 141 #[.int .u8 1] w fun e w' => e = .returned (.tuple #[.iface 249 (.agg #[]), .bool true]) ∧ Below w.heap.size w w' := by
  have hix : ∀ wx, (Instr.index 250 (.agg #[.iface 249 (.agg #[]), .iface 302 (.agg #[]), .iface 304 (.agg #[.int .u8 3]), .iface 304 (.agg #[.int .u8 4]), .iface 305 (.agg #[])]) (.int .u8 0)).run Tryz.prog wx = .ok (.iface 249 (.agg #[])) wx := fun _ => by kernel_rfl
  go_enter Tryz.func141, Tryz.ntmps141
  go_wp2_with (go_at_call 218; refine (kinds_c _).mono ?_; rintro e w1 ⟨rfl, b1⟩)
  go_ret2
  exact ⟨rfl, b1⟩
theorem limits_1 (w : World) : Calls Tryz.prog 334 #[.agg #[]] w fun e w' => e = .returned (.tuple #[.int .u32 0, .int .i64 1]) ∧ Below w.heap.size w w' := by
  go_enter Tryz.func334, Tryz.ntmps334
  go_wp2
  go_ret2
  exact ⟨rfl, (Below.refl _ _).alloc (Nat.le_refl _) _⟩
theorem Allowed_1 (w : World) : Calls Tryz.prog 66 #[.int .u8 1] w fun e w' => e = .returned (.int .u32 254) ∧ Below w.heap.size w w' := by
  have hmt : ∀ wx, (method 474 249 (.agg #[]) "lyceum/holds.limits").run Tryz.prog wx = .ok (334, .agg #[]) wx := fun _ => by kernel_rfl
  go_enter Tryz.func66, Tryz.ntmps66
  go_wp2_with fail
  refine (kindOf_1 _).mono ?_
  rintro e w1 ⟨rfl, b1⟩
  have B1 := Lib.hid b1
  clear b1
  go_wp2_with fail
  refine (limits_1 _).mono ?_
  rintro e w2 ⟨rfl, b2⟩
  have B2 := Lib.hid (belowThen B1.out b2)
  clear b2
  go_wp2_with fail
  go_ret
  exact ⟨rfl, B2.out⟩

theorem logical_1 (w : World) : Calls Tryz.prog 142 #[.agg #[str [], .int .u32 254, .int .u8 1, .int .u8 0, .slice none 0 0]] w fun e w' => e = .returned (.bool true) ∧ Below w.heap.size w w' := by
  have k0 : (w.alloc (.cells #[str [], .int .u32 254, .int .u8 1, .int .u8 0, .slice none 0 0] 112)).cell? ⟨w.heap.size, 1, none⟩ = some (.int .u32 254) := by simp [go_sem]
  have k1 : (w.alloc (.cells #[str [], .int .u32 254, .int .u8 1, .int .u8 0, .slice none 0 0] 112)).cell? ⟨w.heap.size, 2, none⟩ = some (.int .u8 1) := by simp [go_sem]
  have k2 : (w.alloc (.cells #[str [], .int .u32 254, .int .u8 1, .int .u8 0, .slice none 0 0] 112)).cell? ⟨w.heap.size, 3, none⟩ = some (.int .u8 0) := by simp [go_sem]
  have WB : Hid (Below w.heap.size w (w.alloc (.cells #[str [], .int .u32 254, .int .u8 1, .int .u8 0, .slice none 0 0] 112))) := (Below.refl _ _).alloc (Nat.le_refl _) _
  go_enter Tryz.func142, Tryz.ntmps142
  go_wp2_with fail
  generalize hW : w.alloc (.cells #[str [], .int .u32 254, .int .u8 1, .int .u8 0, .slice none 0 0] 112) = W at *
  clear hW
  have cP : Hid (∀ d os, Calls Tryz.prog 66 #[.int .u8 1] (grow (redrawn W d) os) fun e w'' => e = .returned (.int .u32 254) ∧ ∃ p : Regrown, w'' = grow (redrawn W p.d) p.os) := fun d os => Calls.regrown_of (Allowed_1 _)
  have r0 := cell_regrown k0; have r1 := cell_regrown k1; have r2 := cell_regrown k2
  refine wp_region_quiet_below (by kernel_rfl) (by kernel_rfl) ?_
  repeat (go_big_quiet_step (first | (go_at_call 66; exact cP.out _ _)))
  refine wpQuiet_nil ?_
  intro wq hw'
  have WQ : Hid (Below W.heap.size W wq) := by
    obtain ⟨⟨dq, osq⟩, hw''⟩ := hw'
    rw [hw'']; exact below_regrown W dq osq
  clear hw' r0 r1 r2
  have KQ := keeps_of_below WQ.out
  have q0 := KQ _ _ k0; have q1 := KQ _ _ k1; have q2 := KQ _ _ k2
  clear k0 k1 k2 KQ cP
  go_wp2_with fail
  go_ret
  exact ⟨rfl, WB.out.trans (WQ.out.mono WB.out.size)⟩

theorem valid_1 (z : Int) (hz : z ≤ 0) (w : World) : Calls Tryz.prog 339 #[.agg #[], .agg #[.int .u8 1, .int .i64 z, .slice none 0 0, .int .i64 0, .slice none 0 0, .slice none 0 0, .slice none 0 0], .int .u8 0] w fun e w' => e = .returned (.bool false) ∧ Below w.heap.size w w' := by
  have t1 : (z == 1) = false := by simp; omega
  go_enter Tryz.func339, Tryz.ntmps339
  go_wp2_with (go_at_call 340; refine (valuation_nil z _).mono ?_; rintro e w1 ⟨rfl, b1⟩)
  obtain ⟨hc1, hf1⟩ := bcell b1
  have B1 := Lib.hid (below2 b1)
  have z1 : w.heap.size + 1 < w1.heap.size := by have := b1.size; simp at this; omega
  clear b1
  refine (truthModel_nil _).mono ?_
  rintro e w2 ⟨rfl, b2⟩
  obtain ⟨hc2, hf2⟩ := bcell b2
  have B2 := Lib.hid (belowThen B1.out b2)
  have z2 : w.heap.size + 1 < w2.heap.size := Nat.lt_of_lt_of_le z1 b2.size
  have d1 : w2.cell? ⟨w.heap.size + 1, 1, none⟩ = some (.int .i64 z) := by rw [hc2 _ _ z1, hc1 _ _ (by simp)]; simp [go_sem]
  clear b2 hc1 hf1 hc2 hf2
  go_wp2_with fail
  go_ret
  exact ⟨rfl, B2.out.alloc B2.out.size _⟩

theorem Valid_1 (z : Int) (hz : z ≤ 0) (w : World) : Calls Tryz.prog 65 #[.agg #[str [], .int .u32 254, .int .u8 1, .int .u8 0, .slice none 0 0], .agg #[.int .u8 1, .int .i64 z, .slice none 0 0, .int .i64 0, .slice none 0 0, .slice none 0 0, .slice none 0 0]] w fun e w' => e = .returned (.bool false) ∧ Below w.heap.size w w' := by
  have hmt : ∀ wx, (method 474 249 (.agg #[]) "lyceum/holds.valid").run Tryz.prog wx = .ok (339, .agg #[]) wx := fun _ => by kernel_rfl
  have HZ := Lib.hid hz
  go_enter Tryz.func65, Tryz.ntmps65
  go_wp2_with fail
  refine (kindOf_1 _).mono ?_
  rintro e w1 ⟨rfl, b1⟩
  obtain ⟨hc1, hf1⟩ := bcell b1
  have B1 := Lib.hid b1
  have z1 : w.heap.size + 1 < w1.heap.size := by have := b1.size; simp at this; omega
  clear b1
  go_wp2_with fail
  refine (logical_1 _).mono ?_
  rintro e w2 ⟨rfl, b2⟩
  obtain ⟨hc2, hf2⟩ := bcell (belowThen B1.out b2)
  have B2 := Lib.hid (belowThen B1.out b2)
  have z2 : w.heap.size + 1 < w2.heap.size := Nat.lt_of_lt_of_le z1 b2.size
  clear b2 hc1 hf1
  go_wp2_with fail
  refine (valid_1 z HZ.out _).mono ?_
  rintro e w3 ⟨rfl, b3⟩
  have B3 := Lib.hid (below2 (belowThen B2.out b3))
  clear b3
  go_wp2_with fail
  go_ret
  exact ⟨rfl, B3.out⟩

theorem kindOf_2 (w : World) : Calls Tryz.prog 141 #[.int .u8 2] w fun e w' => e = .returned (.tuple #[.iface 302 (.agg #[]), .bool true]) ∧ Below w.heap.size w w' := by
  have hix : ∀ wx, (Instr.index 250 (.agg #[.iface 249 (.agg #[]), .iface 302 (.agg #[]), .iface 304 (.agg #[.int .u8 3]), .iface 304 (.agg #[.int .u8 4]), .iface 305 (.agg #[])]) (.int .u8 1)).run Tryz.prog wx = .ok (.iface 302 (.agg #[])) wx := fun _ => by kernel_rfl
  go_enter Tryz.func141, Tryz.ntmps141
  go_wp2_with (go_at_call 218; refine (kinds_c _).mono ?_; rintro e w1 ⟨rfl, b1⟩)
  go_ret2
  exact ⟨rfl, b1⟩
theorem limits_2 (w : World) : Calls Tryz.prog 346 #[.agg #[]] w fun e w' => e = .returned (.tuple #[.int .u32 768, .int .i64 3]) ∧ Below w.heap.size w w' := by
  go_enter Tryz.func346, Tryz.ntmps346
  go_wp2
  go_ret2
  exact ⟨rfl, (Below.refl _ _).alloc (Nat.le_refl _) _⟩
theorem Allowed_2 (w : World) : Calls Tryz.prog 66 #[.int .u8 2] w fun e w' => e = .returned (.int .u32 1022) ∧ Below w.heap.size w w' := by
  have hmt : ∀ wx, (method 474 302 (.agg #[]) "lyceum/holds.limits").run Tryz.prog wx = .ok (346, .agg #[]) wx := fun _ => by kernel_rfl
  go_enter Tryz.func66, Tryz.ntmps66
  go_wp2_with fail
  refine (kindOf_2 _).mono ?_
  rintro e w1 ⟨rfl, b1⟩
  have B1 := Lib.hid b1
  clear b1
  go_wp2_with fail
  refine (limits_2 _).mono ?_
  rintro e w2 ⟨rfl, b2⟩
  have B2 := Lib.hid (belowThen B1.out b2)
  clear b2
  go_wp2_with fail
  go_ret
  exact ⟨rfl, B2.out⟩

theorem logical_2 (w : World) : Calls Tryz.prog 142 #[.agg #[str [], .int .u32 1022, .int .u8 2, .int .u8 0, .slice none 0 0]] w fun e w' => e = .returned (.bool true) ∧ Below w.heap.size w w' := by
  have k0 : (w.alloc (.cells #[str [], .int .u32 1022, .int .u8 2, .int .u8 0, .slice none 0 0] 112)).cell? ⟨w.heap.size, 1, none⟩ = some (.int .u32 1022) := by simp [go_sem]
  have k1 : (w.alloc (.cells #[str [], .int .u32 1022, .int .u8 2, .int .u8 0, .slice none 0 0] 112)).cell? ⟨w.heap.size, 2, none⟩ = some (.int .u8 2) := by simp [go_sem]
  have k2 : (w.alloc (.cells #[str [], .int .u32 1022, .int .u8 2, .int .u8 0, .slice none 0 0] 112)).cell? ⟨w.heap.size, 3, none⟩ = some (.int .u8 0) := by simp [go_sem]
  have WB : Hid (Below w.heap.size w (w.alloc (.cells #[str [], .int .u32 1022, .int .u8 2, .int .u8 0, .slice none 0 0] 112))) := (Below.refl _ _).alloc (Nat.le_refl _) _
  go_enter Tryz.func142, Tryz.ntmps142
  go_wp2_with fail
  generalize hW : w.alloc (.cells #[str [], .int .u32 1022, .int .u8 2, .int .u8 0, .slice none 0 0] 112) = W at *
  clear hW
  have cP : Hid (∀ d os, Calls Tryz.prog 66 #[.int .u8 2] (grow (redrawn W d) os) fun e w'' => e = .returned (.int .u32 1022) ∧ ∃ p : Regrown, w'' = grow (redrawn W p.d) p.os) := fun d os => Calls.regrown_of (Allowed_2 _)
  have r0 := cell_regrown k0; have r1 := cell_regrown k1; have r2 := cell_regrown k2
  refine wp_region_quiet_below (by kernel_rfl) (by kernel_rfl) ?_
  repeat (go_big_quiet_step (first | (go_at_call 66; exact cP.out _ _)))
  refine wpQuiet_nil ?_
  intro wq hw'
  have WQ : Hid (Below W.heap.size W wq) := by
    obtain ⟨⟨dq, osq⟩, hw''⟩ := hw'
    rw [hw'']; exact below_regrown W dq osq
  clear hw' r0 r1 r2
  have KQ := keeps_of_below WQ.out
  have q0 := KQ _ _ k0; have q1 := KQ _ _ k1; have q2 := KQ _ _ k2
  clear k0 k1 k2 KQ cP
  go_wp2_with fail
  go_ret
  exact ⟨rfl, WB.out.trans (WQ.out.mono WB.out.size)⟩

theorem valid_2 (z : Int) (hz : z ≤ 0) (w : World) : Calls Tryz.prog 351 #[.agg #[], .agg #[.int .u8 2, .int .i64 z, .slice none 0 0, .int .i64 0, .slice none 0 0, .slice none 0 0, .slice none 0 0], .int .u8 0] w fun e w' => e = .returned (.bool false) ∧ Below w.heap.size w w' := by
  have t0 : decide (z < 1) = true := by simp; omega
  go_enter Tryz.func351, Tryz.ntmps351
  go_wp2_with (go_at_call 352; refine (finValid_no z hz _).mono ?_; rintro e w1 ⟨rfl, b1⟩)
  go_ret
  exact ⟨rfl, below2 b1⟩

theorem Valid_2 (z : Int) (hz : z ≤ 0) (w : World) : Calls Tryz.prog 65 #[.agg #[str [], .int .u32 1022, .int .u8 2, .int .u8 0, .slice none 0 0], .agg #[.int .u8 2, .int .i64 z, .slice none 0 0, .int .i64 0, .slice none 0 0, .slice none 0 0, .slice none 0 0]] w fun e w' => e = .returned (.bool false) ∧ Below w.heap.size w w' := by
  have hmt : ∀ wx, (method 474 302 (.agg #[]) "lyceum/holds.valid").run Tryz.prog wx = .ok (351, .agg #[]) wx := fun _ => by kernel_rfl
  have HZ := Lib.hid hz
  go_enter Tryz.func65, Tryz.ntmps65
  go_wp2_with fail
  refine (kindOf_2 _).mono ?_
  rintro e w1 ⟨rfl, b1⟩
  obtain ⟨hc1, hf1⟩ := bcell b1
  have B1 := Lib.hid b1
  have z1 : w.heap.size + 1 < w1.heap.size := by have := b1.size; simp at this; omega
  clear b1
  go_wp2_with fail
  refine (logical_2 _).mono ?_
  rintro e w2 ⟨rfl, b2⟩
  obtain ⟨hc2, hf2⟩ := bcell (belowThen B1.out b2)
  have B2 := Lib.hid (belowThen B1.out b2)
  have z2 : w.heap.size + 1 < w2.heap.size := Nat.lt_of_lt_of_le z1 b2.size
  clear b2 hc1 hf1
  go_wp2_with fail
  refine (valid_2 z HZ.out _).mono ?_
  rintro e w3 ⟨rfl, b3⟩
  have B3 := Lib.hid (below2 (belowThen B2.out b3))
  clear b3
  go_wp2_with fail
  go_ret
  exact ⟨rfl, B3.out⟩

theorem kindOf_3 (w : World) : Calls Tryz.prog 141 #[.int .u8 3] w fun e w' => e = .returned (.tuple #[.iface 304 (.agg #[.int .u8 3]), .bool true]) ∧ Below w.heap.size w w' := by
  have hix : ∀ wx, (Instr.index 250 (.agg #[.iface 249 (.agg #[]), .iface 302 (.agg #[]), .iface 304 (.agg #[.int .u8 3]), .iface 304 (.agg #[.int .u8 4]), .iface 305 (.agg #[])]) (.int .u8 2)).run Tryz.prog wx = .ok (.iface 304 (.agg #[.int .u8 3])) wx := fun _ => by kernel_rfl
  go_enter Tryz.func141, Tryz.ntmps141
  go_wp2_with (go_at_call 218; refine (kinds_c _).mono ?_; rintro e w1 ⟨rfl, b1⟩)
  go_ret2
  exact ⟨rfl, b1⟩
theorem limits_3 (w : World) : Calls Tryz.prog 364 #[.agg #[.int .u8 3]] w fun e w' => e = .returned (.tuple #[.int .u32 0, .int .i64 4]) ∧ Below w.heap.size w w' := by
  go_enter Tryz.func364, Tryz.ntmps364
  go_wp2
  go_ret2
  exact ⟨rfl, (Below.refl _ _).alloc (Nat.le_refl _) _⟩
theorem Allowed_3 (w : World) : Calls Tryz.prog 66 #[.int .u8 3] w fun e w' => e = .returned (.int .u32 254) ∧ Below w.heap.size w w' := by
  have hmt : ∀ wx, (method 474 304 (.agg #[.int .u8 3]) "lyceum/holds.limits").run Tryz.prog wx = .ok (364, .agg #[.int .u8 3]) wx := fun _ => by kernel_rfl
  go_enter Tryz.func66, Tryz.ntmps66
  go_wp2_with fail
  refine (kindOf_3 _).mono ?_
  rintro e w1 ⟨rfl, b1⟩
  have B1 := Lib.hid b1
  clear b1
  go_wp2_with fail
  refine (limits_3 _).mono ?_
  rintro e w2 ⟨rfl, b2⟩
  have B2 := Lib.hid (belowThen B1.out b2)
  clear b2
  go_wp2_with fail
  go_ret
  exact ⟨rfl, B2.out⟩

theorem logical_3 (w : World) : Calls Tryz.prog 142 #[.agg #[str [], .int .u32 254, .int .u8 3, .int .u8 0, .slice none 0 0]] w fun e w' => e = .returned (.bool true) ∧ Below w.heap.size w w' := by
  have k0 : (w.alloc (.cells #[str [], .int .u32 254, .int .u8 3, .int .u8 0, .slice none 0 0] 112)).cell? ⟨w.heap.size, 1, none⟩ = some (.int .u32 254) := by simp [go_sem]
  have k1 : (w.alloc (.cells #[str [], .int .u32 254, .int .u8 3, .int .u8 0, .slice none 0 0] 112)).cell? ⟨w.heap.size, 2, none⟩ = some (.int .u8 3) := by simp [go_sem]
  have k2 : (w.alloc (.cells #[str [], .int .u32 254, .int .u8 3, .int .u8 0, .slice none 0 0] 112)).cell? ⟨w.heap.size, 3, none⟩ = some (.int .u8 0) := by simp [go_sem]
  have WB : Hid (Below w.heap.size w (w.alloc (.cells #[str [], .int .u32 254, .int .u8 3, .int .u8 0, .slice none 0 0] 112))) := (Below.refl _ _).alloc (Nat.le_refl _) _
  go_enter Tryz.func142, Tryz.ntmps142
  go_wp2_with fail
  generalize hW : w.alloc (.cells #[str [], .int .u32 254, .int .u8 3, .int .u8 0, .slice none 0 0] 112) = W at *
  clear hW
  have cP : Hid (∀ d os, Calls Tryz.prog 66 #[.int .u8 3] (grow (redrawn W d) os) fun e w'' => e = .returned (.int .u32 254) ∧ ∃ p : Regrown, w'' = grow (redrawn W p.d) p.os) := fun d os => Calls.regrown_of (Allowed_3 _)
  have r0 := cell_regrown k0; have r1 := cell_regrown k1; have r2 := cell_regrown k2
  refine wp_region_quiet_below (by kernel_rfl) (by kernel_rfl) ?_
  repeat (go_big_quiet_step (first | (go_at_call 66; exact cP.out _ _)))
  refine wpQuiet_nil ?_
  intro wq hw'
  have WQ : Hid (Below W.heap.size W wq) := by
    obtain ⟨⟨dq, osq⟩, hw''⟩ := hw'
    rw [hw'']; exact below_regrown W dq osq
  clear hw' r0 r1 r2
  have KQ := keeps_of_below WQ.out
  have q0 := KQ _ _ k0; have q1 := KQ _ _ k1; have q2 := KQ _ _ k2
  clear k0 k1 k2 KQ cP
  go_wp2_with fail
  go_ret
  exact ⟨rfl, WB.out.trans (WQ.out.mono WB.out.size)⟩

theorem valid_3 (z : Int) (hz : z ≤ 0) (w : World) : Calls Tryz.prog 369 #[.agg #[.int .u8 3], .agg #[.int .u8 3, .int .i64 z, .slice none 0 0, .int .i64 0, .slice none 0 0, .slice none 0 0, .slice none 0 0], .int .u8 0] w fun e w' => e = .returned (.bool false) ∧ Below w.heap.size w w' := by
  go_enter Tryz.func369, Tryz.ntmps369
  go_wp2_with (go_at_call 370; refine (frameValid_no3 z _).mono ?_; rintro e w1 ⟨rfl, b1⟩)
  go_ret
  exact ⟨rfl, below2 b1⟩

theorem Valid_3 (z : Int) (hz : z ≤ 0) (w : World) : Calls Tryz.prog 65 #[.agg #[str [], .int .u32 254, .int .u8 3, .int .u8 0, .slice none 0 0], .agg #[.int .u8 3, .int .i64 z, .slice none 0 0, .int .i64 0, .slice none 0 0, .slice none 0 0, .slice none 0 0]] w fun e w' => e = .returned (.bool false) ∧ Below w.heap.size w w' := by
  have hmt : ∀ wx, (method 474 304 (.agg #[.int .u8 3]) "lyceum/holds.valid").run Tryz.prog wx = .ok (369, .agg #[.int .u8 3]) wx := fun _ => by kernel_rfl
  have HZ := Lib.hid hz
  go_enter Tryz.func65, Tryz.ntmps65
  go_wp2_with fail
  refine (kindOf_3 _).mono ?_
  rintro e w1 ⟨rfl, b1⟩
  obtain ⟨hc1, hf1⟩ := bcell b1
  have B1 := Lib.hid b1
  have z1 : w.heap.size + 1 < w1.heap.size := by have := b1.size; simp at this; omega
  clear b1
  go_wp2_with fail
  refine (logical_3 _).mono ?_
  rintro e w2 ⟨rfl, b2⟩
  obtain ⟨hc2, hf2⟩ := bcell (belowThen B1.out b2)
  have B2 := Lib.hid (belowThen B1.out b2)
  have z2 : w.heap.size + 1 < w2.heap.size := Nat.lt_of_lt_of_le z1 b2.size
  clear b2 hc1 hf1
  go_wp2_with fail
  refine (valid_3 z HZ.out _).mono ?_
  rintro e w3 ⟨rfl, b3⟩
  have B3 := Lib.hid (below2 (belowThen B2.out b3))
  clear b3
  go_wp2_with fail
  go_ret
  exact ⟨rfl, B3.out⟩

theorem valid_4 (z : Int) (hz : z ≤ 0) (w : World) : Calls Tryz.prog 369 #[.agg #[.int .u8 4], .agg #[.int .u8 4, .int .i64 z, .slice none 0 0, .int .i64 0, .slice none 0 0, .slice none 0 0, .slice none 0 0], .int .u8 0] w fun e w' => e = .returned (.bool false) ∧ Below w.heap.size w w' := by
  go_enter Tryz.func369, Tryz.ntmps369
  go_wp2_with (go_at_call 370; refine (frameValid_no4 z _).mono ?_; rintro e w1 ⟨rfl, b1⟩)
  go_ret
  exact ⟨rfl, below2 b1⟩

theorem Valid_4 (z : Int) (hz : z ≤ 0) (w : World) : Calls Tryz.prog 65 #[.agg #[str [], .int .u32 3326, .int .u8 4, .int .u8 0, .slice none 0 0], .agg #[.int .u8 4, .int .i64 z, .slice none 0 0, .int .i64 0, .slice none 0 0, .slice none 0 0, .slice none 0 0]] w fun e w' => e = .returned (.bool false) ∧ Below w.heap.size w w' := by
  have hmt : ∀ wx, (method 474 304 (.agg #[.int .u8 4]) "lyceum/holds.valid").run Tryz.prog wx = .ok (369, .agg #[.int .u8 4]) wx := fun _ => by kernel_rfl
  have HZ := Lib.hid hz
  go_enter Tryz.func65, Tryz.ntmps65
  go_wp2_with fail
  refine (kindOf_modal _).mono ?_
  rintro e w1 ⟨rfl, b1⟩
  obtain ⟨hc1, hf1⟩ := bcell b1
  have B1 := Lib.hid b1
  have z1 : w.heap.size + 1 < w1.heap.size := by have := b1.size; simp at this; omega
  clear b1
  go_wp2_with fail
  refine (logical_c _ _ rfl).mono ?_
  rintro e w2 ⟨rfl, b2⟩
  obtain ⟨hc2, hf2⟩ := bcell (belowThen B1.out b2)
  have B2 := Lib.hid (belowThen B1.out b2)
  have z2 : w.heap.size + 1 < w2.heap.size := Nat.lt_of_lt_of_le z1 b2.size
  clear b2 hc1 hf1
  go_wp2_with fail
  refine (valid_4 z HZ.out _).mono ?_
  rintro e w3 ⟨rfl, b3⟩
  have B3 := Lib.hid (below2 (belowThen B2.out b3))
  clear b3
  go_wp2_with fail
  go_ret
  exact ⟨rfl, B3.out⟩

theorem kindOf_5 (w : World) : Calls Tryz.prog 141 #[.int .u8 5] w fun e w' => e = .returned (.tuple #[.iface 305 (.agg #[]), .bool true]) ∧ Below w.heap.size w w' := by
  have hix : ∀ wx, (Instr.index 250 (.agg #[.iface 249 (.agg #[]), .iface 302 (.agg #[]), .iface 304 (.agg #[.int .u8 3]), .iface 304 (.agg #[.int .u8 4]), .iface 305 (.agg #[])]) (.int .u8 4)).run Tryz.prog wx = .ok (.iface 305 (.agg #[])) wx := fun _ => by kernel_rfl
  go_enter Tryz.func141, Tryz.ntmps141
  go_wp2_with (go_at_call 218; refine (kinds_c _).mono ?_; rintro e w1 ⟨rfl, b1⟩)
  go_ret2
  exact ⟨rfl, b1⟩
theorem limits_5 (w : World) : Calls Tryz.prog 382 #[.agg #[]] w fun e w' => e = .returned (.tuple #[.int .u32 28672, .int .i64 5]) ∧ Below w.heap.size w w' := by
  go_enter Tryz.func382, Tryz.ntmps382
  go_wp2
  go_ret2
  exact ⟨rfl, (Below.refl _ _).alloc (Nat.le_refl _) _⟩
theorem Allowed_5 (w : World) : Calls Tryz.prog 66 #[.int .u8 5] w fun e w' => e = .returned (.int .u32 28926) ∧ Below w.heap.size w w' := by
  have hmt : ∀ wx, (method 474 305 (.agg #[]) "lyceum/holds.limits").run Tryz.prog wx = .ok (382, .agg #[]) wx := fun _ => by kernel_rfl
  go_enter Tryz.func66, Tryz.ntmps66
  go_wp2_with fail
  refine (kindOf_5 _).mono ?_
  rintro e w1 ⟨rfl, b1⟩
  have B1 := Lib.hid b1
  clear b1
  go_wp2_with fail
  refine (limits_5 _).mono ?_
  rintro e w2 ⟨rfl, b2⟩
  have B2 := Lib.hid (belowThen B1.out b2)
  clear b2
  go_wp2_with fail
  go_ret
  exact ⟨rfl, B2.out⟩

theorem logical_5 (w : World) : Calls Tryz.prog 142 #[.agg #[str [], .int .u32 28926, .int .u8 5, .int .u8 0, .slice none 0 0]] w fun e w' => e = .returned (.bool true) ∧ Below w.heap.size w w' := by
  have k0 : (w.alloc (.cells #[str [], .int .u32 28926, .int .u8 5, .int .u8 0, .slice none 0 0] 112)).cell? ⟨w.heap.size, 1, none⟩ = some (.int .u32 28926) := by simp [go_sem]
  have k1 : (w.alloc (.cells #[str [], .int .u32 28926, .int .u8 5, .int .u8 0, .slice none 0 0] 112)).cell? ⟨w.heap.size, 2, none⟩ = some (.int .u8 5) := by simp [go_sem]
  have k2 : (w.alloc (.cells #[str [], .int .u32 28926, .int .u8 5, .int .u8 0, .slice none 0 0] 112)).cell? ⟨w.heap.size, 3, none⟩ = some (.int .u8 0) := by simp [go_sem]
  have WB : Hid (Below w.heap.size w (w.alloc (.cells #[str [], .int .u32 28926, .int .u8 5, .int .u8 0, .slice none 0 0] 112))) := (Below.refl _ _).alloc (Nat.le_refl _) _
  go_enter Tryz.func142, Tryz.ntmps142
  go_wp2_with fail
  generalize hW : w.alloc (.cells #[str [], .int .u32 28926, .int .u8 5, .int .u8 0, .slice none 0 0] 112) = W at *
  clear hW
  have cP : Hid (∀ d os, Calls Tryz.prog 66 #[.int .u8 5] (grow (redrawn W d) os) fun e w'' => e = .returned (.int .u32 28926) ∧ ∃ p : Regrown, w'' = grow (redrawn W p.d) p.os) := fun d os => Calls.regrown_of (Allowed_5 _)
  have r0 := cell_regrown k0; have r1 := cell_regrown k1; have r2 := cell_regrown k2
  refine wp_region_quiet_below (by kernel_rfl) (by kernel_rfl) ?_
  repeat (go_big_quiet_step (first | (go_at_call 66; exact cP.out _ _)))
  refine wpQuiet_nil ?_
  intro wq hw'
  have WQ : Hid (Below W.heap.size W wq) := by
    obtain ⟨⟨dq, osq⟩, hw''⟩ := hw'
    rw [hw'']; exact below_regrown W dq osq
  clear hw' r0 r1 r2
  have KQ := keeps_of_below WQ.out
  have q0 := KQ _ _ k0; have q1 := KQ _ _ k1; have q2 := KQ _ _ k2
  clear k0 k1 k2 KQ cP
  go_wp2_with fail
  go_ret
  exact ⟨rfl, WB.out.trans (WQ.out.mono WB.out.size)⟩

theorem valid_5 (z : Int) (hz : z ≤ 0) (w : World) : Calls Tryz.prog 387 #[.agg #[], .agg #[.int .u8 5, .int .i64 z, .slice none 0 0, .int .i64 0, .slice none 0 0, .slice none 0 0, .slice none 0 0], .int .u8 0] w fun e w' => e = .returned (.bool false) ∧ Below w.heap.size w w' := by
  have t0 : decide (z < 1) = true := by simp; omega
  go_enter Tryz.func387, Tryz.ntmps387
  go_wp2_with (go_at_call 388; refine (traceValid_no z hz _).mono ?_; rintro e w1 ⟨rfl, b1⟩)
  go_ret
  exact ⟨rfl, below2 b1⟩

theorem Valid_5 (z : Int) (hz : z ≤ 0) (w : World) : Calls Tryz.prog 65 #[.agg #[str [], .int .u32 28926, .int .u8 5, .int .u8 0, .slice none 0 0], .agg #[.int .u8 5, .int .i64 z, .slice none 0 0, .int .i64 0, .slice none 0 0, .slice none 0 0, .slice none 0 0]] w fun e w' => e = .returned (.bool false) ∧ Below w.heap.size w w' := by
  have hmt : ∀ wx, (method 474 305 (.agg #[]) "lyceum/holds.valid").run Tryz.prog wx = .ok (387, .agg #[]) wx := fun _ => by kernel_rfl
  have HZ := Lib.hid hz
  go_enter Tryz.func65, Tryz.ntmps65
  go_wp2_with fail
  refine (kindOf_5 _).mono ?_
  rintro e w1 ⟨rfl, b1⟩
  obtain ⟨hc1, hf1⟩ := bcell b1
  have B1 := Lib.hid b1
  have z1 : w.heap.size + 1 < w1.heap.size := by have := b1.size; simp at this; omega
  clear b1
  go_wp2_with fail
  refine (logical_5 _).mono ?_
  rintro e w2 ⟨rfl, b2⟩
  obtain ⟨hc2, hf2⟩ := bcell (belowThen B1.out b2)
  have B2 := Lib.hid (belowThen B1.out b2)
  have z2 : w.heap.size + 1 < w2.heap.size := Nat.lt_of_lt_of_le z1 b2.size
  clear b2 hc1 hf1
  go_wp2_with fail
  refine (valid_5 z HZ.out _).mono ?_
  rintro e w3 ⟨rfl, b3⟩
  have B3 := Lib.hid (below2 (belowThen B2.out b3))
  clear b3
  go_wp2_with fail
  go_ret
  exact ⟨rfl, B3.out⟩

theorem Model_no (κ A z : Int) (hA : ∀ w, Calls Tryz.prog 66 #[.int .u8 κ] w fun e w' => e = .returned (.int .u32 A) ∧ Below w.heap.size w w') (hV : ∀ w, Calls Tryz.prog 65 #[.agg #[str [], .int .u32 A, .int .u8 κ, .int .u8 0, .slice none 0 0], .agg #[.int .u8 κ, .int .i64 z, .slice none 0 0, .int .i64 0, .slice none 0 0, .slice none 0 0, .slice none 0 0]] w fun e w' => e = .returned (.bool false) ∧ Below w.heap.size w w') (w : World) :
    Calls Tryz.prog 16 #[.agg #[.int .u8 κ, .int .i64 z, .slice none 0 0, .int .i64 0, .slice none 0 0, .slice none 0 0, .slice none 0 0]] w fun e w' => e = .returned (.tuple #[.slice none 0 0, .int .i64 2]) ∧ Below w.heap.size w w' := by
  have HA := Lib.hid hA
  have HV := Lib.hid hV
  clear hA hV
  have BX : Hid ((w.alloc (.cells #[.int .u8 κ, .int .i64 z, .slice none 0 0, .int .i64 0, .slice none 0 0, .slice none 0 0, .slice none 0 0] 34)).heap[w.heap.size]? = some (.cells #[.int .u8 κ, .int .i64 z, .slice none 0 0, .int .i64 0, .slice none 0 0, .slice none 0 0, .slice none 0 0] 34)) := heap_alloc_new w _
  have WB : Hid (Below w.heap.size w (w.alloc (.cells #[.int .u8 κ, .int .i64 z, .slice none 0 0, .int .i64 0, .slice none 0 0, .slice none 0 0, .slice none 0 0] 34))) := (Below.refl _ _).alloc (Nat.le_refl _) _
  go_enter Tryz.func16, Tryz.ntmps16
  go_wp2_with fail
  generalize hW : w.alloc (.cells #[.int .u8 κ, .int .i64 z, .slice none 0 0, .int .i64 0, .slice none 0 0, .slice none 0 0, .slice none 0 0] 34) = W at *
  clear hW
  have cA : Hid (∀ d os, Calls Tryz.prog 66 #[.int .u8 κ] (grow (redrawn W d) os) fun e w'' => e = .returned (.int .u32 A) ∧ ∃ p : Regrown, w'' = grow (redrawn W p.d) p.os) := fun d os => Calls.regrown_of (HA.out _)
  have cV : Hid (∀ d os, Calls Tryz.prog 65 #[.agg #[str [], .int .u32 A, .int .u8 κ, .int .u8 0, .slice none 0 0], .agg #[.int .u8 κ, .int .i64 z, .slice none 0 0, .int .i64 0, .slice none 0 0, .slice none 0 0, .slice none 0 0]] (grow (redrawn W d) os) fun e w'' => e = .returned (.bool false) ∧ ∃ p : Regrown, w'' = grow (redrawn W p.d) p.os) := fun d os => Calls.regrown_of (HV.out _)
  have r0 := cell_regrown (show W.cell? ⟨w.heap.size, 0, none⟩ = some (.int .u8 κ) by rw [box_cell BX.out]; rfl)
  have r1 := cell_regrown (show W.cell? ⟨w.heap.size, 1, none⟩ = some (.int .i64 z) by rw [box_cell BX.out]; rfl)
  have r2 := cell_regrown (show W.cell? ⟨w.heap.size, 2, none⟩ = some (.slice none 0 0) by rw [box_cell BX.out]; rfl)
  have r3 := cell_regrown (show W.cell? ⟨w.heap.size, 3, none⟩ = some (.int .i64 0) by rw [box_cell BX.out]; rfl)
  have r4 := cell_regrown (show W.cell? ⟨w.heap.size, 4, none⟩ = some (.slice none 0 0) by rw [box_cell BX.out]; rfl)
  have r5 := cell_regrown (show W.cell? ⟨w.heap.size, 5, none⟩ = some (.slice none 0 0) by rw [box_cell BX.out]; rfl)
  have r6 := cell_regrown (show W.cell? ⟨w.heap.size, 6, none⟩ = some (.slice none 0 0) by rw [box_cell BX.out]; rfl)
  refine wp_region_quiet_below (by kernel_rfl) (by kernel_rfl) ?_
  repeat (go_big_quiet_step (first | (go_at_call 66; exact cA.out _ _) | (go_at_call 65; exact cV.out _ _)))
  refine wpQuiet_nil ?_
  intro wq hw'
  have WQ : Hid (Below W.heap.size W wq) := by
    obtain ⟨⟨dq, osq⟩, hw''⟩ := hw'
    rw [hw'']; exact below_regrown W dq osq
  clear hw' r0 r1 r2 r3 r4 r5 r6 cA cV
  go_wp2_with fail
  exact bodyPost_ret (v := .tuple #[.slice none 0 0, .int .i64 2]) (by simp [results, Tryz.results16, go_sem]) rfl ⟨rfl, WB.out.trans (WQ.out.mono WB.out.size)⟩
/-- .. for each kind. -/
theorem Model_bad (κ z : Int) (h0 : 0 ≤ κ) (h7 : κ < 8) (hz : z ≤ 0) (w : World) : Calls Tryz.prog 16 #[.agg #[.int .u8 κ, .int .i64 z, .slice none 0 0, .int .i64 0, .slice none 0 0, .slice none 0 0, .slice none 0 0]] w fun e w' => e = .returned (.tuple #[.slice none 0 0, .int .i64 2]) ∧ Below w.heap.size w w' := by
  rcases (show κ = 0 ∨ κ = 1 ∨ κ = 2 ∨ κ = 3 ∨ κ = 4 ∨ κ = 5 ∨ κ = 6 ∨ κ = 7 by omega) with rfl | rfl | rfl | rfl | rfl | rfl | rfl | rfl
  · exact Model_no 0 0 z Allowed_0 (Valid_0 z) w
  · exact Model_no 1 254 z Allowed_1 (Valid_1 z hz) w
  · exact Model_no 2 1022 z Allowed_2 (Valid_2 z hz) w
  · exact Model_no 3 254 z Allowed_3 (Valid_3 z hz) w
  · exact Model_no 4 3326 z Allowed_modal (Valid_4 z hz) w
  · exact Model_no 5 28926 z Allowed_5 (Valid_5 z hz) w
  · exact Model_no 6 0 z Allowed_6 (Valid_6 z) w
  · exact Model_no 7 0 z Allowed_7 (Valid_7 z) w
end Go.Proofs.YtcandidgaegghaaGreatDoor