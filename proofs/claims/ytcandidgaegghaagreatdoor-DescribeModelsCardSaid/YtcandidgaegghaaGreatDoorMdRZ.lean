/- lyceumref14.Sizes, Allowed, Sound, Valid at each kind. Conditions: at most a thousand facts, functions, binds, worlds; names fit into memory. -/
import Derived.Test.YtcandidgaegghaaGreatDoorCpZ
import Derived.Test.YtcandidgaegghaaGreatDoorMdQZ
import Derived.Test.YtcandidgaegghaaGreatDoorMdVZ
set_option maxRecDepth 10000
set_option linter.unusedSimpArgs false
set_option linter.unusedVariables false
namespace Go.Proofs.YtcandidgaegghaaGreatDoor
open Go Go.RowKit Go.Sort Ly
set_option maxHeartbeats 4000000
abbrev lgV (κ A : Int) : Value:=.agg #[str [],.int .u32 A,.int .u8 κ,.int .u8 0,.slice none 0 0]
theorem fB {w : World} {b : Nat} {x0 x1 x2 x3 x4 : Value} (h : w.heap[b]? = some (.cells #[x0,x1,x2,x3,x4] 112 (0,0))) :
  w.cell? ⟨b,0,none⟩ = some x0 ∧ w.cell? ⟨b,1,none⟩ = some x1 ∧ w.cell? ⟨b,2,none⟩ = some x2 ∧ w.cell? ⟨b,3,none⟩ = some x3 ∧ w.cell? ⟨b,4,none⟩ = some x4 :=
 ⟨(aJ h 0).trans rfl,(aJ h 1).trans rfl,(aJ h 2).trans rfl,(aJ h 3).trans rfl,(aJ h 4).trans rfl⟩
theorem sizes14_1 (w : World) : Calls Tryz.prog 220 #[.int .u8 1] w fun e w'=>e = .returned (.int .i64 1) ∧ w = w':=by
 have hix : ∀ wx,(Instr.index 306 (.agg #[.int .i64 0,.int .i64 1,.int .i64 3,.int .i64 4,.int .i64 4,.int .i64 5]) (.int .u8 1)).run Tryz.prog wx = .ok (.int .i64 1) wx:=fun _=>by kernel_rfl
 go_enter Tryz.func220,Tryz.ntmps220
 go_wp2_with fail
 go_ret
 exact ⟨rfl,rfl⟩
theorem allowed14_1 (w : World) : Calls Tryz.prog 221 #[.int .u8 1] w fun e w'=>e = .returned (.int .u32 254) ∧ w = w':=by
 go_enter Tryz.func221,Tryz.ntmps221
 go_wp2_with fail
 refine wp_loop_rounds 15 ?_
 rw [rounds_succ];go_wp2_with fail
 rw [rounds_succ];go_wp2_with fail
 rw [rounds_succ];go_wp2_with fail
 rw [rounds_succ];go_wp2_with fail
 rw [rounds_succ];go_wp2_with fail
 rw [rounds_succ];go_wp2_with fail
 rw [rounds_succ];go_wp2_with fail
 rw [rounds_succ];go_wp2_with fail
 rw [rounds_succ];go_wp2_with fail
 rw [rounds_succ];go_wp2_with fail
 rw [rounds_succ];go_wp2_with fail
 rw [rounds_succ];go_wp2_with fail
 rw [rounds_succ];go_wp2_with fail
 rw [rounds_succ];go_wp2_with fail
 rw [rounds_succ];go_wp2_with fail
 go_ret
 exact ⟨rfl,rfl⟩
theorem sound14_1 (w : World) : Calls Tryz.prog 145 #[lgV 1 0] w (Rt (.bool true) w):=by
 have NEW:=Hd (heap_alloc_new w (.cells #[str [],.int .u32 0,.int .u8 1,.int .u8 0,.slice none 0 0] 112))
 have HB : Hid (Below w.heap.size w (w.alloc (.cells #[str [],.int .u32 0,.int .u8 1,.int .u8 0,.slice none 0 0] 112))):=bnew
 obtain ⟨c0,c1,c2,c3,c4⟩:=fB NEW.out
 have r1:=cell_regrown c1;have r2:=cell_regrown c2;have r3:=cell_regrown c3
 have y1 : bits BinOp.andNot IntKind.u32 0 254 = 0:=by kernel_rfl
 have cS : Hid (∀ d os,Calls Tryz.prog 220 #[.int .u8 1] (grow (redrawn (w.alloc (.cells #[str [],.int .u32 0,.int .u8 1,.int .u8 0,.slice none 0 0] 112)) d) os) fun e w''=>e = .returned (.int .i64 1) ∧ ∃ p : Regrown,w'' = grow (redrawn (w.alloc (.cells #[str [],.int .u32 0,.int .u8 1,.int .u8 0,.slice none 0 0] 112)) p.d) p.os):=fun d os =>
  Calls.regrown_of ((sizes14_1 _).mono fun e w' h=>⟨h.1,by rw [← h.2];exact Below.refl _ _⟩)
 have cA : Hid (∀ d os,Calls Tryz.prog 221 #[.int .u8 1] (grow (redrawn (w.alloc (.cells #[str [],.int .u32 0,.int .u8 1,.int .u8 0,.slice none 0 0] 112)) d) os) fun e w''=>e = .returned (.int .u32 254) ∧ ∃ p : Regrown,w'' = grow (redrawn (w.alloc (.cells #[str [],.int .u32 0,.int .u8 1,.int .u8 0,.slice none 0 0] 112)) p.d) p.os):=fun d os =>
  Calls.regrown_of ((allowed14_1 _).mono fun e w' h=>⟨h.1,by rw [← h.2];exact Below.refl _ _⟩)
 clear c0 c1 c2 c3 c4
 go_enter Tryz.func145,Tryz.ntmps145
 go_wp2_with fail
 refine wqb ?_
 repeat (go_big_quiet_step ((first | (go_at_call 220;exact cS.out _ _) | (go_at_call 221;exact cA.out _ _))))
 refine wpQuiet_nil (qe fun wq Bwq=>?_)
 go_wp2_with fail
 go_ret
 exact ⟨rfl,aA HB.out Bwq.out⟩
theorem sizes14_2 (w : World) : Calls Tryz.prog 220 #[.int .u8 2] w fun e w'=>e = .returned (.int .i64 3) ∧ w = w':=by
 have hix : ∀ wx,(Instr.index 306 (.agg #[.int .i64 0,.int .i64 1,.int .i64 3,.int .i64 4,.int .i64 4,.int .i64 5]) (.int .u8 2)).run Tryz.prog wx = .ok (.int .i64 3) wx:=fun _=>by kernel_rfl
 go_enter Tryz.func220,Tryz.ntmps220
 go_wp2_with fail
 go_ret
 exact ⟨rfl,rfl⟩
theorem allowed14_2 (w : World) : Calls Tryz.prog 221 #[.int .u8 2] w fun e w'=>e = .returned (.int .u32 1022) ∧ w = w':=by
 go_enter Tryz.func221,Tryz.ntmps221
 go_wp2_with fail
 refine wp_loop_rounds 15 ?_
 rw [rounds_succ];go_wp2_with fail
 rw [rounds_succ];go_wp2_with fail
 rw [rounds_succ];go_wp2_with fail
 rw [rounds_succ];go_wp2_with fail
 rw [rounds_succ];go_wp2_with fail
 rw [rounds_succ];go_wp2_with fail
 rw [rounds_succ];go_wp2_with fail
 rw [rounds_succ];go_wp2_with fail
 rw [rounds_succ];go_wp2_with fail
 rw [rounds_succ];go_wp2_with fail
 rw [rounds_succ];go_wp2_with fail
 rw [rounds_succ];go_wp2_with fail
 rw [rounds_succ];go_wp2_with fail
 rw [rounds_succ];go_wp2_with fail
 rw [rounds_succ];go_wp2_with fail
 go_ret
 exact ⟨rfl,rfl⟩
theorem sound14_2 (w : World) : Calls Tryz.prog 145 #[lgV 2 0] w (Rt (.bool true) w):=by
 have NEW:=Hd (heap_alloc_new w (.cells #[str [],.int .u32 0,.int .u8 2,.int .u8 0,.slice none 0 0] 112))
 have HB : Hid (Below w.heap.size w (w.alloc (.cells #[str [],.int .u32 0,.int .u8 2,.int .u8 0,.slice none 0 0] 112))):=bnew
 obtain ⟨c0,c1,c2,c3,c4⟩:=fB NEW.out
 have r1:=cell_regrown c1;have r2:=cell_regrown c2;have r3:=cell_regrown c3
 have y1 : bits BinOp.andNot IntKind.u32 0 1022 = 0:=by kernel_rfl
 have cS : Hid (∀ d os,Calls Tryz.prog 220 #[.int .u8 2] (grow (redrawn (w.alloc (.cells #[str [],.int .u32 0,.int .u8 2,.int .u8 0,.slice none 0 0] 112)) d) os) fun e w''=>e = .returned (.int .i64 3) ∧ ∃ p : Regrown,w'' = grow (redrawn (w.alloc (.cells #[str [],.int .u32 0,.int .u8 2,.int .u8 0,.slice none 0 0] 112)) p.d) p.os):=fun d os =>
  Calls.regrown_of ((sizes14_2 _).mono fun e w' h=>⟨h.1,by rw [← h.2];exact Below.refl _ _⟩)
 have cA : Hid (∀ d os,Calls Tryz.prog 221 #[.int .u8 2] (grow (redrawn (w.alloc (.cells #[str [],.int .u32 0,.int .u8 2,.int .u8 0,.slice none 0 0] 112)) d) os) fun e w''=>e = .returned (.int .u32 1022) ∧ ∃ p : Regrown,w'' = grow (redrawn (w.alloc (.cells #[str [],.int .u32 0,.int .u8 2,.int .u8 0,.slice none 0 0] 112)) p.d) p.os):=fun d os =>
  Calls.regrown_of ((allowed14_2 _).mono fun e w' h=>⟨h.1,by rw [← h.2];exact Below.refl _ _⟩)
 clear c0 c1 c2 c3 c4
 go_enter Tryz.func145,Tryz.ntmps145
 go_wp2_with fail
 refine wqb ?_
 repeat (go_big_quiet_step ((first | (go_at_call 220;exact cS.out _ _) | (go_at_call 221;exact cA.out _ _))))
 refine wpQuiet_nil (qe fun wq Bwq=>?_)
 go_wp2_with fail
 go_ret
 exact ⟨rfl,aA HB.out Bwq.out⟩
theorem sizes14_3 (w : World) : Calls Tryz.prog 220 #[.int .u8 3] w fun e w'=>e = .returned (.int .i64 4) ∧ w = w':=by
 have hix : ∀ wx,(Instr.index 306 (.agg #[.int .i64 0,.int .i64 1,.int .i64 3,.int .i64 4,.int .i64 4,.int .i64 5]) (.int .u8 3)).run Tryz.prog wx = .ok (.int .i64 4) wx:=fun _=>by kernel_rfl
 go_enter Tryz.func220,Tryz.ntmps220
 go_wp2_with fail
 go_ret
 exact ⟨rfl,rfl⟩
theorem allowed14_3 (w : World) : Calls Tryz.prog 221 #[.int .u8 3] w fun e w'=>e = .returned (.int .u32 254) ∧ w = w':=by
 go_enter Tryz.func221,Tryz.ntmps221
 go_wp2_with fail
 refine wp_loop_rounds 15 ?_
 rw [rounds_succ];go_wp2_with fail
 rw [rounds_succ];go_wp2_with fail
 rw [rounds_succ];go_wp2_with fail
 rw [rounds_succ];go_wp2_with fail
 rw [rounds_succ];go_wp2_with fail
 rw [rounds_succ];go_wp2_with fail
 rw [rounds_succ];go_wp2_with fail
 rw [rounds_succ];go_wp2_with fail
 rw [rounds_succ];go_wp2_with fail
 rw [rounds_succ];go_wp2_with fail
 rw [rounds_succ];go_wp2_with fail
 rw [rounds_succ];go_wp2_with fail
 rw [rounds_succ];go_wp2_with fail
 rw [rounds_succ];go_wp2_with fail
 rw [rounds_succ];go_wp2_with fail
 go_ret
 exact ⟨rfl,rfl⟩
theorem uQ (w : World) : Calls Tryz.prog 145 #[lgV 3 0] w (Rt (.bool true) w):=by
 have NEW:=Hd (heap_alloc_new w (.cells #[str [],.int .u32 0,.int .u8 3,.int .u8 0,.slice none 0 0] 112))
 have HB : Hid (Below w.heap.size w (w.alloc (.cells #[str [],.int .u32 0,.int .u8 3,.int .u8 0,.slice none 0 0] 112))):=bnew
 obtain ⟨c0,c1,c2,c3,c4⟩:=fB NEW.out
 have r1:=cell_regrown c1;have r2:=cell_regrown c2;have r3:=cell_regrown c3
 have y1 : bits BinOp.andNot IntKind.u32 0 254 = 0:=by kernel_rfl
 have cS : Hid (∀ d os,Calls Tryz.prog 220 #[.int .u8 3] (grow (redrawn (w.alloc (.cells #[str [],.int .u32 0,.int .u8 3,.int .u8 0,.slice none 0 0] 112)) d) os) fun e w''=>e = .returned (.int .i64 4) ∧ ∃ p : Regrown,w'' = grow (redrawn (w.alloc (.cells #[str [],.int .u32 0,.int .u8 3,.int .u8 0,.slice none 0 0] 112)) p.d) p.os):=fun d os =>
  Calls.regrown_of ((sizes14_3 _).mono fun e w' h=>⟨h.1,by rw [← h.2];exact Below.refl _ _⟩)
 have cA : Hid (∀ d os,Calls Tryz.prog 221 #[.int .u8 3] (grow (redrawn (w.alloc (.cells #[str [],.int .u32 0,.int .u8 3,.int .u8 0,.slice none 0 0] 112)) d) os) fun e w''=>e = .returned (.int .u32 254) ∧ ∃ p : Regrown,w'' = grow (redrawn (w.alloc (.cells #[str [],.int .u32 0,.int .u8 3,.int .u8 0,.slice none 0 0] 112)) p.d) p.os):=fun d os =>
  Calls.regrown_of ((allowed14_3 _).mono fun e w' h=>⟨h.1,by rw [← h.2];exact Below.refl _ _⟩)
 clear c0 c1 c2 c3 c4
 go_enter Tryz.func145,Tryz.ntmps145
 go_wp2_with fail
 refine wqb ?_
 repeat (go_big_quiet_step ((first | (go_at_call 220;exact cS.out _ _) | (go_at_call 221;exact cA.out _ _))))
 refine wpQuiet_nil (qe fun wq Bwq=>?_)
 go_wp2_with fail
 go_ret
 exact ⟨rfl,aA HB.out Bwq.out⟩
theorem sizes14_4 (w : World) : Calls Tryz.prog 220 #[.int .u8 4] w fun e w'=>e = .returned (.int .i64 4) ∧ w = w':=by
 have hix : ∀ wx,(Instr.index 306 (.agg #[.int .i64 0,.int .i64 1,.int .i64 3,.int .i64 4,.int .i64 4,.int .i64 5]) (.int .u8 4)).run Tryz.prog wx = .ok (.int .i64 4) wx:=fun _=>by kernel_rfl
 go_enter Tryz.func220,Tryz.ntmps220
 go_wp2_with fail
 go_ret
 exact ⟨rfl,rfl⟩
theorem allowed14_4 (w : World) : Calls Tryz.prog 221 #[.int .u8 4] w fun e w'=>e = .returned (.int .u32 3326) ∧ w = w':=by
 go_enter Tryz.func221,Tryz.ntmps221
 go_wp2_with fail
 refine wp_loop_rounds 15 ?_
 rw [rounds_succ];go_wp2_with fail
 rw [rounds_succ];go_wp2_with fail
 rw [rounds_succ];go_wp2_with fail
 rw [rounds_succ];go_wp2_with fail
 rw [rounds_succ];go_wp2_with fail
 rw [rounds_succ];go_wp2_with fail
 rw [rounds_succ];go_wp2_with fail
 rw [rounds_succ];go_wp2_with fail
 rw [rounds_succ];go_wp2_with fail
 rw [rounds_succ];go_wp2_with fail
 rw [rounds_succ];go_wp2_with fail
 rw [rounds_succ];go_wp2_with fail
 rw [rounds_succ];go_wp2_with fail
 rw [rounds_succ];go_wp2_with fail
 rw [rounds_succ];go_wp2_with fail
 go_ret
 exact ⟨rfl,rfl⟩
theorem uR (w : World) : Calls Tryz.prog 145 #[lgV 4 0] w (Rt (.bool true) w):=by
 have NEW:=Hd (heap_alloc_new w (.cells #[str [],.int .u32 0,.int .u8 4,.int .u8 0,.slice none 0 0] 112))
 have HB : Hid (Below w.heap.size w (w.alloc (.cells #[str [],.int .u32 0,.int .u8 4,.int .u8 0,.slice none 0 0] 112))):=bnew
 obtain ⟨c0,c1,c2,c3,c4⟩:=fB NEW.out
 have r1:=cell_regrown c1;have r2:=cell_regrown c2;have r3:=cell_regrown c3
 have y1 : bits BinOp.andNot IntKind.u32 0 3326 = 0:=by kernel_rfl
 have cS : Hid (∀ d os,Calls Tryz.prog 220 #[.int .u8 4] (grow (redrawn (w.alloc (.cells #[str [],.int .u32 0,.int .u8 4,.int .u8 0,.slice none 0 0] 112)) d) os) fun e w''=>e = .returned (.int .i64 4) ∧ ∃ p : Regrown,w'' = grow (redrawn (w.alloc (.cells #[str [],.int .u32 0,.int .u8 4,.int .u8 0,.slice none 0 0] 112)) p.d) p.os):=fun d os =>
  Calls.regrown_of ((sizes14_4 _).mono fun e w' h=>⟨h.1,by rw [← h.2];exact Below.refl _ _⟩)
 have cA : Hid (∀ d os,Calls Tryz.prog 221 #[.int .u8 4] (grow (redrawn (w.alloc (.cells #[str [],.int .u32 0,.int .u8 4,.int .u8 0,.slice none 0 0] 112)) d) os) fun e w''=>e = .returned (.int .u32 3326) ∧ ∃ p : Regrown,w'' = grow (redrawn (w.alloc (.cells #[str [],.int .u32 0,.int .u8 4,.int .u8 0,.slice none 0 0] 112)) p.d) p.os):=fun d os =>
  Calls.regrown_of ((allowed14_4 _).mono fun e w' h=>⟨h.1,by rw [← h.2];exact Below.refl _ _⟩)
 clear c0 c1 c2 c3 c4
 go_enter Tryz.func145,Tryz.ntmps145
 go_wp2_with fail
 refine wqb ?_
 repeat (go_big_quiet_step ((first | (go_at_call 220;exact cS.out _ _) | (go_at_call 221;exact cA.out _ _))))
 refine wpQuiet_nil (qe fun wq Bwq=>?_)
 go_wp2_with fail
 go_ret
 exact ⟨rfl,aA HB.out Bwq.out⟩
theorem sizes14_5 (w : World) : Calls Tryz.prog 220 #[.int .u8 5] w fun e w'=>e = .returned (.int .i64 5) ∧ w = w':=by
 have hix : ∀ wx,(Instr.index 306 (.agg #[.int .i64 0,.int .i64 1,.int .i64 3,.int .i64 4,.int .i64 4,.int .i64 5]) (.int .u8 5)).run Tryz.prog wx = .ok (.int .i64 5) wx:=fun _=>by kernel_rfl
 go_enter Tryz.func220,Tryz.ntmps220
 go_wp2_with fail
 go_ret
 exact ⟨rfl,rfl⟩
theorem allowed14_5 (w : World) : Calls Tryz.prog 221 #[.int .u8 5] w fun e w'=>e = .returned (.int .u32 28926) ∧ w = w':=by
 go_enter Tryz.func221,Tryz.ntmps221
 go_wp2_with fail
 refine wp_loop_rounds 15 ?_
 rw [rounds_succ];go_wp2_with fail
 rw [rounds_succ];go_wp2_with fail
 rw [rounds_succ];go_wp2_with fail
 rw [rounds_succ];go_wp2_with fail
 rw [rounds_succ];go_wp2_with fail
 rw [rounds_succ];go_wp2_with fail
 rw [rounds_succ];go_wp2_with fail
 rw [rounds_succ];go_wp2_with fail
 rw [rounds_succ];go_wp2_with fail
 rw [rounds_succ];go_wp2_with fail
 rw [rounds_succ];go_wp2_with fail
 rw [rounds_succ];go_wp2_with fail
 rw [rounds_succ];go_wp2_with fail
 rw [rounds_succ];go_wp2_with fail
 rw [rounds_succ];go_wp2_with fail
 go_ret
 exact ⟨rfl,rfl⟩
theorem sound14_5 (w : World) : Calls Tryz.prog 145 #[lgV 5 0] w (Rt (.bool true) w):=by
 have NEW:=Hd (heap_alloc_new w (.cells #[str [],.int .u32 0,.int .u8 5,.int .u8 0,.slice none 0 0] 112))
 have HB : Hid (Below w.heap.size w (w.alloc (.cells #[str [],.int .u32 0,.int .u8 5,.int .u8 0,.slice none 0 0] 112))):=bnew
 obtain ⟨c0,c1,c2,c3,c4⟩:=fB NEW.out
 have r1:=cell_regrown c1;have r2:=cell_regrown c2;have r3:=cell_regrown c3
 have y1 : bits BinOp.andNot IntKind.u32 0 28926 = 0:=by kernel_rfl
 have cS : Hid (∀ d os,Calls Tryz.prog 220 #[.int .u8 5] (grow (redrawn (w.alloc (.cells #[str [],.int .u32 0,.int .u8 5,.int .u8 0,.slice none 0 0] 112)) d) os) fun e w''=>e = .returned (.int .i64 5) ∧ ∃ p : Regrown,w'' = grow (redrawn (w.alloc (.cells #[str [],.int .u32 0,.int .u8 5,.int .u8 0,.slice none 0 0] 112)) p.d) p.os):=fun d os =>
  Calls.regrown_of ((sizes14_5 _).mono fun e w' h=>⟨h.1,by rw [← h.2];exact Below.refl _ _⟩)
 have cA : Hid (∀ d os,Calls Tryz.prog 221 #[.int .u8 5] (grow (redrawn (w.alloc (.cells #[str [],.int .u32 0,.int .u8 5,.int .u8 0,.slice none 0 0] 112)) d) os) fun e w''=>e = .returned (.int .u32 28926) ∧ ∃ p : Regrown,w'' = grow (redrawn (w.alloc (.cells #[str [],.int .u32 0,.int .u8 5,.int .u8 0,.slice none 0 0] 112)) p.d) p.os):=fun d os =>
  Calls.regrown_of ((allowed14_5 _).mono fun e w' h=>⟨h.1,by rw [← h.2];exact Below.refl _ _⟩)
 clear c0 c1 c2 c3 c4
 go_enter Tryz.func145,Tryz.ntmps145
 go_wp2_with fail
 refine wqb ?_
 repeat (go_big_quiet_step ((first | (go_at_call 220;exact cS.out _ _) | (go_at_call 221;exact cA.out _ _))))
 refine wpQuiet_nil (qe fun wq Bwq=>?_)
 go_wp2_with fail
 go_ret
 exact ⟨rfl,aA HB.out Bwq.out⟩
theorem sizes14_none (κ : Int) (h : κ < 1 ∨ 5 < κ) (w : World) : Calls Tryz.prog 220 #[.int .u8 κ] w fun e w'=>e = .returned (.int .i64 0) ∧ w = w':=by
 rcases (show κ < 1 ∨ (1 ≤ κ ∧ 5 < κ) by omega) with h | ⟨h1,h2⟩
 ·have t1 : decide (κ < 1) = true:=decide_eq_true h
  go_enter Tryz.func220,Tryz.ntmps220
  go_wp2_with fail
  go_ret
  exact ⟨rfl,rfl⟩
 ·have t1 : decide (κ < 1) = false:=decide_eq_false (by omega)
  have t2 : decide (5 < κ) = true:=decide_eq_true h2
  go_enter Tryz.func220,Tryz.ntmps220
  go_wp2_with fail
  go_ret
  exact ⟨rfl,rfl⟩
theorem sound14_none (κ : Int) (h : κ < 1 ∨ 5 < κ) (w : World) : Calls Tryz.prog 145 #[lgV κ 0] w (Rt (.bool false) w):=by
 have NEW:=Hd (heap_alloc_new w (.cells #[str [],.int .u32 0,.int .u8 κ,.int .u8 0,.slice none 0 0] 112))
 have HB : Hid (Below w.heap.size w (w.alloc (.cells #[str [],.int .u32 0,.int .u8 κ,.int .u8 0,.slice none 0 0] 112))):=bnew
 obtain ⟨c0,c1,c2,c3,c4⟩:=fB NEW.out
 have r1:=cell_regrown c1;have r2:=cell_regrown c2;have r3:=cell_regrown c3
 have cS : Hid (∀ d os,Calls Tryz.prog 220 #[.int .u8 κ] (grow (redrawn (w.alloc (.cells #[str [],.int .u32 0,.int .u8 κ,.int .u8 0,.slice none 0 0] 112)) d) os) fun e w''=>e = .returned (.int .i64 0) ∧ ∃ p : Regrown,w'' = grow (redrawn (w.alloc (.cells #[str [],.int .u32 0,.int .u8 κ,.int .u8 0,.slice none 0 0] 112)) p.d) p.os):=fun d os =>
  Calls.regrown_of ((sizes14_none κ h _).mono fun e w' h=>⟨h.1,by rw [← h.2];exact Below.refl _ _⟩)
 clear c0 c1 c2 c3 c4 h
 go_enter Tryz.func145,Tryz.ntmps145
 go_wp2_with fail
 refine wqb ?_
 repeat (go_big_quiet_step ((go_at_call 220;exact cS.out _ _)))
 refine wpQuiet_nil (qe fun wq Bwq=>?_)
 go_wp2_with fail
 go_ret
 exact ⟨rfl,aA HB.out Bwq.out⟩
theorem valid14_none (κ : Int) (h : κ < 1 ∨ 5 < κ) (z lo : Int) (ra fa ga ba : Option Addr) (rn rc fn fc gn gc bn bc : Nat) (w : World) : Calls Tryz.prog 72 #[lgV κ 0,mdK κ z ra rn rc lo fa fn fc ga gn gc ba bn bc] w (Rt (.bool false) w):=by
 have HB : Hid (Below w.heap.size w ((w.alloc (.cells #[str [],.int .u32 0,.int .u8 κ,.int .u8 0,.slice none 0 0] 112)).alloc (mdR κ z ra rn rc lo fa fn fc ga gn gc ba bn bc))):=bnew.alloc (by simp) _
 have LG : Hid (((w.alloc (.cells #[str [],.int .u32 0,.int .u8 κ,.int .u8 0,.slice none 0 0] 112)).alloc (mdR κ z ra rn rc lo fa fn fc ga gn gc ba bn bc)).heap[w.heap.size]? = some (.cells #[str [],.int .u32 0,.int .u8 κ,.int .u8 0,.slice none 0 0] 112 (0,0))):=kc bnew (heap_alloc_new w _)
 have MD : Hid (((w.alloc (.cells #[str [],.int .u32 0,.int .u8 κ,.int .u8 0,.slice none 0 0] 112)).alloc (mdR κ z ra rn rc lo fa fn fc ga gn gc ba bn bc)).heap[w.heap.size + 1]? = some (mdR κ z ra rn rc lo fa fn fc ga gn gc ba bn bc)):=by
  have:=heap_alloc_new (w.alloc (.cells #[str [],.int .u32 0,.int .u8 κ,.int .u8 0,.slice none 0 0] 112)) (mdR κ z ra rn rc lo fa fn fc ga gn gc ba bn bc)
  rwa [World.size_alloc] at this
 have SN:=Hd (sound14_none κ h)
 clear h
 go_enter Tryz.func72,Tryz.ntmps72
 go_wp2_with (go_at_call 145;refine (SN.out _).mono ?_;rintro e w1 ⟨rfl,b1⟩;have B1:=Hd (aA HB.out b1);have L1:=Hd (kc b1 LG.out);have M1:=Hd (kc b1 MD.out);clear b1;obtain ⟨l0,l1,l2,l3,l4⟩:=fB L1.out;obtain ⟨⟨c0,c1,c2,c3,c4,c5,c6⟩,-⟩:=aK M1.out)
 go_ret
 exact ⟨rfl,B1.out⟩
theorem valid14_2 (q : Bool) (z lo : Int) (ra fa ga ba : Option Addr) (rn rc fn fc gn gc bn bc : Nat) (w : World)
  (hV : ∀ W,Below w.heap.size w W → Calls Tryz.prog 148 #[mdK 2 z ra rn rc lo fa fn fc ga gn gc ba bn bc] W (Rt (.bool q) W)) :
  Calls Tryz.prog 72 #[lgV 2 0,mdK 2 z ra rn rc lo fa fn fc ga gn gc ba bn bc] w (Rt (.bool q) w):=by
 have HB : Hid (Below w.heap.size w ((w.alloc (.cells #[str [],.int .u32 0,.int .u8 2,.int .u8 0,.slice none 0 0] 112)).alloc (mdR 2 z ra rn rc lo fa fn fc ga gn gc ba bn bc))):=bnew.alloc (by simp) _
 have LG : Hid (((w.alloc (.cells #[str [],.int .u32 0,.int .u8 2,.int .u8 0,.slice none 0 0] 112)).alloc (mdR 2 z ra rn rc lo fa fn fc ga gn gc ba bn bc)).heap[w.heap.size]? = some (.cells #[str [],.int .u32 0,.int .u8 2,.int .u8 0,.slice none 0 0] 112 (0,0))):=kc bnew (heap_alloc_new w _)
 have MD : Hid (((w.alloc (.cells #[str [],.int .u32 0,.int .u8 2,.int .u8 0,.slice none 0 0] 112)).alloc (mdR 2 z ra rn rc lo fa fn fc ga gn gc ba bn bc)).heap[w.heap.size + 1]? = some (mdR 2 z ra rn rc lo fa fn fc ga gn gc ba bn bc)):=by
  have:=heap_alloc_new (w.alloc (.cells #[str [],.int .u32 0,.int .u8 2,.int .u8 0,.slice none 0 0] 112)) (mdR 2 z ra rn rc lo fa fn fc ga gn gc ba bn bc)
  rwa [World.size_alloc] at this
 have HV:=Hd hV
 clear hV
 go_enter Tryz.func72,Tryz.ntmps72
 go_wp2_with (first | (go_at_call 145;refine (sound14_2 _).mono ?_;rintro e w1 ⟨rfl,b1⟩;have B1:=Hd (aA HB.out b1);have L1:=Hd (kc b1 LG.out);have M1:=Hd (kc b1 MD.out);clear b1;obtain ⟨l0,l1,l2,l3,l4⟩:=fB L1.out;obtain ⟨⟨c0,c1,c2,c3,c4,c5,c6⟩,-⟩:=aK M1.out) | (go_at_call 148;refine (HV.out _ B1.out).mono ?_;rintro e w2 ⟨rfl,b2⟩;have B2:=Hd (aA B1.out b2);clear b2))
 go_ret
 exact ⟨rfl,B2.out⟩
theorem valid14_5 (q : Bool) (z lo : Int) (ra fa ga ba : Option Addr) (rn rc fn fc gn gc bn bc : Nat) (w : World)
  (hV : ∀ W,Below w.heap.size w W → Calls Tryz.prog 149 #[mdK 5 z ra rn rc lo fa fn fc ga gn gc ba bn bc] W (Rt (.bool q) W)) :
  Calls Tryz.prog 72 #[lgV 5 0,mdK 5 z ra rn rc lo fa fn fc ga gn gc ba bn bc] w (Rt (.bool q) w):=by
 have HB : Hid (Below w.heap.size w ((w.alloc (.cells #[str [],.int .u32 0,.int .u8 5,.int .u8 0,.slice none 0 0] 112)).alloc (mdR 5 z ra rn rc lo fa fn fc ga gn gc ba bn bc))):=bnew.alloc (by simp) _
 have LG : Hid (((w.alloc (.cells #[str [],.int .u32 0,.int .u8 5,.int .u8 0,.slice none 0 0] 112)).alloc (mdR 5 z ra rn rc lo fa fn fc ga gn gc ba bn bc)).heap[w.heap.size]? = some (.cells #[str [],.int .u32 0,.int .u8 5,.int .u8 0,.slice none 0 0] 112 (0,0))):=kc bnew (heap_alloc_new w _)
 have MD : Hid (((w.alloc (.cells #[str [],.int .u32 0,.int .u8 5,.int .u8 0,.slice none 0 0] 112)).alloc (mdR 5 z ra rn rc lo fa fn fc ga gn gc ba bn bc)).heap[w.heap.size + 1]? = some (mdR 5 z ra rn rc lo fa fn fc ga gn gc ba bn bc)):=by
  have:=heap_alloc_new (w.alloc (.cells #[str [],.int .u32 0,.int .u8 5,.int .u8 0,.slice none 0 0] 112)) (mdR 5 z ra rn rc lo fa fn fc ga gn gc ba bn bc)
  rwa [World.size_alloc] at this
 have HV:=Hd hV
 clear hV
 go_enter Tryz.func72,Tryz.ntmps72
 go_wp2_with (first | (go_at_call 145;refine (sound14_5 _).mono ?_;rintro e w1 ⟨rfl,b1⟩;have B1:=Hd (aA HB.out b1);have L1:=Hd (kc b1 LG.out);have M1:=Hd (kc b1 MD.out);clear b1;obtain ⟨l0,l1,l2,l3,l4⟩:=fB L1.out;obtain ⟨⟨c0,c1,c2,c3,c4,c5,c6⟩,-⟩:=aK M1.out) | (go_at_call 149;refine (HV.out _ B1.out).mono ?_;rintro e w2 ⟨rfl,b2⟩;have B2:=Hd (aA B1.out b2);clear b2))
 go_ret
 exact ⟨rfl,B2.out⟩
theorem valid14_3 (q : Bool) (z lo : Int) (ra fa ga ba : Option Addr) (rn rc fn fc gn gc bn bc : Nat) (w : World)
  (hV : ∀ W,Below w.heap.size w W → Calls Tryz.prog 150 #[mdK 3 z ra rn rc lo fa fn fc ga gn gc ba bn bc] W (Rt (.bool q) W))
  (hF : q = true → ∀ W,Below w.heap.size w W → Calls Tryz.prog 151 #[.slice ra rn rc,.int .u8 0] W (Rt (.bool true) W)) :
  Calls Tryz.prog 72 #[lgV 3 0,mdK 3 z ra rn rc lo fa fn fc ga gn gc ba bn bc] w (Rt (.bool q) w):=by
 have HB : Hid (Below w.heap.size w ((w.alloc (.cells #[str [],.int .u32 0,.int .u8 3,.int .u8 0,.slice none 0 0] 112)).alloc (mdR 3 z ra rn rc lo fa fn fc ga gn gc ba bn bc))):=bnew.alloc (by simp) _
 have LG : Hid (((w.alloc (.cells #[str [],.int .u32 0,.int .u8 3,.int .u8 0,.slice none 0 0] 112)).alloc (mdR 3 z ra rn rc lo fa fn fc ga gn gc ba bn bc)).heap[w.heap.size]? = some (.cells #[str [],.int .u32 0,.int .u8 3,.int .u8 0,.slice none 0 0] 112 (0,0))):=kc bnew (heap_alloc_new w _)
 have MD : Hid (((w.alloc (.cells #[str [],.int .u32 0,.int .u8 3,.int .u8 0,.slice none 0 0] 112)).alloc (mdR 3 z ra rn rc lo fa fn fc ga gn gc ba bn bc)).heap[w.heap.size + 1]? = some (mdR 3 z ra rn rc lo fa fn fc ga gn gc ba bn bc)):=by
  have:=heap_alloc_new (w.alloc (.cells #[str [],.int .u32 0,.int .u8 3,.int .u8 0,.slice none 0 0] 112)) (mdR 3 z ra rn rc lo fa fn fc ga gn gc ba bn bc)
  rwa [World.size_alloc] at this
 have HV:=Hd hV
 have HF:=Hd hF
 clear hV hF
 cases q
 ·go_enter Tryz.func72,Tryz.ntmps72
  go_wp2_with (first | (go_at_call 145;refine (uQ _).mono ?_;rintro e w1 ⟨rfl,b1⟩;have B1:=Hd (aA HB.out b1);have L1:=Hd (kc b1 LG.out);have M1:=Hd (kc b1 MD.out);clear b1;obtain ⟨l0,l1,l2,l3,l4⟩:=fB L1.out;obtain ⟨⟨c0,c1,c2,c3,c4,c5,c6⟩,-⟩:=aK M1.out) | (go_at_call 150;refine (HV.out _ B1.out).mono ?_;rintro e w2 ⟨rfl,b2⟩;have B2:=Hd (aA B1.out b2);clear b2))
  go_ret
  exact ⟨rfl,B2.out⟩
 ·go_enter Tryz.func72,Tryz.ntmps72
  go_wp2_with (first | (go_at_call 151;refine (HF.out (by trivial) _ B2.out).mono ?_;rintro e w3 ⟨rfl,b3⟩;have B3:=Hd (aA B2.out b3);clear b3) | (go_at_call 145;refine (uQ _).mono ?_;rintro e w1 ⟨rfl,b1⟩;have B1:=Hd (aA HB.out b1);have L1:=Hd (kc b1 LG.out);have M1:=Hd (kc b1 MD.out);clear b1;obtain ⟨l0,l1,l2,l3,l4⟩:=fB L1.out;obtain ⟨⟨c0,c1,c2,c3,c4,c5,c6⟩,-⟩:=aK M1.out) | (go_at_call 150;refine (HV.out _ B1.out).mono ?_;rintro e w2 ⟨rfl,b2⟩;have B2:=Hd (aA B1.out b2);have L2:=Hd (kc b2 L1.out);have M2:=Hd (kc b2 M1.out);clear b2;obtain ⟨l0,l1,l2,l3,l4⟩:=fB L2.out;obtain ⟨⟨c0,c1,c2,c3,c4,c5,c6⟩,-⟩:=aK M2.out))
  go_ret
  exact ⟨rfl,B3.out⟩
theorem valid14_4 (q : Bool) (z lo : Int) (ra fa ga ba : Option Addr) (rn rc fn fc gn gc bn bc : Nat) (w : World)
  (hV : ∀ W,Below w.heap.size w W → Calls Tryz.prog 150 #[mdK 4 z ra rn rc lo fa fn fc ga gn gc ba bn bc] W (Rt (.bool q) W))
  (hF : q = true → ∀ W,Below w.heap.size w W → Calls Tryz.prog 151 #[.slice ra rn rc,.int .u8 0] W (Rt (.bool true) W)) :
  Calls Tryz.prog 72 #[lgV 4 0,mdK 4 z ra rn rc lo fa fn fc ga gn gc ba bn bc] w (Rt (.bool q) w):=by
 have HB : Hid (Below w.heap.size w ((w.alloc (.cells #[str [],.int .u32 0,.int .u8 4,.int .u8 0,.slice none 0 0] 112)).alloc (mdR 4 z ra rn rc lo fa fn fc ga gn gc ba bn bc))):=bnew.alloc (by simp) _
 have LG : Hid (((w.alloc (.cells #[str [],.int .u32 0,.int .u8 4,.int .u8 0,.slice none 0 0] 112)).alloc (mdR 4 z ra rn rc lo fa fn fc ga gn gc ba bn bc)).heap[w.heap.size]? = some (.cells #[str [],.int .u32 0,.int .u8 4,.int .u8 0,.slice none 0 0] 112 (0,0))):=kc bnew (heap_alloc_new w _)
 have MD : Hid (((w.alloc (.cells #[str [],.int .u32 0,.int .u8 4,.int .u8 0,.slice none 0 0] 112)).alloc (mdR 4 z ra rn rc lo fa fn fc ga gn gc ba bn bc)).heap[w.heap.size + 1]? = some (mdR 4 z ra rn rc lo fa fn fc ga gn gc ba bn bc)):=by
  have:=heap_alloc_new (w.alloc (.cells #[str [],.int .u32 0,.int .u8 4,.int .u8 0,.slice none 0 0] 112)) (mdR 4 z ra rn rc lo fa fn fc ga gn gc ba bn bc)
  rwa [World.size_alloc] at this
 have HV:=Hd hV
 have HF:=Hd hF
 clear hV hF
 cases q
 ·go_enter Tryz.func72,Tryz.ntmps72
  go_wp2_with (first | (go_at_call 145;refine (uR _).mono ?_;rintro e w1 ⟨rfl,b1⟩;have B1:=Hd (aA HB.out b1);have L1:=Hd (kc b1 LG.out);have M1:=Hd (kc b1 MD.out);clear b1;obtain ⟨l0,l1,l2,l3,l4⟩:=fB L1.out;obtain ⟨⟨c0,c1,c2,c3,c4,c5,c6⟩,-⟩:=aK M1.out) | (go_at_call 150;refine (HV.out _ B1.out).mono ?_;rintro e w2 ⟨rfl,b2⟩;have B2:=Hd (aA B1.out b2);clear b2))
  go_ret
  exact ⟨rfl,B2.out⟩
 ·go_enter Tryz.func72,Tryz.ntmps72
  go_wp2_with (first | (go_at_call 151;refine (HF.out (by trivial) _ B2.out).mono ?_;rintro e w3 ⟨rfl,b3⟩;have B3:=Hd (aA B2.out b3);clear b3) | (go_at_call 145;refine (uR _).mono ?_;rintro e w1 ⟨rfl,b1⟩;have B1:=Hd (aA HB.out b1);have L1:=Hd (kc b1 LG.out);have M1:=Hd (kc b1 MD.out);clear b1;obtain ⟨l0,l1,l2,l3,l4⟩:=fB L1.out;obtain ⟨⟨c0,c1,c2,c3,c4,c5,c6⟩,-⟩:=aK M1.out) | (go_at_call 150;refine (HV.out _ B1.out).mono ?_;rintro e w2 ⟨rfl,b2⟩;have B2:=Hd (aA B1.out b2);have L2:=Hd (kc b2 L1.out);have M2:=Hd (kc b2 M1.out);clear b2;obtain ⟨l0,l1,l2,l3,l4⟩:=fB L2.out;obtain ⟨⟨c0,c1,c2,c3,c4,c5,c6⟩,-⟩:=aK M2.out))
  go_ret
  exact ⟨rfl,B3.out⟩
def kF (F : List Fa) (z lo : Int) (rn gn bn : Nat) : Bool:=aI F.length (dK F 2) && (decide (z = 1 ∧ lo = 0 ∧ rn = 0 ∧ gn = 0 ∧ bn = 0 ∧ F.length ≤ 12) && dP (F.map Fa.name))
theorem valid14_1 (F : List Fa) (hF : F.length ≤ 1000) (hl : ∀ x ∈ F,x.name.length ≤ 9223372036854775807) (z lo : Int) (ra fa ga ba : Option Addr) (rn rc fn fc gn gc bn bc : Nat) (w : World) (hrn : rn ≤ 1000) (hgn : gn ≤ 1000) (hbn : bn ≤ 1000) (hx : aM w 3 (fasV F) F.length (.slice fa fn fc)) :
  Calls Tryz.prog 72 #[lgV 1 0,mdK 1 z ra rn rc lo fa fn fc ga gn gc ba bn bc] w (Rt (.bool (kF F z lo rn gn bn)) w):=by
 have HB : Hid (Below w.heap.size w ((w.alloc (.cells #[str [],.int .u32 0,.int .u8 1,.int .u8 0,.slice none 0 0] 112)).alloc (mdR 1 z ra rn rc lo fa fn fc ga gn gc ba bn bc))):=bnew.alloc (by simp) _
 have LG : Hid (((w.alloc (.cells #[str [],.int .u32 0,.int .u8 1,.int .u8 0,.slice none 0 0] 112)).alloc (mdR 1 z ra rn rc lo fa fn fc ga gn gc ba bn bc)).heap[w.heap.size]? = some (.cells #[str [],.int .u32 0,.int .u8 1,.int .u8 0,.slice none 0 0] 112 (0,0))):=kc bnew (heap_alloc_new w _)
 have MD : Hid (((w.alloc (.cells #[str [],.int .u32 0,.int .u8 1,.int .u8 0,.slice none 0 0] 112)).alloc (mdR 1 z ra rn rc lo fa fn fc ga gn gc ba bn bc)).heap[w.heap.size + 1]? = some (mdR 1 z ra rn rc lo fa fn fc ga gn gc ba bn bc)):=by
  have:=heap_alloc_new (w.alloc (.cells #[str [],.int .u32 0,.int .u8 1,.int .u8 0,.slice none 0 0] 112)) (mdR 1 z ra rn rc lo fa fn fc ga gn gc ba bn bc)
  rwa [World.size_alloc] at this
 have hk:=hx.len
 have hlk : fn ≤ 1000:=by omega
 have L1:=Hd hk.1
 have HX:=Hd hx
 obtain ⟨q,hq⟩ : ∃ q,dP (F.map Fa.name) = q:=⟨_,rfl⟩
 have N1 : Hid (∀ W,Below w.heap.size w W → Calls Tryz.prog 147 #[mdK 1 z ra rn rc lo fa fn fc ga gn gc ba bn bc] W fun e w'=>∃ a n c,e = .returned (.slice a n c) ∧ aX w' (F.map Fa.name) (.slice a n c) ∧ Below W.heap.size W w'):=fun W hW =>
  (names14_c ⟨1,z,[],lo,F,[],[]⟩ hF ra fa ga ba rn rc fn fc gn gc bn bc W (hx.keep (aC hW))).mono fun e w' ⟨v,he,ho,b⟩=>by
   rcases ho.2 with ⟨rfl,h0⟩ | ⟨_,_,_,rfl,-⟩
   ·exact ⟨_,_,_,he,ho.strsAt,b⟩
   ·exact ⟨_,_,_,he,ho.strsAt,b⟩
 have N2 : Hid (∀ W a n c,aX W (F.map Fa.name) (.slice a n c) → Calls Tryz.prog 146 #[.slice a n c] W (Rt (.bool q) W)):=fun W a n c h=>by
  rw [← hq]
  exact names10_c _ (fun x hx=>by obtain ⟨f,hf,rfl⟩:=List.mem_map.1 hx;exact hl f hf) _ _ _ _ h
 obtain ⟨A,hA⟩ : ∃ A,aI F.length (dK F 2) = A:=⟨_,rfl⟩
 have HA : Hid (aI fn (dK F 2) = A):=by show _ = _;rw [← hA,L1.out]
 obtain ⟨D,hD⟩ : ∃ D,decide (z = 1 ∧ lo = 0 ∧ rn = 0 ∧ gn = 0 ∧ bn = 0 ∧ fn ≤ 12) = D:=⟨_,rfl⟩
 have HD:=Hd hD
 have TB : Hid (kF F z lo rn gn bn = (A && (D && q))):=by show _ = _;unfold kF;rw [hA,hq,← L1.out,hD]
 rw [TB.out]
 clear hA hk hx hl hq TB hD
 go_enter Tryz.func72,Tryz.ntmps72
 go_wp2_with (go_at_call 145;refine (sound14_1 _).mono ?_;rintro e w1 ⟨rfl,b1⟩;have B1:=Hd (aA HB.out b1);have LG1:=Hd (kc b1 LG.out);have M1:=Hd (kc b1 MD.out);clear b1;obtain ⟨l0,l1,l2,l3,l4⟩:=fB LG1.out;obtain ⟨⟨c0,c1,c2,c3,c4,c5,c6⟩,-⟩:=aK M1.out)
 go_loopw [5] (fun i wr=>∃ j : Nat,j ≤ fn ∧ i = .int .i64 j ∧ w1 = wr ∧ Hid (aI j (dK F 2) = true)) (fun i _=>fn - (intOf i).toNat)
 case atStart=>exact ⟨0,Nat.zero_le _,rfl,rfl,aN _⟩
 case round =>
  obtain ⟨j,hj,rfl,rfl,hs⟩:=hrel
  by_cases hlt : j < fn
  ·obtain ⟨T,hT⟩:=aH (l:=F) (j:=j) (by rw [← L1.out];exact hlt)
   obtain ⟨b,off,rfl,p0,p1,p2⟩:=cL HX.out hT
   have hK:=aC B1.out
   have g1:=hK _ _ p1;have g2:=hK _ _ p2
   have FA:=Hd (dE (lim:=2) hT)
   obtain ⟨nm,ar,tr⟩:=T
   simp only [Fa.args,Fa.tru,Fa.name] at *
   clear hT hK p0 p1 p2
   rcases (show ar ≠ 0 ∨ (ar = 0 ∧ tr < 0) ∨ (ar = 0 ∧ 0 ≤ tr ∧ 1 < tr) ∨ (ar = 0 ∧ 0 ≤ tr ∧ tr ≤ 1) by omega) with h5 | ⟨rfl,h5⟩ | ⟨rfl,h5,h6⟩ | ⟨rfl,h5,h6⟩
   ·have t2 : (ar != 0) = true:=by simpa using h5
    have RT : Hid (A = false):=by show _ = _;rw [← HA.out,aE hlt (by rw [FA.out];simp;omega)]
    go_wp2_with fail
    go_ret
    exact ⟨by rw [RT.out];rfl,B1.out⟩
   ·have t2 : decide (tr < 0) = true:=decide_eq_true h5
    have RT : Hid (A = false):=by show _ = _;rw [← HA.out,aE hlt (by rw [FA.out];simp;omega)]
    go_wp2_with fail
    go_ret
    exact ⟨by rw [RT.out];rfl,B1.out⟩
   ·have t2 : decide (tr < 0) = false:=decide_eq_false (by omega)
    have t3 : decide (1 < tr) = true:=decide_eq_true h6
    have RT : Hid (A = false):=by show _ = _;rw [← HA.out,aE hlt (by rw [FA.out];simp;omega)]
    go_wp2_with fail
    go_ret
    exact ⟨by rw [RT.out];rfl,B1.out⟩
   ·have t2 : decide (tr < 0) = false:=decide_eq_false (by omega)
    have t3 : decide (1 < tr) = false:=decide_eq_false (by omega)
    have OK : Hid (dK F 2 j = true):=by show _ = _;rw [FA.out];simp;omega
    go_wp2_with fail
    go_roundw
    case rel=>exact ⟨j + 1,by omega,by go_num,by trivial,aL hs.out OK.out⟩
    case measure=>simp [intOf];omega
  ·have e : j = fn:=by omega
   have RT : Hid (A = true):=by show _ = _;rw [← HA.out,← e];exact hs.out
   have g1 : decide ((j : Int) < (fn : Int)) = false:=by simp;omega
   clear hs e
   by_cases hz : z = 1 ∧ lo = 0 ∧ rn = 0 ∧ gn = 0 ∧ bn = 0 ∧ fn ≤ 12
   ·have DZ : Hid (D = true):=by show _ = _;rw [← HD.out];exact decide_eq_true hz
    clear HD
    obtain ⟨rfl,rfl,rfl,rfl,rfl,h12⟩:=hz
    have t4 : decide ((fn : Int) ≤ 12) = true:=decide_eq_true (by omega)
    go_wp2_with (first | (go_at_call 147;refine (N1.out _ B1.out).mono ?_;rintro e w2 ⟨na,nn,nc,rfl,n1,b1⟩;have B2:=Hd (aA B1.out b1);have R1:=Hd n1;clear n1 b1) | (go_at_call 146;refine (N2.out _ _ _ _ R1.out).mono ?_;rintro e w3 ⟨rfl,b2⟩;have B3:=Hd (aA B2.out b2);clear b2))
    go_ret
    exact ⟨by rw [RT.out,DZ.out];simp,B3.out⟩
   ·have DZ : Hid (D = false):=by show _ = _;rw [← HD.out];exact decide_eq_false hz
    clear HD
    rcases (show z ≠ 1 ∨ (z = 1 ∧ lo ≠ 0) ∨ (z = 1 ∧ lo = 0 ∧ rn + gn + bn ≠ 0) ∨ (z = 1 ∧ lo = 0 ∧ rn + gn + bn = 0 ∧ 12 < fn) by omega) with h5 | ⟨rfl,h5⟩ | ⟨rfl,rfl,h5⟩ | ⟨rfl,rfl,h5,h6⟩
    ·have t4 : (z == 1) = false:=by simpa using h5
     go_wp2_with fail
     go_ret
     exact ⟨by rw [RT.out,DZ.out];rfl,B1.out⟩
    ·have t4 : (lo == 0) = false:=by simpa using h5
     go_wp2_with fail
     go_ret
     exact ⟨by rw [RT.out,DZ.out];rfl,B1.out⟩
    ·have t4 : ((rn : Int) + (gn : Int) + (bn : Int) == 0) = false:=by simp;omega
     go_wp2_with fail
     go_ret
     exact ⟨by rw [RT.out,DZ.out];rfl,B1.out⟩
    ·obtain ⟨rfl,rfl,rfl⟩ : rn = 0 ∧ gn = 0 ∧ bn = 0:=by omega
     have t4 : decide ((fn : Int) ≤ 12) = false:=decide_eq_false (by omega)
     go_wp2_with fail
     go_ret
     exact ⟨by rw [RT.out,DZ.out];rfl,B1.out⟩
end Go.Proofs.YtcandidgaegghaaGreatDoor
