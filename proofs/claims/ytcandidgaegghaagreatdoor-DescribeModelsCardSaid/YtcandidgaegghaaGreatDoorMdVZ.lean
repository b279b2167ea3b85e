/- describe.Model at a model of nothing but a kind and a size below 1: no words. Conditions: none but those of each statement. -/
import Derived.Test.YtcandidgaegghaaGreatDoorCpZ
import Derived.Test.YtcandidgaegghaaGreatDoorModBZ
import Derived.Outline
import Derived.Test.YtcandidgaegghaaGreatDoorMdFZ
set_option maxRecDepth 10000
set_option linter.unusedSimpArgs false
set_option linter.unusedVariables false
namespace Go.Proofs.YtcandidgaegghaaGreatDoor
open Go Go.RowKit Ly
open Go.Sort (grow)
set_option maxHeartbeats 1600000
theorem u34 : ∃ fs,Tryz.prog.underlying 34 = some (.struct fs):=⟨_,Tryz.underlying34⟩
theorem i34 : (Tryz.prog.info? 34).map (·.size) = some 7:=by kernel_rfl
theorem zN (tmps : Array Value) (w : World) (g : Nat) (a b c d e f x z : Value) (h2 : tmps.getD 4 undef = .pointer (some ⟨g,0,none⟩)) (h3 : tmps.getD 5 undef = z) (hg : w.heap[g]? = some (.cells #[a,b,c,d,e,f,x] 34 (0,0))) :
  (results Tryz.f341 tmps).run Tryz.prog w = .ok (.tuple #[.agg #[a,b,c,d,e,f,x],z]) w:=by
 obtain ⟨fs,h1⟩:=u34
 have e2 : tmps[4]?.getD undef = .pointer (some ⟨g,0,none⟩):=by simpa using h2
 have e3 : tmps[5]?.getD undef = z:=by simpa using h3
 simp [results,Tryz.results341,e2,e3,asAddr,run_loadVar_row w g 34 34 #[a,b,c,d,e,f,x] (0,0) _ hg h1 rfl i34]
theorem wD (w : World) : Calls Tryz.prog 141 #[.int .u8 1] w (Rt (.tuple #[.iface 249 (.agg #[]),.bool true]) w):=by
 have hix : ∀ wx,(Instr.index 250 (.agg #[.iface 249 (.agg #[]),.iface 302 (.agg #[]),.iface 304 (.agg #[.int .u8 3]),.iface 304 (.agg #[.int .u8 4]),.iface 305 (.agg #[])]) (.int .u8 0)).run Tryz.prog wx = .ok (.iface 249 (.agg #[])) wx:=fun _=>by kernel_rfl
 go_enter Tryz.func141,Tryz.ntmps141
 go_wp2_with (go_at_call 218;refine (oY _).mono ?_;rintro e w1 ⟨rfl,b1⟩)
 go_ret2
 exact ⟨rfl,b1⟩
theorem limits_1 (w : World) : Calls Tryz.prog 334 #[.agg #[]] w (Rt (.tuple #[.int .u32 0,.int .i64 1]) w):=by
 go_enter Tryz.func334,Tryz.ntmps334
 go_wp2
 go_ret2
 exact ⟨rfl,bnew⟩
theorem sY (w : World) : Calls Tryz.prog 66 #[.int .u8 1] w (Rt (.int .u32 254) w):=by
 have hmt : ∀ wx,(method 474 249 (.agg #[]) "lyceum/holds.limits").run Tryz.prog wx = .ok (334,.agg #[]) wx:=fun _=>by kernel_rfl
 go_enter Tryz.func66,Tryz.ntmps66
 go_wp2_with fail
 refine (wD _).mono ?_
 rintro e w1 ⟨rfl,b1⟩
 have B1:=Hd b1
 clear b1
 go_wp2_with fail
 refine (limits_1 _).mono ?_
 rintro e w2 ⟨rfl,b2⟩
 have B2:=Hd (aA B1.out b2)
 clear b2
 go_wp2_with fail
 go_ret
 exact ⟨rfl,B2.out⟩
theorem logical_1 (w : World) : Calls Tryz.prog 142 #[.agg #[str [],.int .u32 254,.int .u8 1,.int .u8 0,.slice none 0 0]] w (Rt (.bool true) w):=by
 have k0 : (w.alloc (.cells #[str [],.int .u32 254,.int .u8 1,.int .u8 0,.slice none 0 0] 112)).cell? ⟨w.heap.size,1,none⟩ = some (.int .u32 254):=by simp [go_sem]
 have k1 : (w.alloc (.cells #[str [],.int .u32 254,.int .u8 1,.int .u8 0,.slice none 0 0] 112)).cell? ⟨w.heap.size,2,none⟩ = some (.int .u8 1):=by simp [go_sem]
 have k2 : (w.alloc (.cells #[str [],.int .u32 254,.int .u8 1,.int .u8 0,.slice none 0 0] 112)).cell? ⟨w.heap.size,3,none⟩ = some (.int .u8 0):=by simp [go_sem]
 have WB : Hid (Below w.heap.size w (w.alloc (.cells #[str [],.int .u32 254,.int .u8 1,.int .u8 0,.slice none 0 0] 112))):=bnew
 go_enter Tryz.func142,Tryz.ntmps142
 go_wp2_with fail
 generalize hW : w.alloc (.cells #[str [],.int .u32 254,.int .u8 1,.int .u8 0,.slice none 0 0] 112) = W at *
 clear hW
 have cP : Hid (∀ d os,Calls Tryz.prog 66 #[.int .u8 1] (grow (redrawn W d) os) fun e w''=>e = .returned (.int .u32 254) ∧ ∃ p : Regrown,w'' = grow (redrawn W p.d) p.os):=fun d os=>Calls.regrown_of (sY _)
 have r0:=cell_regrown k0;have r1:=cell_regrown k1;have r2:=cell_regrown k2
 refine wqb ?_
 repeat (go_big_quiet_step (first | (go_at_call 66;exact cP.out _ _)))
 refine wpQuiet_nil ?_
 intro wq hw'
 have WQ : Hid (Below W.heap.size W wq):=by
  obtain ⟨⟨dq,osq⟩,hw''⟩:=hw'
  rw [hw''];exact below_regrown W dq osq
 clear hw' r0 r1 r2
 have KQ:=aC WQ.out
 have q0:=KQ _ _ k0;have q1:=KQ _ _ k1;have q2:=KQ _ _ k2
 clear k0 k1 k2 KQ cP
 go_wp2_with fail
 go_ret
 exact ⟨rfl,WB.out.trans (WQ.out.mono WB.out.size)⟩
theorem wE (w : World) : Calls Tryz.prog 141 #[.int .u8 2] w (Rt (.tuple #[.iface 302 (.agg #[]),.bool true]) w):=by
 have hix : ∀ wx,(Instr.index 250 (.agg #[.iface 249 (.agg #[]),.iface 302 (.agg #[]),.iface 304 (.agg #[.int .u8 3]),.iface 304 (.agg #[.int .u8 4]),.iface 305 (.agg #[])]) (.int .u8 1)).run Tryz.prog wx = .ok (.iface 302 (.agg #[])) wx:=fun _=>by kernel_rfl
 go_enter Tryz.func141,Tryz.ntmps141
 go_wp2_with (go_at_call 218;refine (oY _).mono ?_;rintro e w1 ⟨rfl,b1⟩)
 go_ret2
 exact ⟨rfl,b1⟩
theorem limits_2 (w : World) : Calls Tryz.prog 346 #[.agg #[]] w (Rt (.tuple #[.int .u32 768,.int .i64 3]) w):=by
 go_enter Tryz.func346,Tryz.ntmps346
 go_wp2
 go_ret2
 exact ⟨rfl,bnew⟩
theorem sZ (w : World) : Calls Tryz.prog 66 #[.int .u8 2] w (Rt (.int .u32 1022) w):=by
 have hmt : ∀ wx,(method 474 302 (.agg #[]) "lyceum/holds.limits").run Tryz.prog wx = .ok (346,.agg #[]) wx:=fun _=>by kernel_rfl
 go_enter Tryz.func66,Tryz.ntmps66
 go_wp2_with fail
 refine (wE _).mono ?_
 rintro e w1 ⟨rfl,b1⟩
 have B1:=Hd b1
 clear b1
 go_wp2_with fail
 refine (limits_2 _).mono ?_
 rintro e w2 ⟨rfl,b2⟩
 have B2:=Hd (aA B1.out b2)
 clear b2
 go_wp2_with fail
 go_ret
 exact ⟨rfl,B2.out⟩
theorem logical_2 (w : World) : Calls Tryz.prog 142 #[.agg #[str [],.int .u32 1022,.int .u8 2,.int .u8 0,.slice none 0 0]] w (Rt (.bool true) w):=by
 have k0 : (w.alloc (.cells #[str [],.int .u32 1022,.int .u8 2,.int .u8 0,.slice none 0 0] 112)).cell? ⟨w.heap.size,1,none⟩ = some (.int .u32 1022):=by simp [go_sem]
 have k1 : (w.alloc (.cells #[str [],.int .u32 1022,.int .u8 2,.int .u8 0,.slice none 0 0] 112)).cell? ⟨w.heap.size,2,none⟩ = some (.int .u8 2):=by simp [go_sem]
 have k2 : (w.alloc (.cells #[str [],.int .u32 1022,.int .u8 2,.int .u8 0,.slice none 0 0] 112)).cell? ⟨w.heap.size,3,none⟩ = some (.int .u8 0):=by simp [go_sem]
 have WB : Hid (Below w.heap.size w (w.alloc (.cells #[str [],.int .u32 1022,.int .u8 2,.int .u8 0,.slice none 0 0] 112))):=bnew
 go_enter Tryz.func142,Tryz.ntmps142
 go_wp2_with fail
 generalize hW : w.alloc (.cells #[str [],.int .u32 1022,.int .u8 2,.int .u8 0,.slice none 0 0] 112) = W at *
 clear hW
 have cP : Hid (∀ d os,Calls Tryz.prog 66 #[.int .u8 2] (grow (redrawn W d) os) fun e w''=>e = .returned (.int .u32 1022) ∧ ∃ p : Regrown,w'' = grow (redrawn W p.d) p.os):=fun d os=>Calls.regrown_of (sZ _)
 have r0:=cell_regrown k0;have r1:=cell_regrown k1;have r2:=cell_regrown k2
 refine wqb ?_
 repeat (go_big_quiet_step (first | (go_at_call 66;exact cP.out _ _)))
 refine wpQuiet_nil ?_
 intro wq hw'
 have WQ : Hid (Below W.heap.size W wq):=by
  obtain ⟨⟨dq,osq⟩,hw''⟩:=hw'
  rw [hw''];exact below_regrown W dq osq
 clear hw' r0 r1 r2
 have KQ:=aC WQ.out
 have q0:=KQ _ _ k0;have q1:=KQ _ _ k1;have q2:=KQ _ _ k2
 clear k0 k1 k2 KQ cP
 go_wp2_with fail
 go_ret
 exact ⟨rfl,WB.out.trans (WQ.out.mono WB.out.size)⟩
theorem wF (w : World) : Calls Tryz.prog 141 #[.int .u8 3] w (Rt (.tuple #[.iface 304 (.agg #[.int .u8 3]),.bool true]) w):=by
 have hix : ∀ wx,(Instr.index 250 (.agg #[.iface 249 (.agg #[]),.iface 302 (.agg #[]),.iface 304 (.agg #[.int .u8 3]),.iface 304 (.agg #[.int .u8 4]),.iface 305 (.agg #[])]) (.int .u8 2)).run Tryz.prog wx = .ok (.iface 304 (.agg #[.int .u8 3])) wx:=fun _=>by kernel_rfl
 go_enter Tryz.func141,Tryz.ntmps141
 go_wp2_with (go_at_call 218;refine (oY _).mono ?_;rintro e w1 ⟨rfl,b1⟩)
 go_ret2
 exact ⟨rfl,b1⟩
theorem limits_3 (w : World) : Calls Tryz.prog 364 #[.agg #[.int .u8 3]] w (Rt (.tuple #[.int .u32 0,.int .i64 4]) w):=by
 go_enter Tryz.func364,Tryz.ntmps364
 go_wp2
 go_ret2
 exact ⟨rfl,bnew⟩
theorem tA (w : World) : Calls Tryz.prog 66 #[.int .u8 3] w (Rt (.int .u32 254) w):=by
 have hmt : ∀ wx,(method 474 304 (.agg #[.int .u8 3]) "lyceum/holds.limits").run Tryz.prog wx = .ok (364,.agg #[.int .u8 3]) wx:=fun _=>by kernel_rfl
 go_enter Tryz.func66,Tryz.ntmps66
 go_wp2_with fail
 refine (wF _).mono ?_
 rintro e w1 ⟨rfl,b1⟩
 have B1:=Hd b1
 clear b1
 go_wp2_with fail
 refine (limits_3 _).mono ?_
 rintro e w2 ⟨rfl,b2⟩
 have B2:=Hd (aA B1.out b2)
 clear b2
 go_wp2_with fail
 go_ret
 exact ⟨rfl,B2.out⟩
theorem logical_3 (w : World) : Calls Tryz.prog 142 #[.agg #[str [],.int .u32 254,.int .u8 3,.int .u8 0,.slice none 0 0]] w (Rt (.bool true) w):=by
 have k0 : (w.alloc (.cells #[str [],.int .u32 254,.int .u8 3,.int .u8 0,.slice none 0 0] 112)).cell? ⟨w.heap.size,1,none⟩ = some (.int .u32 254):=by simp [go_sem]
 have k1 : (w.alloc (.cells #[str [],.int .u32 254,.int .u8 3,.int .u8 0,.slice none 0 0] 112)).cell? ⟨w.heap.size,2,none⟩ = some (.int .u8 3):=by simp [go_sem]
 have k2 : (w.alloc (.cells #[str [],.int .u32 254,.int .u8 3,.int .u8 0,.slice none 0 0] 112)).cell? ⟨w.heap.size,3,none⟩ = some (.int .u8 0):=by simp [go_sem]
 have WB : Hid (Below w.heap.size w (w.alloc (.cells #[str [],.int .u32 254,.int .u8 3,.int .u8 0,.slice none 0 0] 112))):=bnew
 go_enter Tryz.func142,Tryz.ntmps142
 go_wp2_with fail
 generalize hW : w.alloc (.cells #[str [],.int .u32 254,.int .u8 3,.int .u8 0,.slice none 0 0] 112) = W at *
 clear hW
 have cP : Hid (∀ d os,Calls Tryz.prog 66 #[.int .u8 3] (grow (redrawn W d) os) fun e w''=>e = .returned (.int .u32 254) ∧ ∃ p : Regrown,w'' = grow (redrawn W p.d) p.os):=fun d os=>Calls.regrown_of (tA _)
 have r0:=cell_regrown k0;have r1:=cell_regrown k1;have r2:=cell_regrown k2
 refine wqb ?_
 repeat (go_big_quiet_step (first | (go_at_call 66;exact cP.out _ _)))
 refine wpQuiet_nil ?_
 intro wq hw'
 have WQ : Hid (Below W.heap.size W wq):=by
  obtain ⟨⟨dq,osq⟩,hw''⟩:=hw'
  rw [hw''];exact below_regrown W dq osq
 clear hw' r0 r1 r2
 have KQ:=aC WQ.out
 have q0:=KQ _ _ k0;have q1:=KQ _ _ k1;have q2:=KQ _ _ k2
 clear k0 k1 k2 KQ cP
 go_wp2_with fail
 go_ret
 exact ⟨rfl,WB.out.trans (WQ.out.mono WB.out.size)⟩
theorem wG (w : World) : Calls Tryz.prog 141 #[.int .u8 5] w (Rt (.tuple #[.iface 305 (.agg #[]),.bool true]) w):=by
 have hix : ∀ wx,(Instr.index 250 (.agg #[.iface 249 (.agg #[]),.iface 302 (.agg #[]),.iface 304 (.agg #[.int .u8 3]),.iface 304 (.agg #[.int .u8 4]),.iface 305 (.agg #[])]) (.int .u8 4)).run Tryz.prog wx = .ok (.iface 305 (.agg #[])) wx:=fun _=>by kernel_rfl
 go_enter Tryz.func141,Tryz.ntmps141
 go_wp2_with (go_at_call 218;refine (oY _).mono ?_;rintro e w1 ⟨rfl,b1⟩)
 go_ret2
 exact ⟨rfl,b1⟩
theorem limits_5 (w : World) : Calls Tryz.prog 382 #[.agg #[]] w (Rt (.tuple #[.int .u32 28672,.int .i64 5]) w):=by
 go_enter Tryz.func382,Tryz.ntmps382
 go_wp2
 go_ret2
 exact ⟨rfl,bnew⟩
theorem tB (w : World) : Calls Tryz.prog 66 #[.int .u8 5] w (Rt (.int .u32 28926) w):=by
 have hmt : ∀ wx,(method 474 305 (.agg #[]) "lyceum/holds.limits").run Tryz.prog wx = .ok (382,.agg #[]) wx:=fun _=>by kernel_rfl
 go_enter Tryz.func66,Tryz.ntmps66
 go_wp2_with fail
 refine (wG _).mono ?_
 rintro e w1 ⟨rfl,b1⟩
 have B1:=Hd b1
 clear b1
 go_wp2_with fail
 refine (limits_5 _).mono ?_
 rintro e w2 ⟨rfl,b2⟩
 have B2:=Hd (aA B1.out b2)
 clear b2
 go_wp2_with fail
 go_ret
 exact ⟨rfl,B2.out⟩
theorem logical_5 (w : World) : Calls Tryz.prog 142 #[.agg #[str [],.int .u32 28926,.int .u8 5,.int .u8 0,.slice none 0 0]] w (Rt (.bool true) w):=by
 have k0 : (w.alloc (.cells #[str [],.int .u32 28926,.int .u8 5,.int .u8 0,.slice none 0 0] 112)).cell? ⟨w.heap.size,1,none⟩ = some (.int .u32 28926):=by simp [go_sem]
 have k1 : (w.alloc (.cells #[str [],.int .u32 28926,.int .u8 5,.int .u8 0,.slice none 0 0] 112)).cell? ⟨w.heap.size,2,none⟩ = some (.int .u8 5):=by simp [go_sem]
 have k2 : (w.alloc (.cells #[str [],.int .u32 28926,.int .u8 5,.int .u8 0,.slice none 0 0] 112)).cell? ⟨w.heap.size,3,none⟩ = some (.int .u8 0):=by simp [go_sem]
 have WB : Hid (Below w.heap.size w (w.alloc (.cells #[str [],.int .u32 28926,.int .u8 5,.int .u8 0,.slice none 0 0] 112))):=bnew
 go_enter Tryz.func142,Tryz.ntmps142
 go_wp2_with fail
 generalize hW : w.alloc (.cells #[str [],.int .u32 28926,.int .u8 5,.int .u8 0,.slice none 0 0] 112) = W at *
 clear hW
 have cP : Hid (∀ d os,Calls Tryz.prog 66 #[.int .u8 5] (grow (redrawn W d) os) fun e w''=>e = .returned (.int .u32 28926) ∧ ∃ p : Regrown,w'' = grow (redrawn W p.d) p.os):=fun d os=>Calls.regrown_of (tB _)
 have r0:=cell_regrown k0;have r1:=cell_regrown k1;have r2:=cell_regrown k2
 refine wqb ?_
 repeat (go_big_quiet_step (first | (go_at_call 66;exact cP.out _ _)))
 refine wpQuiet_nil ?_
 intro wq hw'
 have WQ : Hid (Below W.heap.size W wq):=by
  obtain ⟨⟨dq,osq⟩,hw''⟩:=hw'
  rw [hw''];exact below_regrown W dq osq
 clear hw' r0 r1 r2
 have KQ:=aC WQ.out
 have q0:=KQ _ _ k0;have q1:=KQ _ _ k1;have q2:=KQ _ _ k2
 clear k0 k1 k2 KQ cP
 go_wp2_with fail
 go_ret
 exact ⟨rfl,WB.out.trans (WQ.out.mono WB.out.size)⟩
open Go Go.RowKit Ly
open Go.Sort (grow)
set_option maxHeartbeats 1600000
abbrev mdK (κ z : Int) (ra : Option Addr) (rn rc : Nat) (lo : Int) (fa : Option Addr) (fn fc : Nat) (ga : Option Addr) (gn gc : Nat) (ba : Option Addr) (bn bc : Nat) : Value :=
 .agg #[.int .u8 κ,.int .i64 z,.slice ra rn rc,.int .i64 lo,.slice fa fn fc,.slice ga gn gc,.slice ba bn bc]
theorem qO (κ : Int) (h : κ < 1 ∨ 5 < κ) (w : World) : Calls Tryz.prog 141 #[.int .u8 κ] w (Rt (.tuple #[.iface 249 (.agg #[]),.bool false]) w):=by
 rcases (show κ < 1 ∨ (1 ≤ κ ∧ 5 < κ) by omega) with h | ⟨h1,h2⟩
 ·have t1 : decide (κ < 1) = true:=decide_eq_true h
  go_enter Tryz.func141,Tryz.ntmps141
  go_wp2_with fail
  go_ret2
  exact ⟨rfl,Below.refl _ _⟩
 ·have t1 : decide (κ < 1) = false:=decide_eq_false (by omega)
  have t2 : decide (5 < κ) = true:=decide_eq_true h2
  go_enter Tryz.func141,Tryz.ntmps141
  go_wp2_with fail
  go_ret2
  exact ⟨rfl,Below.refl _ _⟩
theorem Allowed_none (κ : Int) (h : κ < 1 ∨ 5 < κ) (w : World) : Calls Tryz.prog 66 #[.int .u8 κ] w (Rt (.int .u32 0) w):=by
 have HK:=Hd (qO κ h)
 clear h
 go_enter Tryz.func66,Tryz.ntmps66
 go_wp2_with fail
 refine (HK.out _).mono ?_
 rintro e w1 ⟨rfl,b1⟩
 go_wp2_with fail
 go_ret
 exact ⟨rfl,b1⟩
theorem Valid_none (κ : Int) (h : κ < 1 ∨ 5 < κ) (z lo : Int) (ra fa ga ba : Option Addr) (rn rc fn fc gn gc bn bc : Nat) (w : World) : Calls Tryz.prog 65 #[.agg #[str [],.int .u32 0,.int .u8 κ,.int .u8 0,.slice none 0 0],mdK κ z ra rn rc lo fa fn fc ga gn gc ba bn bc] w (Rt (.bool false) w):=by
 have HK:=Hd (qO κ h)
 clear h
 go_enter Tryz.func65,Tryz.ntmps65
 go_wp2_with fail
 refine (HK.out _).mono ?_
 rintro e w1 ⟨rfl,b1⟩
 have B1:=Hd (eY b1)
 clear b1
 go_wp2_with fail
 go_ret
 exact ⟨rfl,B1.out⟩
theorem Valid_of_1 (q : Bool) (z lo : Int) (ra fa ga ba : Option Addr) (rn rc fn fc gn gc bn bc : Nat) (w : World)
  (hV : ∀ W,Below w.heap.size w W → Calls Tryz.prog 339 #[.agg #[],mdK 1 z ra rn rc lo fa fn fc ga gn gc ba bn bc,.int .u8 0] W (Rt (.bool q) W)) :
  Calls Tryz.prog 65 #[.agg #[str [],.int .u32 254,.int .u8 1,.int .u8 0,.slice none 0 0],mdK 1 z ra rn rc lo fa fn fc ga gn gc ba bn bc] w (Rt (.bool q) w):=by
 have hmt : ∀ wx,(method 474 249 (.agg #[]) "lyceum/holds.valid").run Tryz.prog wx = .ok (339,.agg #[]) wx:=fun _=>by kernel_rfl
 have HV:=Hd hV
 clear hV
 go_enter Tryz.func65,Tryz.ntmps65
 go_wp2_with fail
 refine (wD _).mono ?_
 rintro e w1 ⟨rfl,b1⟩
 obtain ⟨hc1,hf1⟩:=fG b1
 have B1:=Hd b1
 have z1 : w.heap.size + 1 < w1.heap.size:=by have:=b1.size;simp at this;omega
 clear b1
 go_wp2_with fail
 refine (logical_1 _).mono ?_
 rintro e w2 ⟨rfl,b2⟩
 obtain ⟨hc2,hf2⟩:=fG (aA B1.out b2)
 have B2:=Hd (aA B1.out b2)
 have z2 : w.heap.size + 1 < w2.heap.size:=Nat.lt_of_lt_of_le z1 b2.size
 clear b2 hc1 hf1
 go_wp2_with fail
 refine (HV.out _ (eY B2.out)).mono ?_
 rintro e w3 ⟨rfl,b3⟩
 have B3:=Hd (eY (aA B2.out b3))
 clear b3
 cases q
 all_goals
  go_wp2_with fail
  go_ret
  exact ⟨rfl,B3.out⟩
theorem Valid_of_2 (q : Bool) (z lo : Int) (ra fa ga ba : Option Addr) (rn rc fn fc gn gc bn bc : Nat) (w : World)
  (hV : ∀ W,Below w.heap.size w W → Calls Tryz.prog 351 #[.agg #[],mdK 2 z ra rn rc lo fa fn fc ga gn gc ba bn bc,.int .u8 0] W (Rt (.bool q) W)) :
  Calls Tryz.prog 65 #[.agg #[str [],.int .u32 1022,.int .u8 2,.int .u8 0,.slice none 0 0],mdK 2 z ra rn rc lo fa fn fc ga gn gc ba bn bc] w (Rt (.bool q) w):=by
 have hmt : ∀ wx,(method 474 302 (.agg #[]) "lyceum/holds.valid").run Tryz.prog wx = .ok (351,.agg #[]) wx:=fun _=>by kernel_rfl
 have HV:=Hd hV
 clear hV
 go_enter Tryz.func65,Tryz.ntmps65
 go_wp2_with fail
 refine (wE _).mono ?_
 rintro e w1 ⟨rfl,b1⟩
 obtain ⟨hc1,hf1⟩:=fG b1
 have B1:=Hd b1
 have z1 : w.heap.size + 1 < w1.heap.size:=by have:=b1.size;simp at this;omega
 clear b1
 go_wp2_with fail
 refine (logical_2 _).mono ?_
 rintro e w2 ⟨rfl,b2⟩
 obtain ⟨hc2,hf2⟩:=fG (aA B1.out b2)
 have B2:=Hd (aA B1.out b2)
 have z2 : w.heap.size + 1 < w2.heap.size:=Nat.lt_of_lt_of_le z1 b2.size
 clear b2 hc1 hf1
 go_wp2_with fail
 refine (HV.out _ (eY B2.out)).mono ?_
 rintro e w3 ⟨rfl,b3⟩
 have B3:=Hd (eY (aA B2.out b3))
 clear b3
 cases q
 all_goals
  go_wp2_with fail
  go_ret
  exact ⟨rfl,B3.out⟩
theorem Valid_of_3 (q : Bool) (z lo : Int) (ra fa ga ba : Option Addr) (rn rc fn fc gn gc bn bc : Nat) (w : World)
  (hV : ∀ W,Below w.heap.size w W → Calls Tryz.prog 369 #[.agg #[.int .u8 3],mdK 3 z ra rn rc lo fa fn fc ga gn gc ba bn bc,.int .u8 0] W (Rt (.bool q) W)) :
  Calls Tryz.prog 65 #[.agg #[str [],.int .u32 254,.int .u8 3,.int .u8 0,.slice none 0 0],mdK 3 z ra rn rc lo fa fn fc ga gn gc ba bn bc] w (Rt (.bool q) w):=by
 have hmt : ∀ wx,(method 474 304 (.agg #[.int .u8 3]) "lyceum/holds.valid").run Tryz.prog wx = .ok (369,.agg #[.int .u8 3]) wx:=fun _=>by kernel_rfl
 have HV:=Hd hV
 clear hV
 go_enter Tryz.func65,Tryz.ntmps65
 go_wp2_with fail
 refine (wF _).mono ?_
 rintro e w1 ⟨rfl,b1⟩
 obtain ⟨hc1,hf1⟩:=fG b1
 have B1:=Hd b1
 have z1 : w.heap.size + 1 < w1.heap.size:=by have:=b1.size;simp at this;omega
 clear b1
 go_wp2_with fail
 refine (logical_3 _).mono ?_
 rintro e w2 ⟨rfl,b2⟩
 obtain ⟨hc2,hf2⟩:=fG (aA B1.out b2)
 have B2:=Hd (aA B1.out b2)
 have z2 : w.heap.size + 1 < w2.heap.size:=Nat.lt_of_lt_of_le z1 b2.size
 clear b2 hc1 hf1
 go_wp2_with fail
 refine (HV.out _ (eY B2.out)).mono ?_
 rintro e w3 ⟨rfl,b3⟩
 have B3:=Hd (eY (aA B2.out b3))
 clear b3
 cases q
 all_goals
  go_wp2_with fail
  go_ret
  exact ⟨rfl,B3.out⟩
theorem Valid_of_4 (q : Bool) (z lo : Int) (ra fa ga ba : Option Addr) (rn rc fn fc gn gc bn bc : Nat) (w : World)
  (hV : ∀ W,Below w.heap.size w W → Calls Tryz.prog 369 #[.agg #[.int .u8 4],mdK 4 z ra rn rc lo fa fn fc ga gn gc ba bn bc,.int .u8 0] W (Rt (.bool q) W)) :
  Calls Tryz.prog 65 #[.agg #[str [],.int .u32 3326,.int .u8 4,.int .u8 0,.slice none 0 0],mdK 4 z ra rn rc lo fa fn fc ga gn gc ba bn bc] w (Rt (.bool q) w):=by
 have hmt : ∀ wx,(method 474 304 (.agg #[.int .u8 4]) "lyceum/holds.valid").run Tryz.prog wx = .ok (369,.agg #[.int .u8 4]) wx:=fun _=>by kernel_rfl
 have HV:=Hd hV
 clear hV
 go_enter Tryz.func65,Tryz.ntmps65
 go_wp2_with fail
 refine (lP _).mono ?_
 rintro e w1 ⟨rfl,b1⟩
 obtain ⟨hc1,hf1⟩:=fG b1
 have B1:=Hd b1
 have z1 : w.heap.size + 1 < w1.heap.size:=by have:=b1.size;simp at this;omega
 clear b1
 go_wp2_with fail
 refine (uA _ _ rfl).mono ?_
 rintro e w2 ⟨rfl,b2⟩
 obtain ⟨hc2,hf2⟩:=fG (aA B1.out b2)
 have B2:=Hd (aA B1.out b2)
 have z2 : w.heap.size + 1 < w2.heap.size:=Nat.lt_of_lt_of_le z1 b2.size
 clear b2 hc1 hf1
 go_wp2_with fail
 refine (HV.out _ (eY B2.out)).mono ?_
 rintro e w3 ⟨rfl,b3⟩
 have B3:=Hd (eY (aA B2.out b3))
 clear b3
 cases q
 all_goals
  go_wp2_with fail
  go_ret
  exact ⟨rfl,B3.out⟩
theorem Valid_of_5 (q : Bool) (z lo : Int) (ra fa ga ba : Option Addr) (rn rc fn fc gn gc bn bc : Nat) (w : World)
  (hV : ∀ W,Below w.heap.size w W → Calls Tryz.prog 387 #[.agg #[],mdK 5 z ra rn rc lo fa fn fc ga gn gc ba bn bc,.int .u8 0] W (Rt (.bool q) W)) :
  Calls Tryz.prog 65 #[.agg #[str [],.int .u32 28926,.int .u8 5,.int .u8 0,.slice none 0 0],mdK 5 z ra rn rc lo fa fn fc ga gn gc ba bn bc] w (Rt (.bool q) w):=by
 have hmt : ∀ wx,(method 474 305 (.agg #[]) "lyceum/holds.valid").run Tryz.prog wx = .ok (387,.agg #[]) wx:=fun _=>by kernel_rfl
 have HV:=Hd hV
 clear hV
 go_enter Tryz.func65,Tryz.ntmps65
 go_wp2_with fail
 refine (wG _).mono ?_
 rintro e w1 ⟨rfl,b1⟩
 obtain ⟨hc1,hf1⟩:=fG b1
 have B1:=Hd b1
 have z1 : w.heap.size + 1 < w1.heap.size:=by have:=b1.size;simp at this;omega
 clear b1
 go_wp2_with fail
 refine (logical_5 _).mono ?_
 rintro e w2 ⟨rfl,b2⟩
 obtain ⟨hc2,hf2⟩:=fG (aA B1.out b2)
 have B2:=Hd (aA B1.out b2)
 have z2 : w.heap.size + 1 < w2.heap.size:=Nat.lt_of_lt_of_le z1 b2.size
 clear b2 hc1 hf1
 go_wp2_with fail
 refine (HV.out _ (eY B2.out)).mono ?_
 rintro e w3 ⟨rfl,b3⟩
 have B3:=Hd (eY (aA B2.out b3))
 clear b3
 cases q
 all_goals
  go_wp2_with fail
  go_ret
  exact ⟨rfl,B3.out⟩
end Go.Proofs.YtcandidgaegghaaGreatDoor
