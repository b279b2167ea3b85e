/- The modal model in words, first part: the frame's kinds, the limits, and whether a model is valid. Conditions: the cells of the program's tables lie as laid. -/
import Derived.Test.YtcandidgaegghaaGreatDoorCpZ
import Derived.Test.YtcandidgaegghaaGreatDoorProofBZ
import Derived.LoopN
import Derived.Lib.QuietBelow
import Derived.BigQuiet
import Derived.Deep.RegionLaw
set_option maxRecDepth 10000
set_option linter.unusedSimpArgs false
set_option linter.unusedVariables false
namespace Go.Proofs.YtcandidgaegghaaGreatDoor
open Go Go.RowKit Ly
set_option maxHeartbeats 800000
theorem oY (w : World) : Calls Tryz.prog 218 #[] w (Rt (.agg #[.iface 249 (.agg #[]),.iface 302 (.agg #[]),.iface 304 (.agg #[.int .u8 3]),.iface 304 (.agg #[.int .u8 4]),.iface 305 (.agg #[])]) w):=by
 go_enter Tryz.func218,Tryz.ntmps218
 go_wp2
 exact bodyPost_ret (v:=.agg #[.iface 249 (.agg #[]),.iface 302 (.agg #[]),.iface 304 (.agg #[.int .u8 3]),.iface 304 (.agg #[.int .u8 4]),.iface 305 (.agg #[])]) (by simp [results,Tryz.results218,go_sem]) rfl
  ⟨rfl,bnew⟩
theorem lP (w : World) : Calls Tryz.prog 141 #[.int .u8 4] w (Rt (.tuple #[.iface 304 (.agg #[.int .u8 4]),.bool true]) w):=by
 have hix : ∀ wx,(Instr.index 250 (.agg #[.iface 249 (.agg #[]),.iface 302 (.agg #[]),.iface 304 (.agg #[.int .u8 3]),.iface 304 (.agg #[.int .u8 4]),.iface 305 (.agg #[])]) (.int .u8 3)).run Tryz.prog wx = .ok (.iface 304 (.agg #[.int .u8 4])) wx:=fun _=>by kernel_rfl
 go_enter Tryz.func141,Tryz.ntmps141
 go_wp2_with (go_at_call 218;refine (oY _).mono ?_;rintro e w1 ⟨rfl,b1⟩)
 go_ret2
 exact ⟨rfl,b1⟩
theorem limits_modal (w : World) : Calls Tryz.prog 364 #[.agg #[.int .u8 4]] w (Rt (.tuple #[.int .u32 3072,.int .i64 4]) w):=by
 go_enter Tryz.func364,Tryz.ntmps364
 go_wp2
 go_ret2
 exact ⟨rfl,bnew⟩
theorem kN (w : World) : Calls Tryz.prog 66 #[.int .u8 4] w (Rt (.int .u32 3326) w):=by
 have hmt : ∀ wx,(method 474 304 (.agg #[.int .u8 4]) "lyceum/holds.limits").run Tryz.prog wx = .ok (364,.agg #[.int .u8 4]) wx:=fun _=>by kernel_rfl
 go_enter Tryz.func66,Tryz.ntmps66
 go_wp2_with fail
 refine (lP _).mono ?_
 rintro e w1 ⟨rfl,b1⟩
 have B1:=Hd b1
 clear b1
 go_wp2_with fail
 refine (limits_modal _).mono ?_
 rintro e w2 ⟨rfl,b2⟩
 have B2:=Hd (aA B1.out b2)
 clear b2
 go_wp2_with fail
 go_ret
 exact ⟨rfl,B2.out⟩
open Go Go.RowKit Ly
set_option maxHeartbeats 800000
structure oQ (w : World) (b : Nat) : Prop where
 c0 : w.cell? ⟨b,0,none⟩ = some (.int .i64 2)
 c1 : w.cell? ⟨b,1,none⟩ = some (.int .i64 0)
theorem oQ.keep {w w' : World} {b : Nat} (h : oQ w b) (k : bI w w') : oQ w' b:=⟨k _ _ h.c0,k _ _ h.c1⟩
theorem sG (b : Nat) (w : World) (h : oQ w b) : Calls Tryz.prog 372 #[.slice (some ⟨b,0,none⟩) 2 2] w fun e w'=>e = .returned (.bool true) ∧ w = w':=by
 obtain ⟨c0,c1⟩:=h
 go_enter Tryz.func372,Tryz.ntmps372
 go_wp2_with fail
 refine wp_loop_rounds 3 ?_
 rw [rounds_succ];go_wp2_with fail
 rw [rounds_succ];go_wp2_with fail
 rw [rounds_succ];go_wp2_with fail
 go_ret
 exact ⟨rfl,rfl⟩
theorem pY (b : Nat) (n : Int) (w : World) : Calls Tryz.prog 375 #[.slice (some ⟨b,0,none⟩) 2 2,.int .u8 0,.int .i64 n] w fun e w'=>e = .returned (.int .i64 0) ∧ w = w':=by
 go_enter Tryz.func375,Tryz.ntmps375
 go_wp2_with fail
 go_ret
 exact ⟨rfl,rfl⟩
theorem yN (b : Nat) (w : World) : Calls Tryz.prog 373 #[.int .u8 4,.int .u8 0,.slice (some ⟨b,0,none⟩) 2 2,.int .i64 1] w fun e w'=>e = .returned (.bool true) ∧ w = w':=by
 go_enter Tryz.func373,Tryz.ntmps373
 go_wp2_with fail
 refine wp_loop_rounds 3 ?_
 rw [rounds_succ];go_wp2_with (go_at_call 375;refine (pY _ _ _).mono ?_;rintro e w1 ⟨rfl,rfl⟩)
 rw [rounds_succ];go_wp2_with (go_at_call 375;refine (pY _ _ _).mono ?_;rintro e w1 ⟨rfl,rfl⟩)
 rw [rounds_succ];go_wp2_with (go_at_call 375;refine (pY _ _ _).mono ?_;rintro e w1 ⟨rfl,rfl⟩)
 go_ret
 exact ⟨rfl,rfl⟩
open Go Go.RowKit Ly
open Go.Sort (grow)
set_option maxHeartbeats 800000
structure nY (w : World) (b : Nat) : Prop where
 c0 : w.cell? ⟨b,0,none⟩ = some (str [80])
 c1 : w.cell? ⟨b,1,none⟩ = some (.int .i64 0)
 c2 : w.cell? ⟨b,2,none⟩ = some (.int .i64 2)
theorem nY.keep {w w' : World} {b : Nat} (h : nY w b) (k : bI w w') : nY w' b:=⟨k _ _ h.c0,k _ _ h.c1,k _ _ h.c2⟩
theorem Fits_c (b : Nat) (w : World) (h : oQ w b) : Calls Tryz.prog 371 #[.slice (some ⟨b,0,none⟩) 2 2,.int .u8 0] w fun e w'=>e = .returned (.bool true) ∧ w = w':=by
 have H:=Hd h
 clear h
 go_enter Tryz.func371,Tryz.ntmps371
 go_wp2_with (first | (go_at_call 372;refine (sG _ _ H.out).mono ?_;rintro e w1 ⟨rfl,rfl⟩) | (go_at_call 373;refine (yN _ _).mono ?_;rintro e w1 ⟨rfl,rfl⟩))
 go_ret
 exact ⟨rfl,rfl⟩
theorem frameValid_c (b fb : Nat) (w : World) (h : oQ w b) (hf : nY w fb) :
  Calls Tryz.prog 370 #[.agg #[.int .u8 4,.int .i64 2,.slice (some ⟨b,0,none⟩) 2 2,.int .i64 0,.slice (some ⟨fb,0,none⟩) 1 1,.slice none 0 0,.slice none 0 0]] w (Rt (.bool true) w):=by
 have H:=Hd (h.keep (bU w (.cells #[.int .u8 4,.int .i64 2,.slice (some ⟨b,0,none⟩) 2 2,.int .i64 0,.slice (some ⟨fb,0,none⟩) 1 1,.slice none 0 0,.slice none 0 0] 34)))
 obtain ⟨f0,f1,f2⟩:=hf
 have hfb : fb < w.heap.size:=World.block_lt_of_cell? w ⟨fb,0,none⟩ f0
 clear h
 go_enter Tryz.func370,Tryz.ntmps370
 go_wp2_with (first | (go_at_call 372;refine (sG _ _ H.out).mono ?_;rintro e w1 ⟨rfl,rfl⟩) | (go_at_call 373;refine (yN _ _).mono ?_;rintro e w1 ⟨rfl,rfl⟩))
 refine wp_loop_rounds 2 ?_
 rw [rounds_succ];go_wp2_with fail
 have WB : Hid (Below w.heap.size w ((w.alloc (.cells #[.int .u8 4,.int .i64 2,.slice (some ⟨b,0,none⟩) 2 2,.int .i64 0,.slice (some ⟨fb,0,none⟩) 1 1,.slice none 0 0,.slice none 0 0] 34)).alloc (.cells #[str [80],.int .i64 0,.int .i64 2] 102))):=bnew.alloc (by simp) _
 have k0 : ((w.alloc (.cells #[.int .u8 4,.int .i64 2,.slice (some ⟨b,0,none⟩) 2 2,.int .i64 0,.slice (some ⟨fb,0,none⟩) 1 1,.slice none 0 0,.slice none 0 0] 34)).alloc (.cells #[str [80],.int .i64 0,.int .i64 2] 102)).cell? ⟨w.heap.size + 1,0,none⟩ = some (str [80]):=by simp [go_sem]
 have k1 : ((w.alloc (.cells #[.int .u8 4,.int .i64 2,.slice (some ⟨b,0,none⟩) 2 2,.int .i64 0,.slice (some ⟨fb,0,none⟩) 1 1,.slice none 0 0,.slice none 0 0] 34)).alloc (.cells #[str [80],.int .i64 0,.int .i64 2] 102)).cell? ⟨w.heap.size + 1,1,none⟩ = some (.int .i64 0):=by simp [go_sem]
 have k2 : ((w.alloc (.cells #[.int .u8 4,.int .i64 2,.slice (some ⟨b,0,none⟩) 2 2,.int .i64 0,.slice (some ⟨fb,0,none⟩) 1 1,.slice none 0 0,.slice none 0 0] 34)).alloc (.cells #[str [80],.int .i64 0,.int .i64 2] 102)).cell? ⟨w.heap.size + 1,2,none⟩ = some (.int .i64 2):=by simp [go_sem]
 have k3 : ((w.alloc (.cells #[.int .u8 4,.int .i64 2,.slice (some ⟨b,0,none⟩) 2 2,.int .i64 0,.slice (some ⟨fb,0,none⟩) 1 1,.slice none 0 0,.slice none 0 0] 34)).alloc (.cells #[str [80],.int .i64 0,.int .i64 2] 102)).cell? ⟨w.heap.size,0,none⟩ = some (.int .u8 4):=by simp [go_sem]
 have k4 : ((w.alloc (.cells #[.int .u8 4,.int .i64 2,.slice (some ⟨b,0,none⟩) 2 2,.int .i64 0,.slice (some ⟨fb,0,none⟩) 1 1,.slice none 0 0,.slice none 0 0] 34)).alloc (.cells #[str [80],.int .i64 0,.int .i64 2] 102)).cell? ⟨w.heap.size,1,none⟩ = some (.int .i64 2):=by simp [go_sem]
 have k5 : ((w.alloc (.cells #[.int .u8 4,.int .i64 2,.slice (some ⟨b,0,none⟩) 2 2,.int .i64 0,.slice (some ⟨fb,0,none⟩) 1 1,.slice none 0 0,.slice none 0 0] 34)).alloc (.cells #[str [80],.int .i64 0,.int .i64 2] 102)).cell? ⟨w.heap.size,2,none⟩ = some (.slice (some ⟨b,0,none⟩) 2 2):=by simp [go_sem]
 generalize hW : (w.alloc (.cells #[.int .u8 4,.int .i64 2,.slice (some ⟨b,0,none⟩) 2 2,.int .i64 0,.slice (some ⟨fb,0,none⟩) 1 1,.slice none 0 0,.slice none 0 0] 34)).alloc (.cells #[str [80],.int .i64 0,.int .i64 2] 102) = W at *
 have hW1:=H.out
 clear hW hW1
 have cP : Hid (∀ d os,Calls Tryz.prog 198 #[str [80]] (grow (redrawn W d) os) fun e w''=>e = .returned (.bool true) ∧ ∃ p : Regrown,w'' = grow (redrawn W p.d) p.os):=fun d os=>Calls.regrown_of ((fF [80] _ (by decide)).mono fun e w' ⟨he,hb⟩=>⟨by rw [he];rfl,hb⟩)
 have r0:=cell_regrown k0;have r1:=cell_regrown k1;have r2:=cell_regrown k2;have r3:=cell_regrown k3;have r4:=cell_regrown k4;have r5:=cell_regrown k5
 refine wqb ?_
 repeat (go_big_quiet_step (first | (go_at_call 198;exact cP.out _ _)))
 refine wpQuiet_nil ?_
 intro wq hw'
 have WQ : Hid (Below W.heap.size W wq):=by
  obtain ⟨⟨dq,osq⟩,hw''⟩:=hw'
  rw [hw''];exact below_regrown W dq osq
 clear hw' r0 r1 r2 r3 r4 r5
 have KQ:=aC WQ.out
 have q0:=KQ _ _ k0;have q1:=KQ _ _ k1;have q2:=KQ _ _ k2;have q3:=KQ _ _ k3;have q4:=KQ _ _ k4;have q5:=KQ _ _ k5
 clear k0 k1 k2 k3 k4 k5 KQ cP
 go_wp2_with fail
 go_quiet (fail)
 go_wp2_with fail
 rw [rounds_succ];go_wp2_with fail
 go_ret
 exact ⟨rfl,(WB.out.trans (WQ.out.mono WB.out.size)).trans ⟨rfl,rfl,rfl,Nat.le_refl _,fun _ _=>rfl⟩⟩
open Go Go.RowKit Ly
open Go.Sort (grow)
set_option maxHeartbeats 1600000
theorem framesValid_c (b fb : Nat) (w : World) (h : oQ w b) (hf : nY w fb) :
  Calls Tryz.prog 369 #[.agg #[.int .u8 4],.agg #[.int .u8 4,.int .i64 2,.slice (some ⟨b,0,none⟩) 2 2,.int .i64 0,.slice (some ⟨fb,0,none⟩) 1 1,.slice none 0 0,.slice none 0 0],.int .u8 0] w (Rt (.bool true) w):=by
 have H:=Hd h
 have HF:=Hd hf
 clear h hf
 go_enter Tryz.func369,Tryz.ntmps369
 go_wp2_with fail
 refine (frameValid_c b fb _ (H.out.keep (gY _ _ _)) (HF.out.keep (gY _ _ _))).mono ?_
 rintro e w1 ⟨rfl,b1⟩
 obtain ⟨hc1,hf1⟩:=fG b1
 have B1 : Hid (Below w.heap.size w w1):=eY b1
 have H1:=Hd (H.out.keep (aC B1.out))
 clear b1
 go_wp2_with (go_at_call 371;refine (Fits_c _ _ H1.out).mono ?_;rintro e w2 ⟨rfl,rfl⟩)
 go_ret
 exact ⟨rfl,B1.out⟩
theorem uA (r : Value) (w : World) (hr : r = .slice none 0 0) : Calls Tryz.prog 142 #[.agg #[str [],.int .u32 3326,.int .u8 4,.int .u8 0,r]] w (Rt (.bool true) w):=by
 subst hr
 have k0 : (w.alloc (.cells #[str [],.int .u32 3326,.int .u8 4,.int .u8 0,.slice none 0 0] 112)).cell? ⟨w.heap.size,1,none⟩ = some (.int .u32 3326):=by simp [go_sem]
 have k1 : (w.alloc (.cells #[str [],.int .u32 3326,.int .u8 4,.int .u8 0,.slice none 0 0] 112)).cell? ⟨w.heap.size,2,none⟩ = some (.int .u8 4):=by simp [go_sem]
 have k2 : (w.alloc (.cells #[str [],.int .u32 3326,.int .u8 4,.int .u8 0,.slice none 0 0] 112)).cell? ⟨w.heap.size,3,none⟩ = some (.int .u8 0):=by simp [go_sem]
 have WB : Hid (Below w.heap.size w (w.alloc (.cells #[str [],.int .u32 3326,.int .u8 4,.int .u8 0,.slice none 0 0] 112))):=bnew
 go_enter Tryz.func142,Tryz.ntmps142
 go_wp2_with fail
 generalize hW : w.alloc (.cells #[str [],.int .u32 3326,.int .u8 4,.int .u8 0,.slice none 0 0] 112) = W at *
 clear hW
 have cP : Hid (∀ d os,Calls Tryz.prog 66 #[.int .u8 4] (grow (redrawn W d) os) fun e w''=>e = .returned (.int .u32 3326) ∧ ∃ p : Regrown,w'' = grow (redrawn W p.d) p.os):=fun d os=>Calls.regrown_of (kN _)
 have r0:=cell_regrown k0;have r1:=cell_regrown k1;have r2:=cell_regrown k2
 refine wqb ?_
 repeat (go_big_quiet_step (first | (go_at_call 66;exact cP.out _ _)))
 refine wpQuiet_nil ?_
 intro wq hw'
 have WQ : Hid (Below W.heap.size W wq):=by
  obtain ⟨⟨dq,osq⟩,hw''⟩:=hw'
  rw [hw''];exact below_regrown W dq osq
 clear hw' r0 r1 r2
 have KQ:=aC WQ.out
 have q0:=KQ _ _ k0;have q1:=KQ _ _ k1;have q2:=KQ _ _ k2
 clear k0 k1 k2 KQ cP
 go_wp2_with fail
 go_ret
 exact ⟨rfl,WB.out.trans (WQ.out.mono WB.out.size)⟩
theorem Valid_c (b fb : Nat) (w : World) (h : oQ w b) (hf : nY w fb) :
  Calls Tryz.prog 65 #[.agg #[str [],.int .u32 3326,.int .u8 4,.int .u8 0,.slice none 0 0],.agg #[.int .u8 4,.int .i64 2,.slice (some ⟨b,0,none⟩) 2 2,.int .i64 0,.slice (some ⟨fb,0,none⟩) 1 1,.slice none 0 0,.slice none 0 0]] w (Rt (.bool true) w):=by
 have H:=Hd h
 have HF:=Hd hf
 have hmt : ∀ wx,(method 474 304 (.agg #[.int .u8 4]) "lyceum/holds.valid").run Tryz.prog wx = .ok (369,.agg #[.int .u8 4]) wx:=fun _=>by kernel_rfl
 clear h hf
 go_enter Tryz.func65,Tryz.ntmps65
 go_wp2_with fail
 refine (lP _).mono ?_
 rintro e w1 ⟨rfl,b1⟩
 obtain ⟨hc1,hf1⟩:=fG b1
 have B1:=Hd b1
 have z1 : w.heap.size + 1 < w1.heap.size:=by have:=b1.size;simp at this;omega
 clear b1
 go_wp2_with fail
 refine (uA _ _ rfl).mono ?_
 rintro e w2 ⟨rfl,b2⟩
 obtain ⟨hc2,hf2⟩:=fG (aA B1.out b2)
 have B2:=Hd (aA B1.out b2)
 have z2 : w.heap.size + 1 < w2.heap.size:=Nat.lt_of_lt_of_le z1 b2.size
 clear b2 hc1 hf1
 go_wp2_with fail
 have K2 : bI w w2:=aC (eY B2.out)
 refine (framesValid_c b fb _ (H.out.keep K2) (HF.out.keep K2)).mono ?_
 rintro e w3 ⟨rfl,b3⟩
 have B3:=Hd (eY (aA B2.out b3))
 clear b3 K2
 go_wp2_with fail
 go_ret
 exact ⟨rfl,B3.out⟩
open Go Go.RowKit Ly
open Go.Sort (grow)
set_option maxHeartbeats 1600000
theorem info3 : (Tryz.prog.info? 3).map (fun i=>(i.zero,i.size,i.bytes)) = some (some (.int .i64 0),1,8):=by kernel_rfl
theorem bits0_c (w : World) : Calls Tryz.prog 71 #[.int .i64 0] w fun e w'=>e = .returned (.slice none 0 0) ∧ w = w':=by
 go_enter Tryz.func71,Tryz.ntmps71
 go_wp2_with fail
 refine wp_loop_rounds 1 ?_
 rw [rounds_succ];go_wp2_with fail
 go_ret
 exact ⟨rfl,rfl⟩
def xN (l : List Int) (w : World) (e : Ending) (w' : World) : Prop:=∃ v,e = .returned v ∧ dF w' l v ∧ Below w.heap.size w w'
theorem ints_own1 {w : World} {B : Nat} {v : Value} {x : Int} (h : w.ownsRow B 3 1 v 1 [.int .i64 x]) : dF w [x] v:=by
 have h0:=h
 obtain ⟨h1,h2⟩:=h
 rcases h2 with ⟨_,hn⟩ | ⟨g,cap,cur,rfl,hb,hg,hc,hm,hs,ht⟩
 ·cases hn
 ·refine At.sl_mk (by simp) hc hm fun j d hd=>?_
  have hj : j = 0:=by have:=(List.getElem?_eq_some_iff.1 hd).1;simp at this;omega
  subst hj
  have hcell:=h0.cells (g:=g) rfl 0 (.int .i64 x) rfl
  cases hd
  refine ⟨_, ?_,rfl⟩
  rw [← hcell];rfl
theorem xT (w : World) : Calls Tryz.prog 71 #[.int .i64 2] w (xN [1] w):=by
 obtain ⟨i0,hi0,hz0,hs0,hb0⟩:=info_parts info3
 go_enter Tryz.func71,Tryz.ntmps71
 go_wp2_with fail
 refine wp_loop_rounds 3 ?_
 rw [rounds_succ];go_wp2_with fail
 rw [rounds_succ]
 go_wp2_with (at_builtin;refine wpList_append_own _ rfl _ _ 29 rfl w.heap.size 3 i0 (.int .i64 0) 1 8 Tryz.underlying29 hi0 hz0 hs0 hb0 rfl (by decide) _ _ _ rfl (World.ownsRow_nil _ _ _ _) ⟨w.heap.size,0,none⟩ 1 1 [.int .i64 1] rfl rfl (cell_one_new _ _ _) (by intro u hu;simp at hu;subst hu;rfl) (by decide) (by decide) (by simp) ?_)
 intro v' w2 hown hg _
 have I2:=Hd (ints_own1 hown)
 have B2 : Hid (Below w.heap.size w w2):=bnew.grown hg (by simp) (fun k hk=>by simp [Value.ownBlock] at hk)
 clear hown hg
 go_wp2_with fail
 rw [rounds_succ];go_wp2_with fail
 go_ret
 exact ⟨_,rfl,I2.out,B2.out⟩
end Go.Proofs.YtcandidgaegghaaGreatDoor
namespace Go
theorem aR {P : Program} {ops : Array Oper} {o : Oper} {a : Act} {w : World} {K : Act → World → Prop} {Q : Exit → Act → World → Prop} {E : Prop}
  (hgd : o.guard = none) (s x : Operand) (t : TypeId) (hop : o.op = Op.call { callee:=Callee.builtin Builtin.append,args:=#[s,x],argTypes:=#[t,t] })
  (base : Nat) (e : TypeId) (i : TypeInfo) (z : Value) (size bytes : Nat) (ht : P.underlying t = some (.slice e)) (hi : P.info? e = some i) (hz : i.zero = some z)
  (hsize : i.size = size) (hby : i.bytes = bytes) (hzs : z.cells.size = size) (hsz : 0 < size)
  (v : Value) (n : Nat) (xs : List Value) (hs : a.eval s = v) (hown : w.ownsRow base e size v n xs)
  (ad : Addr) (m c : Nat) (news : List Value) (hx : a.eval x = .slice (some ad) m c) (hl : news.length = m * size) (hnews : ∀ j u,news[j]? = some u → w.cell? (ad.add j) = some u) (h1 : ∀ u ∈ news,u.oneCell' = true)
  (h63 : n + m ≤ maxLen) (hbytes : (n + m) * bytes ≤ 140737488355328) (hbase : base ≤ w.heap.size)
  (hK : ∀ v' w',w'.ownsRow base e size v' (n + m) (xs ++ news) → w.grownBy w' v.ownBlock → (v'.ownBlock = v.ownBlock ∨ v'.ownBlock = some w.heap.size) → K (a.put o.dst v') w') :
  if Region.wanted o (yielded ops a.tmps) = true then Oper.wp P o a w K Q else E:=by
 have hw : Region.wanted o (yielded ops a.tmps) = true:=by simp [Region.wanted,hgd]
 rw [if_pos hw]
 obtain ⟨v',w',hr,h2,h3,h4,h5⟩:=run_append_own_at (P:=P) w base t o.type e i z size bytes ht hi hz hsize hby hzs hsz v n xs hown ad m c news hl hnews h1 h63 hbytes hbase
 have:=hK v' w' h2 h3 h5
 unfold Oper.wp execOp
 simp only [hop,resolve,invoke,builtin,Sem.run_bind,Sem.run_pure,Result.andThen_ok,List.map_toArray,List.map_cons,List.map_nil,hs,hx,hr]
 exact this
end Go
namespace Go.Proofs.YtcandidgaegghaaGreatDoor
open Go Go.RowKit Ly
open Go.Sort (grow)
set_option maxHeartbeats 4000000
def eZ : List Bs:=[[50,32,119,111,114,108,100,115],[80,32,105,115,32,116,114,117,101,32,97,116,32,49],[48,32,115,101,101,115,32,49],[49,32,115,101,101,115,32,110,111,116,104,105,110,103]]
theorem Model_c (b fb : Nat) (w : World) (h : oQ w b) (hf : nY w fb) (hp : gP w) :
  Calls Tryz.prog 16 #[.agg #[.int .u8 4,.int .i64 2,.slice (some ⟨b,0,none⟩) 2 2,.int .i64 0,.slice (some ⟨fb,0,none⟩) 1 1,.slice none 0 0,.slice none 0 0]] w (eV eZ w):=by
 have H:=Hd h
 have HF:=Hd hf
 have HP:=Hd hp
 clear h hf hp
 obtain ⟨i0,hi0,hz0,hs0,hb0⟩:=info_parts fP
 have BX : Hid ((w.alloc (.cells #[.int .u8 4,.int .i64 2,.slice (some ⟨b,0,none⟩) 2 2,.int .i64 0,.slice (some ⟨fb,0,none⟩) 1 1,.slice none 0 0,.slice none 0 0] 34)).heap[w.heap.size]? = some (.cells #[.int .u8 4,.int .i64 2,.slice (some ⟨b,0,none⟩) 2 2,.int .i64 0,.slice (some ⟨fb,0,none⟩) 1 1,.slice none 0 0,.slice none 0 0] 34)):=heap_alloc_new w _
 have WB : Hid (Below w.heap.size w (w.alloc (.cells #[.int .u8 4,.int .i64 2,.slice (some ⟨b,0,none⟩) 2 2,.int .i64 0,.slice (some ⟨fb,0,none⟩) 1 1,.slice none 0 0,.slice none 0 0] 34))):=bnew
 go_enter Tryz.func16,Tryz.ntmps16
 go_wp2_with fail
 generalize hW : w.alloc (.cells #[.int .u8 4,.int .i64 2,.slice (some ⟨b,0,none⟩) 2 2,.int .i64 0,.slice (some ⟨fb,0,none⟩) 1 1,.slice none 0 0,.slice none 0 0] 34) = W at *
 clear hW
 have HW:=Hd (H.out.keep (aC WB.out))
 have HFW:=Hd (HF.out.keep (aC WB.out))
 have cA : Hid (∀ d os,Calls Tryz.prog 66 #[.int .u8 4] (grow (redrawn W d) os) fun e w''=>e = .returned (.int .u32 3326) ∧ ∃ p : Regrown,w'' = grow (redrawn W p.d) p.os):=fun d os=>Calls.regrown_of (kN _)
 have cV : Hid (∀ d os,Calls Tryz.prog 65 #[.agg #[str [],.int .u32 3326,.int .u8 4,.int .u8 0,.slice none 0 0],.agg #[.int .u8 4,.int .i64 2,.slice (some ⟨b,0,none⟩) 2 2,.int .i64 0,.slice (some ⟨fb,0,none⟩) 1 1,.slice none 0 0,.slice none 0 0]] (grow (redrawn W d) os) fun e w''=>e = .returned (.bool true) ∧ ∃ p : Regrown,w'' = grow (redrawn W p.d) p.os):=fun d os =>
  have K : bI W (grow (redrawn W d) os):=aC (below_regrown W d os)
  Calls.regrown_of (Valid_c b fb _ (HW.out.keep K) (HFW.out.keep K))
 have r0:=cell_regrown (show W.cell? ⟨w.heap.size,0,none⟩ = some (.int .u8 4) by rw [aJ BX.out];rfl)
 have r1:=cell_regrown (show W.cell? ⟨w.heap.size,1,none⟩ = some (.int .i64 2) by rw [aJ BX.out];rfl)
 have r2:=cell_regrown (show W.cell? ⟨w.heap.size,2,none⟩ = some (.slice (some ⟨b,0,none⟩) 2 2) by rw [aJ BX.out];rfl)
 have r3:=cell_regrown (show W.cell? ⟨w.heap.size,3,none⟩ = some (.int .i64 0) by rw [aJ BX.out];rfl)
 have r4:=cell_regrown (show W.cell? ⟨w.heap.size,4,none⟩ = some (.slice (some ⟨fb,0,none⟩) 1 1) by rw [aJ BX.out];rfl)
 have r5:=cell_regrown (show W.cell? ⟨w.heap.size,5,none⟩ = some (.slice none 0 0) by rw [aJ BX.out];rfl)
 have r6:=cell_regrown (show W.cell? ⟨w.heap.size,6,none⟩ = some (.slice none 0 0) by rw [aJ BX.out];rfl)
 refine wqb ?_
 repeat (go_big_quiet_step (first | (go_at_call 66;exact cA.out _ _) | (go_at_call 65;exact cV.out _ _)))
 refine wpQuiet_nil ?_
 intro wq hw'
 have WQ : Hid (Below W.heap.size W wq):=by
  obtain ⟨⟨dq,osq⟩,hw''⟩:=hw'
  rw [hw''];exact below_regrown W dq osq
 clear hw' r0 r1 r2 r3 r4 r5 r6 cA cV
 have BQ : Hid (Below w.heap.size w wq):=WB.out.trans (WQ.out.mono WB.out.size)
 have BXq : Hid (wq.heap[w.heap.size]? = some (.cells #[.int .u8 4,.int .i64 2,.slice (some ⟨b,0,none⟩) 2 2,.int .i64 0,.slice (some ⟨fb,0,none⟩) 1 1,.slice none 0 0,.slice none 0 0] 34)):=(WQ.out.block _ (Array.getElem?_eq_some_iff.1 BX.out).1).trans BX.out
 have q1 : wq.cell? ⟨w.heap.size,1,none⟩ = some (.int .i64 2):=by rw [aJ BXq.out];rfl
 go_wp2_with fail
 refine (eH 2 (by decide) (by decide) _ (HP.out.below BQ.out)).mono ?_
 rintro e w1 ⟨rfl,b1⟩
 have B1 : Hid (Below w.heap.size w w1):=BQ.out.trans (b1.mono BQ.out.size)
 have BX1 : Hid (w1.heap[w.heap.size]? = some (.cells #[.int .u8 4,.int .i64 2,.slice (some ⟨b,0,none⟩) 2 2,.int .i64 0,.slice (some ⟨fb,0,none⟩) 1 1,.slice none 0 0,.slice none 0 0] 34)):=(b1.block _ (Array.getElem?_eq_some_iff.1 BXq.out).1).trans BXq.out
 have e2 : Lib.itoa 2 = [50]:=by simp [Lib.itoa,Lib.decDigits]
 rw [e2]
 have g0 : w1.cell? ⟨w.heap.size,0,none⟩ = some (.int .u8 4):=by rw [aJ BX1.out];rfl
 have g4 : w1.cell? ⟨w.heap.size,4,none⟩ = some (.slice (some ⟨fb,0,none⟩) 1 1):=by rw [aJ BX1.out];rfl
 have z1 : w.heap.size < w1.heap.size:=(Array.getElem?_eq_some_iff.1 BX1.out).1
 obtain ⟨f0,f1,f2⟩:=HF.out.keep (aC B1.out)
 have zf : fb < w1.heap.size:=World.block_lt_of_cell? w1 ⟨fb,0,none⟩ f0
 clear q1 b1 e2
 go_wp2_with fail
 refine wp_loop_rounds 2 ?_
 rw [rounds_succ];go_wp2_with fail
 have SL : Value.string ((⟨#[50]⟩ : ByteArray) ++ ⟨#[32,119,111,114,108,100,115]⟩) = str [50,32,119,111,114,108,100,115]:=rfl
 rw [SL]
 have O2 : Hid (aD w.heap.size ((w1.alloc (.cells #[str [50,32,119,111,114,108,100,115]] 9)).alloc (.cells #[str [80],.int .i64 0,.int .i64 2] 102)) [[50,32,119,111,114,108,100,115]] (.slice (some ⟨w1.heap.size,0,none⟩) 1 1)):=by
  have:=(gI w1 [50,32,119,111,114,108,100,115]).mono B1.out.size
  exact aD.below this bnew
 have B2 : Hid (Below w.heap.size w ((w1.alloc (.cells #[str [50,32,119,111,114,108,100,115]] 9)).alloc (.cells #[str [80],.int .i64 0,.int .i64 2] 102))):=(B1.out.alloc B1.out.size _).alloc (by have:=B1.out.size;simp;omega) _
 have BX2 : Hid (((w1.alloc (.cells #[str [50,32,119,111,114,108,100,115]] 9)).alloc (.cells #[str [80],.int .i64 0,.int .i64 2] 102)).heap[w.heap.size]? = some (.cells #[.int .u8 4,.int .i64 2,.slice (some ⟨b,0,none⟩) 2 2,.int .i64 0,.slice (some ⟨fb,0,none⟩) 1 1,.slice none 0 0,.slice none 0 0] 34)):=by
  show _ = _;rw [heap_alloc_old _ _ (by simp;omega),heap_alloc_old _ _ z1];exact BX1.out
 have p0 : ((w1.alloc (.cells #[str [50,32,119,111,114,108,100,115]] 9)).alloc (.cells #[str [80],.int .i64 0,.int .i64 2] 102)).cell? ⟨w1.heap.size + 1,0,none⟩ = some (str [80]):=by simp [go_sem]
 have p2 : ((w1.alloc (.cells #[str [50,32,119,111,114,108,100,115]] 9)).alloc (.cells #[str [80],.int .i64 0,.int .i64 2] 102)).cell? ⟨w1.heap.size + 1,2,none⟩ = some (.int .i64 2):=by simp [go_sem]
 generalize hW2 : (w1.alloc (.cells #[str [50,32,119,111,114,108,100,115]] 9)).alloc (.cells #[str [80],.int .i64 0,.int .i64 2] 102) = W2 at *
 clear hW2 SL g0 g4 f0 f1 f2 zf
 have zb : w1.heap.size + 1 < W2.heap.size:=World.block_lt_of_cell? W2 ⟨w1.heap.size + 1,0,none⟩ p0
 have D2 : Hid (Below W2.heap.size W2 W2.drew):=(Below.refl _ _).drew
 have N1 : numbers [1] = [49]:=by simp [numbers,bS,Lib.itoa,Lib.decDigits]
 have SP : Hid (Value.string ((⟨#[80]⟩ : ByteArray) ++ ⟨#[32,105,115,32,116,114,117,101,32,97,116,32]⟩ ++ ⟨#[49]⟩) = str [80,32,105,115,32,116,114,117,101,32,97,116,32,49]):=rfl
 go_region_law (first
  | (go_simp;go_at_call 71;refine (xT _).mono ?_;rintro e w3 ⟨v3,rfl,i3,b3⟩;obtain ⟨y,yn,yc,rfl⟩:=dF.slice i3;have I3:=Hd i3;have B3:=Hd (D2.out.trans (b3.mono D2.out.size));have t0:=aC B3.out _ _ p0;clear i3 b3;go_simp)
  | (go_simp;go_at_call 70;refine (fD [1] (by decide) (by decide) _ _ _ _ (HP.out.below (B2.out.trans (B3.out.mono B2.out.size))) I3.out).mono ?_;rintro e w4 ⟨rfl,b4⟩;have B4:=Hd (B3.out.trans (b4.mono B3.out.size));have s0:=aC B4.out _ _ p0;have O4:=Hd (aD.below O2.out B4.out);clear b4;go_simp)
  | (refine aR rfl _ _ 36 rfl w.heap.size 9 i0 (.string ⟨#[]⟩) 1 16 Tryz.underlying36 hi0 hz0 hs0 hb0 rfl (by decide) _ _ _ rfl (O4.out.alloc _) ⟨w4.heap.size,0,none⟩ 1 1 [.string (⟨#[80]⟩ ++ ⟨#[32,105,115,32,116,114,117,101,32,97,116,32]⟩ ++ ⟨#[49]⟩)] rfl rfl (cell_one_new _ _ _) (by intro u hu;simp at hu;subst hu;rfl) (by decide) (by decide) (by have:=B2.out.size;have:=B4.out.size;simp;omega) ?_;intro v5 w5 hown5 hg5 _;have B5 : Hid (Below w.heap.size w w5):=((B2.out.trans (B4.out.mono B2.out.size)).alloc (by have:=B2.out.size;have:=B4.out.size;omega) _).grown hg5 (by have:=B2.out.size;have:=B4.out.size;simp;omega) (fun kk hkk=>(O4.out.lt kk hkk).1);have O5 : Hid (aD w.heap.size w5 (eZ.take 2) v5):=(by rw [SP.out] at hown5;exact hown5);have BX5 : Hid (w5.heap[w.heap.size]? = some (.cells #[.int .u8 4,.int .i64 2,.slice (some ⟨b,0,none⟩) 2 2,.int .i64 0,.slice (some ⟨fb,0,none⟩) 1 1,.slice none 0 0,.slice none 0 0] 34)):=(by rw [hg5.block w.heap.size (by have:=B4.out.size;simp;omega) (fun e=>by have:=Option.some.inj (show some w.heap.size = some w1.heap.size from e);omega),heap_alloc_old _ _ (show w.heap.size < w4.heap.size by have:=B4.out.size;omega),B4.out.block w.heap.size (by omega)];exact BX2.out);clear hown5 hg5))
 all_goals
  have R5:=Hd (And.intro O5.out (And.intro B5.out BX5.out))
  clear O5 B5 BX5 O4 B4 I3 B3 N1
  go_wp2_with fail
  rw [rounds_succ]
  have x2 : w5.cell? ⟨w.heap.size,2,none⟩ = some (.slice (some ⟨b,0,none⟩) 2 2):=by rw [aJ R5.out.2.2];rfl
  obtain ⟨y0,y1⟩:=H.out.keep (aC R5.out.2.1)
  go_wp2_with fail
  refine wp_loop_rounds 3 ?_
  rw [rounds_succ]
  have E0 : Lib.itoa 0 = [48]:=by simp [Lib.itoa,Lib.decDigits]
  have E1 : Lib.itoa 1 = [49]:=by simp [Lib.itoa,Lib.decDigits]
  have N1 : numbers [1] = [49]:=by simp [numbers,bS,Lib.itoa,Lib.decDigits]
  have N0 : numbers [] = kH:=rfl
  go_wp2_with fail
  refine (eH 0 (by decide) (by decide) _ (HP.out.below R5.out.2.1)).mono ?_
  rintro e w6 ⟨rfl,b6⟩
  rw [E0]
  have B6:=Hd b6
  clear b6 y0
  go_wp2_with fail
  refine (xT _).mono ?_
  rintro e w7 ⟨v7,rfl,i7,b7⟩
  obtain ⟨y,yn,yc,rfl⟩:=dF.slice i7
  have I7:=Hd i7
  have B7:=Hd (B6.out.trans (b7.mono B6.out.size))
  clear i7 b7
  go_wp2_with fail
  refine (fD [1] (by decide) (by decide) _ _ _ _ (HP.out.below (R5.out.2.1.trans (B7.out.mono R5.out.2.1.size))) I7.out).mono ?_
  rintro e w8 ⟨rfl,b8⟩
  rw [N1]
  have B8:=Hd (B7.out.trans (b8.mono B7.out.size))
  have O8:=Hd (aD.below R5.out.1 B8.out)
  have W8 : Hid (Below w.heap.size w w8):=R5.out.2.1.trans (B8.out.mono R5.out.2.1.size)
  have L8 : Hid ((eZ.take 2).length = 2):=rfl
  have SS : Hid (Value.string ((⟨#[48]⟩ : ByteArray) ++ ⟨#[32,115,101,101,115,32]⟩ ++ ⟨#[49]⟩) = str [48,32,115,101,101,115,32,49]):=rfl
  clear b8
  go_wp2_with (at_builtin;refine wpList_append_own _ rfl _ _ 36 rfl w.heap.size 9 i0 (.string ⟨#[]⟩) 1 16 Tryz.underlying36 hi0 hz0 hs0 hb0 rfl (by decide) _ _ _ rfl (O8.out.alloc _) ⟨w8.heap.size,0,none⟩ 1 1 [.string (⟨#[48]⟩ ++ ⟨#[32,115,101,101,115,32]⟩ ++ ⟨#[49]⟩)] rfl rfl (cell_one_new _ _ _) (by intro u hu;simp at hu;subst hu;rfl) (by decide) (by decide) (by have:=W8.out.size;simp;omega) ?_)
  intro v9 w9 hown9 hg9 _
  have B9 : Hid (Below w.heap.size w w9):=(W8.out.alloc W8.out.size _).grown hg9 (by have:=W8.out.size;simp;omega) (fun kk hkk=>(O8.out.lt kk hkk).1)
  have O9 : Hid (aD w.heap.size w9 (eZ.take 3) v9):=by rw [SS.out] at hown9;exact hown9
  obtain ⟨_,y1⟩:=H.out.keep (aC B9.out)
  clear hown9 hg9
  go_wp2_with fail
  rw [rounds_succ]
  go_wp2_with fail
  refine (eH 1 (by decide) (by decide) _ (HP.out.below B9.out)).mono ?_
  rintro e w10 ⟨rfl,b10⟩
  rw [E1]
  have B10:=Hd b10
  clear b10
  go_wp2_with (go_at_call 71;refine (bits0_c _).mono ?_;rintro e w11 ⟨rfl,rfl⟩)
  refine (fD [] (by simp) (by decide) _ _ _ _ (HP.out.below (B9.out.trans (B10.out.mono B9.out.size))) (At.sl_nil (Nat.zero_le _))).mono ?_
  rintro e w12 ⟨rfl,b12⟩
  rw [N0]
  have B12:=Hd (B10.out.trans (b12.mono B10.out.size))
  have O12:=Hd (aD.below O9.out B12.out)
  have W12 : Hid (Below w.heap.size w w12):=B9.out.trans (B12.out.mono B9.out.size)
  have ST : Hid (Value.string ((⟨#[49]⟩ : ByteArray) ++ ⟨#[32,115,101,101,115,32]⟩ ++ ⟨#[110,111,116,104,105,110,103]⟩) = str [49,32,115,101,101,115,32,110,111,116,104,105,110,103]):=rfl
  clear b12
  unfold kH
  go_wp2_with (at_builtin;refine wpList_append_own _ rfl _ _ 36 rfl w.heap.size 9 i0 (.string ⟨#[]⟩) 1 16 Tryz.underlying36 hi0 hz0 hs0 hb0 rfl (by decide) _ _ _ rfl (O12.out.alloc _) ⟨w12.heap.size,0,none⟩ 1 1 [.string (⟨#[49]⟩ ++ ⟨#[32,115,101,101,115,32]⟩ ++ ⟨#[110,111,116,104,105,110,103]⟩)] rfl rfl (cell_one_new _ _ _) (by intro u hu;simp at hu;subst hu;rfl) (by decide) (by decide) (by have:=W12.out.size;simp;omega) ?_)
  intro v13 w13 hown13 hg13 _
  have B13 : Hid (Below w.heap.size w w13):=(W12.out.alloc W12.out.size _).grown hg13 (by have:=W12.out.size;simp;omega) (fun kk hkk=>(O12.out.lt kk hkk).1)
  have O13 : Hid (aD w.heap.size w13 eZ v13):=by rw [ST.out] at hown13;exact hown13
  clear hown13 hg13
  go_wp2_with fail
  rw [rounds_succ]
  go_wp2_with fail
  go_ret2
  exact ⟨_,rfl,O13.out,B13.out⟩
end Go.Proofs.YtcandidgaegghaaGreatDoor
