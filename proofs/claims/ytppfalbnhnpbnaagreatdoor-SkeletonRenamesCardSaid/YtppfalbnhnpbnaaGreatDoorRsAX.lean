/- SkeletonRenames' regions in any order. Conditions: those of each statement. -/
import Derived.Test.YtppfalbnhnpbnaaGreatDoorAwAX
set_option linter.unusedSimpArgs false
set_option linter.unusedVariables false
namespace Go.Proofs.YtppfalbnhnpbnaaGreatDoor
open Go Go.RowKit Ly
set_option maxRecDepth 10000
def zbP (n : Nat) : Value → World → Prop:=fun v w=>∃ g,v = one g ∧ w.heap[g]? = some (.cells #[.slice none 0 0,.slice none 0 0] 26 (0,0)) ∧ n ≤ g
theorem zbP_stays (n : Nat) : kH (zbP n):=fun _ _ _ ⟨g,e,h,l⟩ hb=>⟨g,e,kc hb h,l⟩
noncomputable def rs6 : Array Oper:=((Tryz.f6.body).bind (fO 6)).getD #[]
def rs6R (g10 g11 m0 : Nat) (sa : Option Addr) (sn sc : Nat) (sb : Option Addr) (sm sd : Nat) (N1 N2 : List Fm) : List (Value → World → Prop):=[isV (.func (.func 25) #[] #[one g11]),
 isV (.pointer (some ⟨g10,0,none⟩)),
 isV (.slice sa sn sc),
 fsP N1,
 isV (.func (.func 25) #[] #[one g11]),
 isV (.pointer (some ⟨g10,1,none⟩)),
 isV (.slice sb sm sd),
 fsP N2,
 sqP N1 N2,
 zbP m0]
theorem rs6_stays (g10 g11 m0 : Nat) (sa : Option Addr) (sn sc : Nat) (sb : Option Addr) (sm sd : Nat) (N1 N2 : List Fm) : ∀ r ∈ rs6R g10 g11 m0 sa sn sc sb sm sd N1 N2,kH r:=by
 unfold rs6R
 simp only [List.forall_mem_cons]
 exact ⟨aH _,aH _,aH _,bZ _,aH _,aH _,aH _,bZ _,dC _ _,zbP_stays _,fun r h=>by cases h⟩
set_option maxHeartbeats 4000000 in
theorem rs6_steps (g10 g11 m0 : Nat) (sa : Option Addr) (sn sc : Nat) (sb : Option Addr) (sm sd : Nat) (N1 N2 : List Fm) (Q : Exit → Act → World → Prop) (W : World) (a0 : Act) (h12 : a0.tmps.getD 12 undef = .func (.func 25) #[] #[one g11]) (h10 : a0.tmps.getD 10 undef = one g10) (hm : m0 ≤ W.heap.size) (HQ : W.heap[g10]? = some (.cells #[.slice sa sn sc,.slice sb sm sd] 26 (0,0))) (HT1 : ∀ w,Below W.heap.size W w → Calls Tryz.prog 25 #[.slice sa sn sc,one g11] w fun e w'=>∃ v,e = .returned v ∧ aL w' N1 v ∧ Below w.heap.size w w') (HT2 : ∀ w,Below W.heap.size W w → Calls Tryz.prog 25 #[.slice sb sm sd,one g11] w fun e w'=>∃ v,e = .returned v ∧ aL w' N2 v ∧ Below w.heap.size w w') : aB Tryz.prog rs6 Q W a0 (rAt (rs6R g10 g11 m0 sa sn sc sb sm sd N1 N2)) [0,1,2,3,4,5,6,7,8,9]:=by
 refine aB.step (Op.move (Operand.tmp 12)) (by kernel_rfl) (fun a w F=>?_) ?_
 ·have e:=(F.old 12 (by kernel_rfl)).trans h12
  clear F
  rintro ⟨dst,op,ty,pos,af,gd⟩ rfl K Q' hK
  have HK:=Lib.hid hK
  clear hK
  go_simp
  exact HK.out _ _ ⟨Below.refl _ _,rfl⟩
 refine aB.step (Op.fieldAddr 26 (Operand.tmp 10) 0) (by kernel_rfl) (fun a w F=>?_) ?_
 ·have e:=(F.old 10 (by kernel_rfl)).trans h10
  clear F
  rintro ⟨dst,op,ty,pos,af,gd⟩ rfl K Q' hK
  have HK:=Lib.hid hK
  clear hK
  go_simp
  exact HK.out _ _ ⟨Below.refl _ _,rfl⟩
 refine aB.step (Op.load 24 (Operand.tmp 40)) (by kernel_rfl) (fun a w F=>?_) ?_
 ·have e : a.tmps[40]?.getD undef = .pointer (some ⟨g10,0,none⟩):=F.dep 1 40 (by kernel_rfl) (by kernel_rfl)
  obtain ⟨p0,p1,-,-⟩:=row2 (kc F.bw HQ)
  clear F
  rintro ⟨dst,op,ty,pos,af,gd⟩ rfl K Q' hK
  have HK:=Lib.hid hK
  clear hK
  go_simp
  exact HK.out _ _ ⟨Below.refl _ _,rfl⟩
 refine aB.step (Op.call { callee:=Callee.value (Operand.tmp 39),args:=#[Operand.tmp 41],argTypes:=#[24] }) (by kernel_rfl) (fun a w F=>?_) ?_
 ·have e1 : a.tmps[39]?.getD undef = .func (.func 25) #[] #[one g11]:=F.dep 0 39 (by kernel_rfl) (by kernel_rfl)
  have e2 : a.tmps[41]?.getD undef = .slice sa sn sc:=F.dep 2 41 (by kernel_rfl) (by kernel_rfl)
  have CA:=Lib.hid (HT1 w F.bw)
  clear F
  rintro ⟨dst,op,ty,pos,af,gd⟩ rfl K Q' hK
  have HK:=Lib.hid hK
  clear hK
  go_simp
  go_at_call 25
  refine CA.out.mono ?_
  rintro e w1 ⟨v,rfl,hv,hb⟩
  exact HK.out _ _ ⟨hb,hv⟩
 refine aB.step (Op.move (Operand.tmp 12)) (by kernel_rfl) (fun a w F=>?_) ?_
 ·have e:=(F.old 12 (by kernel_rfl)).trans h12
  clear F
  rintro ⟨dst,op,ty,pos,af,gd⟩ rfl K Q' hK
  have HK:=Lib.hid hK
  clear hK
  go_simp
  exact HK.out _ _ ⟨Below.refl _ _,rfl⟩
 refine aB.step (Op.fieldAddr 26 (Operand.tmp 10) 1) (by kernel_rfl) (fun a w F=>?_) ?_
 ·have e:=(F.old 10 (by kernel_rfl)).trans h10
  clear F
  rintro ⟨dst,op,ty,pos,af,gd⟩ rfl K Q' hK
  have HK:=Lib.hid hK
  clear hK
  go_simp
  exact HK.out _ _ ⟨Below.refl _ _,rfl⟩
 refine aB.step (Op.load 24 (Operand.tmp 44)) (by kernel_rfl) (fun a w F=>?_) ?_
 ·have e : a.tmps[44]?.getD undef = .pointer (some ⟨g10,1,none⟩):=F.dep 5 44 (by kernel_rfl) (by kernel_rfl)
  obtain ⟨p0,p1,-,-⟩:=row2 (kc F.bw HQ)
  clear F
  rintro ⟨dst,op,ty,pos,af,gd⟩ rfl K Q' hK
  have HK:=Lib.hid hK
  clear hK
  go_simp
  exact HK.out _ _ ⟨Below.refl _ _,rfl⟩
 refine aB.step (Op.call { callee:=Callee.value (Operand.tmp 43),args:=#[Operand.tmp 45],argTypes:=#[24] }) (by kernel_rfl) (fun a w F=>?_) ?_
 ·have e1 : a.tmps[43]?.getD undef = .func (.func 25) #[] #[one g11]:=F.dep 4 43 (by kernel_rfl) (by kernel_rfl)
  have e2 : a.tmps[45]?.getD undef = .slice sb sm sd:=F.dep 6 45 (by kernel_rfl) (by kernel_rfl)
  have CA:=Lib.hid (HT2 w F.bw)
  clear F
  rintro ⟨dst,op,ty,pos,af,gd⟩ rfl K Q' hK
  have HK:=Lib.hid hK
  clear hK
  go_simp
  go_at_call 25
  refine CA.out.mono ?_
  rintro e w1 ⟨v,rfl,hv,hb⟩
  exact HK.out _ _ ⟨hb,hv⟩
 refine aB.step (Op.call { callee:=Callee.value (Operand.func 20),args:=#[Operand.tmp 42,Operand.tmp 46],argTypes:=#[24,24] }) (by kernel_rfl) (fun a w F=>?_) ?_
 ·have dx : aL w N1 (a.tmps[42]?.getD undef):=F.dep 3 42 (by kernel_rfl) (by kernel_rfl)
  obtain ⟨ax,cx,ex,-⟩:=At.sl_inv dx
  rw [ex] at dx
  have dy : aL w N2 (a.tmps[46]?.getD undef):=F.dep 7 46 (by kernel_rfl) (by kernel_rfl)
  obtain ⟨ay,cy,ey,-⟩:=At.sl_inv dy
  rw [ey] at dy
  clear F
  rintro ⟨dst,op,ty,pos,af,gd⟩ rfl K Q' hK
  have HK:=Lib.hid hK
  have DX:=Lib.hid dx
  have DY:=Lib.hid dy
  clear hK dx dy
  go_simp
  go_at_call 20
  refine (sq_c _ _ _ _ _ _ _).mono ?_
  rintro e w1 ⟨rfl,hb⟩
  exact HK.out _ _ ⟨hb,_,_,_,_,_,_,rfl,(DX.out).keep (aA hb),(DY.out).keep (aA hb)⟩
 refine aB.step (Op.alloc 26) (by kernel_rfl) (fun a w F=>?_) ?_
 ·have hl : m0 ≤ w.heap.size:=Nat.le_trans hm F.bw.size
  clear F
  rintro ⟨dst,op,ty,pos,af,gd⟩ rfl K Q' hK
  have HK:=Lib.hid hK
  clear hK
  go_simp
  exact HK.out _ _ ⟨aT _ _,_,rfl,heap_alloc_new _ _,hl⟩
 exact aB.nil
noncomputable def rs11 : Array Oper:=((Tryz.f6.body).bind (fO 11)).getD #[]
def yR (L R N1 N2 S1 S2 : List Fm) (m : Nat) : List (Value → World → Prop):=[isV (.bool true),
 isV (.bool false),
 isV (.bool false),
 isV (.int .i64 0),
 isV (.int .i64 0),
 isV (.int .i64 0),
 isV (.int .i64 0),
 isV (.int .i64 0),
 isV (.int .i64 0),
 isV (.int .i64 0),
 isV (.bool false),
 isV (.bool false),
 isV (.bool false),
 isV (.bool true),
 isV (.bool false),
 isV (.bool false),
 isV (.bool false),
 sqP S1 S2,
 sqP S1 S2,
 isV (.bool true),
 isV (.bool false),
 isV (.bool false),
 isV (.bool false),
 sqP S1 S2,
 sqP S1 S2,
 isV (.bool true),
 isV (.bool false),
 isV (.bool false),
 isV (.bool false),
 sqP L R,
 isV (.int .i64 (m : Nat)),
 sqP N1 N2,
 isV (.int .i64 (m : Nat)),
 isV (.bool false),
 isV (.bool false)]
theorem rs11_stays (L R N1 N2 S1 S2 : List Fm) (m : Nat) : ∀ r ∈ yR L R N1 N2 S1 S2 m,kH r:=by
 unfold yR
 simp only [List.forall_mem_cons]
 exact ⟨aH _,aH _,aH _,aH _,aH _,aH _,aH _,aH _,aH _,aH _,aH _,aH _,aH _,aH _,aH _,aH _,aH _,dC _ _,dC _ _,aH _,aH _,aH _,aH _,dC _ _,dC _ _,aH _,aH _,aH _,aH _,dC _ _,aH _,dC _ _,aH _,aH _,aH _,fun r h=>by cases h⟩
set_option maxHeartbeats 4000000 in
theorem rs11_steps (L R N1 N2 S1 S2 : List Fm) (m : Nat) (Q : Exit → Act → World → Prop) (W : World) (a0 : Act) {g9 g11 g13 g14 g16 g18 : Nat} (h9 : a0.tmps.getD 9 undef = one g9) (h11 : a0.tmps.getD 11 undef = one g11) (h13 : a0.tmps.getD 13 undef = one g13) (h14 : a0.tmps.getD 14 undef = one g14) (h16 : a0.tmps.getD 16 undef = one g16) (h18 : a0.tmps.getD 18 undef = one g18) (h15 : a0.tmps.getD 15 undef = .int .i64 0) (h17 : a0.tmps.getD 17 undef = .int .i64 0) (h19 : a0.tmps.getD 19 undef = .int .i64 0) (h21 : a0.tmps.getD 21 undef = .int .i64 0) (h20 : a0.tmps.getD 20 undef = .bool true) (HO : W.heap[g11]? = some (.cells #[.bool true] 4 (0,0))) (B9 : cM g9 L R W) (B13 : cM g13 N1 N2 W) (B14 : cM g14 S1 S2 W) (B16 : cM g16 S1 S2 W) (B18 : cM g18 S1 S2 W) (HW1 : ∀ w x,Below W.heap.size W w → bT w L R x → Calls Tryz.prog 27 #[x] w fun e w'=>e = .returned (.int .i64 (m : Nat)) ∧ Below w.heap.size w w') (HW2 : ∀ w x,Below W.heap.size W w → bT w N1 N2 x → Calls Tryz.prog 27 #[x] w fun e w'=>e = .returned (.int .i64 (m : Nat)) ∧ Below w.heap.size w w') : aB Tryz.prog rs11 Q W a0 (rAt (yR L R N1 N2 S1 S2 m)) [0,1,2,3,4,5,6,7,8,9,10,11,12,13,14,15,16,17,18,19,20,21,22,23,24,25,26,27,28,29,30,31,32,33,34]:=by
 refine aB.step (Op.load 4 (Operand.tmp 11)) (by kernel_rfl) (fun a w F=>?_) ?_
 ·have e:=(F.old 11 (by kernel_rfl)).trans h11
  obtain ⟨k0,k1⟩:=row1 (kc F.bw HO)
  clear F
  rintro ⟨dst,op,ty,pos,af,gd⟩ rfl K Q' hK
  have HK:=Lib.hid hK
  skip
  clear hK 
  go_simp
  exact HK.out _ _ ⟨Below.refl _ _,rfl⟩
 refine aB.step (Op.unOp UnOp.not 4 (Operand.tmp 69)) (by kernel_rfl) (fun a w F=>?_) ?_
 ·have e : a.tmps[69]?.getD undef = .bool true:=F.dep 0 69 (by kernel_rfl) (by kernel_rfl)
  clear F
  rintro ⟨dst,op,ty,pos,af,gd⟩ rfl K Q' hK
  have HK:=Lib.hid hK
  clear hK
  go_simp
  exact HK.out _ _ ⟨Below.refl _ _,rfl⟩
 refine aB.step (Op.move (Operand.tmp 70)) (by kernel_rfl) (fun a w F=>?_) ?_
 ·have e : a.tmps[70]?.getD undef = .bool false:=F.dep 1 70 (by kernel_rfl) (by kernel_rfl)
  clear F
  rintro ⟨dst,op,ty,pos,af,gd⟩ rfl K Q' hK
  have HK:=Lib.hid hK
  clear hK
  go_simp
  exact HK.out _ _ ⟨Below.refl _ _,rfl⟩
 refine aB.stepIf (Op.move (Operand.tmp 15)) 2 71 false (by kernel_rfl) (by kernel_rfl) (by kernel_rfl) (fun v w h=>h) (fun a w F=>?_) ?_
 ·have e:=(F.old 15 (by kernel_rfl)).trans h15
  clear F
  rintro ⟨dst,op,ty,pos,af,gd⟩ rfl K Q' hK
  have HK:=Lib.hid hK
  clear hK
  go_simp
  exact HK.out _ _ ⟨Below.refl _ _,rfl⟩
 refine aB.stepIf (Op.move (Operand.tmp 17)) 2 71 false (by kernel_rfl) (by kernel_rfl) (by kernel_rfl) (fun v w h=>h) (fun a w F=>?_) ?_
 ·have e:=(F.old 17 (by kernel_rfl)).trans h17
  clear F
  rintro ⟨dst,op,ty,pos,af,gd⟩ rfl K Q' hK
  have HK:=Lib.hid hK
  clear hK
  go_simp
  exact HK.out _ _ ⟨Below.refl _ _,rfl⟩
 refine aB.stepIf (Op.binOp BinOp.add 28 (Operand.tmp 72) (Operand.tmp 73) 28) 2 71 false (by kernel_rfl) (by kernel_rfl) (by kernel_rfl) (fun v w h=>h) (fun a w F=>?_) ?_
 ·have e1 : a.tmps[72]?.getD undef = .int .i64 0:=F.dep 3 72 (by kernel_rfl) (by kernel_rfl)
  have e2 : a.tmps[73]?.getD undef = .int .i64 0:=F.dep 4 73 (by kernel_rfl) (by kernel_rfl)
  clear F
  rintro ⟨dst,op,ty,pos,af,gd⟩ rfl K Q' hK
  have HK:=Lib.hid hK
  clear hK
  go_simp
  exact HK.out _ _ ⟨Below.refl _ _,rfl⟩
 refine aB.stepIf (Op.move (Operand.tmp 19)) 2 71 false (by kernel_rfl) (by kernel_rfl) (by kernel_rfl) (fun v w h=>h) (fun a w F=>?_) ?_
 ·have e:=(F.old 19 (by kernel_rfl)).trans h19
  clear F
  rintro ⟨dst,op,ty,pos,af,gd⟩ rfl K Q' hK
  have HK:=Lib.hid hK
  clear hK
  go_simp
  exact HK.out _ _ ⟨Below.refl _ _,rfl⟩
 refine aB.stepIf (Op.binOp BinOp.add 28 (Operand.tmp 74) (Operand.tmp 75) 28) 2 71 false (by kernel_rfl) (by kernel_rfl) (by kernel_rfl) (fun v w h=>h) (fun a w F=>?_) ?_
 ·have e1 : a.tmps[74]?.getD undef = .int .i64 0:=F.dep 5 74 (by kernel_rfl) (by kernel_rfl)
  have e2 : a.tmps[75]?.getD undef = .int .i64 0:=F.dep 6 75 (by kernel_rfl) (by kernel_rfl)
  clear F
  rintro ⟨dst,op,ty,pos,af,gd⟩ rfl K Q' hK
  have HK:=Lib.hid hK
  clear hK
  go_simp
  exact HK.out _ _ ⟨Below.refl _ _,rfl⟩
 refine aB.stepIf (Op.move (Operand.tmp 21)) 2 71 false (by kernel_rfl) (by kernel_rfl) (by kernel_rfl) (fun v w h=>h) (fun a w F=>?_) ?_
 ·have e:=(F.old 21 (by kernel_rfl)).trans h21
  clear F
  rintro ⟨dst,op,ty,pos,af,gd⟩ rfl K Q' hK
  have HK:=Lib.hid hK
  clear hK
  go_simp
  exact HK.out _ _ ⟨Below.refl _ _,rfl⟩
 refine aB.stepIf (Op.binOp BinOp.add 28 (Operand.tmp 76) (Operand.tmp 77) 28) 2 71 false (by kernel_rfl) (by kernel_rfl) (by kernel_rfl) (fun v w h=>h) (fun a w F=>?_) ?_
 ·have e1 : a.tmps[76]?.getD undef = .int .i64 0:=F.dep 7 76 (by kernel_rfl) (by kernel_rfl)
  have e2 : a.tmps[77]?.getD undef = .int .i64 0:=F.dep 8 77 (by kernel_rfl) (by kernel_rfl)
  clear F
  rintro ⟨dst,op,ty,pos,af,gd⟩ rfl K Q' hK
  have HK:=Lib.hid hK
  clear hK
  go_simp
  exact HK.out _ _ ⟨Below.refl _ _,rfl⟩
 refine aB.stepIf (Op.binOp BinOp.neq 28 (Operand.tmp 78) (Operand.const (Value.int IntKind.i64 0)) 28) 2 71 false (by kernel_rfl) (by kernel_rfl) (by kernel_rfl) (fun v w h=>h) (fun a w F=>?_) ?_
 ·have e : a.tmps[78]?.getD undef = .int .i64 0:=F.dep 9 78 (by kernel_rfl) (by kernel_rfl)
  clear F
  rintro ⟨dst,op,ty,pos,af,gd⟩ rfl K Q' hK
  have HK:=Lib.hid hK
  clear hK
  go_simp
  exact HK.out _ _ ⟨Below.refl _ _,rfl⟩
 refine aB.step (Op.pick (Operand.tmp 71) (Operand.const (Value.bool true)) (Operand.tmp 79)) (by kernel_rfl) (fun a w F=>?_) ?_
 ·have e1 : a.tmps[71]?.getD undef = .bool false:=F.dep 2 71 (by kernel_rfl) (by kernel_rfl)
  have e2 : a.tmps[79]?.getD undef = .bool false:=F.dep 10 79 (by kernel_rfl) (by kernel_rfl)
  clear F
  rintro ⟨dst,op,ty,pos,af,gd⟩ rfl K Q' hK
  have HK:=Lib.hid hK
  clear hK
  go_simp
  exact HK.out _ _ ⟨Below.refl _ _,rfl⟩
 refine aB.step (Op.move (Operand.tmp 80)) (by kernel_rfl) (fun a w F=>?_) ?_
 ·have e : a.tmps[80]?.getD undef = .bool false:=F.dep 11 80 (by kernel_rfl) (by kernel_rfl)
  clear F
  rintro ⟨dst,op,ty,pos,af,gd⟩ rfl K Q' hK
  have HK:=Lib.hid hK
  clear hK
  go_simp
  exact HK.out _ _ ⟨Below.refl _ _,rfl⟩
 refine aB.stepIf (Op.move (Operand.tmp 20)) 12 81 false (by kernel_rfl) (by kernel_rfl) (by kernel_rfl) (fun v w h=>h) (fun a w F=>?_) ?_
 ·have e:=(F.old 20 (by kernel_rfl)).trans h20
  clear F
  rintro ⟨dst,op,ty,pos,af,gd⟩ rfl K Q' hK
  have HK:=Lib.hid hK
  clear hK
  go_simp
  exact HK.out _ _ ⟨Below.refl _ _,rfl⟩
 refine aB.stepIf (Op.unOp UnOp.not 4 (Operand.tmp 82)) 12 81 false (by kernel_rfl) (by kernel_rfl) (by kernel_rfl) (fun v w h=>h) (fun a w F=>?_) ?_
 ·have e : a.tmps[82]?.getD undef = .bool true:=F.dep 13 82 (by kernel_rfl) (by kernel_rfl)
  clear F
  rintro ⟨dst,op,ty,pos,af,gd⟩ rfl K Q' hK
  have HK:=Lib.hid hK
  clear hK
  go_simp
  exact HK.out _ _ ⟨Below.refl _ _,rfl⟩
 refine aB.step (Op.pick (Operand.tmp 81) (Operand.const (Value.bool true)) (Operand.tmp 83)) (by kernel_rfl) (fun a w F=>?_) ?_
 ·have e1 : a.tmps[81]?.getD undef = .bool false:=F.dep 12 81 (by kernel_rfl) (by kernel_rfl)
  have e2 : a.tmps[83]?.getD undef = .bool false:=F.dep 14 83 (by kernel_rfl) (by kernel_rfl)
  clear F
  rintro ⟨dst,op,ty,pos,af,gd⟩ rfl K Q' hK
  have HK:=Lib.hid hK
  clear hK
  go_simp
  exact HK.out _ _ ⟨Below.refl _ _,rfl⟩
 refine aB.step (Op.move (Operand.tmp 84)) (by kernel_rfl) (fun a w F=>?_) ?_
 ·have e : a.tmps[84]?.getD undef = .bool false:=F.dep 15 84 (by kernel_rfl) (by kernel_rfl)
  clear F
  rintro ⟨dst,op,ty,pos,af,gd⟩ rfl K Q' hK
  have HK:=Lib.hid hK
  clear hK
  go_simp
  exact HK.out _ _ ⟨Below.refl _ _,rfl⟩
 refine aB.stepIf (Op.load 26 (Operand.tmp 14)) 16 85 false (by kernel_rfl) (by kernel_rfl) (by kernel_rfl) (fun v w h=>h) (fun a w F=>?_) ?_
 ·have e:=(F.old 14 (by kernel_rfl)).trans h14
  obtain ⟨a1,n1,c1,b1,m1,l1,hg,hL,hR⟩:=B14.below F.bw
  obtain ⟨p0,p1,-,-⟩:=row2 hg
  clear F
  rintro ⟨dst,op,ty,pos,af,gd⟩ rfl K Q' hK
  have HK:=Lib.hid hK
  have HL:=Lib.hid hL
  have HR:=Lib.hid hR
  clear hK hg hL hR
  go_simp
  exact HK.out _ _ ⟨Below.refl _ _,_,_,_,_,_,_,rfl,HL.out,HR.out⟩
 refine aB.stepIf (Op.load 26 (Operand.tmp 16)) 16 85 false (by kernel_rfl) (by kernel_rfl) (by kernel_rfl) (fun v w h=>h) (fun a w F=>?_) ?_
 ·have e:=(F.old 16 (by kernel_rfl)).trans h16
  obtain ⟨a1,n1,c1,b1,m1,l1,hg,hL,hR⟩:=B16.below F.bw
  obtain ⟨p0,p1,-,-⟩:=row2 hg
  clear F
  rintro ⟨dst,op,ty,pos,af,gd⟩ rfl K Q' hK
  have HK:=Lib.hid hK
  have HL:=Lib.hid hL
  have HR:=Lib.hid hR
  clear hK hg hL hR
  go_simp
  exact HK.out _ _ ⟨Below.refl _ _,_,_,_,_,_,_,rfl,HL.out,HR.out⟩
 refine aB.stepIf (Op.call { callee:=Callee.value (Operand.func 13),args:=#[Operand.tmp 86,Operand.tmp 87],argTypes:=#[26,26] }) 16 85 false (by kernel_rfl) (by kernel_rfl) (by kernel_rfl) (fun v w h=>h) (fun a w F=>?_) ?_
 ·have dx : bT w S1 S2 (a.tmps[86]?.getD undef):=F.dep 17 86 (by kernel_rfl) (by kernel_rfl)
  obtain ⟨a1,n1,c1,b1,m1,l1,ex,-⟩:=id dx
  rw [ex] at dx
  have dy : bT w S1 S2 (a.tmps[87]?.getD undef):=F.dep 18 87 (by kernel_rfl) (by kernel_rfl)
  obtain ⟨a2,n2,c2,b2,m2,l2,ey,-⟩:=id dy
  rw [ey] at dy
  clear F
  rintro ⟨dst,op,ty,pos,af,gd⟩ rfl K Q' hK
  have HK:=Lib.hid hK
  have DX:=Lib.hid dx
  have DY:=Lib.hid dy
  clear hK dx dy
  go_simp
  go_at_call 13
  refine (fZ _ _ _ _ _ _ _ DX.out DY.out).mono ?_
  rintro e w1 ⟨rfl,hb⟩
  exact HK.out _ _ ⟨hb,congrArg Value.bool (eB _ _)⟩
 refine aB.stepIf (Op.unOp UnOp.not 4 (Operand.tmp 88)) 16 85 false (by kernel_rfl) (by kernel_rfl) (by kernel_rfl) (fun v w h=>h) (fun a w F=>?_) ?_
 ·have e : a.tmps[88]?.getD undef = .bool true:=F.dep 19 88 (by kernel_rfl) (by kernel_rfl)
  clear F
  rintro ⟨dst,op,ty,pos,af,gd⟩ rfl K Q' hK
  have HK:=Lib.hid hK
  clear hK
  go_simp
  exact HK.out _ _ ⟨Below.refl _ _,rfl⟩
 refine aB.step (Op.pick (Operand.tmp 85) (Operand.const (Value.bool true)) (Operand.tmp 89)) (by kernel_rfl) (fun a w F=>?_) ?_
 ·have e1 : a.tmps[85]?.getD undef = .bool false:=F.dep 16 85 (by kernel_rfl) (by kernel_rfl)
  have e2 : a.tmps[89]?.getD undef = .bool false:=F.dep 20 89 (by kernel_rfl) (by kernel_rfl)
  clear F
  rintro ⟨dst,op,ty,pos,af,gd⟩ rfl K Q' hK
  have HK:=Lib.hid hK
  clear hK
  go_simp
  exact HK.out _ _ ⟨Below.refl _ _,rfl⟩
 refine aB.step (Op.move (Operand.tmp 90)) (by kernel_rfl) (fun a w F=>?_) ?_
 ·have e : a.tmps[90]?.getD undef = .bool false:=F.dep 21 90 (by kernel_rfl) (by kernel_rfl)
  clear F
  rintro ⟨dst,op,ty,pos,af,gd⟩ rfl K Q' hK
  have HK:=Lib.hid hK
  clear hK
  go_simp
  exact HK.out _ _ ⟨Below.refl _ _,rfl⟩
 refine aB.stepIf (Op.load 26 (Operand.tmp 14)) 22 91 false (by kernel_rfl) (by kernel_rfl) (by kernel_rfl) (fun v w h=>h) (fun a w F=>?_) ?_
 ·have e:=(F.old 14 (by kernel_rfl)).trans h14
  obtain ⟨a1,n1,c1,b1,m1,l1,hg,hL,hR⟩:=B14.below F.bw
  obtain ⟨p0,p1,-,-⟩:=row2 hg
  clear F
  rintro ⟨dst,op,ty,pos,af,gd⟩ rfl K Q' hK
  have HK:=Lib.hid hK
  have HL:=Lib.hid hL
  have HR:=Lib.hid hR
  clear hK hg hL hR
  go_simp
  exact HK.out _ _ ⟨Below.refl _ _,_,_,_,_,_,_,rfl,HL.out,HR.out⟩
 refine aB.stepIf (Op.load 26 (Operand.tmp 18)) 22 91 false (by kernel_rfl) (by kernel_rfl) (by kernel_rfl) (fun v w h=>h) (fun a w F=>?_) ?_
 ·have e:=(F.old 18 (by kernel_rfl)).trans h18
  obtain ⟨a1,n1,c1,b1,m1,l1,hg,hL,hR⟩:=B18.below F.bw
  obtain ⟨p0,p1,-,-⟩:=row2 hg
  clear F
  rintro ⟨dst,op,ty,pos,af,gd⟩ rfl K Q' hK
  have HK:=Lib.hid hK
  have HL:=Lib.hid hL
  have HR:=Lib.hid hR
  clear hK hg hL hR
  go_simp
  exact HK.out _ _ ⟨Below.refl _ _,_,_,_,_,_,_,rfl,HL.out,HR.out⟩
 refine aB.stepIf (Op.call { callee:=Callee.value (Operand.func 13),args:=#[Operand.tmp 92,Operand.tmp 93],argTypes:=#[26,26] }) 22 91 false (by kernel_rfl) (by kernel_rfl) (by kernel_rfl) (fun v w h=>h) (fun a w F=>?_) ?_
 ·have dx : bT w S1 S2 (a.tmps[92]?.getD undef):=F.dep 23 92 (by kernel_rfl) (by kernel_rfl)
  obtain ⟨a1,n1,c1,b1,m1,l1,ex,-⟩:=id dx
  rw [ex] at dx
  have dy : bT w S1 S2 (a.tmps[93]?.getD undef):=F.dep 24 93 (by kernel_rfl) (by kernel_rfl)
  obtain ⟨a2,n2,c2,b2,m2,l2,ey,-⟩:=id dy
  rw [ey] at dy
  clear F
  rintro ⟨dst,op,ty,pos,af,gd⟩ rfl K Q' hK
  have HK:=Lib.hid hK
  have DX:=Lib.hid dx
  have DY:=Lib.hid dy
  clear hK dx dy
  go_simp
  go_at_call 13
  refine (fZ _ _ _ _ _ _ _ DX.out DY.out).mono ?_
  rintro e w1 ⟨rfl,hb⟩
  exact HK.out _ _ ⟨hb,congrArg Value.bool (eB _ _)⟩
 refine aB.stepIf (Op.unOp UnOp.not 4 (Operand.tmp 94)) 22 91 false (by kernel_rfl) (by kernel_rfl) (by kernel_rfl) (fun v w h=>h) (fun a w F=>?_) ?_
 ·have e : a.tmps[94]?.getD undef = .bool true:=F.dep 25 94 (by kernel_rfl) (by kernel_rfl)
  clear F
  rintro ⟨dst,op,ty,pos,af,gd⟩ rfl K Q' hK
  have HK:=Lib.hid hK
  clear hK
  go_simp
  exact HK.out _ _ ⟨Below.refl _ _,rfl⟩
 refine aB.step (Op.pick (Operand.tmp 91) (Operand.const (Value.bool true)) (Operand.tmp 95)) (by kernel_rfl) (fun a w F=>?_) ?_
 ·have e1 : a.tmps[91]?.getD undef = .bool false:=F.dep 22 91 (by kernel_rfl) (by kernel_rfl)
  have e2 : a.tmps[95]?.getD undef = .bool false:=F.dep 26 95 (by kernel_rfl) (by kernel_rfl)
  clear F
  rintro ⟨dst,op,ty,pos,af,gd⟩ rfl K Q' hK
  have HK:=Lib.hid hK
  clear hK
  go_simp
  exact HK.out _ _ ⟨Below.refl _ _,rfl⟩
 refine aB.step (Op.move (Operand.tmp 96)) (by kernel_rfl) (fun a w F=>?_) ?_
 ·have e : a.tmps[96]?.getD undef = .bool false:=F.dep 27 96 (by kernel_rfl) (by kernel_rfl)
  clear F
  rintro ⟨dst,op,ty,pos,af,gd⟩ rfl K Q' hK
  have HK:=Lib.hid hK
  clear hK
  go_simp
  exact HK.out _ _ ⟨Below.refl _ _,rfl⟩
 refine aB.stepIf (Op.load 26 (Operand.tmp 9)) 28 97 false (by kernel_rfl) (by kernel_rfl) (by kernel_rfl) (fun v w h=>h) (fun a w F=>?_) ?_
 ·have e:=(F.old 9 (by kernel_rfl)).trans h9
  obtain ⟨a1,n1,c1,b1,m1,l1,hg,hL,hR⟩:=B9.below F.bw
  obtain ⟨p0,p1,-,-⟩:=row2 hg
  clear F
  rintro ⟨dst,op,ty,pos,af,gd⟩ rfl K Q' hK
  have HK:=Lib.hid hK
  have HL:=Lib.hid hL
  have HR:=Lib.hid hR
  clear hK hg hL hR
  go_simp
  exact HK.out _ _ ⟨Below.refl _ _,_,_,_,_,_,_,rfl,HL.out,HR.out⟩
 refine aB.stepIf (Op.call { callee:=Callee.value (Operand.func 27),args:=#[Operand.tmp 98],argTypes:=#[26] }) 28 97 false (by kernel_rfl) (by kernel_rfl) (by kernel_rfl) (fun v w h=>h) (fun a w F=>?_) ?_
 ·have dx : bT w L R (a.tmps[98]?.getD undef):=F.dep 29 98 (by kernel_rfl) (by kernel_rfl)
  obtain ⟨a1,n1,c1,b1,m1,l1,ex,-⟩:=id dx
  rw [ex] at dx
  have CA:=Lib.hid (HW1 w _ F.bw dx)
  clear F dx
  rintro ⟨dst,op,ty,pos,af,gd⟩ rfl K Q' hK
  have HK:=Lib.hid hK
  clear hK
  go_simp
  go_at_call 27
  refine CA.out.mono ?_
  rintro e w1 ⟨rfl,hb⟩
  exact HK.out _ _ ⟨hb,rfl⟩
 refine aB.stepIf (Op.load 26 (Operand.tmp 13)) 28 97 false (by kernel_rfl) (by kernel_rfl) (by kernel_rfl) (fun v w h=>h) (fun a w F=>?_) ?_
 ·have e:=(F.old 13 (by kernel_rfl)).trans h13
  obtain ⟨a1,n1,c1,b1,m1,l1,hg,hL,hR⟩:=B13.below F.bw
  obtain ⟨p0,p1,-,-⟩:=row2 hg
  clear F
  rintro ⟨dst,op,ty,pos,af,gd⟩ rfl K Q' hK
  have HK:=Lib.hid hK
  have HL:=Lib.hid hL
  have HR:=Lib.hid hR
  clear hK hg hL hR
  go_simp
  exact HK.out _ _ ⟨Below.refl _ _,_,_,_,_,_,_,rfl,HL.out,HR.out⟩
 refine aB.stepIf (Op.call { callee:=Callee.value (Operand.func 27),args:=#[Operand.tmp 100],argTypes:=#[26] }) 28 97 false (by kernel_rfl) (by kernel_rfl) (by kernel_rfl) (fun v w h=>h) (fun a w F=>?_) ?_
 ·have dx : bT w N1 N2 (a.tmps[100]?.getD undef):=F.dep 31 100 (by kernel_rfl) (by kernel_rfl)
  obtain ⟨a1,n1,c1,b1,m1,l1,ex,-⟩:=id dx
  rw [ex] at dx
  have CA:=Lib.hid (HW2 w _ F.bw dx)
  clear F dx
  rintro ⟨dst,op,ty,pos,af,gd⟩ rfl K Q' hK
  have HK:=Lib.hid hK
  clear hK
  go_simp
  go_at_call 27
  refine CA.out.mono ?_
  rintro e w1 ⟨rfl,hb⟩
  exact HK.out _ _ ⟨hb,rfl⟩
 refine aB.stepIf (Op.binOp BinOp.neq 3 (Operand.tmp 99) (Operand.tmp 101) 3) 28 97 false (by kernel_rfl) (by kernel_rfl) (by kernel_rfl) (fun v w h=>h) (fun a w F=>?_) ?_
 ·have e1 : a.tmps[99]?.getD undef = .int .i64 (m : Nat):=F.dep 30 99 (by kernel_rfl) (by kernel_rfl)
  have e2 : a.tmps[101]?.getD undef = .int .i64 (m : Nat):=F.dep 32 101 (by kernel_rfl) (by kernel_rfl)
  clear F
  rintro ⟨dst,op,ty,pos,af,gd⟩ rfl K Q' hK
  have HK:=Lib.hid hK
  clear hK
  go_simp
  exact HK.out _ _ ⟨Below.refl _ _,rfl⟩
 refine aB.step (Op.pick (Operand.tmp 97) (Operand.const (Value.bool true)) (Operand.tmp 102)) (by kernel_rfl) (fun a w F=>?_) ?_
 ·have e1 : a.tmps[97]?.getD undef = .bool false:=F.dep 28 97 (by kernel_rfl) (by kernel_rfl)
  have e2 : a.tmps[102]?.getD undef = .bool false:=F.dep 33 102 (by kernel_rfl) (by kernel_rfl)
  clear F
  rintro ⟨dst,op,ty,pos,af,gd⟩ rfl K Q' hK
  have HK:=Lib.hid hK
  clear hK
  go_simp
  exact HK.out _ _ ⟨Below.refl _ _,rfl⟩
 exact aB.nil
end Go.Proofs.YtppfalbnhnpbnaaGreatDoor
