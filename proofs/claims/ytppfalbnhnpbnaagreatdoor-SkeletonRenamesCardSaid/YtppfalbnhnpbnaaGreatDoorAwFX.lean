/- awake's regions in any order: 11. Conditions: those of each statement. -/
import Derived.Test.YtppfalbnhnpbnaaGreatDoorAwAX
import Derived.Test.YtppfalbnhnpbnaaGreatDoorAwBX
import Derived.Test.YtppfalbnhnpbnaaGreatDoorAwDX
import Derived.Deep.DeepCutAuto
set_option linter.unusedSimpArgs false
set_option linter.unusedVariables false
namespace Go.Proofs.YtppfalbnhnpbnaaGreatDoor
open Go Go.RowKit Ly
set_option maxRecDepth 10000
noncomputable def aw11 : Array Oper:=((Tryz.f9.body).bind (fO 11)).getD #[]
def xK (L4 R4 : List Fm) : List (Value → World → Prop):=[isV (.int .i64 0),
 isV (.int .i64 0),
 isV (.int .i64 0),
 isV (.int .i64 0),
 isV (.int .i64 0),
 isV (.int .i64 0),
 isV (.int .i64 0),
 isV (.int .i64 0),
 isV (.int .i64 0),
 isV (.bool true),
 isV (.bool true),
 sqP L4 R4,
 sqP L4 R4,
 isV (.bool true),
 isV (.bool true),
 isV (.bool true),
 isV (.bool true),
 isV (.bool true),
 isV (.bool true),
 isV (.bool false),
 isV (.bool true),
 isV (.bool true),
 isV (.bool true),
 isV (.bool false),
 isV (.bool true),
 isV (.bool true),
 isV (.bool true),
 sqP [] [(Fm.mk 4 [] [] [Fm.mk 1 [80] [] [],Fm.mk 1 [82] [] []])],
 isV (atV [80]),
 isV (atV [82]),
 fsP [Fm.mk 1 [80] [] [],Fm.mk 1 [82] [] []],
 fmP (Fm.mk 4 [] [] [Fm.mk 1 [80] [] [],Fm.mk 1 [82] [] []]),
 fsP [(Fm.mk 4 [] [] [Fm.mk 1 [80] [] [],Fm.mk 1 [82] [] []])],
 fsP [(Fm.mk 4 [] [] [Fm.mk 1 [80] [] [],Fm.mk 1 [82] [] []])],
 sqP [] [(Fm.mk 4 [] [] [Fm.mk 1 [80] [] [],Fm.mk 1 [82] [] []])],
 isV (.bool true),
 isV (.bool true),
 isV (.bool true),
 isV (.int .i64 300),
 isV (.bool true),
 isV (.bool true),
 isV (.bool true),
 isV (.int .i64 6),
 isV (.bool true),
 isV (.bool true),
 isV (.bool true)]
theorem aw11_stays (L4 R4 : List Fm) : ∀ r ∈ xK L4 R4,kH r:=by
 unfold xK
 simp only [List.forall_mem_cons]
 exact ⟨aH _,aH _,aH _,aH _,aH _,aH _,aH _,aH _,aH _,aH _,aH _,dC _ _,dC _ _,aH _,aH _,aH _,aH _,aH _,aH _,aH _,aH _,aH _,aH _,aH _,aH _,aH _,aH _,dC _ _,aH _,aH _,bZ _,gN _,bZ _,bZ _,dC _ _,aH _,aH _,aH _,aH _,aH _,aH _,aH _,aH _,aH _,aH _,aH _,fun r h=>by cases h⟩
set_option maxHeartbeats 4000000 in
theorem aw11_steps (L4 R4 : List Fm) (Q : Exit → Act → World → Prop) (W : World) (a0 : Act) (g1 g2 g3 g4 g6 g14 : Nat) (h1 : a0.tmps.getD 1 undef = one g1) (h3 : a0.tmps.getD 3 undef = one g3) (h4 : a0.tmps.getD 4 undef = one g4) (h6 : a0.tmps.getD 6 undef = one g6) (h14 : a0.tmps.getD 14 undef = one g14) (h5 : a0.tmps.getD 5 undef = .int .i64 0) (h8 : a0.tmps.getD 8 undef = .int .i64 0) (h10 : a0.tmps.getD 10 undef = .int .i64 0) (h12 : a0.tmps.getD 12 undef = .int .i64 0) (h15 : a0.tmps.getD 15 undef = .int .i64 0) (h7 : a0.tmps.getD 7 undef = .bool true) (h9 : a0.tmps.getD 9 undef = .bool false) (h11 : a0.tmps.getD 11 undef = .bool false) (h17 : a0.tmps.getD 17 undef = .int .i64 300) (h19 : a0.tmps.getD 19 undef = .int .i64 6) (HA : AwV g1 g2 g3 W) (B4 : cM g4 L4 R4 W) (B6 : cM g6 L4 R4 W) (B14 : cM g14 [] [Fm.mk 4 [] [] [Fm.mk 1 [80] [] [],Fm.mk 1 [82] [] []]] W) : aB Tryz.prog aw11 Q W a0 (rAt (xK L4 R4)) [0,1,2,3,4,5,6,7,8,9,10,11,12,13,14,15,16,17,18,19,20,21,22,23,24,25,26,27,28,29,30,31,32,33,34,35,36,37,38,39,40,41,42,43,44,45]:=by
 refine aB.step (Op.move (Operand.tmp 5)) (by kernel_rfl) (fun a w F=>?_) ?_
 ·have e:=(F.old 5 (by kernel_rfl)).trans h5
  clear F
  rintro ⟨dst,op,ty,pos,af,gd⟩ rfl K Q' hK
  have HK:=Lib.hid hK
  clear hK
  go_simp
  exact HK.out _ _ ⟨Below.refl _ _,rfl⟩
 refine aB.step (Op.move (Operand.tmp 8)) (by kernel_rfl) (fun a w F=>?_) ?_
 ·have e:=(F.old 8 (by kernel_rfl)).trans h8
  clear F
  rintro ⟨dst,op,ty,pos,af,gd⟩ rfl K Q' hK
  have HK:=Lib.hid hK
  clear hK
  go_simp
  exact HK.out _ _ ⟨Below.refl _ _,rfl⟩
 refine aB.step (Op.binOp BinOp.add 28 (Operand.tmp 149) (Operand.tmp 150) 28) (by kernel_rfl) (fun a w F=>?_) ?_
 ·have e1 : a.tmps[149]?.getD undef = .int .i64 0:=F.dep 0 149 (by kernel_rfl) (by kernel_rfl)
  have e2 : a.tmps[150]?.getD undef = .int .i64 0:=F.dep 1 150 (by kernel_rfl) (by kernel_rfl)
  clear F
  rintro ⟨dst,op,ty,pos,af,gd⟩ rfl K Q' hK
  have HK:=Lib.hid hK
  clear hK
  go_simp
  exact HK.out _ _ ⟨Below.refl _ _,rfl⟩
 refine aB.step (Op.move (Operand.tmp 10)) (by kernel_rfl) (fun a w F=>?_) ?_
 ·have e:=(F.old 10 (by kernel_rfl)).trans h10
  clear F
  rintro ⟨dst,op,ty,pos,af,gd⟩ rfl K Q' hK
  have HK:=Lib.hid hK
  clear hK
  go_simp
  exact HK.out _ _ ⟨Below.refl _ _,rfl⟩
 refine aB.step (Op.binOp BinOp.add 28 (Operand.tmp 151) (Operand.tmp 152) 28) (by kernel_rfl) (fun a w F=>?_) ?_
 ·have e1 : a.tmps[151]?.getD undef = .int .i64 0:=F.dep 2 151 (by kernel_rfl) (by kernel_rfl)
  have e2 : a.tmps[152]?.getD undef = .int .i64 0:=F.dep 3 152 (by kernel_rfl) (by kernel_rfl)
  clear F
  rintro ⟨dst,op,ty,pos,af,gd⟩ rfl K Q' hK
  have HK:=Lib.hid hK
  clear hK
  go_simp
  exact HK.out _ _ ⟨Below.refl _ _,rfl⟩
 refine aB.step (Op.move (Operand.tmp 12)) (by kernel_rfl) (fun a w F=>?_) ?_
 ·have e:=(F.old 12 (by kernel_rfl)).trans h12
  clear F
  rintro ⟨dst,op,ty,pos,af,gd⟩ rfl K Q' hK
  have HK:=Lib.hid hK
  clear hK
  go_simp
  exact HK.out _ _ ⟨Below.refl _ _,rfl⟩
 refine aB.step (Op.binOp BinOp.add 28 (Operand.tmp 153) (Operand.tmp 154) 28) (by kernel_rfl) (fun a w F=>?_) ?_
 ·have e1 : a.tmps[153]?.getD undef = .int .i64 0:=F.dep 4 153 (by kernel_rfl) (by kernel_rfl)
  have e2 : a.tmps[154]?.getD undef = .int .i64 0:=F.dep 5 154 (by kernel_rfl) (by kernel_rfl)
  clear F
  rintro ⟨dst,op,ty,pos,af,gd⟩ rfl K Q' hK
  have HK:=Lib.hid hK
  clear hK
  go_simp
  exact HK.out _ _ ⟨Below.refl _ _,rfl⟩
 refine aB.step (Op.move (Operand.tmp 15)) (by kernel_rfl) (fun a w F=>?_) ?_
 ·have e:=(F.old 15 (by kernel_rfl)).trans h15
  clear F
  rintro ⟨dst,op,ty,pos,af,gd⟩ rfl K Q' hK
  have HK:=Lib.hid hK
  clear hK
  go_simp
  exact HK.out _ _ ⟨Below.refl _ _,rfl⟩
 refine aB.step (Op.binOp BinOp.add 28 (Operand.tmp 155) (Operand.tmp 156) 28) (by kernel_rfl) (fun a w F=>?_) ?_
 ·have e1 : a.tmps[155]?.getD undef = .int .i64 0:=F.dep 6 155 (by kernel_rfl) (by kernel_rfl)
  have e2 : a.tmps[156]?.getD undef = .int .i64 0:=F.dep 7 156 (by kernel_rfl) (by kernel_rfl)
  clear F
  rintro ⟨dst,op,ty,pos,af,gd⟩ rfl K Q' hK
  have HK:=Lib.hid hK
  clear hK
  go_simp
  exact HK.out _ _ ⟨Below.refl _ _,rfl⟩
 refine aB.step (Op.binOp BinOp.eql 28 (Operand.tmp 157) (Operand.const (Value.int IntKind.i64 0)) 28) (by kernel_rfl) (fun a w F=>?_) ?_
 ·have e : a.tmps[157]?.getD undef = .int .i64 0:=F.dep 8 157 (by kernel_rfl) (by kernel_rfl)
  clear F
  rintro ⟨dst,op,ty,pos,af,gd⟩ rfl K Q' hK
  have HK:=Lib.hid hK
  clear hK
  go_simp
  exact HK.out _ _ ⟨Below.refl _ _,rfl⟩
 refine aB.step (Op.move (Operand.tmp 158)) (by kernel_rfl) (fun a w F=>?_) ?_
 ·have e : a.tmps[158]?.getD undef = .bool true:=F.dep 9 158 (by kernel_rfl) (by kernel_rfl)
  clear F
  rintro ⟨dst,op,ty,pos,af,gd⟩ rfl K Q' hK
  have HK:=Lib.hid hK
  clear hK
  go_simp
  exact HK.out _ _ ⟨Below.refl _ _,rfl⟩
 refine aB.stepIf (Op.load 26 (Operand.tmp 4)) 10 159 true (by kernel_rfl) (by kernel_rfl) (by kernel_rfl) (fun v w h=>h) (fun a w F=>?_) ?_
 ·have e:=(F.old 4 (by kernel_rfl)).trans h4
  obtain ⟨a1,n1,c1,b1,m1,l1,hg,hL,hR⟩:=B4.below F.bw
  obtain ⟨p0,p1,-,-⟩:=row2 hg
  clear F
  rintro ⟨dst,op,ty,pos,af,gd⟩ rfl K Q' hK
  have HK:=Lib.hid hK
  have HL:=Lib.hid hL
  have HR:=Lib.hid hR
  clear hK hg hL hR
  go_simp
  exact HK.out _ _ ⟨Below.refl _ _,_,_,_,_,_,_,rfl,HL.out,HR.out⟩
 refine aB.stepIf (Op.load 26 (Operand.tmp 6)) 10 159 true (by kernel_rfl) (by kernel_rfl) (by kernel_rfl) (fun v w h=>h) (fun a w F=>?_) ?_
 ·have e:=(F.old 6 (by kernel_rfl)).trans h6
  obtain ⟨a1,n1,c1,b1,m1,l1,hg,hL,hR⟩:=B6.below F.bw
  obtain ⟨p0,p1,-,-⟩:=row2 hg
  clear F
  rintro ⟨dst,op,ty,pos,af,gd⟩ rfl K Q' hK
  have HK:=Lib.hid hK
  have HL:=Lib.hid hL
  have HR:=Lib.hid hR
  clear hK hg hL hR
  go_simp
  exact HK.out _ _ ⟨Below.refl _ _,_,_,_,_,_,_,rfl,HL.out,HR.out⟩
 refine aB.stepIf (Op.call { callee:=Callee.value (Operand.func 13),args:=#[Operand.tmp 160,Operand.tmp 161],argTypes:=#[26,26] }) 10 159 true (by kernel_rfl) (by kernel_rfl) (by kernel_rfl) (fun v w h=>h) (fun a w F=>?_) ?_
 ·have dx : bT w L4 R4 (a.tmps[160]?.getD undef):=F.dep 11 160 (by kernel_rfl) (by kernel_rfl)
  obtain ⟨a1,n1,c1,b1,m1,l1,ex,-⟩:=id dx
  rw [ex] at dx
  have dy : bT w L4 R4 (a.tmps[161]?.getD undef):=F.dep 12 161 (by kernel_rfl) (by kernel_rfl)
  obtain ⟨a2,n2,c2,b2,m2,l2,ey,-⟩:=id dy
  rw [ey] at dy
  clear F
  rintro ⟨dst,op,ty,pos,af,gd⟩ rfl K Q' hK
  have HK:=Lib.hid hK
  have DX:=Lib.hid dx
  have DY:=Lib.hid dy
  clear hK dx dy
  go_simp
  go_at_call 13
  refine (fZ _ _ _ _ _ _ _ DX.out DY.out).mono ?_
  rintro e w1 ⟨rfl,hb⟩
  exact HK.out _ _ ⟨hb,congrArg Value.bool (eB _ _)⟩
 refine aB.step (Op.pick (Operand.tmp 159) (Operand.tmp 162) (Operand.const (Value.bool false))) (by kernel_rfl) (fun a w F=>?_) ?_
 ·have e1 : a.tmps[159]?.getD undef = .bool true:=F.dep 10 159 (by kernel_rfl) (by kernel_rfl)
  have e2 : a.tmps[162]?.getD undef = .bool true:=F.dep 13 162 (by kernel_rfl) (by kernel_rfl)
  clear F
  rintro ⟨dst,op,ty,pos,af,gd⟩ rfl K Q' hK
  have HK:=Lib.hid hK
  clear hK
  go_simp
  exact HK.out _ _ ⟨Below.refl _ _,rfl⟩
 refine aB.step (Op.move (Operand.tmp 163)) (by kernel_rfl) (fun a w F=>?_) ?_
 ·have e : a.tmps[163]?.getD undef = .bool true:=F.dep 14 163 (by kernel_rfl) (by kernel_rfl)
  clear F
  rintro ⟨dst,op,ty,pos,af,gd⟩ rfl K Q' hK
  have HK:=Lib.hid hK
  clear hK
  go_simp
  exact HK.out _ _ ⟨Below.refl _ _,rfl⟩
 refine aB.stepIf (Op.move (Operand.tmp 7)) 15 164 true (by kernel_rfl) (by kernel_rfl) (by kernel_rfl) (fun v w h=>h) (fun a w F=>?_) ?_
 ·have e:=(F.old 7 (by kernel_rfl)).trans h7
  clear F
  rintro ⟨dst,op,ty,pos,af,gd⟩ rfl K Q' hK
  have HK:=Lib.hid hK
  clear hK
  go_simp
  exact HK.out _ _ ⟨Below.refl _ _,rfl⟩
 refine aB.step (Op.pick (Operand.tmp 164) (Operand.tmp 165) (Operand.const (Value.bool false))) (by kernel_rfl) (fun a w F=>?_) ?_
 ·have e1 : a.tmps[164]?.getD undef = .bool true:=F.dep 15 164 (by kernel_rfl) (by kernel_rfl)
  have e2 : a.tmps[165]?.getD undef = .bool true:=F.dep 16 165 (by kernel_rfl) (by kernel_rfl)
  clear F
  rintro ⟨dst,op,ty,pos,af,gd⟩ rfl K Q' hK
  have HK:=Lib.hid hK
  clear hK
  go_simp
  exact HK.out _ _ ⟨Below.refl _ _,rfl⟩
 refine aB.step (Op.move (Operand.tmp 166)) (by kernel_rfl) (fun a w F=>?_) ?_
 ·have e : a.tmps[166]?.getD undef = .bool true:=F.dep 17 166 (by kernel_rfl) (by kernel_rfl)
  clear F
  rintro ⟨dst,op,ty,pos,af,gd⟩ rfl K Q' hK
  have HK:=Lib.hid hK
  clear hK
  go_simp
  exact HK.out _ _ ⟨Below.refl _ _,rfl⟩
 refine aB.stepIf (Op.move (Operand.tmp 9)) 18 167 true (by kernel_rfl) (by kernel_rfl) (by kernel_rfl) (fun v w h=>h) (fun a w F=>?_) ?_
 ·have e:=(F.old 9 (by kernel_rfl)).trans h9
  clear F
  rintro ⟨dst,op,ty,pos,af,gd⟩ rfl K Q' hK
  have HK:=Lib.hid hK
  clear hK
  go_simp
  exact HK.out _ _ ⟨Below.refl _ _,rfl⟩
 refine aB.stepIf (Op.unOp UnOp.not 4 (Operand.tmp 168)) 18 167 true (by kernel_rfl) (by kernel_rfl) (by kernel_rfl) (fun v w h=>h) (fun a w F=>?_) ?_
 ·have e : a.tmps[168]?.getD undef = .bool false:=F.dep 19 168 (by kernel_rfl) (by kernel_rfl)
  clear F
  rintro ⟨dst,op,ty,pos,af,gd⟩ rfl K Q' hK
  have HK:=Lib.hid hK
  clear hK
  go_simp
  exact HK.out _ _ ⟨Below.refl _ _,rfl⟩
 refine aB.step (Op.pick (Operand.tmp 167) (Operand.tmp 169) (Operand.const (Value.bool false))) (by kernel_rfl) (fun a w F=>?_) ?_
 ·have e1 : a.tmps[167]?.getD undef = .bool true:=F.dep 18 167 (by kernel_rfl) (by kernel_rfl)
  have e2 : a.tmps[169]?.getD undef = .bool true:=F.dep 20 169 (by kernel_rfl) (by kernel_rfl)
  clear F
  rintro ⟨dst,op,ty,pos,af,gd⟩ rfl K Q' hK
  have HK:=Lib.hid hK
  clear hK
  go_simp
  exact HK.out _ _ ⟨Below.refl _ _,rfl⟩
 refine aB.step (Op.move (Operand.tmp 170)) (by kernel_rfl) (fun a w F=>?_) ?_
 ·have e : a.tmps[170]?.getD undef = .bool true:=F.dep 21 170 (by kernel_rfl) (by kernel_rfl)
  clear F
  rintro ⟨dst,op,ty,pos,af,gd⟩ rfl K Q' hK
  have HK:=Lib.hid hK
  clear hK
  go_simp
  exact HK.out _ _ ⟨Below.refl _ _,rfl⟩
 refine aB.stepIf (Op.move (Operand.tmp 11)) 22 171 true (by kernel_rfl) (by kernel_rfl) (by kernel_rfl) (fun v w h=>h) (fun a w F=>?_) ?_
 ·have e:=(F.old 11 (by kernel_rfl)).trans h11
  clear F
  rintro ⟨dst,op,ty,pos,af,gd⟩ rfl K Q' hK
  have HK:=Lib.hid hK
  clear hK
  go_simp
  exact HK.out _ _ ⟨Below.refl _ _,rfl⟩
 refine aB.stepIf (Op.unOp UnOp.not 4 (Operand.tmp 172)) 22 171 true (by kernel_rfl) (by kernel_rfl) (by kernel_rfl) (fun v w h=>h) (fun a w F=>?_) ?_
 ·have e : a.tmps[172]?.getD undef = .bool false:=F.dep 23 172 (by kernel_rfl) (by kernel_rfl)
  clear F
  rintro ⟨dst,op,ty,pos,af,gd⟩ rfl K Q' hK
  have HK:=Lib.hid hK
  clear hK
  go_simp
  exact HK.out _ _ ⟨Below.refl _ _,rfl⟩
 refine aB.step (Op.pick (Operand.tmp 171) (Operand.tmp 173) (Operand.const (Value.bool false))) (by kernel_rfl) (fun a w F=>?_) ?_
 ·have e1 : a.tmps[171]?.getD undef = .bool true:=F.dep 22 171 (by kernel_rfl) (by kernel_rfl)
  have e2 : a.tmps[173]?.getD undef = .bool true:=F.dep 24 173 (by kernel_rfl) (by kernel_rfl)
  clear F
  rintro ⟨dst,op,ty,pos,af,gd⟩ rfl K Q' hK
  have HK:=Lib.hid hK
  clear hK
  go_simp
  exact HK.out _ _ ⟨Below.refl _ _,rfl⟩
 refine aB.step (Op.move (Operand.tmp 174)) (by kernel_rfl) (fun a w F=>?_) ?_
 ·have e : a.tmps[174]?.getD undef = .bool true:=F.dep 25 174 (by kernel_rfl) (by kernel_rfl)
  clear F
  rintro ⟨dst,op,ty,pos,af,gd⟩ rfl K Q' hK
  have HK:=Lib.hid hK
  clear hK
  go_simp
  exact HK.out _ _ ⟨Below.refl _ _,rfl⟩
 refine aB.stepIf (Op.load 26 (Operand.tmp 14)) 26 175 true (by kernel_rfl) (by kernel_rfl) (by kernel_rfl) (fun v w h=>h) (fun a w F=>?_) ?_
 ·have e:=(F.old 14 (by kernel_rfl)).trans h14
  obtain ⟨a1,n1,c1,b1,m1,l1,hg,hL,hR⟩:=B14.below F.bw
  obtain ⟨p0,p1,-,-⟩:=row2 hg
  clear F
  rintro ⟨dst,op,ty,pos,af,gd⟩ rfl K Q' hK
  have HK:=Lib.hid hK
  have HL:=Lib.hid hL
  have HR:=Lib.hid hR
  clear hK hg hL hR
  go_simp
  exact HK.out _ _ ⟨Below.refl _ _,_,_,_,_,_,_,rfl,HL.out,HR.out⟩
 refine aB.stepIf (Op.load 40 (Operand.tmp 1)) 26 175 true (by kernel_rfl) (by kernel_rfl) (by kernel_rfl) (fun v w h=>h) (fun a w F=>?_) ?_
 ·have e:=(F.old 1 (by kernel_rfl)).trans h1
  obtain ⟨⟨p0,p1,p2,p3⟩,-⟩:=aJ (kc F.bw HA.c1)
  clear F
  rintro ⟨dst,op,ty,pos,af,gd⟩ rfl K Q' hK
  have HK:=Lib.hid hK
  clear hK
  go_simp
  exact HK.out _ _ ⟨Below.refl _ _,rfl⟩
 refine aB.stepIf (Op.load 40 (Operand.tmp 3)) 26 175 true (by kernel_rfl) (by kernel_rfl) (by kernel_rfl) (fun v w h=>h) (fun a w F=>?_) ?_
 ·have e:=(F.old 3 (by kernel_rfl)).trans h3
  obtain ⟨⟨p0,p1,p2,p3⟩,-⟩:=aJ (kc F.bw HA.c3)
  clear F
  rintro ⟨dst,op,ty,pos,af,gd⟩ rfl K Q' hK
  have HK:=Lib.hid hK
  clear hK
  go_simp
  exact HK.out _ _ ⟨Below.refl _ _,rfl⟩
 refine aB.stepIf (Op.buildSlice 24 2 #[(0,Operand.tmp 177),(1,Operand.tmp 178)]) 26 175 true (by kernel_rfl) (by kernel_rfl) (by kernel_rfl) (fun v w h=>h) (fun a w F=>?_) ?_
 ·have ex : a.tmps[177]?.getD undef = .agg #[.int .u8 1,str [80],.slice none 0 0,.slice none 0 0]:=F.dep 28 177 (by kernel_rfl) (by kernel_rfl)
  have dx:=fA w [80]
  have ey : a.tmps[178]?.getD undef = .agg #[.int .u8 1,str [82],.slice none 0 0,.slice none 0 0]:=F.dep 29 178 (by kernel_rfl) (by kernel_rfl)
  have dy:=fA w [82]
  clear F
  rintro ⟨dst,op,ty,pos,af,gd⟩ rfl K Q' hK
  have HK:=Lib.hid hK
  have Dx:=Lib.hid dx
  have Dy:=Lib.hid dy
  clear hK dx dy
  go_simp
  exact HK.out _ _ ⟨aT _ _,kK Dx.out Dy.out⟩
 refine aB.stepIf (Op.call { callee:=Callee.value (Operand.func 17),args:=#[Operand.const (Value.int IntKind.u8 4),Operand.tmp 179],argTypes:=#[5,24] }) 26 175 true (by kernel_rfl) (by kernel_rfl) (by kernel_rfl) (fun v w h=>h) (fun a w F=>?_) ?_
 ·have dx : aL w [Fm.mk 1 [80] [] [],Fm.mk 1 [82] [] []] (a.tmps[179]?.getD undef):=F.dep 30 179 (by kernel_rfl) (by kernel_rfl)
  obtain ⟨ax,cx,ex,-⟩:=At.sl_inv dx
  rw [ex] at dx
  clear F
  rintro ⟨dst,op,ty,pos,af,gd⟩ rfl K Q' hK
  have HK:=Lib.hid hK
  have DX:=Lib.hid dx
  clear hK dx
  go_simp
  go_at_call 17
  refine (fT 4 [Fm.mk 1 [80] [] [],Fm.mk 1 [82] [] []] _ _ _ _ DX.out).mono ?_
  rintro e w1 ⟨v,rfl,hv,hb⟩
  exact HK.out _ _ ⟨hb,hv⟩
 refine aB.stepIf (Op.buildSlice 24 1 #[(0,Operand.tmp 180)]) 26 175 true (by kernel_rfl) (by kernel_rfl) (by kernel_rfl) (fun v w h=>h) (fun a w F=>?_) ?_
 ·have dx : bH w (Fm.mk 4 [] [] [Fm.mk 1 [80] [] [],Fm.mk 1 [82] [] []]) (a.tmps[180]?.getD undef):=F.dep 31 180 (by kernel_rfl) (by kernel_rfl)
  obtain ⟨ix,nx,cx,jx,mx,lx,ex,-⟩:=id dx
  rw [ex] at dx
  clear F
  rintro ⟨dst,op,ty,pos,af,gd⟩ rfl K Q' hK
  have HK:=Lib.hid hK
  have Dx:=Lib.hid dx
  clear hK dx
  go_simp
  exact HK.out _ _ ⟨aT _ _,kJ Dx.out⟩
 refine aB.stepIf (Op.call { callee:=Callee.value (Operand.func 21),args:=#[Operand.tmp 181],argTypes:=#[24] }) 26 175 true (by kernel_rfl) (by kernel_rfl) (by kernel_rfl) (fun v w h=>h) (fun a w F=>?_) ?_
 ·have dx : aL w [(Fm.mk 4 [] [] [Fm.mk 1 [80] [] [],Fm.mk 1 [82] [] []])] (a.tmps[181]?.getD undef):=F.dep 32 181 (by kernel_rfl) (by kernel_rfl)
  obtain ⟨ax,cx,ex,-⟩:=At.sl_inv dx
  rw [ex] at dx
  clear F
  rintro ⟨dst,op,ty,pos,af,gd⟩ rfl K Q' hK
  have HK:=Lib.hid hK
  have DX:=Lib.hid dx
  clear hK dx
  go_simp
  go_at_call 21
  refine (fs_c _ _).mono ?_
  rintro e w1 ⟨rfl,rfl⟩
  exact HK.out _ _ ⟨Below.refl _ _,DX.out⟩
 refine aB.stepIf (Op.call { callee:=Callee.value (Operand.func 20),args:=#[Operand.const (Value.slice none 0 0),Operand.tmp 182],argTypes:=#[24,24] }) 26 175 true (by kernel_rfl) (by kernel_rfl) (by kernel_rfl) (fun v w h=>h) (fun a w F=>?_) ?_
 ·have dy : aL w [(Fm.mk 4 [] [] [Fm.mk 1 [80] [] [],Fm.mk 1 [82] [] []])] (a.tmps[182]?.getD undef):=F.dep 33 182 (by kernel_rfl) (by kernel_rfl)
  obtain ⟨ay,cy,ey,-⟩:=At.sl_inv dy
  rw [ey] at dy
  clear F
  rintro ⟨dst,op,ty,pos,af,gd⟩ rfl K Q' hK
  have HK:=Lib.hid hK
  have DY:=Lib.hid dy
  clear hK dy
  go_simp
  go_at_call 20
  refine (sq_c _ _ _ _ _ _ _).mono ?_
  rintro e w1 ⟨rfl,hb⟩
  exact HK.out _ _ ⟨hb,_,_,_,_,_,_,rfl,At.sl_nil (Nat.zero_le _),(DY.out).keep (aA hb)⟩
 refine aB.stepIf (Op.call { callee:=Callee.value (Operand.func 13),args:=#[Operand.tmp 176,Operand.tmp 183],argTypes:=#[26,26] }) 26 175 true (by kernel_rfl) (by kernel_rfl) (by kernel_rfl) (fun v w h=>h) (fun a w F=>?_) ?_
 ·have dx : bT w [] [(Fm.mk 4 [] [] [Fm.mk 1 [80] [] [],Fm.mk 1 [82] [] []])] (a.tmps[176]?.getD undef):=F.dep 27 176 (by kernel_rfl) (by kernel_rfl)
  obtain ⟨a1,n1,c1,b1,m1,l1,ex,-⟩:=id dx
  rw [ex] at dx
  have dy : bT w [] [(Fm.mk 4 [] [] [Fm.mk 1 [80] [] [],Fm.mk 1 [82] [] []])] (a.tmps[183]?.getD undef):=F.dep 34 183 (by kernel_rfl) (by kernel_rfl)
  obtain ⟨a2,n2,c2,b2,m2,l2,ey,-⟩:=id dy
  rw [ey] at dy
  clear F
  rintro ⟨dst,op,ty,pos,af,gd⟩ rfl K Q' hK
  have HK:=Lib.hid hK
  have DX:=Lib.hid dx
  have DY:=Lib.hid dy
  clear hK dx dy
  go_simp
  go_at_call 13
  refine (fZ _ _ _ _ _ _ _ DX.out DY.out).mono ?_
  rintro e w1 ⟨rfl,hb⟩
  exact HK.out _ _ ⟨hb,congrArg Value.bool (eB _ _)⟩
 refine aB.step (Op.pick (Operand.tmp 175) (Operand.tmp 184) (Operand.const (Value.bool false))) (by kernel_rfl) (fun a w F=>?_) ?_
 ·have e1 : a.tmps[175]?.getD undef = .bool true:=F.dep 26 175 (by kernel_rfl) (by kernel_rfl)
  have e2 : a.tmps[184]?.getD undef = .bool true:=F.dep 35 184 (by kernel_rfl) (by kernel_rfl)
  clear F
  rintro ⟨dst,op,ty,pos,af,gd⟩ rfl K Q' hK
  have HK:=Lib.hid hK
  clear hK
  go_simp
  exact HK.out _ _ ⟨Below.refl _ _,rfl⟩
 refine aB.step (Op.move (Operand.tmp 185)) (by kernel_rfl) (fun a w F=>?_) ?_
 ·have e : a.tmps[185]?.getD undef = .bool true:=F.dep 36 185 (by kernel_rfl) (by kernel_rfl)
  clear F
  rintro ⟨dst,op,ty,pos,af,gd⟩ rfl K Q' hK
  have HK:=Lib.hid hK
  clear hK
  go_simp
  exact HK.out _ _ ⟨Below.refl _ _,rfl⟩
 refine aB.stepIf (Op.move (Operand.tmp 17)) 37 186 true (by kernel_rfl) (by kernel_rfl) (by kernel_rfl) (fun v w h=>h) (fun a w F=>?_) ?_
 ·have e:=(F.old 17 (by kernel_rfl)).trans h17
  clear F
  rintro ⟨dst,op,ty,pos,af,gd⟩ rfl K Q' hK
  have HK:=Lib.hid hK
  clear hK
  go_simp
  exact HK.out _ _ ⟨Below.refl _ _,rfl⟩
 refine aB.stepIf (Op.binOp BinOp.eql 28 (Operand.tmp 187) (Operand.const (Value.int IntKind.i64 300)) 28) 37 186 true (by kernel_rfl) (by kernel_rfl) (by kernel_rfl) (fun v w h=>h) (fun a w F=>?_) ?_
 ·have e : a.tmps[187]?.getD undef = .int .i64 300:=F.dep 38 187 (by kernel_rfl) (by kernel_rfl)
  clear F
  rintro ⟨dst,op,ty,pos,af,gd⟩ rfl K Q' hK
  have HK:=Lib.hid hK
  clear hK
  go_simp
  exact HK.out _ _ ⟨Below.refl _ _,rfl⟩
 refine aB.step (Op.pick (Operand.tmp 186) (Operand.tmp 188) (Operand.const (Value.bool false))) (by kernel_rfl) (fun a w F=>?_) ?_
 ·have e1 : a.tmps[186]?.getD undef = .bool true:=F.dep 37 186 (by kernel_rfl) (by kernel_rfl)
  have e2 : a.tmps[188]?.getD undef = .bool true:=F.dep 39 188 (by kernel_rfl) (by kernel_rfl)
  clear F
  rintro ⟨dst,op,ty,pos,af,gd⟩ rfl K Q' hK
  have HK:=Lib.hid hK
  clear hK
  go_simp
  exact HK.out _ _ ⟨Below.refl _ _,rfl⟩
 refine aB.step (Op.move (Operand.tmp 189)) (by kernel_rfl) (fun a w F=>?_) ?_
 ·have e : a.tmps[189]?.getD undef = .bool true:=F.dep 40 189 (by kernel_rfl) (by kernel_rfl)
  clear F
  rintro ⟨dst,op,ty,pos,af,gd⟩ rfl K Q' hK
  have HK:=Lib.hid hK
  clear hK
  go_simp
  exact HK.out _ _ ⟨Below.refl _ _,rfl⟩
 refine aB.stepIf (Op.move (Operand.tmp 19)) 41 190 true (by kernel_rfl) (by kernel_rfl) (by kernel_rfl) (fun v w h=>h) (fun a w F=>?_) ?_
 ·have e:=(F.old 19 (by kernel_rfl)).trans h19
  clear F
  rintro ⟨dst,op,ty,pos,af,gd⟩ rfl K Q' hK
  have HK:=Lib.hid hK
  clear hK
  go_simp
  exact HK.out _ _ ⟨Below.refl _ _,rfl⟩
 refine aB.stepIf (Op.binOp BinOp.eql 28 (Operand.tmp 191) (Operand.const (Value.int IntKind.i64 6)) 28) 41 190 true (by kernel_rfl) (by kernel_rfl) (by kernel_rfl) (fun v w h=>h) (fun a w F=>?_) ?_
 ·have e : a.tmps[191]?.getD undef = .int .i64 6:=F.dep 42 191 (by kernel_rfl) (by kernel_rfl)
  clear F
  rintro ⟨dst,op,ty,pos,af,gd⟩ rfl K Q' hK
  have HK:=Lib.hid hK
  clear hK
  go_simp
  exact HK.out _ _ ⟨Below.refl _ _,rfl⟩
 refine aB.step (Op.pick (Operand.tmp 190) (Operand.tmp 192) (Operand.const (Value.bool false))) (by kernel_rfl) (fun a w F=>?_) ?_
 ·have e1 : a.tmps[190]?.getD undef = .bool true:=F.dep 41 190 (by kernel_rfl) (by kernel_rfl)
  have e2 : a.tmps[192]?.getD undef = .bool true:=F.dep 43 192 (by kernel_rfl) (by kernel_rfl)
  clear F
  rintro ⟨dst,op,ty,pos,af,gd⟩ rfl K Q' hK
  have HK:=Lib.hid hK
  clear hK
  go_simp
  exact HK.out _ _ ⟨Below.refl _ _,rfl⟩
 refine aB.step (Op.assign (Operand.tmp 193)) (by kernel_rfl) (fun a w F=>?_) ?_
 ·have e : a.tmps[193]?.getD undef = .bool true:=F.dep 44 193 (by kernel_rfl) (by kernel_rfl)
  clear F
  rintro ⟨dst,op,ty,pos,af,gd⟩ rfl K Q' hK
  have HK:=Lib.hid hK
  clear hK
  go_simp
  exact HK.out _ _ ⟨Below.refl _ _,rfl⟩
 exact aB.nil
end Go.Proofs.YtppfalbnhnpbnaaGreatDoor
namespace Go.Proofs.YtppfalbnhnpbnaaGreatDoor
open Go Go.RowKit Ly
set_option maxRecDepth 10000
theorem AY {w : World} {t : Tm} {v : Bool} {nm : Bs} {a : Option Addr} {n c : Nat} (h : dR w t (.agg #[.bool v,str nm,.slice a n c])) :
  bE (w.alloc (.cells #[.bool v,str nm,.slice a n c] 38)) [t] (.slice (some ⟨w.heap.size,0,none⟩) 1 1):=by
 obtain ⟨a',n',c',e,h1⟩:=h
 simp only [Value.agg.injEq,Array.mk.injEq,List.cons.injEq,Value.bool.injEq,and_true,true_and] at e
 obtain ⟨rfl,e1,e2⟩:=e
 rw [← e2] at h1
 exact vI (t:=t) (by rw [← e1];exact heap_alloc_new w _) (h1.keep (aA (aT _ _)))
theorem AZ {w : World} {t t' : Tm} {v v' : Bool} {nm nm' : Bs} {a a' : Option Addr} {n c n' c' : Nat} (h : dR w t (.agg #[.bool v,str nm,.slice a n c])) (h' : dR w t' (.agg #[.bool v',str nm',.slice a' n' c'])) :
  bE (w.alloc (.cells #[.bool v,str nm,.slice a n c,.bool v',str nm',.slice a' n' c'] 38)) [t,t'] (.slice (some ⟨w.heap.size,0,none⟩) 2 2):=by
 obtain ⟨b,k,d,e,h1⟩:=h
 simp only [Value.agg.injEq,Array.mk.injEq,List.cons.injEq,Value.bool.injEq,and_true,true_and] at e
 obtain ⟨rfl,e1,e2⟩:=e
 rw [← e2] at h1
 obtain ⟨b',k',d',e,h1'⟩:=h'
 simp only [Value.agg.injEq,Array.mk.injEq,List.cons.injEq,Value.bool.injEq,and_true,true_and] at e
 obtain ⟨rfl,e1',e2⟩:=e
 rw [← e2] at h1'
 exact yT (t:=t) (t':=t') (by rw [← e1,← e1'];exact heap_alloc_new w _) (h1.keep (aA (aT _ _))) (h1'.keep (aA (aT _ _)))
theorem vJ (w : World) (nm : Bs) : dR w (.mk true nm []) (.agg #[.bool true,str nm,.slice none 0 0]):=⟨none,0,0,rfl,At.sl_nil (Nat.zero_le _)⟩
theorem three_blocks (w : World) (a b c : Obj) : (((w.alloc a).alloc b).alloc c).heap[w.heap.size]? = some a ∧ (((w.alloc a).alloc b).alloc c).heap[w.heap.size + 1]? = some b ∧ (((w.alloc a).alloc b).alloc c).heap[w.heap.size + 1 + 1]? = some c:=by
 refine ⟨aI _ (aI _ (heap_alloc_new w _)), ?_, ?_⟩
 ·have:=heap_alloc_new (w.alloc a) b
  rw [World.size_alloc] at this
  exact aI _ this
 ·have:=heap_alloc_new ((w.alloc a).alloc b) c
  rw [World.size_alloc,World.size_alloc] at this
  exact this
theorem cA (p : Nat → Bool) (w : World) (o : Obj) : bR (hide p w) (w.alloc o):=fun a v h=>by
 rw [cV (eX h)] at h
 exact aA (aT w o) a v h
theorem cM.mk {g : Nat} {L R : List Fm} {w : World} {a b : Option Addr} {n c m d : Nat} (h0 : w.heap[g]? = some (.cells #[.slice a n c,.slice b m d] 26 (0,0))) (h1 : aL w L (.slice a n c)) (h2 : aL w R (.slice b m d)) : cM g L R w:=⟨_,_,_,_,_,_,h0,h1,h2⟩
def awC1 : List Fm:=[.mk 6 [] [] [.mk 1 [80,48,49] [] [],.mk 1 [80,48,50] [] []]]
theorem ren8 (x : Value) (w : World) (hr : cZ w) (hx : bT w [] [.mk 4 [] [] [aP,aQ]] x) : Calls Tryz.prog 29 #[x,.agg #[str [81],.int .i64 0],.agg #[str [82],.int .i64 0]] w (RetR [] [.mk 4 [] [] [aP,aR]] 0 w):=by
 have h:=mJ [] [.mk 4 [] [] [aP,aQ]] x w hr hx (gU (by kernel_rfl)) [81] [82] 0 (by kernel_rfl) (by kernel_rfl) (by decide)
 have e : renS [] [.mk 4 [] [] [aP,aQ]] [81] [82] 0 = ([],[.mk 4 [] [] [aP,aR]],0):=by kernel_rfl
 rw [e] at h
 exact h
theorem ren9 (x : Value) (w : World) (hr : cZ w) (hx : bT w [] [.mk 4 [] [] [aP,aQ]] x) : Calls Tryz.prog 29 #[x,.agg #[str [81],.int .i64 0],.agg #[str [80],.int .i64 0]] w (RetR [] [] 300 w):=by
 have h:=mJ [] [.mk 4 [] [] [aP,aQ]] x w hr hx (gU (by kernel_rfl)) [81] [80] 0 (by kernel_rfl) (by kernel_rfl) (by decide)
 have e : renS [] [.mk 4 [] [] [aP,aQ]] [81] [80] 0 = ([],[],300):=by kernel_rfl
 rw [e] at h
 exact h
theorem ren10 (x : Value) (w : World) (hr : cZ w) (hx : bT w [] [.mk 4 [] [] [aP,aQ]] x) : Calls Tryz.prog 29 #[x,.agg #[str [82],.int .i64 0],.agg #[str [83],.int .i64 0]] w (RetR [] [] 6 w):=by
 have h:=mJ [] [.mk 4 [] [] [aP,aQ]] x w hr hx (gU (by kernel_rfl)) [82] [83] 0 (by kernel_rfl) (by kernel_rfl) (by decide)
 have e : renS [] [.mk 4 [] [] [aP,aQ]] [82] [83] 0 = ([],[],6):=by kernel_rfl
 rw [e] at h
 exact h
set_option maxHeartbeats 8000000 in
theorem awake_c (w : World) (hr : cZ w) (hp : cU w) : Calls Tryz.prog 9 #[] w fun e w'=>e = .returned (.bool true) ∧ Below w.heap.size w w':=by
 have HR:=Lib.hid hr
 have HP:=Lib.hid hp
 clear hr hp
 have OK1 : Hid (okSq [.mk 6 [] [] [aQ,aR]] [aS]):=gU (by kernel_rfl)
 go_enter Tryz.func9,Tryz.ntmps9
 go_upto_region 1 with fail
 go_cut [1,2,3] from 20 to 22 (fun u1 u2 u3 wx=>∃ g1 g2 g3,u1 = one g1 ∧ u2 = one g2 ∧ u3 = one g3 ∧ Hid (Below w.heap.size w wx ∧ AwV g1 g2 g3 wx))
 case first =>
  go_wp2_with (first
   | (have Z:=B2.out;clear Z;go_at_call 18;refine (eA _ _ _ _ _).mono ?_;rintro e w3 ⟨rfl,b3⟩;have B3:=Lib.hid b3;clear b3)
   | (have Z:=B1.out;clear Z;go_at_call 18;refine (eA _ _ _ _ _).mono ?_;rintro e w2 ⟨rfl,b2⟩;have B2:=Lib.hid b2;clear b2)
   | (go_at_call 18;refine (eA _ _ _ _ _).mono ?_;rintro e w1 ⟨rfl,b1⟩;have B1:=Lib.hid b1;clear b1))
  go_meet
  obtain ⟨s1,s2,s3⟩:=three_blocks w3 (.cells #[.int .u8 1,str [80],.slice none 0 0,.slice none 0 0] 40) (.cells #[.int .u8 1,str [81],.slice none 0 0,.slice none 0 0] 40) (.cells #[.int .u8 1,str [82],.slice none 0 0,.slice none 0 0] 40)
  exact ⟨_,_,_,rfl,rfl,rfl,aE (aE (aE B1.out B2.out) B3.out) ((((Below.refl _ _).alloc (Nat.le_refl _) _).alloc (by simp) _).alloc (by simp;omega) _),s1,s2,s3⟩
 case rest =>
 obtain ⟨g1,g2,g3,rfl,rfl,rfl,A⟩:=hcut
 obtain ⟨⟨q0,q1,q2,q3⟩,-⟩:=aJ A.out.2.c2
 obtain ⟨⟨r0,r1,r2,r3⟩,-⟩:=aJ A.out.2.c3
 go_upto_region 2 with fail
 go_cut [4,5] from 23 to 42 (fun u4 u5 wx=>∃ g4,u4 = one g4 ∧ u5 = .int .i64 0 ∧ Hid (Below wc.heap.size wc wx ∧ cM g4 awC1 [aW] wx))
 case first =>
  go_wp2_with (first
   | (
     have Z:=N7.out;clear Z;go_at_call 11
     refine (Of_c [.mk 6 [] [] [aQ,aR]] [aS] _ _ (HR.out.keep (aA (aE A.out.1 N7.out.1))) (HP.out.below (aE A.out.1 N7.out.1)) N7.out.2 OK1.out.1 OK1.out.2.1 OK1.out.2.2.1 OK1.out.2.2.2).mono ?_
     rw [aw1]
     rintro e w8 ⟨xa,xn,xc,xb,xm,xd,rfl,h1,h2,b8⟩
     have N8:=Lib.hid (And.intro (aE N7.out.1 b8) (And.intro h1 h2))
     clear h1 h2 b8)
   | (
     have Z:=N6.out;clear Z;go_at_call 20
     refine (sq_c _ _ _ _ _ _ _).mono ?_
     rintro e w7 ⟨rfl,b7⟩
     have N7:=Lib.hid (And.intro (aE N6.out.1 (cC b7)) (show bT w7 [.mk 6 [] [] [aQ,aR]] [aS] _ from ⟨_,_,_,_,_,_,rfl,N6.out.2.1.keep (aA (cC b7)),(kJ N6.out.2.2).keep (aA b7)⟩))
     clear b7)
   | (have Z:=N6.out;clear Z;go_at_call 21;refine (fs_c _ _).mono ?_;rintro e w1 ⟨rfl,rfl⟩)
   | (
     have Z:=N5.out;clear Z;go_at_call 32
     refine (tE 9 [121] (.mk 1 [83] [.mk true [121] [],.mk false [102] [.mk true [122] []]] []) _ _ N5.out.2.2).mono ?_
     rintro e w6 ⟨v6,rfl,h6,b6⟩
     obtain ⟨xa,xn,xc,xb,xm,xd,rfl,-⟩:=id h6
     have N6:=Lib.hid (And.intro (aE N5.out.1 b6) (And.intro (N5.out.2.1.keep (aA b6)) h6))
     clear h6 b6)
   | (
     have Z:=N4.out;clear Z;go_at_call 18
     refine (vQ [83] [.mk true [121] [],.mk false [102] [.mk true [122] []]] _ _ _ _ (AZ (vJ _ _) N4.out.2.2)).mono ?_
     rintro e w5 ⟨v5,rfl,h5,b5⟩
     obtain ⟨xa,xn,xc,xb,xm,xd,rfl,-⟩:=id h5
     have N5:=Lib.hid (And.intro (aE N4.out.1 (cC b5)) (And.intro (N4.out.2.1.keep (aA (cC b5))) h5))
     clear h5 b5)
   | (
     have Z:=N3.out;clear Z;go_at_call 34
     refine (tA [102] [.mk true [122] []] _ _ _ _ (AY (vJ _ _))).mono ?_
     rintro e w4 ⟨v4,rfl,h4,b4⟩
     obtain ⟨xa,xn,xc,rfl,-⟩:=id h4
     have N4:=Lib.hid (And.intro (aE N3.out.1 (cC b4)) (And.intro (N3.out.2.keep (aA (cC b4))) h4))
     clear h4 b4)
   | (
     have Z:=N2.out;clear Z;go_at_call 33
     refine (eV _ _).mono ?_
     rintro e w3 ⟨rfl,b3⟩
     have N3:=Lib.hid (And.intro (aE N2.out.1 b3) (N2.out.2.keep (aA b3)))
     clear b3)
   | (
     have Z:=N1.out;clear Z;go_at_call 33
     refine (eV _ _).mono ?_
     rintro e w2 ⟨rfl,b2⟩
     have N2:=Lib.hid (And.intro (aE N1.out.1 (cC b2)) ((kJ N1.out.2).keep (aA b2)))
     clear b2)
   | (have Z:=N1.out;clear Z;go_at_call 21;refine (fs_c _ _).mono ?_;rintro e w1' ⟨rfl,rfl⟩)
   | (
     go_at_call 17
     refine (fT 6 [aQ,aR] _ _ _ _ (kK (fA _ [81]) (fA _ [82]))).mono ?_
     rintro e w1 ⟨v1,rfl,h1,b1⟩
     obtain ⟨xa,xn,xc,xb,xm,xd,rfl,-⟩:=id h1
     have N1:=Lib.hid (And.intro (cC b1) h1)
     clear h1 b1))
  go_meet
  exact ⟨_,rfl,rfl,aE N8.out.1 (aT _ _),cM.mk (heap_alloc_new _ _) (N8.out.2.1.keep (cA _ _ _)) (N8.out.2.2.keep (cA _ _ _))⟩
 case rest =>
 obtain ⟨g4,rfl,rfl,S4⟩:=hcut
 have A2:=Lib.hid (And.intro (aE A.out.1 S4.out.1) (A.out.2.below S4.out.1))
 clear A q0 q1 q2 q3 r0 r1 r2 r3 OK1
 go_upto_region 3 with fail
 go_cut [6] from 43 to 58 (fun u6 wx=>∃ g6,u6 = one g6 ∧ Hid (Below wc.heap.size wc wx ∧ cM g6 awC1 [aW] wx))
 case first =>
  go_wp2_with (first
   | (
     have Z:=N6.out;clear Z;go_at_call 20
     refine (sq_c _ _ _ _ _ _ _).mono ?_
     rintro e w7 ⟨rfl,b7⟩
     have N7:=Lib.hid (And.intro (aE N6.out.1 (cC b7)) (And.intro (N6.out.2.1.keep (aA (cC b7))) ((kJ N6.out.2.2).keep (aA b7))))
     clear b7)
   | (have Z:=N6.out;clear Z;go_at_call 21;refine (fs_c _ _).mono ?_;rintro e w1 ⟨rfl,rfl⟩)
   | (
     have Z:=N5.out;clear Z;go_at_call 32
     refine (tE 9 [120,49] (.mk 1 [80,50,49] [.mk true [120,49] [],.mk false [97,49,49] [.mk true [117,49] []]] []) _ _ N5.out.2.2).mono ?_
     rintro e w6 ⟨v6,rfl,h6,b6⟩
     obtain ⟨xa,xn,xc,xb,xm,xd,rfl,-⟩:=id h6
     have N6:=Lib.hid (And.intro (aE N5.out.1 b6) (And.intro (N5.out.2.1.keep (aA b6)) h6))
     clear h6 b6)
   | (
     have Z:=N4.out;clear Z;go_at_call 18
     refine (vQ [80,50,49] [.mk true [120,49] [],.mk false [97,49,49] [.mk true [117,49] []]] _ _ _ _ (AZ (vJ _ _) N4.out.2.2)).mono ?_
     rintro e w5 ⟨v5,rfl,h5,b5⟩
     obtain ⟨xa,xn,xc,xb,xm,xd,rfl,-⟩:=id h5
     have N5:=Lib.hid (And.intro (aE N4.out.1 (cC b5)) (And.intro (N4.out.2.1.keep (aA (cC b5))) h5))
     clear h5 b5)
   | (
     have Z:=N3.out;clear Z;go_at_call 34
     refine (tA [97,49,49] [.mk true [117,49] []] _ _ _ _ (AY (vJ _ _))).mono ?_
     rintro e w4 ⟨v4,rfl,h4,b4⟩
     obtain ⟨xa,xn,xc,rfl,-⟩:=id h4
     have N4:=Lib.hid (And.intro (aE N3.out.1 (cC b4)) (And.intro (N3.out.2.keep (aA (cC b4))) h4))
     clear h4 b4)
   | (
     have Z:=N2.out;clear Z;go_at_call 33
     refine (eV _ _).mono ?_
     rintro e w3 ⟨rfl,b3⟩
     have N3:=Lib.hid (And.intro (aE N2.out.1 b3) (N2.out.2.keep (aA b3)))
     clear b3)
   | (
     have Z:=N1.out;clear Z;go_at_call 33
     refine (eV _ _).mono ?_
     rintro e w2 ⟨rfl,b2⟩
     have N2:=Lib.hid (And.intro (aE N1.out.1 (cC b2)) ((kJ N1.out.2).keep (aA b2)))
     clear b2)
   | (have Z:=N1.out;clear Z;go_at_call 21;refine (fs_c _ _).mono ?_;rintro e w1' ⟨rfl,rfl⟩)
   | (
     have Z:=M2.out;clear Z;go_at_call 17
     refine (fT 6 [.mk 1 [80,48,49] [] [],.mk 1 [80,48,50] [] []] _ _ _ _ (kK (fA _ [80,48,49]) (fA _ [80,48,50]))).mono ?_
     rintro e w1 ⟨v1,rfl,h1,b1⟩
     obtain ⟨xa,xn,xc,xb,xm,xd,rfl,-⟩:=id h1
     have N1:=Lib.hid (And.intro (aE M2.out (cC b1)) h1)
     clear h1 b1)
   | (have Z:=M1.out;clear Z;go_at_call 18;refine (eA _ _ _ _ _).mono ?_;rintro e w1 ⟨rfl,b1⟩;have M2:=Lib.hid (aE M1.out b1);clear b1)
   | (go_at_call 18;refine (eA _ _ _ _ _).mono ?_;rintro e w1 ⟨rfl,b1⟩;have M1:=Lib.hid b1;clear b1))
  go_meet
  exact ⟨_,rfl,aE N7.out.1 (aT _ _),cM.mk (heap_alloc_new _ _) (N7.out.2.1.keep (aA (aT _ _))) (N7.out.2.2.keep (aA (aT _ _)))⟩
 case rest =>
 obtain ⟨g6,rfl,S6⟩:=hcut
 have A3:=Lib.hid (And.intro (aE A2.out.1 S6.out.1) (A2.out.2.below S6.out.1))
 have T4:=Lib.hid (S4.out.2.below S6.out.1)
 have T6:=Lib.hid S6.out.2
 clear A2 S4 S6
 go_wp2_with fail
 refine eF aw4 (by kernel_rfl) (by kernel_rfl) (by kernel_rfl) 194 rfl (by kernel_rfl) [60,61,62,63,64,65,66,67,68,69,70,71,72,73,74,59,75,76,7,8] (by kernel_rfl) (rAt aw4R) (iF aw4_stays) [0,1,2,3,4,5,6,7,8,9,10,11,12,13,14,15,16,17,18,19] (by kernel_rfl) (aw4_steps _ _ _ g1 g2 g3 rfl rfl rfl A3.out.2 (HR.out.keep (aA A3.out.1)) (HP.out.below A3.out.1)) (fun x wy hby hx=>?_)
 have e7 : x 18 = .bool true:=hx 18 (of_decide_eq_true (by kernel_rfl))
 have e8 : x 19 = .int .i64 0:=hx 19 (of_decide_eq_true (by kernel_rfl))
 simp only [dL,List.map_cons,List.map_nil,List.setIfInBounds_toArray,List.set_cons_zero,List.set_cons_succ,e7,e8]
 have A4:=Lib.hid (And.intro (aE A3.out.1 hby) (A3.out.2.below hby))
 have U4:=Lib.hid (T4.out.below hby)
 have U6:=Lib.hid (T6.out.below hby)
 try generalize x 0 = u360
 try generalize x 1 = u361
 try generalize x 2 = u362
 try generalize x 3 = u363
 try generalize x 4 = u364
 try generalize x 5 = u365
 try generalize x 6 = u366
 try generalize x 7 = u367
 try generalize x 8 = u368
 try generalize x 9 = u369
 try generalize x 10 = u370
 try generalize x 11 = u371
 try generalize x 12 = u372
 try generalize x 13 = u373
 try generalize x 14 = u374
 try generalize x 15 = u359
 try generalize x 16 = u375
 try generalize x 17 = u376
 try generalize x 18 = u307
 try generalize x 19 = u308
 clear hx e7 e8 A3 T4 T6
 go_wp2_with fail
 refine eF aw5 (by kernel_rfl) (by kernel_rfl) (by kernel_rfl) 194 rfl (by kernel_rfl) [78,79,80,81,82,83,84,85,86,87,88,89,90,91,92,77,93,94,9,10] (by kernel_rfl) (rAt aw5R) (iF aw5_stays) [0,1,2,3,4,5,6,7,8,9,10,11,12,13,14,15,16,17,18,19] (by kernel_rfl) (aw5_steps _ _ _ g1 g2 g3 rfl rfl rfl A4.out.2 (HR.out.keep (aA A4.out.1)) (HP.out.below A4.out.1)) (fun x wy hby hx=>?_)
 have e9 : x 18 = .bool false:=hx 18 (of_decide_eq_true (by kernel_rfl))
 have e10 : x 19 = .int .i64 0:=hx 19 (of_decide_eq_true (by kernel_rfl))
 simp only [dL,List.map_cons,List.map_nil,List.setIfInBounds_toArray,List.set_cons_zero,List.set_cons_succ,e9,e10]
 have A5:=Lib.hid (And.intro (aE A4.out.1 hby) (A4.out.2.below hby))
 have V4:=Lib.hid (U4.out.below hby)
 have V6:=Lib.hid (U6.out.below hby)
 try generalize x 0 = u378
 try generalize x 1 = u379
 try generalize x 2 = u380
 try generalize x 3 = u381
 try generalize x 4 = u382
 try generalize x 5 = u383
 try generalize x 6 = u384
 try generalize x 7 = u385
 try generalize x 8 = u386
 try generalize x 9 = u387
 try generalize x 10 = u388
 try generalize x 11 = u389
 try generalize x 12 = u390
 try generalize x 13 = u391
 try generalize x 14 = u392
 try generalize x 15 = u377
 try generalize x 16 = u393
 try generalize x 17 = u394
 try generalize x 18 = u309
 try generalize x 19 = u310
 clear hx e9 e10 A4 U4 U6
 go_wp2_with fail
 refine eF aw6 (by kernel_rfl) (by kernel_rfl) (by kernel_rfl) 194 rfl (by kernel_rfl) [96,97,98,99,100,101,102,103,104,105,106,107,108,109,110,111,112,113,114,115,116,117,118,95,119,120,11,12] (by kernel_rfl) (rAt aw6R) (iF aw6_stays) [0,1,2,3,4,5,6,7,8,9,10,11,12,13,14,15,16,17,18,19,20,21,22,23,24,25,26,27] (by kernel_rfl) (aw6_steps _ _ _ g1 g2 g3 rfl rfl rfl A5.out.2 (HR.out.keep (aA A5.out.1)) (HP.out.below A5.out.1)) (fun x wy hby hx=>?_)
 have e11 : x 26 = .bool false:=hx 26 (of_decide_eq_true (by kernel_rfl))
 have e12 : x 27 = .int .i64 0:=hx 27 (of_decide_eq_true (by kernel_rfl))
 simp only [dL,List.map_cons,List.map_nil,List.setIfInBounds_toArray,List.set_cons_zero,List.set_cons_succ,e11,e12]
 have A6:=Lib.hid (And.intro (aE A5.out.1 hby) (A5.out.2.below hby))
 have X4:=Lib.hid (V4.out.below hby)
 have X6:=Lib.hid (V6.out.below hby)
 try generalize x 0 = u396
 try generalize x 1 = u397
 try generalize x 2 = u398
 try generalize x 3 = u399
 try generalize x 4 = u400
 try generalize x 5 = u401
 try generalize x 6 = u402
 try generalize x 7 = u403
 try generalize x 8 = u404
 try generalize x 9 = u405
 try generalize x 10 = u406
 try generalize x 11 = u407
 try generalize x 12 = u408
 try generalize x 13 = u409
 try generalize x 14 = u410
 try generalize x 15 = u411
 try generalize x 16 = u412
 try generalize x 17 = u413
 try generalize x 18 = u414
 try generalize x 19 = u415
 try generalize x 20 = u416
 try generalize x 21 = u417
 try generalize x 22 = u418
 try generalize x 23 = u395
 try generalize x 24 = u419
 try generalize x 25 = u420
 try generalize x 26 = u311
 try generalize x 27 = u312
 clear hx e11 e12 A5 V4 V6
 go_upto_region 7 with fail
 obtain ⟨⟨p0,p1,p2,p3⟩,-⟩:=aJ A6.out.2.c1
 obtain ⟨⟨q0,q1,q2,q3⟩,-⟩:=aJ A6.out.2.c2
 go_cut [13] from 121 to 127 (fun u13 wx=>∃ g13,u13 = one g13 ∧ Hid (Below wy.heap.size wy wx ∧ cM g13 [] [.mk 4 [] [] [aP,aQ]] wx))
 case first =>
  go_wp2_with (first
   | (
     have Z:=N1.out;clear Z;go_at_call 20
     refine (sq_c _ _ _ _ _ _ _).mono ?_
     rintro e w7 ⟨rfl,b7⟩
     have N7:=Lib.hid (And.intro (aE N1.out.1 (cC b7)) ((kJ N1.out.2).keep (aA b7)))
     clear b7)
   | (have Z:=N1.out;clear Z;go_at_call 21;refine (fs_c _ _).mono ?_;rintro e w1' ⟨rfl,rfl⟩)
   | (
     go_at_call 17
     refine (fT 4 [aP,aQ] _ _ _ _ (kK (fA _ [80]) (fA _ [81]))).mono ?_
     rintro e w1 ⟨v1,rfl,h1,b1⟩
     obtain ⟨xa,xn,xc,xb,xm,xd,rfl,-⟩:=id h1
     have N1:=Lib.hid (And.intro (cC b1) h1)
     clear h1 b1))
  go_meet
  exact ⟨_,rfl,aE N7.out.1 (aT _ _),cM.mk (heap_alloc_new _ _) (At.sl_nil (Nat.zero_le _)) (N7.out.2.keep (aA (aT _ _)))⟩
 case rest =>
 obtain ⟨g13,rfl,S13⟩:=hcut
 have A7:=Lib.hid (And.intro (aE A6.out.1 S13.out.1) (A6.out.2.below S13.out.1))
 have Y4:=Lib.hid (X4.out.below S13.out.1)
 have Y6:=Lib.hid (X6.out.below S13.out.1)
 have T13:=Lib.hid S13.out.2
 clear A6 X4 X6 S13 p0 p1 p2 p3 q0 q1 q2 q3
 obtain ⟨ba,bn,bc,bb,bm,bd,hg,hL,hQ⟩:=T13.out
 obtain ⟨p0,p1,-,-⟩:=row2 hg
 have SV : Hid (bT wc [] [.mk 4 [] [] [aP,aQ]] (.agg #[.slice ba bn bc,.slice bb bm bd])):=⟨_,_,_,_,_,_,rfl,hL,hQ⟩
 clear hg hL hQ
 go_upto_region 8 with fail
 go_cut [14,15] from 128 to 134 (fun u14 u15 wx=>∃ g14,u14 = one g14 ∧ u15 = .int .i64 0 ∧ Hid (Below wc.heap.size wc wx ∧ cM g14 [] [.mk 4 [] [] [aP,aR]] wx))
 case first =>
  go_wp2_with (
         go_at_call 29
         refine (ren8 _ _ (HR.out.keep (aA A7.out.1)) SV.out).mono ?_
         rintro e w8 ⟨xa,xn,xc,xb,xm,xd,rfl,h1,h2,b8⟩
         have N8:=Lib.hid (And.intro b8 (And.intro h1 h2))
         clear h1 h2 b8)
  go_meet
  exact ⟨_,rfl,rfl,aE N8.out.1 (aT _ _),cM.mk (heap_alloc_new _ _) (N8.out.2.1.keep (cA _ _ _)) (N8.out.2.2.keep (cA _ _ _))⟩
 case rest =>
 obtain ⟨g14,rfl,rfl,S14⟩:=hcut
 have A8:=Lib.hid (And.intro (aE A7.out.1 S14.out.1) (A7.out.2.below S14.out.1))
 have Z4:=Lib.hid (Y4.out.below S14.out.1)
 have Z6:=Lib.hid (Y6.out.below S14.out.1)
 have T13a:=Lib.hid (T13.out.below S14.out.1)
 have Q14:=Lib.hid S14.out.2
 clear A7 S14 SV p0 p1 Y4 Y6 T13
 obtain ⟨ba,bn,bc,bb,bm,bd,hg,hL,hQ⟩:=T13a.out
 obtain ⟨p0,p1,-,-⟩:=row2 hg
 have SV : Hid (bT wc [] [.mk 4 [] [] [aP,aQ]] (.agg #[.slice ba bn bc,.slice bb bm bd])):=⟨_,_,_,_,_,_,rfl,hL,hQ⟩
 clear hg hL hQ
 go_upto_region 9 with fail
 go_cut [16,17] from 135 to 141 (fun u14 u15 wx=>∃ g14,u14 = one g14 ∧ u15 = .int .i64 300 ∧ Hid (Below wc.heap.size wc wx ∧ cM g14 [] [] wx))
 case first =>
  go_wp2_with (
         go_at_call 29
         refine (ren9 _ _ (HR.out.keep (aA A8.out.1)) SV.out).mono ?_
         rintro e w8 ⟨xa,xn,xc,xb,xm,xd,rfl,h1,h2,b8⟩
         have N8:=Lib.hid (And.intro b8 (And.intro h1 h2))
         clear h1 h2 b8)
  go_meet
  exact ⟨_,rfl,rfl,aE N8.out.1 (aT _ _),cM.mk (heap_alloc_new _ _) (N8.out.2.1.keep (cA _ _ _)) (N8.out.2.2.keep (cA _ _ _))⟩
 case rest =>
 obtain ⟨g16,rfl,rfl,S16⟩:=hcut
 have A9:=Lib.hid (And.intro (aE A8.out.1 S16.out.1) (A8.out.2.below S16.out.1))
 have C4:=Lib.hid (Z4.out.below S16.out.1)
 have C6:=Lib.hid (Z6.out.below S16.out.1)
 have T13b:=Lib.hid (T13a.out.below S16.out.1)
 have Q14a:=Lib.hid (Q14.out.below S16.out.1)
 have Q16:=Lib.hid S16.out.2
 clear A8 S16 SV p0 p1 Z4 Z6 T13a Q14
 obtain ⟨ba,bn,bc,bb,bm,bd,hg,hL,hQ⟩:=T13b.out
 obtain ⟨p0,p1,-,-⟩:=row2 hg
 have SV : Hid (bT wc [] [.mk 4 [] [] [aP,aQ]] (.agg #[.slice ba bn bc,.slice bb bm bd])):=⟨_,_,_,_,_,_,rfl,hL,hQ⟩
 clear hg hL hQ
 go_upto_region 10 with fail
 go_cut [18,19] from 142 to 148 (fun u14 u15 wx=>∃ g14,u14 = one g14 ∧ u15 = .int .i64 6 ∧ Hid (Below wc.heap.size wc wx ∧ cM g14 [] [] wx))
 case first =>
  go_wp2_with (
         go_at_call 29
         refine (ren10 _ _ (HR.out.keep (aA A9.out.1)) SV.out).mono ?_
         rintro e w8 ⟨xa,xn,xc,xb,xm,xd,rfl,h1,h2,b8⟩
         have N8:=Lib.hid (And.intro b8 (And.intro h1 h2))
         clear h1 h2 b8)
  go_meet
  exact ⟨_,rfl,rfl,aE N8.out.1 (aT _ _),cM.mk (heap_alloc_new _ _) (N8.out.2.1.keep (cA _ _ _)) (N8.out.2.2.keep (cA _ _ _))⟩
 case rest =>
 obtain ⟨g18,rfl,rfl,S18⟩:=hcut
 have A10:=Lib.hid (And.intro (aE A9.out.1 S18.out.1) (A9.out.2.below S18.out.1))
 have D4:=Lib.hid (C4.out.below S18.out.1)
 have D6:=Lib.hid (C6.out.below S18.out.1)
 have T13c:=Lib.hid (T13b.out.below S18.out.1)
 have Q14b:=Lib.hid (Q14a.out.below S18.out.1)
 have Q18:=Lib.hid S18.out.2
 clear A9 S18 SV p0 p1 C4 C6 T13b Q14a
 go_wp2_with fail
 refine eF aw11 (by kernel_rfl) (by kernel_rfl) (by kernel_rfl) 194 rfl (by kernel_rfl) [149,150,151,152,153,154,155,156,157,158,159,160,161,162,163,164,165,166,167,168,169,170,171,172,173,174,175,176,177,178,179,180,181,182,183,184,185,186,187,188,189,190,191,192,193,0] (by kernel_rfl) (rAt (xK awC1 [aW])) (iF (aw11_stays _ _)) [0,1,2,3,4,5,6,7,8,9,10,11,12,13,14,15,16,17,18,19,20,21,22,23,24,25,26,27,28,29,30,31,32,33,34,35,36,37,38,39,40,41,42,43,44,45] (by kernel_rfl) (aw11_steps awC1 [aW] _ _ _ g1 g2 g3 g4 g6 g14 rfl rfl rfl rfl rfl rfl rfl rfl rfl rfl rfl rfl rfl rfl rfl A10.out.2 D4.out D6.out Q14b.out) (fun x wz hbz hx=>?_)
 have e0 : x 45 = .bool true:=hx 45 (of_decide_eq_true (by kernel_rfl))
 simp only [dL,List.map_cons,List.map_nil,List.setIfInBounds_toArray,List.set_cons_zero,List.set_cons_succ,e0]
 go_wp2_with fail
 go_ret
 exact ⟨rfl,aE A10.out.1 hbz⟩
end Go.Proofs.YtppfalbnhnpbnaaGreatDoor
