/- awake's regions in any order: 11. Conditions: those of each statement. -/
import Derived.Test.YtppfalbnhnpbnaaGreatDoorAwAC
set_option linter.unusedSimpArgs false
set_option linter.unusedVariables false
namespace Go.Proofs.YtppfalbnhnpbnaaGreatDoor
open Go Go.RowKit Ly
set_option maxRecDepth 10000
noncomputable def aw11 : Array Oper:=((Tryz.f9.body).bind (eG 11)).getD #[]
def xA (L4 R4 : List Fm) : List (Value → World → Prop):=[isV (.int .i64 0),
 isV (.int .i64 0),
 isV (.int .i64 0),
 isV (.int .i64 0),
 isV (.int .i64 0),
 isV (.int .i64 0),
 isV (.int .i64 0),
 isV (.int .i64 0),
 isV (.int .i64 0),
 isV (.bool true),
 isV (.bool true),
 sqP L4 R4,
 sqP L4 R4,
 isV (.bool true),
 isV (.bool true),
 isV (.bool true),
 isV (.bool true),
 isV (.bool true),
 isV (.bool true),
 isV (.bool false),
 isV (.bool true),
 isV (.bool true),
 isV (.bool true),
 isV (.bool false),
 isV (.bool true),
 isV (.bool true),
 isV (.bool true),
 sqP [] [(Fm.mk 4 [] [] [Fm.mk 1 [80] [] [],Fm.mk 1 [82] [] []])],
 isV (atV [80]),
 isV (atV [82]),
 fsP [Fm.mk 1 [80] [] [],Fm.mk 1 [82] [] []],
 fmP (Fm.mk 4 [] [] [Fm.mk 1 [80] [] [],Fm.mk 1 [82] [] []]),
 fsP [(Fm.mk 4 [] [] [Fm.mk 1 [80] [] [],Fm.mk 1 [82] [] []])],
 fsP [(Fm.mk 4 [] [] [Fm.mk 1 [80] [] [],Fm.mk 1 [82] [] []])],
 sqP [] [(Fm.mk 4 [] [] [Fm.mk 1 [80] [] [],Fm.mk 1 [82] [] []])],
 isV (.bool true),
 isV (.bool true),
 isV (.bool true),
 isV (.int .i64 300),
 isV (.bool true),
 isV (.bool true),
 isV (.bool true),
 isV (.int .i64 6),
 isV (.bool true),
 isV (.bool true),
 isV (.bool true)]
theorem aw11_stays (L4 R4 : List Fm) : ∀ r ∈ xA L4 R4,gV r:=by
 unfold xA
 simp only [List.forall_mem_cons]
 exact ⟨aE _,aE _,aE _,aE _,aE _,aE _,aE _,aE _,aE _,aE _,aE _,eN _ _,eN _ _,aE _,aE _,aE _,aE _,aE _,aE _,aE _,aE _,aE _,aE _,aE _,aE _,aE _,aE _,eN _ _,aE _,aE _,bY _,gM _,bY _,bY _,eN _ _,aE _,aE _,aE _,aE _,aE _,aE _,aE _,aE _,aE _,aE _,aE _,fun r h=>by cases h⟩
set_option maxHeartbeats 4000000 in
theorem aw11_steps (L4 R4 : List Fm) (Q : Exit → Act → World → Prop) (W : World) (a0 : Act) (g1 g2 g3 g4 g6 g14 : Nat) (h1 : a0.tmps.getD 1 undef = one g1) (h3 : a0.tmps.getD 3 undef = one g3) (h4 : a0.tmps.getD 4 undef = one g4) (h6 : a0.tmps.getD 6 undef = one g6) (h14 : a0.tmps.getD 14 undef = one g14) (h5 : a0.tmps.getD 5 undef = .int .i64 0) (h8 : a0.tmps.getD 8 undef = .int .i64 0) (h10 : a0.tmps.getD 10 undef = .int .i64 0) (h12 : a0.tmps.getD 12 undef = .int .i64 0) (h15 : a0.tmps.getD 15 undef = .int .i64 0) (h7 : a0.tmps.getD 7 undef = .bool true) (h9 : a0.tmps.getD 9 undef = .bool false) (h11 : a0.tmps.getD 11 undef = .bool false) (h17 : a0.tmps.getD 17 undef = .int .i64 300) (h19 : a0.tmps.getD 19 undef = .int .i64 6) (HA : AwV g1 g2 g3 W) (B4 : fV g4 L4 R4 W) (B6 : fV g6 L4 R4 W) (B14 : fV g14 [] [Fm.mk 4 [] [] [Fm.mk 1 [80] [] [],Fm.mk 1 [82] [] []]] W) : aB Tryz.prog aw11 Q W a0 (rAt (xA L4 R4)) [0,1,2,3,4,5,6,7,8,9,10,11,12,13,14,15,16,17,18,19,20,21,22,23,24,25,26,27,28,29,30,31,32,33,34,35,36,37,38,39,40,41,42,43,44,45]:=by
 refine aB.step (Op.move (Operand.tmp 5)) (by kernel_rfl) (fun a w F=>?_) ?_
 ·have e:=(F.old 5 (by kernel_rfl)).trans h5
  clear F
  rintro ⟨dst,op,ty,pos,af,gd⟩ rfl K Q' hK
  have HK:=Lib.hid hK
  clear hK
  go_simp
  exact HK.out _ _ ⟨Below.refl _ _,rfl⟩
 refine aB.step (Op.move (Operand.tmp 8)) (by kernel_rfl) (fun a w F=>?_) ?_
 ·have e:=(F.old 8 (by kernel_rfl)).trans h8
  clear F
  rintro ⟨dst,op,ty,pos,af,gd⟩ rfl K Q' hK
  have HK:=Lib.hid hK
  clear hK
  go_simp
  exact HK.out _ _ ⟨Below.refl _ _,rfl⟩
 refine aB.step (Op.binOp BinOp.add 28 (Operand.tmp 149) (Operand.tmp 150) 28) (by kernel_rfl) (fun a w F=>?_) ?_
 ·have e1 : a.tmps[149]?.getD undef = .int .i64 0:=F.dep 0 149 (by kernel_rfl) (by kernel_rfl)
  have e2 : a.tmps[150]?.getD undef = .int .i64 0:=F.dep 1 150 (by kernel_rfl) (by kernel_rfl)
  clear F
  rintro ⟨dst,op,ty,pos,af,gd⟩ rfl K Q' hK
  have HK:=Lib.hid hK
  clear hK
  go_simp
  exact HK.out _ _ ⟨Below.refl _ _,rfl⟩
 refine aB.step (Op.move (Operand.tmp 10)) (by kernel_rfl) (fun a w F=>?_) ?_
 ·have e:=(F.old 10 (by kernel_rfl)).trans h10
  clear F
  rintro ⟨dst,op,ty,pos,af,gd⟩ rfl K Q' hK
  have HK:=Lib.hid hK
  clear hK
  go_simp
  exact HK.out _ _ ⟨Below.refl _ _,rfl⟩
 refine aB.step (Op.binOp BinOp.add 28 (Operand.tmp 151) (Operand.tmp 152) 28) (by kernel_rfl) (fun a w F=>?_) ?_
 ·have e1 : a.tmps[151]?.getD undef = .int .i64 0:=F.dep 2 151 (by kernel_rfl) (by kernel_rfl)
  have e2 : a.tmps[152]?.getD undef = .int .i64 0:=F.dep 3 152 (by kernel_rfl) (by kernel_rfl)
  clear F
  rintro ⟨dst,op,ty,pos,af,gd⟩ rfl K Q' hK
  have HK:=Lib.hid hK
  clear hK
  go_simp
  exact HK.out _ _ ⟨Below.refl _ _,rfl⟩
 refine aB.step (Op.move (Operand.tmp 12)) (by kernel_rfl) (fun a w F=>?_) ?_
 ·have e:=(F.old 12 (by kernel_rfl)).trans h12
  clear F
  rintro ⟨dst,op,ty,pos,af,gd⟩ rfl K Q' hK
  have HK:=Lib.hid hK
  clear hK
  go_simp
  exact HK.out _ _ ⟨Below.refl _ _,rfl⟩
 refine aB.step (Op.binOp BinOp.add 28 (Operand.tmp 153) (Operand.tmp 154) 28) (by kernel_rfl) (fun a w F=>?_) ?_
 ·have e1 : a.tmps[153]?.getD undef = .int .i64 0:=F.dep 4 153 (by kernel_rfl) (by kernel_rfl)
  have e2 : a.tmps[154]?.getD undef = .int .i64 0:=F.dep 5 154 (by kernel_rfl) (by kernel_rfl)
  clear F
  rintro ⟨dst,op,ty,pos,af,gd⟩ rfl K Q' hK
  have HK:=Lib.hid hK
  clear hK
  go_simp
  exact HK.out _ _ ⟨Below.refl _ _,rfl⟩
 refine aB.step (Op.move (Operand.tmp 15)) (by kernel_rfl) (fun a w F=>?_) ?_
 ·have e:=(F.old 15 (by kernel_rfl)).trans h15
  clear F
  rintro ⟨dst,op,ty,pos,af,gd⟩ rfl K Q' hK
  have HK:=Lib.hid hK
  clear hK
  go_simp
  exact HK.out _ _ ⟨Below.refl _ _,rfl⟩
 refine aB.step (Op.binOp BinOp.add 28 (Operand.tmp 155) (Operand.tmp 156) 28) (by kernel_rfl) (fun a w F=>?_) ?_
 ·have e1 : a.tmps[155]?.getD undef = .int .i64 0:=F.dep 6 155 (by kernel_rfl) (by kernel_rfl)
  have e2 : a.tmps[156]?.getD undef = .int .i64 0:=F.dep 7 156 (by kernel_rfl) (by kernel_rfl)
  clear F
  rintro ⟨dst,op,ty,pos,af,gd⟩ rfl K Q' hK
  have HK:=Lib.hid hK
  clear hK
  go_simp
  exact HK.out _ _ ⟨Below.refl _ _,rfl⟩
 refine aB.step (Op.binOp BinOp.eql 28 (Operand.tmp 157) (Operand.const (Value.int IntKind.i64 0)) 28) (by kernel_rfl) (fun a w F=>?_) ?_
 ·have e : a.tmps[157]?.getD undef = .int .i64 0:=F.dep 8 157 (by kernel_rfl) (by kernel_rfl)
  clear F
  rintro ⟨dst,op,ty,pos,af,gd⟩ rfl K Q' hK
  have HK:=Lib.hid hK
  clear hK
  go_simp
  exact HK.out _ _ ⟨Below.refl _ _,rfl⟩
 refine aB.step (Op.move (Operand.tmp 158)) (by kernel_rfl) (fun a w F=>?_) ?_
 ·have e : a.tmps[158]?.getD undef = .bool true:=F.dep 9 158 (by kernel_rfl) (by kernel_rfl)
  clear F
  rintro ⟨dst,op,ty,pos,af,gd⟩ rfl K Q' hK
  have HK:=Lib.hid hK
  clear hK
  go_simp
  exact HK.out _ _ ⟨Below.refl _ _,rfl⟩
 refine aB.stepIf (Op.load 26 (Operand.tmp 4)) 10 159 true (by kernel_rfl) (by kernel_rfl) (by kernel_rfl) (fun v w h=>h) (fun a w F=>?_) ?_
 ·have e:=(F.old 4 (by kernel_rfl)).trans h4
  obtain ⟨a1,n1,c1,b1,m1,l1,hg,hL,hR⟩:=B4.below F.bw
  obtain ⟨p0,p1,-,-⟩:=row2 hg
  clear F
  rintro ⟨dst,op,ty,pos,af,gd⟩ rfl K Q' hK
  have HK:=Lib.hid hK
  have HL:=Lib.hid hL
  have HR:=Lib.hid hR
  clear hK hg hL hR
  go_simp
  exact HK.out _ _ ⟨Below.refl _ _,_,_,_,_,_,_,rfl,HL.out,HR.out⟩
 refine aB.stepIf (Op.load 26 (Operand.tmp 6)) 10 159 true (by kernel_rfl) (by kernel_rfl) (by kernel_rfl) (fun v w h=>h) (fun a w F=>?_) ?_
 ·have e:=(F.old 6 (by kernel_rfl)).trans h6
  obtain ⟨a1,n1,c1,b1,m1,l1,hg,hL,hR⟩:=B6.below F.bw
  obtain ⟨p0,p1,-,-⟩:=row2 hg
  clear F
  rintro ⟨dst,op,ty,pos,af,gd⟩ rfl K Q' hK
  have HK:=Lib.hid hK
  have HL:=Lib.hid hL
  have HR:=Lib.hid hR
  clear hK hg hL hR
  go_simp
  exact HK.out _ _ ⟨Below.refl _ _,_,_,_,_,_,_,rfl,HL.out,HR.out⟩
 refine aB.stepIf (Op.call { callee:=Callee.value (Operand.func 13),args:=#[Operand.tmp 160,Operand.tmp 161],argTypes:=#[26,26] }) 10 159 true (by kernel_rfl) (by kernel_rfl) (by kernel_rfl) (fun v w h=>h) (fun a w F=>?_) ?_
 ·have dx : cV w L4 R4 (a.tmps[160]?.getD undef):=F.dep 11 160 (by kernel_rfl) (by kernel_rfl)
  obtain ⟨a1,n1,c1,b1,m1,l1,ex,-⟩:=id dx
  rw [ex] at dx
  have dy : cV w L4 R4 (a.tmps[161]?.getD undef):=F.dep 12 161 (by kernel_rfl) (by kernel_rfl)
  obtain ⟨a2,n2,c2,b2,m2,l2,ey,-⟩:=id dy
  rw [ey] at dy
  clear F
  rintro ⟨dst,op,ty,pos,af,gd⟩ rfl K Q' hK
  have HK:=Lib.hid hK
  have DX:=Lib.hid dx
  have DY:=Lib.hid dy
  clear hK dx dy
  go_simp
  go_at_call 13
  refine (sI _ _ _ _ _ _ _ DX.out DY.out).mono ?_
  rintro e w1 ⟨rfl,hb⟩
  exact HK.out _ _ ⟨hb,congrArg Value.bool (nQ _ _)⟩
 refine aB.step (Op.pick (Operand.tmp 159) (Operand.tmp 162) (Operand.const (Value.bool false))) (by kernel_rfl) (fun a w F=>?_) ?_
 ·have e1 : a.tmps[159]?.getD undef = .bool true:=F.dep 10 159 (by kernel_rfl) (by kernel_rfl)
  have e2 : a.tmps[162]?.getD undef = .bool true:=F.dep 13 162 (by kernel_rfl) (by kernel_rfl)
  clear F
  rintro ⟨dst,op,ty,pos,af,gd⟩ rfl K Q' hK
  have HK:=Lib.hid hK
  clear hK
  go_simp
  exact HK.out _ _ ⟨Below.refl _ _,rfl⟩
 refine aB.step (Op.move (Operand.tmp 163)) (by kernel_rfl) (fun a w F=>?_) ?_
 ·have e : a.tmps[163]?.getD undef = .bool true:=F.dep 14 163 (by kernel_rfl) (by kernel_rfl)
  clear F
  rintro ⟨dst,op,ty,pos,af,gd⟩ rfl K Q' hK
  have HK:=Lib.hid hK
  clear hK
  go_simp
  exact HK.out _ _ ⟨Below.refl _ _,rfl⟩
 refine aB.stepIf (Op.move (Operand.tmp 7)) 15 164 true (by kernel_rfl) (by kernel_rfl) (by kernel_rfl) (fun v w h=>h) (fun a w F=>?_) ?_
 ·have e:=(F.old 7 (by kernel_rfl)).trans h7
  clear F
  rintro ⟨dst,op,ty,pos,af,gd⟩ rfl K Q' hK
  have HK:=Lib.hid hK
  clear hK
  go_simp
  exact HK.out _ _ ⟨Below.refl _ _,rfl⟩
 refine aB.step (Op.pick (Operand.tmp 164) (Operand.tmp 165) (Operand.const (Value.bool false))) (by kernel_rfl) (fun a w F=>?_) ?_
 ·have e1 : a.tmps[164]?.getD undef = .bool true:=F.dep 15 164 (by kernel_rfl) (by kernel_rfl)
  have e2 : a.tmps[165]?.getD undef = .bool true:=F.dep 16 165 (by kernel_rfl) (by kernel_rfl)
  clear F
  rintro ⟨dst,op,ty,pos,af,gd⟩ rfl K Q' hK
  have HK:=Lib.hid hK
  clear hK
  go_simp
  exact HK.out _ _ ⟨Below.refl _ _,rfl⟩
 refine aB.step (Op.move (Operand.tmp 166)) (by kernel_rfl) (fun a w F=>?_) ?_
 ·have e : a.tmps[166]?.getD undef = .bool true:=F.dep 17 166 (by kernel_rfl) (by kernel_rfl)
  clear F
  rintro ⟨dst,op,ty,pos,af,gd⟩ rfl K Q' hK
  have HK:=Lib.hid hK
  clear hK
  go_simp
  exact HK.out _ _ ⟨Below.refl _ _,rfl⟩
 refine aB.stepIf (Op.move (Operand.tmp 9)) 18 167 true (by kernel_rfl) (by kernel_rfl) (by kernel_rfl) (fun v w h=>h) (fun a w F=>?_) ?_
 ·have e:=(F.old 9 (by kernel_rfl)).trans h9
  clear F
  rintro ⟨dst,op,ty,pos,af,gd⟩ rfl K Q' hK
  have HK:=Lib.hid hK
  clear hK
  go_simp
  exact HK.out _ _ ⟨Below.refl _ _,rfl⟩
 refine aB.stepIf (Op.unOp UnOp.not 4 (Operand.tmp 168)) 18 167 true (by kernel_rfl) (by kernel_rfl) (by kernel_rfl) (fun v w h=>h) (fun a w F=>?_) ?_
 ·have e : a.tmps[168]?.getD undef = .bool false:=F.dep 19 168 (by kernel_rfl) (by kernel_rfl)
  clear F
  rintro ⟨dst,op,ty,pos,af,gd⟩ rfl K Q' hK
  have HK:=Lib.hid hK
  clear hK
  go_simp
  exact HK.out _ _ ⟨Below.refl _ _,rfl⟩
 refine aB.step (Op.pick (Operand.tmp 167) (Operand.tmp 169) (Operand.const (Value.bool false))) (by kernel_rfl) (fun a w F=>?_) ?_
 ·have e1 : a.tmps[167]?.getD undef = .bool true:=F.dep 18 167 (by kernel_rfl) (by kernel_rfl)
  have e2 : a.tmps[169]?.getD undef = .bool true:=F.dep 20 169 (by kernel_rfl) (by kernel_rfl)
  clear F
  rintro ⟨dst,op,ty,pos,af,gd⟩ rfl K Q' hK
  have HK:=Lib.hid hK
  clear hK
  go_simp
  exact HK.out _ _ ⟨Below.refl _ _,rfl⟩
 refine aB.step (Op.move (Operand.tmp 170)) (by kernel_rfl) (fun a w F=>?_) ?_
 ·have e : a.tmps[170]?.getD undef = .bool true:=F.dep 21 170 (by kernel_rfl) (by kernel_rfl)
  clear F
  rintro ⟨dst,op,ty,pos,af,gd⟩ rfl K Q' hK
  have HK:=Lib.hid hK
  clear hK
  go_simp
  exact HK.out _ _ ⟨Below.refl _ _,rfl⟩
 refine aB.stepIf (Op.move (Operand.tmp 11)) 22 171 true (by kernel_rfl) (by kernel_rfl) (by kernel_rfl) (fun v w h=>h) (fun a w F=>?_) ?_
 ·have e:=(F.old 11 (by kernel_rfl)).trans h11
  clear F
  rintro ⟨dst,op,ty,pos,af,gd⟩ rfl K Q' hK
  have HK:=Lib.hid hK
  clear hK
  go_simp
  exact HK.out _ _ ⟨Below.refl _ _,rfl⟩
 refine aB.stepIf (Op.unOp UnOp.not 4 (Operand.tmp 172)) 22 171 true (by kernel_rfl) (by kernel_rfl) (by kernel_rfl) (fun v w h=>h) (fun a w F=>?_) ?_
 ·have e : a.tmps[172]?.getD undef = .bool false:=F.dep 23 172 (by kernel_rfl) (by kernel_rfl)
  clear F
  rintro ⟨dst,op,ty,pos,af,gd⟩ rfl K Q' hK
  have HK:=Lib.hid hK
  clear hK
  go_simp
  exact HK.out _ _ ⟨Below.refl _ _,rfl⟩
 refine aB.step (Op.pick (Operand.tmp 171) (Operand.tmp 173) (Operand.const (Value.bool false))) (by kernel_rfl) (fun a w F=>?_) ?_
 ·have e1 : a.tmps[171]?.getD undef = .bool true:=F.dep 22 171 (by kernel_rfl) (by kernel_rfl)
  have e2 : a.tmps[173]?.getD undef = .bool true:=F.dep 24 173 (by kernel_rfl) (by kernel_rfl)
  clear F
  rintro ⟨dst,op,ty,pos,af,gd⟩ rfl K Q' hK
  have HK:=Lib.hid hK
  clear hK
  go_simp
  exact HK.out _ _ ⟨Below.refl _ _,rfl⟩
 refine aB.step (Op.move (Operand.tmp 174)) (by kernel_rfl) (fun a w F=>?_) ?_
 ·have e : a.tmps[174]?.getD undef = .bool true:=F.dep 25 174 (by kernel_rfl) (by kernel_rfl)
  clear F
  rintro ⟨dst,op,ty,pos,af,gd⟩ rfl K Q' hK
  have HK:=Lib.hid hK
  clear hK
  go_simp
  exact HK.out _ _ ⟨Below.refl _ _,rfl⟩
 refine aB.stepIf (Op.load 26 (Operand.tmp 14)) 26 175 true (by kernel_rfl) (by kernel_rfl) (by kernel_rfl) (fun v w h=>h) (fun a w F=>?_) ?_
 ·have e:=(F.old 14 (by kernel_rfl)).trans h14
  obtain ⟨a1,n1,c1,b1,m1,l1,hg,hL,hR⟩:=B14.below F.bw
  obtain ⟨p0,p1,-,-⟩:=row2 hg
  clear F
  rintro ⟨dst,op,ty,pos,af,gd⟩ rfl K Q' hK
  have HK:=Lib.hid hK
  have HL:=Lib.hid hL
  have HR:=Lib.hid hR
  clear hK hg hL hR
  go_simp
  exact HK.out _ _ ⟨Below.refl _ _,_,_,_,_,_,_,rfl,HL.out,HR.out⟩
 refine aB.stepIf (Op.load 40 (Operand.tmp 1)) 26 175 true (by kernel_rfl) (by kernel_rfl) (by kernel_rfl) (fun v w h=>h) (fun a w F=>?_) ?_
 ·have e:=(F.old 1 (by kernel_rfl)).trans h1
  obtain ⟨⟨p0,p1,p2,p3⟩,-⟩:=aL (kc F.bw HA.c1)
  clear F
  rintro ⟨dst,op,ty,pos,af,gd⟩ rfl K Q' hK
  have HK:=Lib.hid hK
  clear hK
  go_simp
  exact HK.out _ _ ⟨Below.refl _ _,rfl⟩
 refine aB.stepIf (Op.load 40 (Operand.tmp 3)) 26 175 true (by kernel_rfl) (by kernel_rfl) (by kernel_rfl) (fun v w h=>h) (fun a w F=>?_) ?_
 ·have e:=(F.old 3 (by kernel_rfl)).trans h3
  obtain ⟨⟨p0,p1,p2,p3⟩,-⟩:=aL (kc F.bw HA.c3)
  clear F
  rintro ⟨dst,op,ty,pos,af,gd⟩ rfl K Q' hK
  have HK:=Lib.hid hK
  clear hK
  go_simp
  exact HK.out _ _ ⟨Below.refl _ _,rfl⟩
 refine aB.stepIf (Op.buildSlice 24 2 #[(0,Operand.tmp 177),(1,Operand.tmp 178)]) 26 175 true (by kernel_rfl) (by kernel_rfl) (by kernel_rfl) (fun v w h=>h) (fun a w F=>?_) ?_
 ·have ex : a.tmps[177]?.getD undef = .agg #[.int .u8 1,str [80],.slice none 0 0,.slice none 0 0]:=F.dep 28 177 (by kernel_rfl) (by kernel_rfl)
  have dx:=eR w [80]
  have ey : a.tmps[178]?.getD undef = .agg #[.int .u8 1,str [82],.slice none 0 0,.slice none 0 0]:=F.dep 29 178 (by kernel_rfl) (by kernel_rfl)
  have dy:=eR w [82]
  clear F
  rintro ⟨dst,op,ty,pos,af,gd⟩ rfl K Q' hK
  have HK:=Lib.hid hK
  have Dx:=Lib.hid dx
  have Dy:=Lib.hid dy
  clear hK dx dy
  go_simp
  exact HK.out _ _ ⟨aZ _ _,kP Dx.out Dy.out⟩
 refine aB.stepIf (Op.call { callee:=Callee.value (Operand.func 17),args:=#[Operand.const (Value.int IntKind.u8 4),Operand.tmp 179],argTypes:=#[5,24] }) 26 175 true (by kernel_rfl) (by kernel_rfl) (by kernel_rfl) (fun v w h=>h) (fun a w F=>?_) ?_
 ·have dx : aN w [Fm.mk 1 [80] [] [],Fm.mk 1 [82] [] []] (a.tmps[179]?.getD undef):=F.dep 30 179 (by kernel_rfl) (by kernel_rfl)
  obtain ⟨ax,cx,ex,-⟩:=At.sl_inv dx
  rw [ex] at dx
  clear F
  rintro ⟨dst,op,ty,pos,af,gd⟩ rfl K Q' hK
  have HK:=Lib.hid hK
  have DX:=Lib.hid dx
  clear hK dx
  go_simp
  go_at_call 17
  refine (fJ 4 [Fm.mk 1 [80] [] [],Fm.mk 1 [82] [] []] _ _ _ _ DX.out).mono ?_
  rintro e w1 ⟨v,rfl,hv,hb⟩
  exact HK.out _ _ ⟨hb,hv⟩
 refine aB.stepIf (Op.buildSlice 24 1 #[(0,Operand.tmp 180)]) 26 175 true (by kernel_rfl) (by kernel_rfl) (by kernel_rfl) (fun v w h=>h) (fun a w F=>?_) ?_
 ·have dx : aV w (Fm.mk 4 [] [] [Fm.mk 1 [80] [] [],Fm.mk 1 [82] [] []]) (a.tmps[180]?.getD undef):=F.dep 31 180 (by kernel_rfl) (by kernel_rfl)
  obtain ⟨ix,nx,cx,jx,mx,lx,ex,-⟩:=id dx
  rw [ex] at dx
  clear F
  rintro ⟨dst,op,ty,pos,af,gd⟩ rfl K Q' hK
  have HK:=Lib.hid hK
  have Dx:=Lib.hid dx
  clear hK dx
  go_simp
  exact HK.out _ _ ⟨aZ _ _,kO Dx.out⟩
 refine aB.stepIf (Op.call { callee:=Callee.value (Operand.func 21),args:=#[Operand.tmp 181],argTypes:=#[24] }) 26 175 true (by kernel_rfl) (by kernel_rfl) (by kernel_rfl) (fun v w h=>h) (fun a w F=>?_) ?_
 ·have dx : aN w [(Fm.mk 4 [] [] [Fm.mk 1 [80] [] [],Fm.mk 1 [82] [] []])] (a.tmps[181]?.getD undef):=F.dep 32 181 (by kernel_rfl) (by kernel_rfl)
  obtain ⟨ax,cx,ex,-⟩:=At.sl_inv dx
  rw [ex] at dx
  clear F
  rintro ⟨dst,op,ty,pos,af,gd⟩ rfl K Q' hK
  have HK:=Lib.hid hK
  have DX:=Lib.hid dx
  clear hK dx
  go_simp
  go_at_call 21
  refine (fs_c _ _).mono ?_
  rintro e w1 ⟨rfl,rfl⟩
  exact HK.out _ _ ⟨Below.refl _ _,DX.out⟩
 refine aB.stepIf (Op.call { callee:=Callee.value (Operand.func 20),args:=#[Operand.const (Value.slice none 0 0),Operand.tmp 182],argTypes:=#[24,24] }) 26 175 true (by kernel_rfl) (by kernel_rfl) (by kernel_rfl) (fun v w h=>h) (fun a w F=>?_) ?_
 ·have dy : aN w [(Fm.mk 4 [] [] [Fm.mk 1 [80] [] [],Fm.mk 1 [82] [] []])] (a.tmps[182]?.getD undef):=F.dep 33 182 (by kernel_rfl) (by kernel_rfl)
  obtain ⟨ay,cy,ey,-⟩:=At.sl_inv dy
  rw [ey] at dy
  clear F
  rintro ⟨dst,op,ty,pos,af,gd⟩ rfl K Q' hK
  have HK:=Lib.hid hK
  have DY:=Lib.hid dy
  clear hK dy
  go_simp
  go_at_call 20
  refine (sq_c _ _ _ _ _ _ _).mono ?_
  rintro e w1 ⟨rfl,hb⟩
  exact HK.out _ _ ⟨hb,_,_,_,_,_,_,rfl,At.sl_nil (Nat.zero_le _),(DY.out).keep (aA hb)⟩
 refine aB.stepIf (Op.call { callee:=Callee.value (Operand.func 13),args:=#[Operand.tmp 176,Operand.tmp 183],argTypes:=#[26,26] }) 26 175 true (by kernel_rfl) (by kernel_rfl) (by kernel_rfl) (fun v w h=>h) (fun a w F=>?_) ?_
 ·have dx : cV w [] [(Fm.mk 4 [] [] [Fm.mk 1 [80] [] [],Fm.mk 1 [82] [] []])] (a.tmps[176]?.getD undef):=F.dep 27 176 (by kernel_rfl) (by kernel_rfl)
  obtain ⟨a1,n1,c1,b1,m1,l1,ex,-⟩:=id dx
  rw [ex] at dx
  have dy : cV w [] [(Fm.mk 4 [] [] [Fm.mk 1 [80] [] [],Fm.mk 1 [82] [] []])] (a.tmps[183]?.getD undef):=F.dep 34 183 (by kernel_rfl) (by kernel_rfl)
  obtain ⟨a2,n2,c2,b2,m2,l2,ey,-⟩:=id dy
  rw [ey] at dy
  clear F
  rintro ⟨dst,op,ty,pos,af,gd⟩ rfl K Q' hK
  have HK:=Lib.hid hK
  have DX:=Lib.hid dx
  have DY:=Lib.hid dy
  clear hK dx dy
  go_simp
  go_at_call 13
  refine (sI _ _ _ _ _ _ _ DX.out DY.out).mono ?_
  rintro e w1 ⟨rfl,hb⟩
  exact HK.out _ _ ⟨hb,congrArg Value.bool (nQ _ _)⟩
 refine aB.step (Op.pick (Operand.tmp 175) (Operand.tmp 184) (Operand.const (Value.bool false))) (by kernel_rfl) (fun a w F=>?_) ?_
 ·have e1 : a.tmps[175]?.getD undef = .bool true:=F.dep 26 175 (by kernel_rfl) (by kernel_rfl)
  have e2 : a.tmps[184]?.getD undef = .bool true:=F.dep 35 184 (by kernel_rfl) (by kernel_rfl)
  clear F
  rintro ⟨dst,op,ty,pos,af,gd⟩ rfl K Q' hK
  have HK:=Lib.hid hK
  clear hK
  go_simp
  exact HK.out _ _ ⟨Below.refl _ _,rfl⟩
 refine aB.step (Op.move (Operand.tmp 185)) (by kernel_rfl) (fun a w F=>?_) ?_
 ·have e : a.tmps[185]?.getD undef = .bool true:=F.dep 36 185 (by kernel_rfl) (by kernel_rfl)
  clear F
  rintro ⟨dst,op,ty,pos,af,gd⟩ rfl K Q' hK
  have HK:=Lib.hid hK
  clear hK
  go_simp
  exact HK.out _ _ ⟨Below.refl _ _,rfl⟩
 refine aB.stepIf (Op.move (Operand.tmp 17)) 37 186 true (by kernel_rfl) (by kernel_rfl) (by kernel_rfl) (fun v w h=>h) (fun a w F=>?_) ?_
 ·have e:=(F.old 17 (by kernel_rfl)).trans h17
  clear F
  rintro ⟨dst,op,ty,pos,af,gd⟩ rfl K Q' hK
  have HK:=Lib.hid hK
  clear hK
  go_simp
  exact HK.out _ _ ⟨Below.refl _ _,rfl⟩
 refine aB.stepIf (Op.binOp BinOp.eql 28 (Operand.tmp 187) (Operand.const (Value.int IntKind.i64 300)) 28) 37 186 true (by kernel_rfl) (by kernel_rfl) (by kernel_rfl) (fun v w h=>h) (fun a w F=>?_) ?_
 ·have e : a.tmps[187]?.getD undef = .int .i64 300:=F.dep 38 187 (by kernel_rfl) (by kernel_rfl)
  clear F
  rintro ⟨dst,op,ty,pos,af,gd⟩ rfl K Q' hK
  have HK:=Lib.hid hK
  clear hK
  go_simp
  exact HK.out _ _ ⟨Below.refl _ _,rfl⟩
 refine aB.step (Op.pick (Operand.tmp 186) (Operand.tmp 188) (Operand.const (Value.bool false))) (by kernel_rfl) (fun a w F=>?_) ?_
 ·have e1 : a.tmps[186]?.getD undef = .bool true:=F.dep 37 186 (by kernel_rfl) (by kernel_rfl)
  have e2 : a.tmps[188]?.getD undef = .bool true:=F.dep 39 188 (by kernel_rfl) (by kernel_rfl)
  clear F
  rintro ⟨dst,op,ty,pos,af,gd⟩ rfl K Q' hK
  have HK:=Lib.hid hK
  clear hK
  go_simp
  exact HK.out _ _ ⟨Below.refl _ _,rfl⟩
 refine aB.step (Op.move (Operand.tmp 189)) (by kernel_rfl) (fun a w F=>?_) ?_
 ·have e : a.tmps[189]?.getD undef = .bool true:=F.dep 40 189 (by kernel_rfl) (by kernel_rfl)
  clear F
  rintro ⟨dst,op,ty,pos,af,gd⟩ rfl K Q' hK
  have HK:=Lib.hid hK
  clear hK
  go_simp
  exact HK.out _ _ ⟨Below.refl _ _,rfl⟩
 refine aB.stepIf (Op.move (Operand.tmp 19)) 41 190 true (by kernel_rfl) (by kernel_rfl) (by kernel_rfl) (fun v w h=>h) (fun a w F=>?_) ?_
 ·have e:=(F.old 19 (by kernel_rfl)).trans h19
  clear F
  rintro ⟨dst,op,ty,pos,af,gd⟩ rfl K Q' hK
  have HK:=Lib.hid hK
  clear hK
  go_simp
  exact HK.out _ _ ⟨Below.refl _ _,rfl⟩
 refine aB.stepIf (Op.binOp BinOp.eql 28 (Operand.tmp 191) (Operand.const (Value.int IntKind.i64 6)) 28) 41 190 true (by kernel_rfl) (by kernel_rfl) (by kernel_rfl) (fun v w h=>h) (fun a w F=>?_) ?_
 ·have e : a.tmps[191]?.getD undef = .int .i64 6:=F.dep 42 191 (by kernel_rfl) (by kernel_rfl)
  clear F
  rintro ⟨dst,op,ty,pos,af,gd⟩ rfl K Q' hK
  have HK:=Lib.hid hK
  clear hK
  go_simp
  exact HK.out _ _ ⟨Below.refl _ _,rfl⟩
 refine aB.step (Op.pick (Operand.tmp 190) (Operand.tmp 192) (Operand.const (Value.bool false))) (by kernel_rfl) (fun a w F=>?_) ?_
 ·have e1 : a.tmps[190]?.getD undef = .bool true:=F.dep 41 190 (by kernel_rfl) (by kernel_rfl)
  have e2 : a.tmps[192]?.getD undef = .bool true:=F.dep 43 192 (by kernel_rfl) (by kernel_rfl)
  clear F
  rintro ⟨dst,op,ty,pos,af,gd⟩ rfl K Q' hK
  have HK:=Lib.hid hK
  clear hK
  go_simp
  exact HK.out _ _ ⟨Below.refl _ _,rfl⟩
 refine aB.step (Op.assign (Operand.tmp 193)) (by kernel_rfl) (fun a w F=>?_) ?_
 ·have e : a.tmps[193]?.getD undef = .bool true:=F.dep 44 193 (by kernel_rfl) (by kernel_rfl)
  clear F
  rintro ⟨dst,op,ty,pos,af,gd⟩ rfl K Q' hK
  have HK:=Lib.hid hK
  clear hK
  go_simp
  exact HK.out _ _ ⟨Below.refl _ _,rfl⟩
 exact aB.nil
end Go.Proofs.YtppfalbnhnpbnaaGreatDoor
