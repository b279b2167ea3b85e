/- awake's regions in any order: 5. Conditions: those of each statement. -/
import Derived.Test.YtppfalbnhnpbnaaGreatDoorAwAC
set_option linter.unusedSimpArgs false
set_option linter.unusedVariables false
namespace Go.Proofs.YtppfalbnhnpbnaaGreatDoor
open Go Go.RowKit Ly
set_option maxRecDepth 10000
noncomputable def aw5 : Array Oper:=((Tryz.f9.body).bind (eG 5)).getD #[]
def aw5R : List (Value → World → Prop):=[isV (atV [80]),
 isV (atV [81]),
 fsP [Fm.mk 1 [80] [] [],Fm.mk 1 [81] [] []],
 fmP (Fm.mk 4 [] [] [Fm.mk 1 [80] [] [],Fm.mk 1 [81] [] []]),
 fsP [(Fm.mk 4 [] [] [Fm.mk 1 [80] [] [],Fm.mk 1 [81] [] []])],
 fsP [(Fm.mk 4 [] [] [Fm.mk 1 [80] [] [],Fm.mk 1 [81] [] []])],
 sqP [] [(Fm.mk 4 [] [] [Fm.mk 1 [80] [] [],Fm.mk 1 [81] [] []])],
 isV (atV [80]),
 isV (atV [80]),
 fsP [Fm.mk 1 [80] [] [],Fm.mk 1 [80] [] []],
 fmP (Fm.mk 4 [] [] [Fm.mk 1 [80] [] [],Fm.mk 1 [80] [] []]),
 fsP [(Fm.mk 4 [] [] [Fm.mk 1 [80] [] [],Fm.mk 1 [80] [] []])],
 fsP [(Fm.mk 4 [] [] [Fm.mk 1 [80] [] [],Fm.mk 1 [80] [] []])],
 sqP [] [(Fm.mk 4 [] [] [Fm.mk 1 [80] [] [],Fm.mk 1 [80] [] []])],
 isV (.tuple #[.bool false,.int .i64 0]),
 isV (.tuple #[.bool false,.int .i64 0]),
 isV (.bool false),
 isV (.int .i64 0),
 isV (.bool false),
 isV (.int .i64 0)]
theorem aw5_stays : ∀ r ∈ aw5R,gV r:=by
 unfold aw5R
 simp only [List.forall_mem_cons]
 exact ⟨aE _,aE _,bY _,gM _,bY _,bY _,eN _ _,aE _,aE _,bY _,gM _,bY _,bY _,eN _ _,aE _,aE _,aE _,aE _,aE _,aE _,fun r h=>by cases h⟩
set_option maxHeartbeats 4000000 in
theorem aw5_steps (Q : Exit → Act → World → Prop) (W : World) (a0 : Act) (g1 g2 g3 : Nat) (h1 : a0.tmps.getD 1 undef = one g1) (h2 : a0.tmps.getD 2 undef = one g2) (h3 : a0.tmps.getD 3 undef = one g3) (HA : AwV g1 g2 g3 W) (hr : cU W) (hp : cK W) : aB Tryz.prog aw5 Q W a0 (rAt aw5R) [0,1,2,3,4,5,6,7,8,9,10,11,12,13,14,15,16,17,18,19]:=by
 refine aB.step (Op.load 40 (Operand.tmp 1)) (by kernel_rfl) (fun a w F=>?_) ?_
 ·have e:=(F.old 1 (by kernel_rfl)).trans h1
  obtain ⟨⟨p0,p1,p2,p3⟩,-⟩:=aL (kc F.bw HA.c1)
  clear F
  rintro ⟨dst,op,ty,pos,af,gd⟩ rfl K Q' hK
  have HK:=Lib.hid hK
  clear hK
  go_simp
  exact HK.out _ _ ⟨Below.refl _ _,rfl⟩
 refine aB.step (Op.load 40 (Operand.tmp 2)) (by kernel_rfl) (fun a w F=>?_) ?_
 ·have e:=(F.old 2 (by kernel_rfl)).trans h2
  obtain ⟨⟨p0,p1,p2,p3⟩,-⟩:=aL (kc F.bw HA.c2)
  clear F
  rintro ⟨dst,op,ty,pos,af,gd⟩ rfl K Q' hK
  have HK:=Lib.hid hK
  clear hK
  go_simp
  exact HK.out _ _ ⟨Below.refl _ _,rfl⟩
 refine aB.step (Op.buildSlice 24 2 #[(0,Operand.tmp 78),(1,Operand.tmp 79)]) (by kernel_rfl) (fun a w F=>?_) ?_
 ·have ex : a.tmps[78]?.getD undef = .agg #[.int .u8 1,str [80],.slice none 0 0,.slice none 0 0]:=F.dep 0 78 (by kernel_rfl) (by kernel_rfl)
  have dx:=eR w [80]
  have ey : a.tmps[79]?.getD undef = .agg #[.int .u8 1,str [81],.slice none 0 0,.slice none 0 0]:=F.dep 1 79 (by kernel_rfl) (by kernel_rfl)
  have dy:=eR w [81]
  clear F
  rintro ⟨dst,op,ty,pos,af,gd⟩ rfl K Q' hK
  have HK:=Lib.hid hK
  have Dx:=Lib.hid dx
  have Dy:=Lib.hid dy
  clear hK dx dy
  go_simp
  exact HK.out _ _ ⟨aZ _ _,kP Dx.out Dy.out⟩
 refine aB.step (Op.call { callee:=Callee.value (Operand.func 17),args:=#[Operand.const (Value.int IntKind.u8 4),Operand.tmp 80],argTypes:=#[5,24] }) (by kernel_rfl) (fun a w F=>?_) ?_
 ·have dx : aN w [Fm.mk 1 [80] [] [],Fm.mk 1 [81] [] []] (a.tmps[80]?.getD undef):=F.dep 2 80 (by kernel_rfl) (by kernel_rfl)
  obtain ⟨ax,cx,ex,-⟩:=At.sl_inv dx
  rw [ex] at dx
  clear F
  rintro ⟨dst,op,ty,pos,af,gd⟩ rfl K Q' hK
  have HK:=Lib.hid hK
  have DX:=Lib.hid dx
  clear hK dx
  go_simp
  go_at_call 17
  refine (fJ 4 [Fm.mk 1 [80] [] [],Fm.mk 1 [81] [] []] _ _ _ _ DX.out).mono ?_
  rintro e w1 ⟨v,rfl,hv,hb⟩
  exact HK.out _ _ ⟨hb,hv⟩
 refine aB.step (Op.buildSlice 24 1 #[(0,Operand.tmp 81)]) (by kernel_rfl) (fun a w F=>?_) ?_
 ·have dx : aV w (Fm.mk 4 [] [] [Fm.mk 1 [80] [] [],Fm.mk 1 [81] [] []]) (a.tmps[81]?.getD undef):=F.dep 3 81 (by kernel_rfl) (by kernel_rfl)
  obtain ⟨ix,nx,cx,jx,mx,lx,ex,-⟩:=id dx
  rw [ex] at dx
  clear F
  rintro ⟨dst,op,ty,pos,af,gd⟩ rfl K Q' hK
  have HK:=Lib.hid hK
  have Dx:=Lib.hid dx
  clear hK dx
  go_simp
  exact HK.out _ _ ⟨aZ _ _,kO Dx.out⟩
 refine aB.step (Op.call { callee:=Callee.value (Operand.func 21),args:=#[Operand.tmp 82],argTypes:=#[24] }) (by kernel_rfl) (fun a w F=>?_) ?_
 ·have dx : aN w [(Fm.mk 4 [] [] [Fm.mk 1 [80] [] [],Fm.mk 1 [81] [] []])] (a.tmps[82]?.getD undef):=F.dep 4 82 (by kernel_rfl) (by kernel_rfl)
  obtain ⟨ax,cx,ex,-⟩:=At.sl_inv dx
  rw [ex] at dx
  clear F
  rintro ⟨dst,op,ty,pos,af,gd⟩ rfl K Q' hK
  have HK:=Lib.hid hK
  have DX:=Lib.hid dx
  clear hK dx
  go_simp
  go_at_call 21
  refine (fs_c _ _).mono ?_
  rintro e w1 ⟨rfl,rfl⟩
  exact HK.out _ _ ⟨Below.refl _ _,DX.out⟩
 refine aB.step (Op.call { callee:=Callee.value (Operand.func 20),args:=#[Operand.const (Value.slice none 0 0),Operand.tmp 83],argTypes:=#[24,24] }) (by kernel_rfl) (fun a w F=>?_) ?_
 ·have dy : aN w [(Fm.mk 4 [] [] [Fm.mk 1 [80] [] [],Fm.mk 1 [81] [] []])] (a.tmps[83]?.getD undef):=F.dep 5 83 (by kernel_rfl) (by kernel_rfl)
  obtain ⟨ay,cy,ey,-⟩:=At.sl_inv dy
  rw [ey] at dy
  clear F
  rintro ⟨dst,op,ty,pos,af,gd⟩ rfl K Q' hK
  have HK:=Lib.hid hK
  have DY:=Lib.hid dy
  clear hK dy
  go_simp
  go_at_call 20
  refine (sq_c _ _ _ _ _ _ _).mono ?_
  rintro e w1 ⟨rfl,hb⟩
  exact HK.out _ _ ⟨hb,_,_,_,_,_,_,rfl,At.sl_nil (Nat.zero_le _),(DY.out).keep (aA hb)⟩
 refine aB.step (Op.load 40 (Operand.tmp 1)) (by kernel_rfl) (fun a w F=>?_) ?_
 ·have e:=(F.old 1 (by kernel_rfl)).trans h1
  obtain ⟨⟨p0,p1,p2,p3⟩,-⟩:=aL (kc F.bw HA.c1)
  clear F
  rintro ⟨dst,op,ty,pos,af,gd⟩ rfl K Q' hK
  have HK:=Lib.hid hK
  clear hK
  go_simp
  exact HK.out _ _ ⟨Below.refl _ _,rfl⟩
 refine aB.step (Op.load 40 (Operand.tmp 1)) (by kernel_rfl) (fun a w F=>?_) ?_
 ·have e:=(F.old 1 (by kernel_rfl)).trans h1
  obtain ⟨⟨p0,p1,p2,p3⟩,-⟩:=aL (kc F.bw HA.c1)
  clear F
  rintro ⟨dst,op,ty,pos,af,gd⟩ rfl K Q' hK
  have HK:=Lib.hid hK
  clear hK
  go_simp
  exact HK.out _ _ ⟨Below.refl _ _,rfl⟩
 refine aB.step (Op.buildSlice 24 2 #[(0,Operand.tmp 85),(1,Operand.tmp 86)]) (by kernel_rfl) (fun a w F=>?_) ?_
 ·have ex : a.tmps[85]?.getD undef = .agg #[.int .u8 1,str [80],.slice none 0 0,.slice none 0 0]:=F.dep 7 85 (by kernel_rfl) (by kernel_rfl)
  have dx:=eR w [80]
  have ey : a.tmps[86]?.getD undef = .agg #[.int .u8 1,str [80],.slice none 0 0,.slice none 0 0]:=F.dep 8 86 (by kernel_rfl) (by kernel_rfl)
  have dy:=eR w [80]
  clear F
  rintro ⟨dst,op,ty,pos,af,gd⟩ rfl K Q' hK
  have HK:=Lib.hid hK
  have Dx:=Lib.hid dx
  have Dy:=Lib.hid dy
  clear hK dx dy
  go_simp
  exact HK.out _ _ ⟨aZ _ _,kP Dx.out Dy.out⟩
 refine aB.step (Op.call { callee:=Callee.value (Operand.func 17),args:=#[Operand.const (Value.int IntKind.u8 4),Operand.tmp 87],argTypes:=#[5,24] }) (by kernel_rfl) (fun a w F=>?_) ?_
 ·have dx : aN w [Fm.mk 1 [80] [] [],Fm.mk 1 [80] [] []] (a.tmps[87]?.getD undef):=F.dep 9 87 (by kernel_rfl) (by kernel_rfl)
  obtain ⟨ax,cx,ex,-⟩:=At.sl_inv dx
  rw [ex] at dx
  clear F
  rintro ⟨dst,op,ty,pos,af,gd⟩ rfl K Q' hK
  have HK:=Lib.hid hK
  have DX:=Lib.hid dx
  clear hK dx
  go_simp
  go_at_call 17
  refine (fJ 4 [Fm.mk 1 [80] [] [],Fm.mk 1 [80] [] []] _ _ _ _ DX.out).mono ?_
  rintro e w1 ⟨v,rfl,hv,hb⟩
  exact HK.out _ _ ⟨hb,hv⟩
 refine aB.step (Op.buildSlice 24 1 #[(0,Operand.tmp 88)]) (by kernel_rfl) (fun a w F=>?_) ?_
 ·have dx : aV w (Fm.mk 4 [] [] [Fm.mk 1 [80] [] [],Fm.mk 1 [80] [] []]) (a.tmps[88]?.getD undef):=F.dep 10 88 (by kernel_rfl) (by kernel_rfl)
  obtain ⟨ix,nx,cx,jx,mx,lx,ex,-⟩:=id dx
  rw [ex] at dx
  clear F
  rintro ⟨dst,op,ty,pos,af,gd⟩ rfl K Q' hK
  have HK:=Lib.hid hK
  have Dx:=Lib.hid dx
  clear hK dx
  go_simp
  exact HK.out _ _ ⟨aZ _ _,kO Dx.out⟩
 refine aB.step (Op.call { callee:=Callee.value (Operand.func 21),args:=#[Operand.tmp 89],argTypes:=#[24] }) (by kernel_rfl) (fun a w F=>?_) ?_
 ·have dx : aN w [(Fm.mk 4 [] [] [Fm.mk 1 [80] [] [],Fm.mk 1 [80] [] []])] (a.tmps[89]?.getD undef):=F.dep 11 89 (by kernel_rfl) (by kernel_rfl)
  obtain ⟨ax,cx,ex,-⟩:=At.sl_inv dx
  rw [ex] at dx
  clear F
  rintro ⟨dst,op,ty,pos,af,gd⟩ rfl K Q' hK
  have HK:=Lib.hid hK
  have DX:=Lib.hid dx
  clear hK dx
  go_simp
  go_at_call 21
  refine (fs_c _ _).mono ?_
  rintro e w1 ⟨rfl,rfl⟩
  exact HK.out _ _ ⟨Below.refl _ _,DX.out⟩
 refine aB.step (Op.call { callee:=Callee.value (Operand.func 20),args:=#[Operand.const (Value.slice none 0 0),Operand.tmp 90],argTypes:=#[24,24] }) (by kernel_rfl) (fun a w F=>?_) ?_
 ·have dy : aN w [(Fm.mk 4 [] [] [Fm.mk 1 [80] [] [],Fm.mk 1 [80] [] []])] (a.tmps[90]?.getD undef):=F.dep 12 90 (by kernel_rfl) (by kernel_rfl)
  obtain ⟨ay,cy,ey,-⟩:=At.sl_inv dy
  rw [ey] at dy
  clear F
  rintro ⟨dst,op,ty,pos,af,gd⟩ rfl K Q' hK
  have HK:=Lib.hid hK
  have DY:=Lib.hid dy
  clear hK dy
  go_simp
  go_at_call 20
  refine (sq_c _ _ _ _ _ _ _).mono ?_
  rintro e w1 ⟨rfl,hb⟩
  exact HK.out _ _ ⟨hb,_,_,_,_,_,_,rfl,At.sl_nil (Nat.zero_le _),(DY.out).keep (aA hb)⟩
 refine aB.step (Op.call { callee:=Callee.value (Operand.func 12),args:=#[Operand.tmp 84,Operand.tmp 91],argTypes:=#[26,26] }) (by kernel_rfl) (fun a w F=>?_) ?_
 ·have dx : cV w [] [(Fm.mk 4 [] [] [Fm.mk 1 [80] [] [],Fm.mk 1 [81] [] []])] (a.tmps[84]?.getD undef):=F.dep 6 84 (by kernel_rfl) (by kernel_rfl)
  obtain ⟨a1,n1,c1,b1,m1,l1,ex,-⟩:=id dx
  rw [ex] at dx
  have dy : cV w [] [(Fm.mk 4 [] [] [Fm.mk 1 [80] [] [],Fm.mk 1 [80] [] []])] (a.tmps[91]?.getD undef):=F.dep 13 91 (by kernel_rfl) (by kernel_rfl)
  obtain ⟨a2,n2,c2,b2,m2,l2,ey,-⟩:=id dy
  rw [ey] at dy
  have rows:=hr.keep (aA F.bw)
  have pows:=hp.below F.bw
  clear F
  rintro ⟨dst,op,ty,pos,af,gd⟩ rfl K Q' hK
  have HK:=Lib.hid hK
  have DX:=Lib.hid dx
  have DY:=Lib.hid dy
  have ROWS:=Lib.hid rows
  have POWS:=Lib.hid pows
  clear hK dx dy rows pows
  go_simp
  go_at_call 12
  refine (qH _ _ _ _ _ _ _ ROWS.out POWS.out DX.out DY.out (gT (by kernel_rfl)) (gT (by kernel_rfl))).mono ?_
  rintro e w1 ⟨rfl,hb⟩
  exact HK.out _ _ ⟨hb,congrArg (fun b=>Value.tuple #[.bool b,.int .i64 0]) (tT Ly.aw3)⟩
 refine aB.step (Op.move (Operand.tmp 92)) (by kernel_rfl) (fun a w F=>?_) ?_
 ·have e : a.tmps[92]?.getD undef = .tuple #[.bool false,.int .i64 0]:=F.dep 14 92 (by kernel_rfl) (by kernel_rfl)
  clear F
  rintro ⟨dst,op,ty,pos,af,gd⟩ rfl K Q' hK
  have HK:=Lib.hid hK
  clear hK
  go_simp
  exact HK.out _ _ ⟨Below.refl _ _,rfl⟩
 refine aB.step (Op.extract (Operand.tmp 77) 0) (by kernel_rfl) (fun a w F=>?_) ?_
 ·have e : a.tmps[77]?.getD undef = .tuple #[.bool false,.int .i64 0]:=F.dep 15 77 (by kernel_rfl) (by kernel_rfl)
  clear F
  rintro ⟨dst,op,ty,pos,af,gd⟩ rfl K Q' hK
  have HK:=Lib.hid hK
  clear hK
  go_simp
  exact HK.out _ _ ⟨Below.refl _ _,rfl⟩
 refine aB.step (Op.extract (Operand.tmp 77) 1) (by kernel_rfl) (fun a w F=>?_) ?_
 ·have e : a.tmps[77]?.getD undef = .tuple #[.bool false,.int .i64 0]:=F.dep 15 77 (by kernel_rfl) (by kernel_rfl)
  clear F
  rintro ⟨dst,op,ty,pos,af,gd⟩ rfl K Q' hK
  have HK:=Lib.hid hK
  clear hK
  go_simp
  exact HK.out _ _ ⟨Below.refl _ _,rfl⟩
 refine aB.step (Op.assign (Operand.tmp 93)) (by kernel_rfl) (fun a w F=>?_) ?_
 ·have e : a.tmps[93]?.getD undef = .bool false:=F.dep 16 93 (by kernel_rfl) (by kernel_rfl)
  clear F
  rintro ⟨dst,op,ty,pos,af,gd⟩ rfl K Q' hK
  have HK:=Lib.hid hK
  clear hK
  go_simp
  exact HK.out _ _ ⟨Below.refl _ _,rfl⟩
 refine aB.step (Op.assign (Operand.tmp 94)) (by kernel_rfl) (fun a w F=>?_) ?_
 ·have e : a.tmps[94]?.getD undef = .int .i64 0:=F.dep 17 94 (by kernel_rfl) (by kernel_rfl)
  clear F
  rintro ⟨dst,op,ty,pos,af,gd⟩ rfl K Q' hK
  have HK:=Lib.hid hK
  clear hK
  go_simp
  exact HK.out _ _ ⟨Below.refl _ _,rfl⟩
 exact aB.nil
end Go.Proofs.YtppfalbnhnpbnaaGreatDoor
namespace Go.Proofs.YtppfalbnhnpbnaaGreatDoor
open Go Go.RowKit Ly
set_option maxRecDepth 10000
noncomputable def aw6 : Array Oper:=((Tryz.f9.body).bind (eG 6)).getD #[]
def aw6R : List (Value → World → Prop):=[isV (atV [80]),
 isV (atV [81]),
 fsP [Fm.mk 1 [80] [] [],Fm.mk 1 [81] [] []],
 fmP (Fm.mk 6 [] [] [Fm.mk 1 [80] [] [],Fm.mk 1 [81] [] []]),
 isV (atV [80]),
 fsP [(Fm.mk 6 [] [] [Fm.mk 1 [80] [] [],Fm.mk 1 [81] [] []]),Fm.mk 1 [80] [] []],
 fsP [(Fm.mk 6 [] [] [Fm.mk 1 [80] [] [],Fm.mk 1 [81] [] []]),Fm.mk 1 [80] [] []],
 isV (atV [81]),
 fsP [Fm.mk 1 [81] [] []],
 fsP [Fm.mk 1 [81] [] []],
 sqP [(Fm.mk 6 [] [] [Fm.mk 1 [80] [] [],Fm.mk 1 [81] [] []]),Fm.mk 1 [80] [] []] [Fm.mk 1 [81] [] []],
 isV (atV [80]),
 isV (atV [80]),
 isV (atV [81]),
 fsP [Fm.mk 1 [80] [] [],Fm.mk 1 [81] [] []],
 fmP (Fm.mk 6 [] [] [Fm.mk 1 [80] [] [],Fm.mk 1 [81] [] []]),
 fsP [Fm.mk 1 [80] [] [],(Fm.mk 6 [] [] [Fm.mk 1 [80] [] [],Fm.mk 1 [81] [] []])],
 fsP [Fm.mk 1 [80] [] [],(Fm.mk 6 [] [] [Fm.mk 1 [80] [] [],Fm.mk 1 [81] [] []])],
 isV (atV [81]),
 fsP [Fm.mk 1 [81] [] []],
 fsP [Fm.mk 1 [81] [] []],
 sqP [Fm.mk 1 [80] [] [],(Fm.mk 6 [] [] [Fm.mk 1 [80] [] [],Fm.mk 1 [81] [] []])] [Fm.mk 1 [81] [] []],
 isV (.tuple #[.bool false,.int .i64 0]),
 isV (.tuple #[.bool false,.int .i64 0]),
 isV (.bool false),
 isV (.int .i64 0),
 isV (.bool false),
 isV (.int .i64 0)]
theorem aw6_stays : ∀ r ∈ aw6R,gV r:=by
 unfold aw6R
 simp only [List.forall_mem_cons]
 exact ⟨aE _,aE _,bY _,gM _,aE _,bY _,bY _,aE _,bY _,bY _,eN _ _,aE _,aE _,aE _,bY _,gM _,bY _,bY _,aE _,bY _,bY _,eN _ _,aE _,aE _,aE _,aE _,aE _,aE _,fun r h=>by cases h⟩
set_option maxHeartbeats 4000000 in
theorem aw6_steps (Q : Exit → Act → World → Prop) (W : World) (a0 : Act) (g1 g2 g3 : Nat) (h1 : a0.tmps.getD 1 undef = one g1) (h2 : a0.tmps.getD 2 undef = one g2) (h3 : a0.tmps.getD 3 undef = one g3) (HA : AwV g1 g2 g3 W) (hr : cU W) (hp : cK W) : aB Tryz.prog aw6 Q W a0 (rAt aw6R) [0,1,2,3,4,5,6,7,8,9,10,11,12,13,14,15,16,17,18,19,20,21,22,23,24,25,26,27]:=by
 refine aB.step (Op.load 40 (Operand.tmp 1)) (by kernel_rfl) (fun a w F=>?_) ?_
 ·have e:=(F.old 1 (by kernel_rfl)).trans h1
  obtain ⟨⟨p0,p1,p2,p3⟩,-⟩:=aL (kc F.bw HA.c1)
  clear F
  rintro ⟨dst,op,ty,pos,af,gd⟩ rfl K Q' hK
  have HK:=Lib.hid hK
  clear hK
  go_simp
  exact HK.out _ _ ⟨Below.refl _ _,rfl⟩
 refine aB.step (Op.load 40 (Operand.tmp 2)) (by kernel_rfl) (fun a w F=>?_) ?_
 ·have e:=(F.old 2 (by kernel_rfl)).trans h2
  obtain ⟨⟨p0,p1,p2,p3⟩,-⟩:=aL (kc F.bw HA.c2)
  clear F
  rintro ⟨dst,op,ty,pos,af,gd⟩ rfl K Q' hK
  have HK:=Lib.hid hK
  clear hK
  go_simp
  exact HK.out _ _ ⟨Below.refl _ _,rfl⟩
 refine aB.step (Op.buildSlice 24 2 #[(0,Operand.tmp 96),(1,Operand.tmp 97)]) (by kernel_rfl) (fun a w F=>?_) ?_
 ·have ex : a.tmps[96]?.getD undef = .agg #[.int .u8 1,str [80],.slice none 0 0,.slice none 0 0]:=F.dep 0 96 (by kernel_rfl) (by kernel_rfl)
  have dx:=eR w [80]
  have ey : a.tmps[97]?.getD undef = .agg #[.int .u8 1,str [81],.slice none 0 0,.slice none 0 0]:=F.dep 1 97 (by kernel_rfl) (by kernel_rfl)
  have dy:=eR w [81]
  clear F
  rintro ⟨dst,op,ty,pos,af,gd⟩ rfl K Q' hK
  have HK:=Lib.hid hK
  have Dx:=Lib.hid dx
  have Dy:=Lib.hid dy
  clear hK dx dy
  go_simp
  exact HK.out _ _ ⟨aZ _ _,kP Dx.out Dy.out⟩
 refine aB.step (Op.call { callee:=Callee.value (Operand.func 17),args:=#[Operand.const (Value.int IntKind.u8 6),Operand.tmp 98],argTypes:=#[5,24] }) (by kernel_rfl) (fun a w F=>?_) ?_
 ·have dx : aN w [Fm.mk 1 [80] [] [],Fm.mk 1 [81] [] []] (a.tmps[98]?.getD undef):=F.dep 2 98 (by kernel_rfl) (by kernel_rfl)
  obtain ⟨ax,cx,ex,-⟩:=At.sl_inv dx
  rw [ex] at dx
  clear F
  rintro ⟨dst,op,ty,pos,af,gd⟩ rfl K Q' hK
  have HK:=Lib.hid hK
  have DX:=Lib.hid dx
  clear hK dx
  go_simp
  go_at_call 17
  refine (fJ 6 [Fm.mk 1 [80] [] [],Fm.mk 1 [81] [] []] _ _ _ _ DX.out).mono ?_
  rintro e w1 ⟨v,rfl,hv,hb⟩
  exact HK.out _ _ ⟨hb,hv⟩
 refine aB.step (Op.load 40 (Operand.tmp 1)) (by kernel_rfl) (fun a w F=>?_) ?_
 ·have e:=(F.old 1 (by kernel_rfl)).trans h1
  obtain ⟨⟨p0,p1,p2,p3⟩,-⟩:=aL (kc F.bw HA.c1)
  clear F
  rintro ⟨dst,op,ty,pos,af,gd⟩ rfl K Q' hK
  have HK:=Lib.hid hK
  clear hK
  go_simp
  exact HK.out _ _ ⟨Below.refl _ _,rfl⟩
 refine aB.step (Op.buildSlice 24 2 #[(0,Operand.tmp 99),(1,Operand.tmp 100)]) (by kernel_rfl) (fun a w F=>?_) ?_
 ·have dx : aV w (Fm.mk 6 [] [] [Fm.mk 1 [80] [] [],Fm.mk 1 [81] [] []]) (a.tmps[99]?.getD undef):=F.dep 3 99 (by kernel_rfl) (by kernel_rfl)
  obtain ⟨ix,nx,cx,jx,mx,lx,ex,-⟩:=id dx
  rw [ex] at dx
  have ey : a.tmps[100]?.getD undef = .agg #[.int .u8 1,str [80],.slice none 0 0,.slice none 0 0]:=F.dep 4 100 (by kernel_rfl) (by kernel_rfl)
  have dy:=eR w [80]
  clear F
  rintro ⟨dst,op,ty,pos,af,gd⟩ rfl K Q' hK
  have HK:=Lib.hid hK
  have Dx:=Lib.hid dx
  have Dy:=Lib.hid dy
  clear hK dx dy
  go_simp
  exact HK.out _ _ ⟨aZ _ _,kP Dx.out Dy.out⟩
 refine aB.step (Op.call { callee:=Callee.value (Operand.func 21),args:=#[Operand.tmp 101],argTypes:=#[24] }) (by kernel_rfl) (fun a w F=>?_) ?_
 ·have dx : aN w [(Fm.mk 6 [] [] [Fm.mk 1 [80] [] [],Fm.mk 1 [81] [] []]),Fm.mk 1 [80] [] []] (a.tmps[101]?.getD undef):=F.dep 5 101 (by kernel_rfl) (by kernel_rfl)
  obtain ⟨ax,cx,ex,-⟩:=At.sl_inv dx
  rw [ex] at dx
  clear F
  rintro ⟨dst,op,ty,pos,af,gd⟩ rfl K Q' hK
  have HK:=Lib.hid hK
  have DX:=Lib.hid dx
  clear hK dx
  go_simp
  go_at_call 21
  refine (fs_c _ _).mono ?_
  rintro e w1 ⟨rfl,rfl⟩
  exact HK.out _ _ ⟨Below.refl _ _,DX.out⟩
 refine aB.step (Op.load 40 (Operand.tmp 2)) (by kernel_rfl) (fun a w F=>?_) ?_
 ·have e:=(F.old 2 (by kernel_rfl)).trans h2
  obtain ⟨⟨p0,p1,p2,p3⟩,-⟩:=aL (kc F.bw HA.c2)
  clear F
  rintro ⟨dst,op,ty,pos,af,gd⟩ rfl K Q' hK
  have HK:=Lib.hid hK
  clear hK
  go_simp
  exact HK.out _ _ ⟨Below.refl _ _,rfl⟩
 refine aB.step (Op.buildSlice 24 1 #[(0,Operand.tmp 103)]) (by kernel_rfl) (fun a w F=>?_) ?_
 ·have ex : a.tmps[103]?.getD undef = .agg #[.int .u8 1,str [81],.slice none 0 0,.slice none 0 0]:=F.dep 7 103 (by kernel_rfl) (by kernel_rfl)
  have dx:=eR w [81]
  clear F
  rintro ⟨dst,op,ty,pos,af,gd⟩ rfl K Q' hK
  have HK:=Lib.hid hK
  have Dx:=Lib.hid dx
  clear hK dx
  go_simp
  exact HK.out _ _ ⟨aZ _ _,kO Dx.out⟩
 refine aB.step (Op.call { callee:=Callee.value (Operand.func 21),args:=#[Operand.tmp 104],argTypes:=#[24] }) (by kernel_rfl) (fun a w F=>?_) ?_
 ·have dx : aN w [Fm.mk 1 [81] [] []] (a.tmps[104]?.getD undef):=F.dep 8 104 (by kernel_rfl) (by kernel_rfl)
  obtain ⟨ax,cx,ex,-⟩:=At.sl_inv dx
  rw [ex] at dx
  clear F
  rintro ⟨dst,op,ty,pos,af,gd⟩ rfl K Q' hK
  have HK:=Lib.hid hK
  have DX:=Lib.hid dx
  clear hK dx
  go_simp
  go_at_call 21
  refine (fs_c _ _).mono ?_
  rintro e w1 ⟨rfl,rfl⟩
  exact HK.out _ _ ⟨Below.refl _ _,DX.out⟩
 refine aB.step (Op.call { callee:=Callee.value (Operand.func 20),args:=#[Operand.tmp 102,Operand.tmp 105],argTypes:=#[24,24] }) (by kernel_rfl) (fun a w F=>?_) ?_
 ·have dx : aN w [(Fm.mk 6 [] [] [Fm.mk 1 [80] [] [],Fm.mk 1 [81] [] []]),Fm.mk 1 [80] [] []] (a.tmps[102]?.getD undef):=F.dep 6 102 (by kernel_rfl) (by kernel_rfl)
  obtain ⟨ax,cx,ex,-⟩:=At.sl_inv dx
  rw [ex] at dx
  have dy : aN w [Fm.mk 1 [81] [] []] (a.tmps[105]?.getD undef):=F.dep 9 105 (by kernel_rfl) (by kernel_rfl)
  obtain ⟨ay,cy,ey,-⟩:=At.sl_inv dy
  rw [ey] at dy
  clear F
  rintro ⟨dst,op,ty,pos,af,gd⟩ rfl K Q' hK
  have HK:=Lib.hid hK
  have DX:=Lib.hid dx
  have DY:=Lib.hid dy
  clear hK dx dy
  go_simp
  go_at_call 20
  refine (sq_c _ _ _ _ _ _ _).mono ?_
  rintro e w1 ⟨rfl,hb⟩
  exact HK.out _ _ ⟨hb,_,_,_,_,_,_,rfl,(DX.out).keep (aA hb),(DY.out).keep (aA hb)⟩
 refine aB.step (Op.load 40 (Operand.tmp 1)) (by kernel_rfl) (fun a w F=>?_) ?_
 ·have e:=(F.old 1 (by kernel_rfl)).trans h1
  obtain ⟨⟨p0,p1,p2,p3⟩,-⟩:=aL (kc F.bw HA.c1)
  clear F
  rintro ⟨dst,op,ty,pos,af,gd⟩ rfl K Q' hK
  have HK:=Lib.hid hK
  clear hK
  go_simp
  exact HK.out _ _ ⟨Below.refl _ _,rfl⟩
 refine aB.step (Op.load 40 (Operand.tmp 1)) (by kernel_rfl) (fun a w F=>?_) ?_
 ·have e:=(F.old 1 (by kernel_rfl)).trans h1
  obtain ⟨⟨p0,p1,p2,p3⟩,-⟩:=aL (kc F.bw HA.c1)
  clear F
  rintro ⟨dst,op,ty,pos,af,gd⟩ rfl K Q' hK
  have HK:=Lib.hid hK
  clear hK
  go_simp
  exact HK.out _ _ ⟨Below.refl _ _,rfl⟩
 refine aB.step (Op.load 40 (Operand.tmp 2)) (by kernel_rfl) (fun a w F=>?_) ?_
 ·have e:=(F.old 2 (by kernel_rfl)).trans h2
  obtain ⟨⟨p0,p1,p2,p3⟩,-⟩:=aL (kc F.bw HA.c2)
  clear F
  rintro ⟨dst,op,ty,pos,af,gd⟩ rfl K Q' hK
  have HK:=Lib.hid hK
  clear hK
  go_simp
  exact HK.out _ _ ⟨Below.refl _ _,rfl⟩
 refine aB.step (Op.buildSlice 24 2 #[(0,Operand.tmp 108),(1,Operand.tmp 109)]) (by kernel_rfl) (fun a w F=>?_) ?_
 ·have ex : a.tmps[108]?.getD undef = .agg #[.int .u8 1,str [80],.slice none 0 0,.slice none 0 0]:=F.dep 12 108 (by kernel_rfl) (by kernel_rfl)
  have dx:=eR w [80]
  have ey : a.tmps[109]?.getD undef = .agg #[.int .u8 1,str [81],.slice none 0 0,.slice none 0 0]:=F.dep 13 109 (by kernel_rfl) (by kernel_rfl)
  have dy:=eR w [81]
  clear F
  rintro ⟨dst,op,ty,pos,af,gd⟩ rfl K Q' hK
  have HK:=Lib.hid hK
  have Dx:=Lib.hid dx
  have Dy:=Lib.hid dy
  clear hK dx dy
  go_simp
  exact HK.out _ _ ⟨aZ _ _,kP Dx.out Dy.out⟩
 refine aB.step (Op.call { callee:=Callee.value (Operand.func 17),args:=#[Operand.const (Value.int IntKind.u8 6),Operand.tmp 110],argTypes:=#[5,24] }) (by kernel_rfl) (fun a w F=>?_) ?_
 ·have dx : aN w [Fm.mk 1 [80] [] [],Fm.mk 1 [81] [] []] (a.tmps[110]?.getD undef):=F.dep 14 110 (by kernel_rfl) (by kernel_rfl)
  obtain ⟨ax,cx,ex,-⟩:=At.sl_inv dx
  rw [ex] at dx
  clear F
  rintro ⟨dst,op,ty,pos,af,gd⟩ rfl K Q' hK
  have HK:=Lib.hid hK
  have DX:=Lib.hid dx
  clear hK dx
  go_simp
  go_at_call 17
  refine (fJ 6 [Fm.mk 1 [80] [] [],Fm.mk 1 [81] [] []] _ _ _ _ DX.out).mono ?_
  rintro e w1 ⟨v,rfl,hv,hb⟩
  exact HK.out _ _ ⟨hb,hv⟩
 refine aB.step (Op.buildSlice 24 2 #[(0,Operand.tmp 107),(1,Operand.tmp 111)]) (by kernel_rfl) (fun a w F=>?_) ?_
 ·have ex : a.tmps[107]?.getD undef = .agg #[.int .u8 1,str [80],.slice none 0 0,.slice none 0 0]:=F.dep 11 107 (by kernel_rfl) (by kernel_rfl)
  have dx:=eR w [80]
  have dy : aV w (Fm.mk 6 [] [] [Fm.mk 1 [80] [] [],Fm.mk 1 [81] [] []]) (a.tmps[111]?.getD undef):=F.dep 15 111 (by kernel_rfl) (by kernel_rfl)
  obtain ⟨iy,ny,cy,jy,my,ly,ey,-⟩:=id dy
  rw [ey] at dy
  clear F
  rintro ⟨dst,op,ty,pos,af,gd⟩ rfl K Q' hK
  have HK:=Lib.hid hK
  have Dx:=Lib.hid dx
  have Dy:=Lib.hid dy
  clear hK dx dy
  go_simp
  exact HK.out _ _ ⟨aZ _ _,kP Dx.out Dy.out⟩
 refine aB.step (Op.call { callee:=Callee.value (Operand.func 21),args:=#[Operand.tmp 112],argTypes:=#[24] }) (by kernel_rfl) (fun a w F=>?_) ?_
 ·have dx : aN w [Fm.mk 1 [80] [] [],(Fm.mk 6 [] [] [Fm.mk 1 [80] [] [],Fm.mk 1 [81] [] []])] (a.tmps[112]?.getD undef):=F.dep 16 112 (by kernel_rfl) (by kernel_rfl)
  obtain ⟨ax,cx,ex,-⟩:=At.sl_inv dx
  rw [ex] at dx
  clear F
  rintro ⟨dst,op,ty,pos,af,gd⟩ rfl K Q' hK
  have HK:=Lib.hid hK
  have DX:=Lib.hid dx
  clear hK dx
  go_simp
  go_at_call 21
  refine (fs_c _ _).mono ?_
  rintro e w1 ⟨rfl,rfl⟩
  exact HK.out _ _ ⟨Below.refl _ _,DX.out⟩
 refine aB.step (Op.load 40 (Operand.tmp 2)) (by kernel_rfl) (fun a w F=>?_) ?_
 ·have e:=(F.old 2 (by kernel_rfl)).trans h2
  obtain ⟨⟨p0,p1,p2,p3⟩,-⟩:=aL (kc F.bw HA.c2)
  clear F
  rintro ⟨dst,op,ty,pos,af,gd⟩ rfl K Q' hK
  have HK:=Lib.hid hK
  clear hK
  go_simp
  exact HK.out _ _ ⟨Below.refl _ _,rfl⟩
 refine aB.step (Op.buildSlice 24 1 #[(0,Operand.tmp 114)]) (by kernel_rfl) (fun a w F=>?_) ?_
 ·have ex : a.tmps[114]?.getD undef = .agg #[.int .u8 1,str [81],.slice none 0 0,.slice none 0 0]:=F.dep 18 114 (by kernel_rfl) (by kernel_rfl)
  have dx:=eR w [81]
  clear F
  rintro ⟨dst,op,ty,pos,af,gd⟩ rfl K Q' hK
  have HK:=Lib.hid hK
  have Dx:=Lib.hid dx
  clear hK dx
  go_simp
  exact HK.out _ _ ⟨aZ _ _,kO Dx.out⟩
 refine aB.step (Op.call { callee:=Callee.value (Operand.func 21),args:=#[Operand.tmp 115],argTypes:=#[24] }) (by kernel_rfl) (fun a w F=>?_) ?_
 ·have dx : aN w [Fm.mk 1 [81] [] []] (a.tmps[115]?.getD undef):=F.dep 19 115 (by kernel_rfl) (by kernel_rfl)
  obtain ⟨ax,cx,ex,-⟩:=At.sl_inv dx
  rw [ex] at dx
  clear F
  rintro ⟨dst,op,ty,pos,af,gd⟩ rfl K Q' hK
  have HK:=Lib.hid hK
  have DX:=Lib.hid dx
  clear hK dx
  go_simp
  go_at_call 21
  refine (fs_c _ _).mono ?_
  rintro e w1 ⟨rfl,rfl⟩
  exact HK.out _ _ ⟨Below.refl _ _,DX.out⟩
 refine aB.step (Op.call { callee:=Callee.value (Operand.func 20),args:=#[Operand.tmp 113,Operand.tmp 116],argTypes:=#[24,24] }) (by kernel_rfl) (fun a w F=>?_) ?_
 ·have dx : aN w [Fm.mk 1 [80] [] [],(Fm.mk 6 [] [] [Fm.mk 1 [80] [] [],Fm.mk 1 [81] [] []])] (a.tmps[113]?.getD undef):=F.dep 17 113 (by kernel_rfl) (by kernel_rfl)
  obtain ⟨ax,cx,ex,-⟩:=At.sl_inv dx
  rw [ex] at dx
  have dy : aN w [Fm.mk 1 [81] [] []] (a.tmps[116]?.getD undef):=F.dep 20 116 (by kernel_rfl) (by kernel_rfl)
  obtain ⟨ay,cy,ey,-⟩:=At.sl_inv dy
  rw [ey] at dy
  clear F
  rintro ⟨dst,op,ty,pos,af,gd⟩ rfl K Q' hK
  have HK:=Lib.hid hK
  have DX:=Lib.hid dx
  have DY:=Lib.hid dy
  clear hK dx dy
  go_simp
  go_at_call 20
  refine (sq_c _ _ _ _ _ _ _).mono ?_
  rintro e w1 ⟨rfl,hb⟩
  exact HK.out _ _ ⟨hb,_,_,_,_,_,_,rfl,(DX.out).keep (aA hb),(DY.out).keep (aA hb)⟩
 refine aB.step (Op.call { callee:=Callee.value (Operand.func 12),args:=#[Operand.tmp 106,Operand.tmp 117],argTypes:=#[26,26] }) (by kernel_rfl) (fun a w F=>?_) ?_
 ·have dx : cV w [(Fm.mk 6 [] [] [Fm.mk 1 [80] [] [],Fm.mk 1 [81] [] []]),Fm.mk 1 [80] [] []] [Fm.mk 1 [81] [] []] (a.tmps[106]?.getD undef):=F.dep 10 106 (by kernel_rfl) (by kernel_rfl)
  obtain ⟨a1,n1,c1,b1,m1,l1,ex,-⟩:=id dx
  rw [ex] at dx
  have dy : cV w [Fm.mk 1 [80] [] [],(Fm.mk 6 [] [] [Fm.mk 1 [80] [] [],Fm.mk 1 [81] [] []])] [Fm.mk 1 [81] [] []] (a.tmps[117]?.getD undef):=F.dep 21 117 (by kernel_rfl) (by kernel_rfl)
  obtain ⟨a2,n2,c2,b2,m2,l2,ey,-⟩:=id dy
  rw [ey] at dy
  have rows:=hr.keep (aA F.bw)
  have pows:=hp.below F.bw
  clear F
  rintro ⟨dst,op,ty,pos,af,gd⟩ rfl K Q' hK
  have HK:=Lib.hid hK
  have DX:=Lib.hid dx
  have DY:=Lib.hid dy
  have ROWS:=Lib.hid rows
  have POWS:=Lib.hid pows
  clear hK dx dy rows pows
  go_simp
  go_at_call 12
  refine (qH _ _ _ _ _ _ _ ROWS.out POWS.out DX.out DY.out (gT (by kernel_rfl)) (gT (by kernel_rfl))).mono ?_
  rintro e w1 ⟨rfl,hb⟩
  exact HK.out _ _ ⟨hb,congrArg (fun b=>Value.tuple #[.bool b,.int .i64 0]) (tT Ly.aw4)⟩
 refine aB.step (Op.move (Operand.tmp 118)) (by kernel_rfl) (fun a w F=>?_) ?_
 ·have e : a.tmps[118]?.getD undef = .tuple #[.bool false,.int .i64 0]:=F.dep 22 118 (by kernel_rfl) (by kernel_rfl)
  clear F
  rintro ⟨dst,op,ty,pos,af,gd⟩ rfl K Q' hK
  have HK:=Lib.hid hK
  clear hK
  go_simp
  exact HK.out _ _ ⟨Below.refl _ _,rfl⟩
 refine aB.step (Op.extract (Operand.tmp 95) 0) (by kernel_rfl) (fun a w F=>?_) ?_
 ·have e : a.tmps[95]?.getD undef = .tuple #[.bool false,.int .i64 0]:=F.dep 23 95 (by kernel_rfl) (by kernel_rfl)
  clear F
  rintro ⟨dst,op,ty,pos,af,gd⟩ rfl K Q' hK
  have HK:=Lib.hid hK
  clear hK
  go_simp
  exact HK.out _ _ ⟨Below.refl _ _,rfl⟩
 refine aB.step (Op.extract (Operand.tmp 95) 1) (by kernel_rfl) (fun a w F=>?_) ?_
 ·have e : a.tmps[95]?.getD undef = .tuple #[.bool false,.int .i64 0]:=F.dep 23 95 (by kernel_rfl) (by kernel_rfl)
  clear F
  rintro ⟨dst,op,ty,pos,af,gd⟩ rfl K Q' hK
  have HK:=Lib.hid hK
  clear hK
  go_simp
  exact HK.out _ _ ⟨Below.refl _ _,rfl⟩
 refine aB.step (Op.assign (Operand.tmp 119)) (by kernel_rfl) (fun a w F=>?_) ?_
 ·have e : a.tmps[119]?.getD undef = .bool false:=F.dep 24 119 (by kernel_rfl) (by kernel_rfl)
  clear F
  rintro ⟨dst,op,ty,pos,af,gd⟩ rfl K Q' hK
  have HK:=Lib.hid hK
  clear hK
  go_simp
  exact HK.out _ _ ⟨Below.refl _ _,rfl⟩
 refine aB.step (Op.assign (Operand.tmp 120)) (by kernel_rfl) (fun a w F=>?_) ?_
 ·have e : a.tmps[120]?.getD undef = .int .i64 0:=F.dep 25 120 (by kernel_rfl) (by kernel_rfl)
  clear F
  rintro ⟨dst,op,ty,pos,af,gd⟩ rfl K Q' hK
  have HK:=Lib.hid hK
  clear hK
  go_simp
  exact HK.out _ _ ⟨Below.refl _ _,rfl⟩
 exact aB.nil
end Go.Proofs.YtppfalbnhnpbnaaGreatDoor
