/- format.writer's regions in any order. Conditions: those of each statement. -/
import Derived.Test.YtppfalbnhnpbnaaGreatDoorWtDC
import Derived.Test.YtppfalbnhnpbnaaGreatDoorRnAC
import Derived.Test.YtppfalbnhnpbnaaGreatDoorAwAC
set_option linter.unusedSimpArgs false
set_option linter.unusedVariables false
namespace Go.Proofs.YtppfalbnhnpbnaaGreatDoor
open Go Go.RowKit Ly
set_option maxRecDepth 10000
def lowP (B : Nat) (f : Fm) : Value → World → Prop:=fun v w=>aV (hide (up B) w) f v
theorem gP (B : Nat) (f : Fm) : gV (lowP B f):=fun v w w' h hb=>aV.keep h (aH fun k h1 h2=>⟨h2,hb.block k h1⟩)
noncomputable def rg9 : Array Oper:=((Tryz.f209.body).bind (eG 9)).getD #[]
def rg9R (B b c1 c3 g0 bb off d o so : Nat) (q : Bool) (g : Fm) : List (Value → World → Prop):=[isV (.func (.func 208) #[] #[one c1,one c3]),
 isV (one b),
 isV (.pointer (some ⟨g0,3,none⟩)),
 isV (.slice (some ⟨bb,off,none⟩) 1 d),
 isV (.pointer (some ⟨bb,off,none⟩)),
 lowP B g,
 isV (.pointer (some ⟨g0,3,none⟩)),
 isV (.slice (some ⟨bb,off,none⟩) 1 d),
 isV (.pointer (some ⟨bb,off,none⟩)),
 isV (.pointer (some ⟨bb,off,none⟩)),
 isV (.int .u8 o),
 isV (.pointer (some ⟨1,o * 2,none⟩)),
 isV (.pointer (some ⟨1,o * 2 + 1,none⟩)),
 isV (.int .i64 so),
 isV (.bool q)]
theorem rg9_stays (B b c1 c3 g0 bb off d o so : Nat) (q : Bool) (g : Fm) : ∀ r ∈ rg9R B b c1 c3 g0 bb off d o so q g,gV r:=by
 unfold rg9R
 simp only [List.forall_mem_cons]
 exact ⟨aE _,aE _,aE _,aE _,aE _,gP _ _,aE _,aE _,aE _,aE _,aE _,aE _,aE _,aE _,aE _,fun r h=>by cases h⟩
set_option maxHeartbeats 4000000 in
theorem rg9_steps (B b c1 c3 g0 bb off d o so : Nat) (q : Bool) (g : Fm) (Q : Exit → Act → World → Prop) (W : World) (a0 : Act) (h0 : a0.tmps.getD 0 undef = one b) {c4 : Nat} (h2 : a0.tmps.getD 2 undef = one c4) (h4 : a0.tmps.getD 4 undef = one g0) (HC : W.heap[c4]? = some (.cells #[.func (.func 208) #[] #[one c1,one c3]] 235 (0,0))) {op : Int} {nm : Bs} {xa : Option Addr} {xn xc : Nat} (HB : W.heap[g0]? = some (.cells #[.int .u8 op,str nm,.slice xa xn xc,.slice (some ⟨bb,off,none⟩) 1 d] 40 (0,0))) {x0 : Option Addr} {x1 x2 : Nat} {x3 : Option Addr} {x4 x5 : Nat} (HG : jY W bb (off) g x0 x1 x2 x3 x4 x5) (HV : aV (hide (up B) W) g (.agg #[.int .u8 g.op,str g.name,.slice x0 x1 x2,.slice x3 x4 x5])) (HO : Hid (g.op = (o : Nat))) (ho : o ≤ 14) (HS : W.cell? ⟨1,o * 2 + 1,none⟩ = some (.int .i64 so)) (HQ : decide ((so : Int) < 6) = q) : aB Tryz.prog rg9 Q W a0 (rAt (rg9R B b c1 c3 g0 bb off d o so q g)) [0,1,2,3,4,5,6,7,8,9,10,11,12,13,14]:=by
 refine aB.step (Op.load 235 (Operand.tmp 2)) (by kernel_rfl) (fun a w F=>?_) ?_
 ·have e:=(F.old 2 (by kernel_rfl)).trans h2
  obtain ⟨k0,k1⟩:=row1 (kc F.bw HC)
  clear F
  rintro ⟨dst,op,ty,pos,af,gd⟩ rfl K Q' hK
  have HK:=Lib.hid hK
  clear hK
  go_simp
  exact HK.out _ _ ⟨Below.refl _ _,rfl⟩
 refine aB.step (Op.move (Operand.tmp 0)) (by kernel_rfl) (fun a w F=>?_) ?_
 ·have e:=(F.old 0 (by kernel_rfl)).trans h0
  clear F
  rintro ⟨dst,op,ty,pos,af,gd⟩ rfl K Q' hK
  have HK:=Lib.hid hK
  clear hK
  go_simp
  exact HK.out _ _ ⟨Below.refl _ _,rfl⟩
 refine aB.step (Op.fieldAddr 40 (Operand.tmp 4) 3) (by kernel_rfl) (fun a w F=>?_) ?_
 ·have e:=(F.old 4 (by kernel_rfl)).trans h4
  clear F
  rintro ⟨dst,op,ty,pos,af,gd⟩ rfl K Q' hK
  have HK:=Lib.hid hK
  clear hK
  go_simp
  exact HK.out _ _ ⟨Below.refl _ _,rfl⟩
 refine aB.step (Op.load 24 (Operand.tmp 49)) (by kernel_rfl) (fun a w F=>?_) ?_
 ·have e0 : a.tmps[49]?.getD undef = .pointer (some ⟨g0,3,none⟩):=F.dep 2 49 (by kernel_rfl) (by kernel_rfl)
  obtain ⟨⟨k0,k1,k2,k3⟩,-⟩:=aL (kc F.bw HB)
  clear F
  rintro ⟨dst,op,ty,pos,af,gd⟩ rfl K Q' hK
  have HK:=Lib.hid hK
  clear hK
  go_simp
  exact HK.out _ _ ⟨Below.refl _ _,rfl⟩
 refine aB.step (Op.indexAddr 24 (Operand.tmp 50) (Operand.const (Value.int IntKind.i64 0))) (by kernel_rfl) (fun a w F=>?_) ?_
 ·have e0 : a.tmps[50]?.getD undef = .slice (some ⟨bb,off,none⟩) 1 d:=F.dep 3 50 (by kernel_rfl) (by kernel_rfl)
  clear F
  rintro ⟨dst,op,ty,pos,af,gd⟩ rfl K Q' hK
  have HK:=Lib.hid hK
  clear hK
  go_simp
  exact HK.out _ _ ⟨Below.refl _ _,rfl⟩
 refine aB.step (Op.load 40 (Operand.tmp 51)) (by kernel_rfl) (fun a w F=>?_) ?_
 ·have e : a.tmps[51]?.getD undef = .pointer (some ⟨bb,off,none⟩):=F.dep 4 51 (by kernel_rfl) (by kernel_rfl)
  have K:=aA F.bw
  have k0:=K _ _ HG.c0
  have k1:=K _ _ HG.c1
  have k2:=K _ _ HG.c2
  have k3:=K _ _ HG.c3
  have kv:=Lib.hid (gP _ _ _ _ _ HV F.bw)
  clear F K
  rintro ⟨dst,op,ty,pos,af,gd⟩ rfl K Q' hK
  have HK:=Lib.hid hK
  clear hK
  go_simp
  exact HK.out _ _ ⟨Below.refl _ _,kv.out⟩
 refine aB.step (Op.fieldAddr 40 (Operand.tmp 4) 3) (by kernel_rfl) (fun a w F=>?_) ?_
 ·have e:=(F.old 4 (by kernel_rfl)).trans h4
  clear F
  rintro ⟨dst,op,ty,pos,af,gd⟩ rfl K Q' hK
  have HK:=Lib.hid hK
  clear hK
  go_simp
  exact HK.out _ _ ⟨Below.refl _ _,rfl⟩
 refine aB.step (Op.load 24 (Operand.tmp 53)) (by kernel_rfl) (fun a w F=>?_) ?_
 ·have e0 : a.tmps[53]?.getD undef = .pointer (some ⟨g0,3,none⟩):=F.dep 6 53 (by kernel_rfl) (by kernel_rfl)
  obtain ⟨⟨k0,k1,k2,k3⟩,-⟩:=aL (kc F.bw HB)
  clear F
  rintro ⟨dst,op,ty,pos,af,gd⟩ rfl K Q' hK
  have HK:=Lib.hid hK
  clear hK
  go_simp
  exact HK.out _ _ ⟨Below.refl _ _,rfl⟩
 refine aB.step (Op.indexAddr 24 (Operand.tmp 54) (Operand.const (Value.int IntKind.i64 0))) (by kernel_rfl) (fun a w F=>?_) ?_
 ·have e0 : a.tmps[54]?.getD undef = .slice (some ⟨bb,off,none⟩) 1 d:=F.dep 7 54 (by kernel_rfl) (by kernel_rfl)
  clear F
  rintro ⟨dst,op,ty,pos,af,gd⟩ rfl K Q' hK
  have HK:=Lib.hid hK
  clear hK
  go_simp
  exact HK.out _ _ ⟨Below.refl _ _,rfl⟩
 refine aB.step (Op.fieldAddr 40 (Operand.tmp 55) 0) (by kernel_rfl) (fun a w F=>?_) ?_
 ·have e0 : a.tmps[55]?.getD undef = .pointer (some ⟨bb,off,none⟩):=F.dep 8 55 (by kernel_rfl) (by kernel_rfl)
  clear F
  rintro ⟨dst,op,ty,pos,af,gd⟩ rfl K Q' hK
  have HK:=Lib.hid hK
  clear hK
  go_simp
  exact HK.out _ _ ⟨Below.refl _ _,rfl⟩
 refine aB.step (Op.load 5 (Operand.tmp 56)) (by kernel_rfl) (fun a w F=>?_) ?_
 ·have e0 : a.tmps[56]?.getD undef = .pointer (some ⟨bb,off,none⟩):=F.dep 9 56 (by kernel_rfl) (by kernel_rfl)
  have kk:=aA F.bw _ _ HG.c0
  rw [HO.out] at kk
  clear F
  rintro ⟨dst,op,ty,pos,af,gd⟩ rfl K Q' hK
  have HK:=Lib.hid hK
  clear hK
  go_simp
  exact HK.out _ _ ⟨Below.refl _ _,rfl⟩
 refine aB.step (Op.indexAddr 234 (Operand.global 1) (Operand.tmp 57)) (by kernel_rfl) (fun a w F=>?_) ?_
 ·have e0 : a.tmps[57]?.getD undef = .int .u8 o:=F.dep 10 57 (by kernel_rfl) (by kernel_rfl)
  have ho1 : (0 : Int) ≤ (o : Int):=by omega
  have ho2 : (o : Int) < 17:=by omega
  have ho3 : ((o : Int)).toNat = o:=by omega
  clear F
  rintro ⟨dst,op,ty,pos,af,gd⟩ rfl K Q' hK
  have HK:=Lib.hid hK
  clear hK
  go_simp
  exact HK.out _ _ ⟨Below.refl _ _,rfl⟩
 refine aB.step (Op.fieldAddr 233 (Operand.tmp 58) 1) (by kernel_rfl) (fun a w F=>?_) ?_
 ·have e0 : a.tmps[58]?.getD undef = .pointer (some ⟨1,o * 2,none⟩):=F.dep 11 58 (by kernel_rfl) (by kernel_rfl)
  clear F
  rintro ⟨dst,op,ty,pos,af,gd⟩ rfl K Q' hK
  have HK:=Lib.hid hK
  clear hK
  go_simp
  exact HK.out _ _ ⟨Below.refl _ _,rfl⟩
 refine aB.step (Op.load 3 (Operand.tmp 59)) (by kernel_rfl) (fun a w F=>?_) ?_
 ·have e0 : a.tmps[59]?.getD undef = .pointer (some ⟨1,o * 2 + 1,none⟩):=F.dep 12 59 (by kernel_rfl) (by kernel_rfl)
  have kk:=aA F.bw _ _ HS
  clear F
  rintro ⟨dst,op,ty,pos,af,gd⟩ rfl K Q' hK
  have HK:=Lib.hid hK
  clear hK
  go_simp
  exact HK.out _ _ ⟨Below.refl _ _,rfl⟩
 refine aB.step (Op.binOp BinOp.lss 3 (Operand.tmp 60) (Operand.const (Value.int IntKind.i64 6)) 3) (by kernel_rfl) (fun a w F=>?_) ?_
 ·have e0 : a.tmps[60]?.getD undef = .int .i64 so:=F.dep 13 60 (by kernel_rfl) (by kernel_rfl)
  have hq:=HQ
  clear F
  rintro ⟨dst,op,ty,pos,af,gd⟩ rfl K Q' hK
  have HK:=Lib.hid hK
  clear hK
  go_simp
  exact HK.out _ _ ⟨Below.refl _ _,rfl⟩
 exact aB.nil
noncomputable def rg2 : Array Oper:=((Tryz.f209.body).bind (eG 2)).getD #[]
def rg2R (B b c1 c3 g0 bb off d o so : Nat) (q : Bool) (g : Fm) (op : Int) (nm : Bs) (xa : Option Addr) (xn xc : Nat) : List (Value → World → Prop):=[isV (.func (.func 208) #[] #[one c1,one c3]),
 isV (one b),
 isV (.pointer (some ⟨g0,3,none⟩)),
 isV (.slice (some ⟨bb,off,none⟩) 2 d),
 isV (.pointer (some ⟨bb,off,none⟩)),
 lowP B g,
 isV (.agg #[.int .u8 op,str nm,.slice xa xn xc,.slice (some ⟨bb,off,none⟩) 2 d]),
 isV (.bool q)]
theorem rg2_stays (B b c1 c3 g0 bb off d o so : Nat) (q : Bool) (g : Fm) (op : Int) (nm : Bs) (xa : Option Addr) (xn xc : Nat) : ∀ r ∈ rg2R B b c1 c3 g0 bb off d o so q g op nm xa xn xc,gV r:=by
 unfold rg2R
 simp only [List.forall_mem_cons]
 exact ⟨aE _,aE _,aE _,aE _,aE _,gP _ _,aE _,aE _,fun r h=>by cases h⟩
set_option maxHeartbeats 4000000 in
theorem rg2_steps (B b c1 c3 g0 bb off d o so : Nat) (q : Bool) (g : Fm) (op : Int) (nm : Bs) (xa : Option Addr) (xn xc : Nat) (Q : Exit → Act → World → Prop) (W : World) (a0 : Act) (h0 : a0.tmps.getD 0 undef = one b) {c4 : Nat} (h2 : a0.tmps.getD 2 undef = one c4) (h4 : a0.tmps.getD 4 undef = one g0) (HC : W.heap[c4]? = some (.cells #[.func (.func 208) #[] #[one c1,one c3]] 235 (0,0))) (HB : W.heap[g0]? = some (.cells #[.int .u8 op,str nm,.slice xa xn xc,.slice (some ⟨bb,off,none⟩) 2 d] 40 (0,0))) {x0 : Option Addr} {x1 x2 : Nat} {x3 : Option Addr} {x4 x5 : Nat} (HG : jY W bb (off) g x0 x1 x2 x3 x4 x5) (HV : aV (hide (up B) W) g (.agg #[.int .u8 g.op,str g.name,.slice x0 x1 x2,.slice x3 x4 x5])) (HW : ∀ w,Below W.heap.size W w → Calls Tryz.prog 212 #[.agg #[.int .u8 op,str nm,.slice xa xn xc,.slice (some ⟨bb,off,none⟩) 2 d],.int .i64 0] w fun e w'=>e = .returned (.bool q) ∧ Below w.heap.size w w') : aB Tryz.prog rg2 Q W a0 (rAt (rg2R B b c1 c3 g0 bb off d o so q g op nm xa xn xc)) [0,1,2,3,4,5,6,7]:=by
 refine aB.step (Op.load 235 (Operand.tmp 2)) (by kernel_rfl) (fun a w F=>?_) ?_
 ·have e:=(F.old 2 (by kernel_rfl)).trans h2
  obtain ⟨k0,k1⟩:=row1 (kc F.bw HC)
  clear F
  rintro ⟨dst,op,ty,pos,af,gd⟩ rfl K Q' hK
  have HK:=Lib.hid hK
  clear hK
  go_simp
  exact HK.out _ _ ⟨Below.refl _ _,rfl⟩
 refine aB.step (Op.move (Operand.tmp 0)) (by kernel_rfl) (fun a w F=>?_) ?_
 ·have e:=(F.old 0 (by kernel_rfl)).trans h0
  clear F
  rintro ⟨dst,op,ty,pos,af,gd⟩ rfl K Q' hK
  have HK:=Lib.hid hK
  clear hK
  go_simp
  exact HK.out _ _ ⟨Below.refl _ _,rfl⟩
 refine aB.step (Op.fieldAddr 40 (Operand.tmp 4) 3) (by kernel_rfl) (fun a w F=>?_) ?_
 ·have e:=(F.old 4 (by kernel_rfl)).trans h4
  clear F
  rintro ⟨dst,op,ty,pos,af,gd⟩ rfl K Q' hK
  have HK:=Lib.hid hK
  clear hK
  go_simp
  exact HK.out _ _ ⟨Below.refl _ _,rfl⟩
 refine aB.step (Op.load 24 (Operand.tmp 10)) (by kernel_rfl) (fun a w F=>?_) ?_
 ·have e0 : a.tmps[10]?.getD undef = .pointer (some ⟨g0,3,none⟩):=F.dep 2 10 (by kernel_rfl) (by kernel_rfl)
  obtain ⟨⟨k0,k1,k2,k3⟩,-⟩:=aL (kc F.bw HB)
  clear F
  rintro ⟨dst,op,ty,pos,af,gd⟩ rfl K Q' hK
  have HK:=Lib.hid hK
  clear hK
  go_simp
  exact HK.out _ _ ⟨Below.refl _ _,rfl⟩
 refine aB.step (Op.indexAddr 24 (Operand.tmp 11) (Operand.const (Value.int IntKind.i64 0))) (by kernel_rfl) (fun a w F=>?_) ?_
 ·have e0 : a.tmps[11]?.getD undef = .slice (some ⟨bb,off,none⟩) 2 d:=F.dep 3 11 (by kernel_rfl) (by kernel_rfl)
  clear F
  rintro ⟨dst,op,ty,pos,af,gd⟩ rfl K Q' hK
  have HK:=Lib.hid hK
  clear hK
  go_simp
  exact HK.out _ _ ⟨Below.refl _ _,rfl⟩
 refine aB.step (Op.load 40 (Operand.tmp 12)) (by kernel_rfl) (fun a w F=>?_) ?_
 ·have e : a.tmps[12]?.getD undef = .pointer (some ⟨bb,off,none⟩):=F.dep 4 12 (by kernel_rfl) (by kernel_rfl)
  have K:=aA F.bw
  have k0:=K _ _ HG.c0
  have k1:=K _ _ HG.c1
  have k2:=K _ _ HG.c2
  have k3:=K _ _ HG.c3
  have kv:=Lib.hid (gP _ _ _ _ _ HV F.bw)
  clear F K
  rintro ⟨dst,op,ty,pos,af,gd⟩ rfl K Q' hK
  have HK:=Lib.hid hK
  clear hK
  go_simp
  exact HK.out _ _ ⟨Below.refl _ _,kv.out⟩
 refine aB.step (Op.load 40 (Operand.tmp 4)) (by kernel_rfl) (fun a w F=>?_) ?_
 ·have e:=(F.old 4 (by kernel_rfl)).trans h4
  obtain ⟨⟨k0,k1,k2,k3⟩,-⟩:=aL (kc F.bw HB)
  clear F
  rintro ⟨dst,op,ty,pos,af,gd⟩ rfl K Q' hK
  have HK:=Lib.hid hK
  clear hK
  go_simp
  exact HK.out _ _ ⟨Below.refl _ _,rfl⟩
 refine aB.step (Op.call { callee:=Callee.value (Operand.func 212),args:=#[Operand.tmp 14,Operand.const (Value.int IntKind.i64 0)],argTypes:=#[40,3] }) (by kernel_rfl) (fun a w F=>?_) ?_
 ·have e : a.tmps[14]?.getD undef = .agg #[.int .u8 op,str nm,.slice xa xn xc,.slice (some ⟨bb,off,none⟩) 2 d]:=F.dep 6 14 (by kernel_rfl) (by kernel_rfl)
  have CA:=Lib.hid (HW w F.bw)
  clear F
  rintro ⟨dst,op,ty,pos,af,gd⟩ rfl K Q' hK
  have HK:=Lib.hid hK
  clear hK
  go_simp
  go_at_call 212
  refine CA.out.mono ?_
  rintro e w1 ⟨rfl,hb⟩
  exact HK.out _ _ ⟨hb,rfl⟩
 exact aB.nil
noncomputable def rg4 : Array Oper:=((Tryz.f209.body).bind (eG 4)).getD #[]
def rg4R (B b c1 c3 g0 bb off d o so : Nat) (q : Bool) (g : Fm) (op : Int) (nm : Bs) (xa : Option Addr) (xn xc : Nat) : List (Value → World → Prop):=[isV (.func (.func 208) #[] #[one c1,one c3]),
 isV (one b),
 isV (.pointer (some ⟨g0,3,none⟩)),
 isV (.slice (some ⟨bb,off,none⟩) 2 d),
 isV (.pointer (some ⟨bb,off + 4,none⟩)),
 lowP B g,
 isV (.agg #[.int .u8 op,str nm,.slice xa xn xc,.slice (some ⟨bb,off,none⟩) 2 d]),
 isV (.bool q)]
theorem rg4_stays (B b c1 c3 g0 bb off d o so : Nat) (q : Bool) (g : Fm) (op : Int) (nm : Bs) (xa : Option Addr) (xn xc : Nat) : ∀ r ∈ rg4R B b c1 c3 g0 bb off d o so q g op nm xa xn xc,gV r:=by
 unfold rg4R
 simp only [List.forall_mem_cons]
 exact ⟨aE _,aE _,aE _,aE _,aE _,gP _ _,aE _,aE _,fun r h=>by cases h⟩
set_option maxHeartbeats 4000000 in
theorem rg4_steps (B b c1 c3 g0 bb off d o so : Nat) (q : Bool) (g : Fm) (op : Int) (nm : Bs) (xa : Option Addr) (xn xc : Nat) (Q : Exit → Act → World → Prop) (W : World) (a0 : Act) (h0 : a0.tmps.getD 0 undef = one b) {c4 : Nat} (h2 : a0.tmps.getD 2 undef = one c4) (h4 : a0.tmps.getD 4 undef = one g0) (HC : W.heap[c4]? = some (.cells #[.func (.func 208) #[] #[one c1,one c3]] 235 (0,0))) (HB : W.heap[g0]? = some (.cells #[.int .u8 op,str nm,.slice xa xn xc,.slice (some ⟨bb,off,none⟩) 2 d] 40 (0,0))) {x0 : Option Addr} {x1 x2 : Nat} {x3 : Option Addr} {x4 x5 : Nat} (HG : jY W bb (off + 4) g x0 x1 x2 x3 x4 x5) (HV : aV (hide (up B) W) g (.agg #[.int .u8 g.op,str g.name,.slice x0 x1 x2,.slice x3 x4 x5])) (HW : ∀ w,Below W.heap.size W w → Calls Tryz.prog 212 #[.agg #[.int .u8 op,str nm,.slice xa xn xc,.slice (some ⟨bb,off,none⟩) 2 d],.int .i64 1] w fun e w'=>e = .returned (.bool q) ∧ Below w.heap.size w w') : aB Tryz.prog rg4 Q W a0 (rAt (rg4R B b c1 c3 g0 bb off d o so q g op nm xa xn xc)) [0,1,2,3,4,5,6,7]:=by
 refine aB.step (Op.load 235 (Operand.tmp 2)) (by kernel_rfl) (fun a w F=>?_) ?_
 ·have e:=(F.old 2 (by kernel_rfl)).trans h2
  obtain ⟨k0,k1⟩:=row1 (kc F.bw HC)
  clear F
  rintro ⟨dst,op,ty,pos,af,gd⟩ rfl K Q' hK
  have HK:=Lib.hid hK
  clear hK
  go_simp
  exact HK.out _ _ ⟨Below.refl _ _,rfl⟩
 refine aB.step (Op.move (Operand.tmp 0)) (by kernel_rfl) (fun a w F=>?_) ?_
 ·have e:=(F.old 0 (by kernel_rfl)).trans h0
  clear F
  rintro ⟨dst,op,ty,pos,af,gd⟩ rfl K Q' hK
  have HK:=Lib.hid hK
  clear hK
  go_simp
  exact HK.out _ _ ⟨Below.refl _ _,rfl⟩
 refine aB.step (Op.fieldAddr 40 (Operand.tmp 4) 3) (by kernel_rfl) (fun a w F=>?_) ?_
 ·have e:=(F.old 4 (by kernel_rfl)).trans h4
  clear F
  rintro ⟨dst,op,ty,pos,af,gd⟩ rfl K Q' hK
  have HK:=Lib.hid hK
  clear hK
  go_simp
  exact HK.out _ _ ⟨Below.refl _ _,rfl⟩
 refine aB.step (Op.load 24 (Operand.tmp 28)) (by kernel_rfl) (fun a w F=>?_) ?_
 ·have e0 : a.tmps[28]?.getD undef = .pointer (some ⟨g0,3,none⟩):=F.dep 2 28 (by kernel_rfl) (by kernel_rfl)
  obtain ⟨⟨k0,k1,k2,k3⟩,-⟩:=aL (kc F.bw HB)
  clear F
  rintro ⟨dst,op,ty,pos,af,gd⟩ rfl K Q' hK
  have HK:=Lib.hid hK
  clear hK
  go_simp
  exact HK.out _ _ ⟨Below.refl _ _,rfl⟩
 refine aB.step (Op.indexAddr 24 (Operand.tmp 29) (Operand.const (Value.int IntKind.i64 1))) (by kernel_rfl) (fun a w F=>?_) ?_
 ·have e0 : a.tmps[29]?.getD undef = .slice (some ⟨bb,off,none⟩) 2 d:=F.dep 3 29 (by kernel_rfl) (by kernel_rfl)
  clear F
  rintro ⟨dst,op,ty,pos,af,gd⟩ rfl K Q' hK
  have HK:=Lib.hid hK
  clear hK
  go_simp
  exact HK.out _ _ ⟨Below.refl _ _,rfl⟩
 refine aB.step (Op.load 40 (Operand.tmp 30)) (by kernel_rfl) (fun a w F=>?_) ?_
 ·have e : a.tmps[30]?.getD undef = .pointer (some ⟨bb,off + 4,none⟩):=F.dep 4 30 (by kernel_rfl) (by kernel_rfl)
  have K:=aA F.bw
  have k0:=K _ _ HG.c0
  have k1:=K _ _ HG.c1
  have k2:=K _ _ HG.c2
  have k3:=K _ _ HG.c3
  have kv:=Lib.hid (gP _ _ _ _ _ HV F.bw)
  clear F K
  rintro ⟨dst,op,ty,pos,af,gd⟩ rfl K Q' hK
  have HK:=Lib.hid hK
  clear hK
  go_simp
  exact HK.out _ _ ⟨Below.refl _ _,kv.out⟩
 refine aB.step (Op.load 40 (Operand.tmp 4)) (by kernel_rfl) (fun a w F=>?_) ?_
 ·have e:=(F.old 4 (by kernel_rfl)).trans h4
  obtain ⟨⟨k0,k1,k2,k3⟩,-⟩:=aL (kc F.bw HB)
  clear F
  rintro ⟨dst,op,ty,pos,af,gd⟩ rfl K Q' hK
  have HK:=Lib.hid hK
  clear hK
  go_simp
  exact HK.out _ _ ⟨Below.refl _ _,rfl⟩
 refine aB.step (Op.call { callee:=Callee.value (Operand.func 212),args:=#[Operand.tmp 32,Operand.const (Value.int IntKind.i64 1)],argTypes:=#[40,3] }) (by kernel_rfl) (fun a w F=>?_) ?_
 ·have e : a.tmps[32]?.getD undef = .agg #[.int .u8 op,str nm,.slice xa xn xc,.slice (some ⟨bb,off,none⟩) 2 d]:=F.dep 6 32 (by kernel_rfl) (by kernel_rfl)
  have CA:=Lib.hid (HW w F.bw)
  clear F
  rintro ⟨dst,op,ty,pos,af,gd⟩ rfl K Q' hK
  have HK:=Lib.hid hK
  clear hK
  go_simp
  go_at_call 212
  refine CA.out.mono ?_
  rintro e w1 ⟨rfl,hb⟩
  exact HK.out _ _ ⟨hb,rfl⟩
 exact aB.nil
end Go.Proofs.YtppfalbnhnpbnaaGreatDoor
namespace Go.Proofs.YtppfalbnhnpbnaaGreatDoor
open Go Go.RowKit Ly
set_option maxRecDepth 10000
structure Wc (b c1 c3 c4 : Nat) (W : World) : Prop where
 h1 : W.heap[c1]? = some (.cells #[.bool false] 4 (0,0))
 h3 : W.heap[c3]? = some (.cells #[.func (.func 209) #[] #[one c4]] 198 (0,0))
 h4 : W.heap[c4]? = some (.cells #[.func (.func 208) #[] #[one c1,one c3]] 235 (0,0))
 n1 : c1 ≠ b
 n3 : c3 ≠ b
 n4 : c4 ≠ b
theorem Wc.wrote {B b c1 c3 c4 : Nat} {bs : Bs} {W W' : World} (h : Wc b c1 c3 c4 W) (k : Wrote B b bs W W') : Wc b c1 c3 c4 W' :=
 ⟨k.box h.h1 h.n1 (by decide),k.box h.h3 h.n3 (by decide),k.box h.h4 h.n4 (by decide),h.n1,h.n3,h.n4⟩
def W9 (f : Fm) : Prop:=∀ (B b : Nat) (bs : Bs) (W : World) (x : Value) (c1 c3 c4 : Nat),iJ (hide (up B) W) → Bld B b bs W → Wc b c1 c3 c4 W → aV (hide (up B) W) f x → bs.length + f.ft.length ≤ 300000000 →
 Calls Tryz.prog 209 #[one b,x,one c4] W fun e w'=>e = .returned (.tuple #[]) ∧ Wrote B b (bs ++ f.ft) W w'
def W8 (f : Fm) : Prop:=∀ (B b : Nat) (bs : Bs) (W : World) (x : Value) (c1 c3 c4 : Nat) (q : Bool),iJ (hide (up B) W) → Bld B b bs W → Wc b c1 c3 c4 W → aV (hide (up B) W) f x → bs.length + (brk q f.ft).length ≤ 300000000 →
 Calls Tryz.prog 208 #[one b,x,.bool q,one c1,one c3] W fun e w'=>e = .returned (.tuple #[]) ∧ Wrote B b (bs ++ brk q f.ft) W w'
theorem ws_x (B b : Nat) (bs s : Bs) (x : Value) (w : World) (hx : x = str s) (h : Bld B b bs w) (hlen : bs.length + s.length ≤ 1000000000) (hBw : B ≤ w.heap.size) :
  Calls Tryz.prog 207 #[one b,x] w fun e w'=>(∃ n : Int,e = .returned (.tuple #[.int .i64 n,.nilIface])) ∧ Wrote B b (bs ++ s) w w':=by rw [hx];exact ws_c B b bs s w h hlen hBw
set_option maxHeartbeats 4000000 in
theorem zU (f : Fm) (h : W9 f) : W8 f:=by
 intro B b bs W x c1 c3 c4 q ho hB hc hx hl
 obtain ⟨a,n,c,y,m,d,rfl,hx1,hx2⟩:=hx
 obtain ⟨W1,hW1⟩ : ∃ W1,W.alloc (.cells #[.int .u8 f.op,str f.name,.slice a n c,.slice y m d] 40) = W1:=⟨_,rfl⟩
 have S1 : Hid (Wrote B b bs W W1):=by rw [← hW1];exact (Wrote.refl hB).alloc _
 have R1 : Hid (W1.heap[W.heap.size]? = some (.cells #[.int .u8 f.op,str f.name,.slice a n c,.slice y m d] 40 (0,0))):=by rw [Hid,← hW1];exact heap_alloc_new _ _
 have NB : W.heap.size ≠ b:=by have:=hB.lt;omega
 have C1:=Lib.hid (hc.wrote S1.out)
 have CA : Hid (∀ X q,Wrote B b q W X → q.length + f.ft.length ≤ 300000000 → Calls Tryz.prog 209 #[one b,.agg #[.int .u8 f.op,str f.name,.slice a n c,.slice y m d],one c4] X fun e w'=>e = .returned (.tuple #[]) ∧ Wrote B b (q ++ f.ft) X w'):=fun X q hX hq =>
  h B b q X _ c1 c3 c4 (ho.keep (dJ hX.bw)) hX.bld (hc.wrote hX) ⟨_,_,_,_,_,_,rfl,hx1.keep (dJ hX.bw),hx2.keep (dJ hX.bw)⟩ hq
 have HL:=Lib.hid hl
 obtain ⟨⟨p0,p1,p2,p3⟩,-⟩:=aL R1.out
 obtain ⟨v1,-⟩:=row1 C1.out.h1
 obtain ⟨v3,-⟩:=row1 C1.out.h3
 clear h ho hB hc hx1 hx2 hl
 go_enter Tryz.func208,Tryz.ntmps208
 cases q
 ·have HL2 : Hid (bs.length + f.ft.length ≤ 300000000):=HL.out
  go_wp2_with (
         go_at_call 209
         refine (CA.out _ _ S1.out HL2.out).mono ?_
         rintro e w3 ⟨rfl,h3⟩
         have S3:=Lib.hid (S1.out.trans h3)
         clear h3)
  go_end0
  exact ⟨rfl,S3.out⟩
 ·have HL2 : Hid (bs.length + (f.ft.length + 2) ≤ 300000000):=by have:=HL.out;simp only [brk,if_true,List.length_cons,List.length_append,List.length_nil] at this;show _ ≤ _;omega
  go_wp2_with (first
   | (
     have Z:=S3.out;clear Z;go_at_call 207
     refine (ws_c B b _ _ _ S3.out.bld (by have:=HL2.out;simp only [List.length_append,List.length_cons,List.length_nil];omega) S3.out.bld.le).mono ?_
     rintro e w4 ⟨⟨n2,rfl⟩,h4⟩
     have S4:=Lib.hid (S3.out.trans h4)
     clear h4)
   | (
     have Z:=S2.out;clear Z;go_at_call 209
     refine (CA.out _ _ S2.out (by have:=HL2.out;simp only [List.length_append,List.length_cons,List.length_nil];omega)).mono ?_
     rintro e w3 ⟨rfl,h3⟩
     have S3:=Lib.hid (S2.out.trans h3)
     clear h3)
   | (
     go_at_call 207
     refine (ws_c B b _ _ _ S1.out.bld (by have:=HL2.out;simp only [List.length_cons,List.length_nil];omega) S1.out.bld.le).mono ?_
     rintro e w2 ⟨⟨n2,rfl⟩,h2⟩
     have S2:=Lib.hid (S1.out.trans h2)
     have C2:=Lib.hid (C1.out.wrote h2)
     have R2:=Lib.hid (h2.box R1.out NB (by decide))
     clear h2 p0 p1 p2 p3 v1 v3
     obtain ⟨⟨p0,p1,p2,p3⟩,-⟩:=aL R2.out
     obtain ⟨v3,-⟩:=row1 C2.out.h3))
  refine bodyPost_ret (results_none rfl _ _ _) rfl ?_
  refine ⟨rfl, ?_⟩
  have:=S4.out
  simpa only [brk,if_true,List.append_assoc,List.cons_append,List.nil_append] using this
theorem ok_op {g : Fm} (h : g.ok = true) : 1 ≤ g.op ∧ g.op ≤ 14:=by
 obtain ⟨op,n,ts,sub⟩:=g
 rcases Fm.shape h with ⟨-,rfl,-⟩ | ⟨-,rfl,-⟩ | ⟨g,-,-,-,e⟩ | ⟨g,k,-,hb,-⟩
 ·exact ⟨Int.le_refl 1,show (1 : Int) ≤ 14 by decide⟩
 ·exact ⟨show (1 : Int) ≤ 2 by decide,show (2 : Int) ≤ 14 by decide⟩
 ·simp only [Fm.op];omega
 ·simp only [Fm.op];unfold bin at hb;omega
theorem sg_tx (s : Bs) : Value.string ({ data:=#[32] } ++ { data:=s.toArray } ++ { data:=#[32] } : ByteArray) = str (32 :: (s ++ [32])):=by
 rw [show (⟨#[32]⟩ : ByteArray) = ⟨([32] : Bs).toArray⟩ from rfl,iB,iB]
 rfl
theorem fSign_len (op : Int) : (eK op).length ≤ 10:=by
 by_cases h2 : op = 2;· subst h2;decide
 by_cases h3 : op = 3;· subst h3;decide
 by_cases h4 : op = 4;· subst h4;decide
 by_cases h5 : op = 5;· subst h5;decide
 by_cases h6 : op = 6;· subst h6;decide
 by_cases h7 : op = 7;· subst h7;decide
 by_cases h8 : op = 8;· subst h8;decide
 by_cases h9 : op = 9;· subst h9;decide
 by_cases h10 : op = 10;· subst h10;decide
 by_cases h11 : op = 11;· subst h11;decide
 by_cases h12 : op = 12;· subst h12;decide
 by_cases h13 : op = 13;· subst h13;decide
 by_cases h14 : op = 14;· subst h14;decide
 simp [eK,h2,h3,h4,h5,h6,h7,h8,h9,h10,h11,h12,h13,h14]
structure Wst (B b c1 c3 c4 g0 : Nat) (W : World) (bs : Bs) (x : Array Value) (X : World) : Prop where
 wr : Wrote B b bs W X
 cl : Wc b c1 c3 c4 X
 ops : iJ (hide (up B) X)
 box : X.heap[g0]? = some (.cells x 40 (0,0))
theorem Wst.next {B b c1 c3 c4 g0 : Nat} {W : World} {bs q : Bs} {x : Array Value} {X Y : World} (h : Wst B b c1 c3 c4 g0 W bs x X) (k : Wrote B b q X Y) (ne : g0 ≠ b) : Wst B b c1 c3 c4 g0 W q x Y :=
 ⟨h.wr.trans k,h.cl.wrote k,h.ops.keep (dJ k.bw),k.box h.box ne (by decide)⟩
theorem Wst.below {B b c1 c3 c4 g0 : Nat} {W : World} {bs : Bs} {x : Array Value} {X Y : World} (h : Wst B b c1 c3 c4 g0 W bs x X) (k : Below X.heap.size X Y) : Wst B b c1 c3 c4 g0 W bs x Y :=
 ⟨h.wr.next k,⟨kc k h.cl.h1,kc k h.cl.h3,kc k h.cl.h4,h.cl.n1,h.cl.n3,h.cl.n4⟩,h.ops.keep (dJ (k.mono h.wr.bld.le)),kc k h.box⟩
set_option maxHeartbeats 16000000 in
theorem w9_step (op : Int) (nm : Bs) (ts : List Tm) (sub : List Fm) (h : (Fm.mk op nm ts sub).ok = true) (ih : ∀ g ∈ sub,W9 g) : W9 (.mk op nm ts sub):=by
 intro B b bs W x c1 c3 c4 ho hB hc hx hl
 obtain ⟨a,n,c,y,m,d,rfl,hx1,hx2⟩ : ∃ a n c y m d,x = .agg #[.int .u8 op,str nm,.slice a n c,.slice y m d] ∧ bG (hide (up B) W) ts (.slice a n c) ∧ aN (hide (up B) W) sub (.slice y m d):=hx
 obtain ⟨W1,hW1⟩ : ∃ W1,W.alloc (.cells #[.int .u8 op,str nm,.slice a n c,.slice y m d] 40) = W1:=⟨_,rfl⟩
 have S1 : Hid (Wst B b c1 c3 c4 W.heap.size W bs #[.int .u8 op,str nm,.slice a n c,.slice y m d] W1):=by
  have k : Wrote B b bs W W1:=by rw [← hW1];exact (Wrote.refl hB).alloc _
  exact ⟨k,hc.wrote k,ho.keep (dJ k.bw),by rw [← hW1];exact heap_alloc_new _ _⟩
 have NB : W.heap.size ≠ b:=by have:=hB.lt;omega
 have lm:=hx2.len.1
 obtain ⟨⟨p0,p1,p2,p3⟩,-⟩:=aL S1.out.box
 have HX1:=Lib.hid hx1
 have HX2:=Lib.hid hx2
 have HL:=Lib.hid hl
 clear ho hB hc hx1 hx2 hl
 rcases Fm.shape h with ⟨rfl,rfl,h1,h2⟩ | ⟨rfl,rfl,rfl,rfl⟩ | ⟨g,rfl,rfl,hg,e⟩ | ⟨g,k,rfl,hb,rfl,rfl,h1,h2⟩
 ·clear h ih
  have m0 : m = 0:=by rw [lm];rfl
  subst m0
  clear lm
  go_enter Tryz.func209,Tryz.ntmps209
  go_wp2_with (first
   | (
     have Z:=S2.out;clear Z;go_at_call 207
     refine (ws_c B b _ _ _ S2.out.wr.bld (by have:=HL.out;rw [nE] at this;have e : (mK nm ts).length = (nm ++ fS (cT ts)).length:=rfl;omega) S2.out.wr.bld.le).mono ?_
     rintro e w3 ⟨⟨n2,rfl⟩,h3⟩
     have S3:=Lib.hid (S2.out.next h3 NB)
     clear h3)
   | (
     go_at_call 210
     refine (basic_atom nm ts _ _ _ _ _ _ _ ((HX1.out.keep (dJ S1.out.wr.bw)).keep bL) (by have:=HL.out;rw [nE] at this;have e : (mK nm ts).length = (nm ++ fS (cT ts)).length:=rfl;omega)).mono ?_
     rintro e w2 ⟨rfl,h2⟩
     have S2:=Lib.hid (S1.out.below h2)
     clear h2))
  go_end0
  exact ⟨rfl,S3.out.wr⟩
 ·clear h ih
  have m0 : m = 0:=by rw [lm];rfl
  subst m0
  clear lm
  go_enter Tryz.func209,Tryz.ntmps209
  go_wp2_with (first
   | (
     have Z:=S2.out;clear Z;go_at_call 207
     refine (ws_c B b _ _ _ S2.out.wr.bld (by have:=HL.out;rw [yV] at this;simp only [jM,List.length_cons,List.length_nil] at this ⊢;omega) S2.out.wr.bld.le).mono ?_
     rintro e w3 ⟨⟨n2,rfl⟩,h3⟩
     have S3:=Lib.hid (S2.out.next h3 NB)
     clear h3)
   | (
     go_at_call 210
     refine (basic_false _ _ _ _ _ _ _ (S1.out.ops.keep bL)).mono ?_
     rintro e w2 ⟨rfl,h2⟩
     have S2:=Lib.hid (S1.out.below h2)
     clear h2))
  go_end0
  exact ⟨rfl,S3.out.wr⟩
 ·clear h
  have m1 : m = 1:=by rw [lm];rfl
  subst m1
  clear lm
  have ug:=ok_op hg
  have hn : nm.length ≤ 1000:=by
   rcases e with ⟨-,hv⟩ | ⟨-,rfl⟩
   ·have:=dE hv;omega
   ·simp
  have hop : op = 3 ∨ op = 8 ∨ op = 9 ∨ op = 10 ∨ op = 11 ∨ op = 12 ∨ op = 13:=by omega
  have n1 : ¬ op = 1:=by omega
  have FT : Hid ((Fm.mk op nm [] [g]).ft = jQ op nm ++ brk (decide (wStr g.op < 6)) g.ft):=rfl
  have HL2 : Hid (bs.length + ((jQ op nm).length + (brk (decide (wStr g.op < 6)) g.ft).length) ≤ 300000000):=by have:=HL.out;rw [FT.out,List.length_append] at this;exact this
  have IH:=Lib.hid (zU g (ih g (by simp)))
  have HC:=Lib.hid hop
  clear ih HL e
  go_enter Tryz.func209,Tryz.ntmps209
  go_wp2_with (first
   | (
     have Z:=S2.out;clear Z;go_at_call 207
     refine (ws_c B b _ _ _ S2.out.wr.bld (by have:=HL2.out;omega) S2.out.wr.bld.le).mono ?_
     rintro e w3 ⟨⟨n2,rfl⟩,h3⟩
     have S3:=Lib.hid (S2.out.next h3 NB)
     clear h3 p0 p1 p2 p3)
   | (
     go_at_call 211
     refine (head_c op nm _ _ _ _ _ _ _ (S1.out.ops.keep bL) HC.out hn).mono ?_
     rintro e w2 ⟨rfl,h2⟩
     have S2:=Lib.hid (S1.out.below h2)
     clear h2 p0 p1 p2 p3
     obtain ⟨⟨p0,p1,p2,p3⟩,-⟩:=aL S2.out.box))
  have hy:=HX2.out.keep (dJ S3.out.wr.bw)
  obtain ⟨bb,off,rfl,hcs⟩:=hy.get (by simp)
  obtain ⟨x0,x1,x2,x3,x4,x5,hg0⟩:=hcs 0 g rfl
  simp only [Nat.zero_mul,Nat.add_zero] at hg0
  have o3:=(S3.out.ops.keep bL g.op ug.1 ug.2).2
  obtain ⟨o,ho⟩ : ∃ o : Nat,g.op = (o : Int):=⟨g.op.toNat,by omega⟩
  have ho2 : g.op.toNat = o:=by omega
  rw [ho2] at o3
  refine fT rg9 (by kernel_rfl) (by kernel_rfl) (by kernel_rfl) 63 rfl 15 62 (Op.call { callee:=Callee.value (Operand.tmp 47),args:=#[Operand.tmp 48,Operand.tmp 52,Operand.tmp 61],argTypes:=#[194,40,4] }) (by kernel_rfl) (by kernel_rfl) [47,48,49,50,51,52,53,54,55,56,57,58,59,60,61] [0,1,2,3,4,5,6,7,8,9,10,11,12,13,14] (by kernel_rfl) (by kernel_rfl) (rAt (rg9R B b c1 c3 W.heap.size bb off d o (wStr g.op) (decide (wStr g.op < 6)) g)) (fZ (rg9_stays B b c1 c3 W.heap.size bb off d o (wStr g.op) (decide (wStr g.op < 6)) g))
   (rg9_steps B b c1 c3 W.heap.size bb off d o (wStr g.op) (decide (wStr g.op < 6)) g _ _ _ rfl rfl rfl S3.out.cl.h4 S3.out.box ⟨bL _ _ hg0.c0,bL _ _ hg0.c1,bL _ _ hg0.c2,bL _ _ hg0.c3,hg0.at_.keep bL,hg0.at'.keep bL⟩ ⟨_,_,_,_,_,_,rfl,hg0.at_,hg0.at'⟩ ho (by omega) o3 (decide_eq_decide.2 (by omega))) (fun z zy wy hby hz=>?_)
  have e0 : z 0 = .func (.func 208) #[] #[one c1,one c3]:=hz 0 (by decide)
  have e1 : z 1 = one b:=hz 1 (by decide)
  have e14 : z 14 = .bool (decide (wStr g.op < 6)):=hz 14 (by decide)
  have e5 : aV (hide (up B) wy) g (z 5):=hz 5 (by decide)
  obtain ⟨i1,j1,k1,i2,j2,k2,e5',e6,e7⟩:=e5
  have S4:=Lib.hid (S3.out.below hby)
  have V5 : Hid (aV (hide (up B) wy) g (.agg #[.int .u8 g.op,str g.name,.slice i1 j1 k1,.slice i2 j2 k2])):=⟨_,_,_,_,_,_,rfl,e6,e7⟩
  obtain ⟨Q,hQ⟩ : ∃ Q,decide (wStr g.op < 6) = Q:=⟨_,rfl⟩
  rw [hQ] at e14 HL2 FT
  have CA : Hid (Calls Tryz.prog 208 #[one b,.agg #[.int .u8 g.op,str g.name,.slice i1 j1 k1,.slice i2 j2 k2],.bool Q,one c1,one c3] wy fun e w'=>e = .returned (.tuple #[]) ∧ Wrote B b (bs ++ jQ op nm ++ brk Q g.ft) wy w'):=IH.out B b _ wy _ c1 c3 c4 Q S4.out.ops S4.out.wr.bld S4.out.cl V5.out (by have:=HL2.out;rw [List.length_append];omega)
  clear hz hby e6 e7 hy hcs hg0 o3 ho ho2 V5 IH hQ
  rintro ⟨dst,op2,ty,pos,af,gd⟩ rfl rfl K hK
  simp only [cP,List.map_cons,List.map_nil,List.setIfInBounds_toArray,List.set_cons_zero,List.set_cons_succ,e0,e1,e14,e5']
  have HK:=Lib.hid hK
  clear hK e0 e1 e14 e5'
  go_simp
  go_at_call 208
  refine CA.out.mono ?_
  rintro e w5 ⟨rfl,h5⟩
  have S5:=Lib.hid (S4.out.wr.trans h5)
  clear h5 CA
  refine HK.out.out _ _ ?_
  go_wp2_with fail
  go_end0
  refine ⟨rfl, ?_⟩
  rw [FT.out,← List.append_assoc]
  exact S5.out
 ·clear h
  have m2 : m = 2:=by rw [lm];rfl
  subst m2
  clear lm
  have FT : Hid ((Fm.mk op [] [] [g,k]).ft = brk (bH op true g.op) g.ft ++ 32 :: (eK op ++ 32 :: brk (bH op false k.op) k.ft)):=rfl
  have HL2 : Hid (bs.length + ((brk (bH op true g.op) g.ft).length + ((eK op).length + (brk (bH op false k.op) k.ft).length + 2)) ≤ 300000000):=by have:=HL.out;rw [FT.out] at this;simp only [List.length_append,List.length_cons] at this;show _ ≤ _;omega
  have IH0:=Lib.hid (zU g (ih g (by simp)))
  have IH1:=Lib.hid (zU k (ih k (by simp)))
  obtain ⟨bb,off,rfl,hcs⟩:=HX2.out.get (by simp)
  have BW0:=Lib.hid S1.out.wr.bw
  have sl:=fSign_len op
  obtain ⟨sg,hsg⟩ : ∃ sg,eK op = sg:=⟨_,rfl⟩
  have HSG:=Lib.hid hsg
  have u1 : (0 : Int) ≤ op:=by unfold bin at hb;omega
  have u2 : op < 17:=by unfold bin at hb;omega
  have nl : ¬ 9223372036854775807 < 1 + sg.length:=by rw [← hsg];omega
  have nl2 : ¬ 9223372036854775807 < 1 + sg.length + 1:=by rw [← hsg];omega
  have SL:=Lib.hid sl
  clear ih HL sl hsg
  go_enter Tryz.func209,Tryz.ntmps209
  go_wp2_with fail
  clear p0 p1 p2 p3
  obtain ⟨x0,x1,x2,x3,x4,x5,hg0⟩:=hcs 0 g rfl
  simp only [Nat.zero_mul,Nat.one_mul,Nat.add_zero] at hg0
  have K0:=dJ (B:=B) (BW0.out)
  have wk : ∀ w,Below W1.heap.size W1 w → Calls Tryz.prog 212 #[.agg #[.int .u8 op,str [],.slice a n c,.slice (some ⟨bb,off,none⟩) 2 d],.int .i64 0] w fun e w'=>e = .returned (.bool (bH op (decide (0 = 0)) g.op)) ∧ Below w.heap.size w w':=fun w hw=>zW op hb [] a (some ⟨bb,off,none⟩) n c d w g k (((S1.out.below hw).ops).keep bL) ((HX2.out.keep (dJ (S1.out.below hw).wr.bw)).keep bL) 0 (by decide) g rfl (ok_op h1).1 (ok_op h1).2
  refine fT rg2 (by kernel_rfl) (by kernel_rfl) (by kernel_rfl) 63 rfl 8 16 (Op.call { callee:=Callee.value (Operand.tmp 8),args:=#[Operand.tmp 9,Operand.tmp 13,Operand.tmp 15],argTypes:=#[194,40,4] }) (by kernel_rfl) (by kernel_rfl) [8,9,10,11,12,13,14,15] [0,1,2,3,4,5,6,7] (by kernel_rfl) (by kernel_rfl) (rAt (rg2R B b c1 c3 W.heap.size bb off d 0 0 (bH op (decide (0 = 0)) g.op) g op [] a n c)) (fZ (rg2_stays B b c1 c3 W.heap.size bb off d 0 0 (bH op (decide (0 = 0)) g.op) g op [] a n c))
   (rg2_steps B b c1 c3 W.heap.size bb off d 0 0 (bH op (decide (0 = 0)) g.op) g op [] a n c _ _ _ rfl rfl rfl S1.out.cl.h4 S1.out.box ⟨bL _ _ (K0 _ _ hg0.c0),bL _ _ (K0 _ _ hg0.c1),bL _ _ (K0 _ _ hg0.c2),bL _ _ (K0 _ _ hg0.c3),(hg0.at_.keep K0).keep bL,(hg0.at'.keep K0).keep bL⟩ ⟨_,_,_,_,_,_,rfl,hg0.at_.keep K0,hg0.at'.keep K0⟩ wk) (fun z zy wy hby hz=>?_)
  have e0 : z 0 = .func (.func 208) #[] #[one c1,one c3]:=hz 0 (by decide)
  have e1 : z 1 = one b:=hz 1 (by decide)
  have e14 : z 7 = .bool (bH op (decide (0 = 0)) g.op):=hz 7 (by decide)
  have e5 : aV (hide (up B) wy) g (z 5):=hz 5 (by decide)
  obtain ⟨i1,j1,k1,i2,j2,k2,e5',e6,e7⟩:=e5
  have T0:=Lib.hid (S1.out.below hby)
  have V5 : Hid (aV (hide (up B) wy) g (.agg #[.int .u8 g.op,str g.name,.slice i1 j1 k1,.slice i2 j2 k2])):=⟨_,_,_,_,_,_,rfl,e6,e7⟩
  obtain ⟨Q0,hQ⟩ : ∃ Q,bH op (decide (0 = 0)) g.op = Q:=⟨_,rfl⟩
  have HQ0:=Lib.hid hQ
  rw [hQ] at e14
  have CA : Hid (Calls Tryz.prog 208 #[one b,.agg #[.int .u8 g.op,str g.name,.slice i1 j1 k1,.slice i2 j2 k2],.bool Q0,one c1,one c3] wy fun e w'=>e = .returned (.tuple #[]) ∧ Wrote B b (bs ++ brk Q0 g.ft) wy w'):=IH0.out B b _ wy _ c1 c3 c4 Q0 T0.out.ops T0.out.wr.bld T0.out.cl V5.out (by have:=HL2.out;rw [← hQ];simp only [List.length_append,List.length_cons,List.length_nil] at this ⊢;simp only [decide_true,show decide ((1 : Nat) = 0) = false from rfl] at this ⊢;omega)
  clear hz hby e6 e7 hg0 V5 hQ wk K0
  rintro ⟨dst,op2,ty,pos,af,gd⟩ rfl rfl K hK
  simp only [cP,List.map_cons,List.map_nil,List.setIfInBounds_toArray,List.set_cons_zero,List.set_cons_succ,e0,e1,e14,e5']
  have HK:=Lib.hid hK
  clear hK e0 e1 e14 e5'
  go_simp
  go_at_call 208
  refine CA.out.mono ?_
  rintro e w3 ⟨rfl,h5⟩
  have S3:=Lib.hid (T0.out.next h5 NB)
  clear h5 CA
  refine HK.out.out _ _ ?_
  clear HK
  obtain ⟨⟨p0,p1,p2,p3⟩,-⟩:=aL S3.out.box
  have o3:=(S3.out.ops.keep bL op (by unfold bin at hb;omega) (by unfold bin at hb;omega)).1
  rw [HSG.out] at o3
  go_wp2_with (
         go_at_call 207
         refine (ws_x B b _ (32 :: (sg ++ [32])) _ _ (sg_tx sg) S3.out.wr.bld (by have:=HL2.out;rw [HSG.out,show bH op true g.op = Q0 from HQ0.out] at this;simp only [List.length_append,List.length_cons,List.length_nil];omega) S3.out.wr.bld.le).mono ?_
         rintro e w4 ⟨⟨n2,rfl⟩,h4⟩
         have S4:=Lib.hid (S3.out.next h4 NB)
         clear h4 p0 p1 p2 p3 o3)
  have BW1:=Lib.hid S4.out.wr.bw
  obtain ⟨x0,x1,x2,x3,x4,x5,hg0⟩:=hcs 1 k rfl
  simp only [Nat.zero_mul,Nat.one_mul,Nat.add_zero] at hg0
  have K1:=dJ (B:=B) (BW1.out)
  have wk : ∀ w,Below w4.heap.size w4 w → Calls Tryz.prog 212 #[.agg #[.int .u8 op,str [],.slice a n c,.slice (some ⟨bb,off,none⟩) 2 d],.int .i64 1] w fun e w'=>e = .returned (.bool (bH op (decide (1 = 0)) k.op)) ∧ Below w.heap.size w w':=fun w hw=>zW op hb [] a (some ⟨bb,off,none⟩) n c d w g k (((S4.out.below hw).ops).keep bL) ((HX2.out.keep (dJ (S4.out.below hw).wr.bw)).keep bL) 1 (by decide) k rfl (ok_op h2).1 (ok_op h2).2
  refine fT rg4 (by kernel_rfl) (by kernel_rfl) (by kernel_rfl) 63 rfl 8 34 (Op.call { callee:=Callee.value (Operand.tmp 26),args:=#[Operand.tmp 27,Operand.tmp 31,Operand.tmp 33],argTypes:=#[194,40,4] }) (by kernel_rfl) (by kernel_rfl) [26,27,28,29,30,31,32,33] [0,1,2,3,4,5,6,7] (by kernel_rfl) (by kernel_rfl) (rAt (rg4R B b c1 c3 W.heap.size bb off d 0 0 (bH op (decide (1 = 0)) k.op) k op [] a n c)) (fZ (rg4_stays B b c1 c3 W.heap.size bb off d 0 0 (bH op (decide (1 = 0)) k.op) k op [] a n c))
   (rg4_steps B b c1 c3 W.heap.size bb off d 0 0 (bH op (decide (1 = 0)) k.op) k op [] a n c _ _ _ rfl rfl rfl S4.out.cl.h4 S4.out.box ⟨bL _ _ (K1 _ _ hg0.c0),bL _ _ (K1 _ _ hg0.c1),bL _ _ (K1 _ _ hg0.c2),bL _ _ (K1 _ _ hg0.c3),(hg0.at_.keep K1).keep bL,(hg0.at'.keep K1).keep bL⟩ ⟨_,_,_,_,_,_,rfl,hg0.at_.keep K1,hg0.at'.keep K1⟩ wk) (fun z zy wy hby hz=>?_)
  have e0 : z 0 = .func (.func 208) #[] #[one c1,one c3]:=hz 0 (by decide)
  have e1 : z 1 = one b:=hz 1 (by decide)
  have e14 : z 7 = .bool (bH op (decide (1 = 0)) k.op):=hz 7 (by decide)
  have e5 : aV (hide (up B) wy) k (z 5):=hz 5 (by decide)
  obtain ⟨i1,j1,k1,i2,j2,k2,e5',e6,e7⟩:=e5
  have T1:=Lib.hid (S4.out.below hby)
  have V5 : Hid (aV (hide (up B) wy) k (.agg #[.int .u8 k.op,str k.name,.slice i1 j1 k1,.slice i2 j2 k2])):=⟨_,_,_,_,_,_,rfl,e6,e7⟩
  obtain ⟨Q1,hQ⟩ : ∃ Q,bH op (decide (1 = 0)) k.op = Q:=⟨_,rfl⟩
  have HQ1:=Lib.hid hQ
  rw [hQ] at e14
  have CA : Hid (Calls Tryz.prog 208 #[one b,.agg #[.int .u8 k.op,str k.name,.slice i1 j1 k1,.slice i2 j2 k2],.bool Q1,one c1,one c3] wy fun e w'=>e = .returned (.tuple #[]) ∧ Wrote B b ((bs ++ brk Q0 g.ft ++ 32 :: (sg ++ [32])) ++ brk Q1 k.ft) wy w'):=IH1.out B b _ wy _ c1 c3 c4 Q1 T1.out.ops T1.out.wr.bld T1.out.cl V5.out (by have:=HL2.out;rw [HSG.out,show bH op true g.op = Q0 from HQ0.out] at this;rw [← hQ];simp only [List.length_append,List.length_cons,List.length_nil] at this ⊢;simp only [decide_true,show decide ((1 : Nat) = 0) = false from rfl] at this ⊢;omega)
  clear hz hby e6 e7 hg0 V5 hQ wk K1
  rintro ⟨dst,op2,ty,pos,af,gd⟩ rfl rfl K hK
  simp only [cP,List.map_cons,List.map_nil,List.setIfInBounds_toArray,List.set_cons_zero,List.set_cons_succ,e0,e1,e14,e5']
  have HK:=Lib.hid hK
  clear hK e0 e1 e14 e5'
  go_simp
  go_at_call 208
  refine CA.out.mono ?_
  rintro e w6 ⟨rfl,h5⟩
  have S6:=Lib.hid (T1.out.next h5 NB)
  clear h5 CA
  refine HK.out.out _ _ ?_
  clear HK
  go_wp2_with fail
  go_end0
  refine ⟨rfl, ?_⟩
  have:=S6.out.wr
  rw [FT.out,show bH op true g.op = Q0 from HQ0.out,show bH op false k.op = Q1 from HQ1.out,HSG.out]
  simpa only [List.append_assoc,List.cons_append,List.nil_append] using this
end Go.Proofs.YtppfalbnhnpbnaaGreatDoor
