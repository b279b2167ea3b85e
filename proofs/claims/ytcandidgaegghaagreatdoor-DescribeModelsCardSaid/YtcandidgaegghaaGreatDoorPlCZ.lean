/- Plain laws: the outline of a formula, the order of a proof's lines, lists that are joined and split. Nothing of the program is imported. -/
import Derived.Test.YtcandidgaegghaaGreatDoorPlBZ
import Derived.Lib.Split
set_option maxRecDepth 10000
set_option linter.unusedSimpArgs false
set_option linter.unusedVariables false
/- Plain law: the outline of a formula, scanned along the words of its text. Nothing of the program is imported. -/
namespace Ly

def Fm.headToks : Fm → List Bs
 | .mk op n as _=>if op = 1 then termWords n as else if op = 2 then [eE] else signToks op n
def Fm.head (f : Fm) : Bs:=if f.op = 1 ∨ f.op = 2 then f.text else aS f.op f.name

mutual
def Fm.outl (lv : Nat) : Fm → List (Nat × Bs)
 | .mk op n as sub=>(lv,(Fm.mk op n as sub).head) :: dC (lv + 1) sub
def dC (lv : Nat) : List Fm → List (Nat × Bs)
 | []=>[]
 | f :: fs=>f.outl lv ++ dC lv fs
end
mutual
def Fm.parts : Fm → Nat
 | .mk _ _ _ sub=>1 + gW sub
def gW : List Fm → Nat
 | []=>0
 | f :: fs=>f.parts + gW fs
end
mutual
theorem Fm.outl_length : ∀ (f : Fm) (lv : Nat),(f.outl lv).length = f.parts
 | .mk op n as sub,lv=>by simp [Fm.outl,Fm.parts,jX sub (lv + 1)];omega
theorem jX : ∀ (fs : List Fm) (lv : Nat),(dC lv fs).length = gW fs
 | [],_=>rfl
 | f :: fs,lv=>by simp [dC,gW,Fm.outl_length f lv,jX fs lv]
end

end Ly
/- Plain law: the lines of a proof, and which lines a step uses. Nothing of the program is imported. -/
namespace Ly
open Go.Lib (decDigits itoa index cut)

end Ly
/- Plain law: what was joined is split again. Nothing of the program is imported. -/
namespace Ly
open Go.Lib (index count split splitK countFrom)

end Ly
