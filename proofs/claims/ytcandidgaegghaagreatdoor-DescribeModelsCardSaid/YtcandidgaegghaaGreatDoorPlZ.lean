/- Plain laws: formulas and proofs are told by their words. Nothing of the program is imported. -/
import Derived.Lib.ItoaNum
set_option maxRecDepth 10000
set_option linter.unusedSimpArgs false
set_option linter.unusedVariables false
/- Plain law: formulas, terms and proofs as data, and their words; words tell formulas apart. Nothing of the program is imported. -/
namespace Ly

abbrev Bs:=List UInt8

inductive Tm where
 | mk (v : Bool) (name : Bs) (args : List Tm)

inductive Fm where
 | mk (op : Int) (name : Bs) (args : List Tm) (sub : List Fm)

namespace Tm
def v : Tm → Bool | .mk v _ _=>v
def name : Tm → Bs | .mk _ n _=>n
def args : Tm → List Tm | .mk _ _ a=>a
end Tm
namespace Fm
def op : Fm → Int | .mk o _ _ _=>o
def name : Fm → Bs | .mk _ n _ _=>n
def args : Fm → List Tm | .mk _ _ a _=>a
def sub : Fm → List Fm | .mk _ _ _ s=>s
end Fm

/- The words. -/
def wOf : Bs:=[111,102]
def wAnd : Bs:=[97,110,100]
def fV : Bs:=[99,108,111,115,101]
def eE : Bs:=[102,97,108,115,101]
def wNot : Bs:=[110,111,116]
def wNec : Bs:=[110,101,99,101,115,115,97,114,105,108,121]
def wPos : Bs:=[112,111,115,115,105,98,108,121]
def lC : Bs:=[110,101,120,116]
def gO : Bs:=[97,108,119,97,121,115]
def wFor : Bs:=[102,111,114]
def wAll : Bs:=[97,108,108]
def fS : Bs:=[115,111,109,101]
def sW : Bs:=[98,111,116,104]
def lY : Bs:=[101,105,116,104,101,114]
def wOr : Bs:=[111,114]
def wIf : Bs:=[105,102]
def xF : Bs:=[116,104,101,110]
def wAs : Bs:=[97,115]
def wSo : Bs:=[115,111]
def oM : Bs:=[119,104,105,108,101]
def nH : Bs:=[117,110,116,105,108]

def aS (op : Int) (n : Bs) : Bs :=
 if op = 3 then wNot else if op = 10 then wNec else if op = 11 then wPos else if op = 12 then lC else if op = 13 then gO
 else if op = 8 then wFor ++ [32] ++ wAll ++ [32] ++ n else if op = 9 then wFor ++ [32] ++ fS ++ [32] ++ n
 else if op = 4 then sW else if op = 5 then lY else if op = 6 then wIf else if op = 7 then wAs else oM
def aP (op : Int) : Bs :=
 if op = 3 then [] else if op = 10 then [] else if op = 11 then [] else if op = 12 then [] else if op = 13 then []
 else if op = 8 then [] else if op = 9 then []
 else if op = 4 then wAnd else if op = 5 then wOr else if op = 6 then xF else if op = 7 then wSo else nH

mutual
def Tm.words : Tm → List Bs
 | .mk _ n as=>n :: (dR true as ++ (if as.isEmpty then [] else [fV]))
def dR : Bool → List Tm → List Bs
 | _,[]=>[]
 | first,t :: ts=>(if first then wOf else wAnd) :: (t.words ++ dR false ts)
end
def termWords (n : Bs) (as : List Tm) : List Bs:=n :: (dR true as ++ (if as.isEmpty then [] else [fV]))

mutual
def Fm.words : Fm → List Bs
 | .mk op n as sub =>
  if op = 1 then termWords n as
  else if op = 2 then [eE]
  else aS op n :: eO op true sub
def eO (op : Int) : Bool → List Fm → List Bs
 | _,[]=>[]
 | first,f :: fs=>(if first then [] else [aP op]) ++ (f.words ++ eO op false fs)
end

def kA : List Bs → Bs
 | []=>[]
 | [x]=>x
 | x :: y :: r=>x ++ 32 :: kA (y :: r)

def Fm.text (f : Fm) : Bs:=kA f.words

/- Which formulas are right. -/
def small (c : UInt8) : Bool:=97 ≤ c && c ≤ 122
def eA (c : UInt8) : Bool:=65 ≤ c && c ≤ 90
def digit (c : UInt8) : Bool:=48 ≤ c && c ≤ 57
def eF (c : UInt8) : Bool:=small c || eA c || digit c
def dZ (s : Bs) : Bool:=s == wAll || s == fS || s == eE || s == lC || s == gO || s == nH
def dJ (first other : UInt8 → Bool) : Bs → Bool
 | []=>false
 | c :: r=>decide (r.length + 1 ≤ 16) && !dZ (c :: r) && first c && r.all other
def bR (s : Bs) : Bool:=dJ (fun c=>117 ≤ c && c ≤ 122) digit s
def bZ (s : Bs) : Bool:=dJ (fun c=>97 ≤ c && c ≤ 116) eF s
def aY (s : Bs) : Bool:=dJ eA eF s

mutual
def Tm.ok : Tm → Bool
 | .mk v n as=>if v then as.isEmpty && bR n else decide (as.length ≤ 4) && bZ n && kM as
def kM : List Tm → Bool
 | []=>true
 | t :: ts=>t.ok && kM ts
end
def arity (op : Int) : Nat :=
 if op = 1 ∨ op = 2 then 0 else if op = 3 ∨ 8 ≤ op ∧ op ≤ 13 then 1 else if 4 ≤ op ∧ op ≤ 7 ∨ op = 14 then 2 else 9
mutual
def Fm.ok : Fm → Bool
 | .mk op n as sub =>
  decide (sub.length = arity op ∧ sub.length ≤ 2) && (if op = 1 then aY n && decide (as.length ≤ 4) else as.isEmpty && (if op = 8 ∨ op = 9 then bR n else n.isEmpty)) && kM as && mK sub
def mK : List Fm → Bool
 | []=>true
 | f :: fs=>f.ok && mK fs
end
mutual
def Tm.nodes : Tm → Nat
 | .mk _ _ as=>1 + bT as
def bT : List Tm → Nat
 | []=>0
 | t :: ts=>t.nodes + bT ts
end
mutual
def Fm.nodes : Fm → Nat
 | .mk _ _ as sub=>1 + bT as + cB sub
def cB : List Fm → Nat
 | []=>0
 | f :: fs=>f.nodes + cB fs
end
mutual
def Tm.depth : Tm → Nat
 | .mk _ _ as=>1 + jI as
def jI : List Tm → Nat
 | []=>0
 | t :: ts=>max t.depth (jI ts)
end
mutual
def Fm.depth : Fm → Nat
 | .mk _ _ as sub=>1 + max (jI as) (mJ sub)
def mJ : List Fm → Nat
 | []=>0
 | f :: fs=>max f.depth (mJ fs)
end
def Fm.right (f : Fm) : Bool:=f.ok && decide (f.nodes ≤ 400) && decide (f.depth ≤ 40)

end Ly
/- Plain law: two right formulas with the same text are the same. Nothing of the program is imported. -/
namespace Ly

/- The program's pieces and the tokens. -/
def signToks (op : Int) (n : Bs) : List Bs:=if op = 8 then [wFor,wAll,n] else if op = 9 then [wFor,fS,n] else [aS op n]

theorem Fm.words_ne (f : Fm) : f.words ≠ []:=by
 cases f;simp only [Fm.words,termWords];split
 ·simp
 ·split <;> simp
/- The tokens of right formulas hold no space. -/
theorem checker_all {first other : UInt8 → Bool} {s : Bs} (h : dJ first other s = true) : ∃ c r,s = c :: r ∧ first c = true ∧ (∀ x ∈ r,other x = true):=by
 cases s with
 | nil=>simp [dJ] at h
 | cons c r=>simp [dJ] at h;exact ⟨c,r,rfl,h.1.2,h.2⟩

theorem arity_cases {op : Int} {n : Nat} (h : n = arity op) (hn : n ≠ 9) : op = 1 ∨ op = 2 ∨ op = 3 ∨ op = 4 ∨ op = 5 ∨ op = 6 ∨ op = 7 ∨ op = 8 ∨ op = 9 ∨ op = 10 ∨ op = 11 ∨ op = 12 ∨ op = 13 ∨ op = 14:=by
 unfold arity at h
 repeat' split at h
 all_goals omega

theorem predName_ne {n : Bs} (h : aY n = true) {k : Bs} (hk : ∀ c r,k = c :: r → eA c = false) : n ≠ k:=by
 intro e
 obtain ⟨c,r,rfl,hc,_⟩:=checker_all h
 rw [hk c r e.symm] at hc;cases hc

theorem Fm.ok_op {op : Int} {n : Bs} {as : List Tm} {sub : List Fm} (h : (Fm.mk op n as sub).ok = true) :
  op = 1 ∨ op = 2 ∨ op = 3 ∨ op = 4 ∨ op = 5 ∨ op = 6 ∨ op = 7 ∨ op = 8 ∨ op = 9 ∨ op = 10 ∨ op = 11 ∨ op = 12 ∨ op = 13 ∨ op = 14:=by
 simp only [Fm.ok,Bool.and_eq_true,decide_eq_true_eq] at h
 exact arity_cases h.1.1.1.1 (by omega)

end Ly
/- Plain law: two proofs that can be described, with the same lines, are the same; likewise claims. Nothing of the program is imported. -/
namespace Ly
open Go.Lib (decDigits itoa)

inductive Pf where
 | mk (rule : Bs) (form : Fm) (label : Int) (sub : List Pf) (marks : List (List Int))
namespace Pf
def rule : Pf → Bs | .mk r _ _ _ _=>r
def form : Pf → Fm | .mk _ f _ _ _=>f
def label : Pf → Int | .mk _ _ l _ _=>l
def sub : Pf → List Pf | .mk _ _ _ s _=>s
def marks : Pf → List (List Int) | .mk _ _ _ _ m=>m
end Pf

def bS (sep : Bs) : List Bs → Bs
 | []=>[]
 | [x]=>x
 | x :: y :: r=>x ++ sep ++ bS sep (y :: r)

def cs : Bs:=[44,32]
def rF : Bs:=[32,101,110,100,105,110,103,32]
def yS : Bs:=[97,115,115,117,109,101,32]
def zS : Bs:=[44,32,115,116,105,108,108,32,116,111,32,115,104,111,119]
def wBy : Bs:=[44,32,98,121,32]
def AP : Bs:=[32,102,114,111,109,32]
def fE : Bs:=[32,97,110,100,32]
def lZ : Bs:=[58,32]
def kH : Bs:=[110,111,116,104,105,110,103]
def hole : Bs:=[63]

def numbers (l : List Int) : Bs:=if l.isEmpty then kH else bS fE (l.map itoa)

def kC (n : Nat) (marks : List Int) : Bs:=itoa n ++ (if marks.isEmpty then [] else rF ++ numbers marks)

def fN (rule : Bs) (form : Fm) (label : Int) (prems : List Bs) : Bs :=
 if rule = [] then yS ++ itoa label ++ cs ++ form.text
 else if rule = hole then form.text ++ zS
 else form.text ++ wBy ++ rule ++ (if prems.isEmpty then [] else AP ++ bS cs prems)

mutual
def Pf.steps : Pf → Nat
 | .mk _ _ _ sub _=>aV sub + 1
def aV : List Pf → Nat
 | []=>0
 | p :: ps=>p.steps + aV ps
end

def bK : Nat → List Pf → List (List Int) → List Bs
 | _,[],_=>[]
 | k,p :: ps,ms=>kC (k + p.steps) (ms.headD []) :: bK (k + p.steps) ps ms.tail

mutual
def Pf.lines : Nat → Pf → List Bs
 | k,.mk rule form label sub marks=>eG k sub ++ [itoa (k + aV sub + 1 : Nat) ++ lZ ++ fN rule form label (bK k sub marks)]
def eG : Nat → List Pf → List Bs
 | _,[]=>[]
 | k,p :: ps=>p.lines k ++ eG (k + p.steps) ps
end

/- Which proofs can be described. -/
def jG : Bs → Bool
 | []=>false
 | c :: r=>decide (r.length + 1 ≤ 16) && (small c || eA c) && r.all eF
def qA (n : Int) : Bool:=decide (0 ≤ n ∧ n ≤ 999)
def kQ (rule : Bs) (label : Int) (nsub : Nat) (marks : List (List Int)) : Bool :=
 if rule = [] then decide (nsub = 0) && marks.isEmpty && decide (1 ≤ label ∧ label ≤ 999)
 else if rule = hole then decide (nsub = 0) && marks.isEmpty && decide (label = 0)
 else jG rule && decide (label = 0) && decide (nsub ≤ 4) && decide (marks.length = nsub) && marks.all fun l=>decide (l.length ≤ 3) && l.all qA
mutual
def Pf.ok : Pf → Bool
 | .mk rule form label sub marks=>form.right && kQ rule label sub.length marks && uL sub
def uL : List Pf → Bool
 | []=>true
 | p :: ps=>p.ok && uL ps
end
mutual
def Pf.depth : Pf → Nat
 | .mk _ _ _ sub _=>mY sub
def mY : List Pf → Nat
 | []=>0
 | p :: ps=>max (p.depth + 1) (mY ps)
end
def Pf.right (p : Pf) : Bool:=p.ok && decide (p.steps ≤ 300) && decide (p.depth ≤ 40)

theorem itoa_ne {n : Int} : itoa n ≠ []:=by
 unfold itoa;split
 ·simp
 ·rw [decDigits];split <;> simp

end Ly
namespace Ly
open Go.Lib (decDigits itoa)

/- The text of a right formula holds letters, digits and spaces alone. -/
def al (x : Bs) : Prop:=∀ c ∈ x,eF c = true
/- Steps. -/
mutual
theorem Pf.lines_length : ∀ (p : Pf) (k : Nat),(p.lines k).length = p.steps
 | .mk r f l s m,k=>by simp [Pf.lines,Pf.steps,fQ s k]
theorem fQ : ∀ (ps : List Pf) (k : Nat),(eG k ps).length = aV ps
 | [],_=>rfl
 | p :: ps,k=>by simp [eG,aV,Pf.lines_length p k,fQ ps]
end

theorem ruleName_al {s : Bs} (h : jG s = true) : al s:=by
 cases s with
 | nil=>simp [jG] at h
 | cons c r =>
  simp only [jG,Bool.and_eq_true,decide_eq_true_eq,List.all_eq_true] at h
  intro x hx
  rcases List.mem_cons.1 hx with e | e
  ·rw [e];rcases Bool.or_eq_true_iff.1 h.1.2 with e | e <;> simp [eF,e]
  ·exact h.2 x e
end Ly
namespace Ly
end Ly
