/- Plain laws: formulas and proofs are told by their words. Nothing of the program is imported. -/
import Derived.Lib.ItoaNum
set_option maxRecDepth 10000
set_option linter.unusedSimpArgs false
set_option linter.unusedVariables false
/- Plain law: formulas, terms and proofs as data, and their words; words tell formulas apart. Nothing of the program is imported. -/
namespace Ly

abbrev Bs:=List UInt8

inductive Tm where
 | mk (v : Bool) (name : Bs) (args : List Tm)

inductive Fm where
 | mk (op : Int) (name : Bs) (args : List Tm) (sub : List Fm)

namespace Tm
def v : Tm → Bool | .mk v _ _=>v
def name : Tm → Bs | .mk _ n _=>n
def args : Tm → List Tm | .mk _ _ a=>a
end Tm
namespace Fm
def op : Fm → Int | .mk o _ _ _=>o
def name : Fm → Bs | .mk _ n _ _=>n
def args : Fm → List Tm | .mk _ _ a _=>a
def sub : Fm → List Fm | .mk _ _ _ s=>s
end Fm

/- The words. -/
def wOf : Bs:=[111,102]
def wAnd : Bs:=[97,110,100]
def cB : Bs:=[99,108,111,115,101]
def cF : Bs:=[102,97,108,115,101]
def wNot : Bs:=[110,111,116]
def wNec : Bs:=[110,101,99,101,115,115,97,114,105,108,121]
def wPos : Bs:=[112,111,115,115,105,98,108,121]
def iZ : Bs:=[110,101,120,116]
def eO : Bs:=[97,108,119,97,121,115]
def wFor : Bs:=[102,111,114]
def wAll : Bs:=[97,108,108]
def eA : Bs:=[115,111,109,101]
def nA : Bs:=[98,111,116,104]
def hH : Bs:=[101,105,116,104,101,114]
def wOr : Bs:=[111,114]
def wIf : Bs:=[105,102]
def zG : Bs:=[116,104,101,110]
def wAs : Bs:=[97,115]
def wSo : Bs:=[115,111]
def jQ : Bs:=[119,104,105,108,101]
def mK : Bs:=[117,110,116,105,108]

def aM (op : Int) (n : Bs) : Bs :=
 if op = 3 then wNot else if op = 10 then wNec else if op = 11 then wPos else if op = 12 then iZ else if op = 13 then eO
 else if op = 8 then wFor ++ [32] ++ wAll ++ [32] ++ n else if op = 9 then wFor ++ [32] ++ eA ++ [32] ++ n
 else if op = 4 then nA else if op = 5 then hH else if op = 6 then wIf else if op = 7 then wAs else jQ
def aG (op : Int) : Bs :=
 if op = 3 then [] else if op = 10 then [] else if op = 11 then [] else if op = 12 then [] else if op = 13 then []
 else if op = 8 then [] else if op = 9 then []
 else if op = 4 then wAnd else if op = 5 then wOr else if op = 6 then zG else if op = 7 then wSo else mK

mutual
def Tm.words : Tm → List Bs
 | .mk _ n as=>n :: (aQ true as ++ (if as.isEmpty then [] else [cB]))
def aQ : Bool → List Tm → List Bs
 | _,[]=>[]
 | first,t :: ts=>(if first then wOf else wAnd) :: (t.words ++ aQ false ts)
end
def termWords (n : Bs) (as : List Tm) : List Bs:=n :: (aQ true as ++ (if as.isEmpty then [] else [cB]))

mutual
def Fm.words : Fm → List Bs
 | .mk op n as sub =>
  if op = 1 then termWords n as
  else if op = 2 then [cF]
  else aM op n :: bT op true sub
def bT (op : Int) : Bool → List Fm → List Bs
 | _,[]=>[]
 | first,f :: fs=>(if first then [] else [aG op]) ++ (f.words ++ bT op false fs)
end

def aW : List Bs → Bs
 | []=>[]
 | [x]=>x
 | x :: y :: r=>x ++ 32 :: aW (y :: r)

def Fm.text (f : Fm) : Bs:=aW f.words

/- Which formulas are right. -/
def small (c : UInt8) : Bool:=97 ≤ c && c ≤ 122
def cZ (c : UInt8) : Bool:=65 ≤ c && c ≤ 90
def digit (c : UInt8) : Bool:=48 ≤ c && c ≤ 57
def bR (c : UInt8) : Bool:=small c || cZ c || digit c
def eG (s : Bs) : Bool:=s == wAll || s == eA || s == cF || s == iZ || s == eO || s == mK
def dA (first other : UInt8 → Bool) : Bs → Bool
 | []=>false
 | c :: r=>decide (r.length + 1 ≤ 16) && !eG (c :: r) && first c && r.all other
def aZ (s : Bs) : Bool:=dA (fun c=>117 ≤ c && c ≤ 122) digit s
def dO (s : Bs) : Bool:=dA (fun c=>97 ≤ c && c ≤ 116) bR s
def bN (s : Bs) : Bool:=dA cZ bR s

mutual
def Tm.ok : Tm → Bool
 | .mk v n as=>if v then as.isEmpty && aZ n else decide (as.length ≤ 4) && dO n && cJ as
def cJ : List Tm → Bool
 | []=>true
 | t :: ts=>t.ok && cJ ts
end
def arity (op : Int) : Nat :=
 if op = 1 ∨ op = 2 then 0 else if op = 3 ∨ 8 ≤ op ∧ op ≤ 13 then 1 else if 4 ≤ op ∧ op ≤ 7 ∨ op = 14 then 2 else 9
mutual
def Fm.ok : Fm → Bool
 | .mk op n as sub =>
  decide (sub.length = arity op ∧ sub.length ≤ 2) && (if op = 1 then bN n && decide (as.length ≤ 4) else as.isEmpty && (if op = 8 ∨ op = 9 then aZ n else n.isEmpty)) && cJ as && dR sub
def dR : List Fm → Bool
 | []=>true
 | f :: fs=>f.ok && dR fs
end
mutual
def Tm.nodes : Tm → Nat
 | .mk _ _ as=>1 + aD as
def aD : List Tm → Nat
 | []=>0
 | t :: ts=>t.nodes + aD ts
end
mutual
def Fm.nodes : Fm → Nat
 | .mk _ _ as sub=>1 + aD as + aK sub
def aK : List Fm → Nat
 | []=>0
 | f :: fs=>f.nodes + aK fs
end
mutual
def Tm.depth : Tm → Nat
 | .mk _ _ as=>1 + bG as
def bG : List Tm → Nat
 | []=>0
 | t :: ts=>max t.depth (bG ts)
end
mutual
def Fm.depth : Fm → Nat
 | .mk _ _ as sub=>1 + max (bG as) (dW sub)
def dW : List Fm → Nat
 | []=>0
 | f :: fs=>max f.depth (dW fs)
end
def Fm.right (f : Fm) : Bool:=f.ok && decide (f.nodes ≤ 400) && decide (f.depth ≤ 40)

end Ly
/- Plain law: two right formulas with the same text are the same. Nothing of the program is imported. -/
namespace Ly

/- The program's pieces and the tokens. -/
def dI (op : Int) (n : Bs) : List Bs:=if op = 8 then [wFor,wAll,n] else if op = 9 then [wFor,eA,n] else [aM op n]

mutual
def Fm.toks : Fm → List Bs
 | .mk op n as sub =>
  if op = 1 then termWords n as
  else if op = 2 then [cF]
  else dI op n ++ dL op true sub
def dL (op : Int) : Bool → List Fm → List Bs
 | _,[]=>[]
 | first,f :: fs=>(if first then [] else [aG op]) ++ (f.toks ++ dL op false fs)
end

theorem gK (x : Bs) (r : List Bs) (h : r ≠ []) : aW (x :: r) = x ++ 32 :: aW r:=by
 cases r with
 | nil=>exact absurd rfl h
 | cons y r=>rfl

theorem gC (a b : List Bs) (ha : a ≠ []) (hb : b ≠ []) : aW (a ++ b) = aW a ++ 32 :: aW b:=by
 induction a with
 | nil=>exact absurd rfl ha
 | cons x a ih =>
  by_cases h : a = []
  ·subst h;simp [gK x b hb,aW]
  ·rw [List.cons_append,gK _ _ (by simp [h]),ih h,gK _ _ h];simp

theorem signFirst_toks (op : Int) (n : Bs) : aW [aM op n] = aW (dI op n):=by
 by_cases h8 : op = 8
 ·subst h8;simp [aM,dI,aW]
 ·by_cases h9 : op = 9
  ·subst h9;simp [aM,dI,aW]
  ·simp [dI,h8,h9]

theorem vV (op : Int) (n : Bs) : dI op n ≠ []:=by
 unfold dI;split
 ·simp
 ·split <;> simp

theorem nO {a b a' b' : List Bs} (ha : a = [] ↔ a' = []) (hb : b = [] ↔ b' = []) (h1 : aW a = aW a') (h2 : aW b = aW b') : aW (a ++ b) = aW (a' ++ b'):=by
 by_cases a0 : a = []
 ·have a0':=ha.1 a0;subst a0 a0';simpa using h2
 ·have a0' : a' ≠ []:=fun e=>a0 (ha.2 e)
  by_cases b0 : b = []
  ·have b0':=hb.1 b0;subst b0 b0';simpa using h1
  ·have b0' : b' ≠ []:=fun e=>b0 (hb.2 e)
   rw [gC _ _ a0 b0,gC _ _ a0' b0',h1,h2]

theorem Fm.words_ne (f : Fm) : f.words ≠ []:=by
 cases f;simp only [Fm.words,termWords];split
 ·simp
 ·split <;> simp
theorem Fm.toks_ne (f : Fm) : f.toks ≠ []:=by
 cases f;simp only [Fm.toks,termWords];split
 ·simp
 ·split
  ·simp
  ·simp [vV]

theorem mR (op : Int) (b : Bool) (fs : List Fm) : bT op b fs = [] ↔ dL op b fs = []:=by
 cases fs with
 | nil=>simp [bT,dL]
 | cons f fs=>simp [bT,dL,Fm.words_ne,Fm.toks_ne]

mutual
theorem Fm.join_toks : ∀ f : Fm,aW f.words = aW f.toks
 | .mk op n as sub=>by
  simp only [Fm.words,Fm.toks]
  split
  ·rfl
  ·split
   ·rfl
   ·exact nO (a:=[aM op n]) (by simp [vV]) (mR op true sub) (signFirst_toks op n) (qM op true sub)
theorem qM (op : Int) : ∀ (b : Bool) (fs : List Fm),aW (bT op b fs) = aW (dL op b fs)
 | _,[]=>rfl
 | b,f :: fs=>by
  simp only [bT,dL]
  exact nO Iff.rfl (by simp [Fm.words_ne,Fm.toks_ne]) rfl
   (nO (by simp [Fm.words_ne,Fm.toks_ne]) (mR op false fs) (Fm.join_toks f) (qM op false fs))
end

theorem Fm.text_eq (f : Fm) : f.text = aW f.toks:=Fm.join_toks f

/- A list of tokens is told by its text. -/
def noSp (l : List Bs) : Prop:=∀ x ∈ l,(32 : UInt8) ∉ x

theorem tK {c : UInt8} : ∀ {x y r s : Bs},c ∉ x → c ∉ y → x ++ c :: r = y ++ c :: s → x = y ∧ r = s
 | [],[],r,s,_,_,h=>⟨rfl,by simpa using h⟩
 | [],b :: y,r,s,_,hy,h=>by simp at h hy;exact absurd h.1 hy.1
 | a :: x,[],r,s,hx,_,h=>by simp at h hx;exact absurd h.1.symm hx.1
 | a :: x,b :: y,r,s,hx,hy,h=>by
  simp only [List.cons_append,List.cons.injEq,List.mem_cons,not_or] at h hx hy
  obtain ⟨e1,e2⟩:=tK hx.2 hy.2 h.2
  exact ⟨by rw [h.1,e1],e2⟩

theorem DW {c : UInt8} {x y r : Bs} (hx : c ∉ x) (h : x = y ++ c :: r) : False:=hx (by rw [h];simp)

/- The tokens of right formulas hold no space. -/
theorem lX {first other : UInt8 → Bool} {s : Bs} (h : dA first other s = true) : ∃ c r,s = c :: r ∧ first c = true ∧ (∀ x ∈ r,other x = true):=by
 cases s with
 | nil=>simp [dA] at h
 | cons c r=>simp [dA] at h;exact ⟨c,r,rfl,h.1.2,h.2⟩

theorem uB {first other : UInt8 → Bool} {s : Bs} (h : dA first other s = true) (h1 : first 32 = false) (h2 : other 32 = false) : (32 : UInt8) ∉ s:=by
 obtain ⟨c,r,rfl,hc,hr⟩:=lX h
 intro hm
 rcases List.mem_cons.1 hm with e | e
 ·rw [← e] at hc;simp [hc] at h1
 ·have:=hr _ e;simp [this] at h2

theorem nY {s : Bs} (h : aZ s = true) : (32 : UInt8) ∉ s:=uB h (by decide) (by decide)
theorem funName_noSp {s : Bs} (h : dO s = true) : (32 : UInt8) ∉ s:=uB h (by decide) (by decide)
theorem predName_noSp {s : Bs} (h : bN s = true) : (32 : UInt8) ∉ s:=uB h (by decide) (by decide)

theorem gN {a b : List Bs} : noSp (a ++ b) ↔ noSp a ∧ noSp b:=by
 simp [noSp,List.mem_append,or_imp,forall_and]
theorem eR {x : Bs} {b : List Bs} : noSp (x :: b) ↔ (32 : UInt8) ∉ x ∧ noSp b:=by simp [noSp]
theorem gO : noSp []:=by simp [noSp]

mutual
theorem Tm.noSp_words : ∀ t : Tm,t.ok = true → noSp t.words
 | .mk v n as,h=>by
  have hn : (32 : UInt8) ∉ n:=by
   simp only [Tm.ok] at h;split at h
   ·exact nY (by simp_all)
   ·exact funName_noSp (by simp_all)
  have ha : noSp (aQ true as):=by
   simp only [Tm.ok] at h;split at h
   ·have : as = []:=by simp_all
    subst this;exact gO
   ·exact mG true as (by simp_all)
  simp only [Tm.words]
  rw [eR,gN]
  refine ⟨hn,ha, ?_⟩
  split
  ·exact gO
  ·simp [noSp,cB]
theorem mG : ∀ (b : Bool) (as : List Tm),cJ as = true → noSp (aQ b as)
 | _,[],_=>gO
 | b,t :: ts,h=>by
  simp only [cJ,Bool.and_eq_true] at h
  simp only [aQ]
  rw [eR,gN]
  refine ⟨?_,Tm.noSp_words t h.1,mG false ts h.2⟩
  cases b <;> decide
end

theorem noSp_termWords (n : Bs) (as : List Tm) (hn : (32 : UInt8) ∉ n) (ha : cJ as = true) : noSp (termWords n as):=by
 unfold termWords
 rw [eR,gN]
 refine ⟨hn,mG true as ha, ?_⟩
 split
 ·exact gO
 ·simp [noSp,cB]

theorem signBetween_noSp (op : Int) : (32 : UInt8) ∉ aG op:=by
 unfold aG
 repeat' split
 all_goals decide

theorem signFirst_noSp (op : Int) (n : Bs) (h8 : op ≠ 8) (h9 : op ≠ 9) : (32 : UInt8) ∉ aM op n:=by
 unfold aM
 rw [if_neg h8,if_neg h9]
 repeat' split
 all_goals decide

theorem noSp_signToks (op : Int) (n : Bs) (h : op = 8 ∨ op = 9 → aZ n = true) : noSp (dI op n):=by
 unfold dI
 split
 ·rw [eR,eR,eR];exact ⟨by decide,by decide,nY (h (.inl ‹_›)),gO⟩
 ·split
  ·rw [eR,eR,eR];exact ⟨by decide,by decide,nY (h (.inr ‹_›)),gO⟩
  ·rw [eR];exact ⟨signFirst_noSp op n ‹_› ‹_›,gO⟩

mutual
theorem Fm.noSp_toks : ∀ f : Fm,f.ok = true → noSp f.toks
 | .mk op n as sub,h=>by
  simp only [Fm.ok,Bool.and_eq_true] at h
  obtain ⟨⟨⟨h1,h2⟩,h3⟩,h4⟩:=h
  simp only [Fm.toks]
  split
  ·rename_i ho;rw [if_pos ho] at h2;exact noSp_termWords n as (predName_noSp (by simp_all)) h3
  ·rename_i ho;rw [if_neg ho] at h2
   split
   ·rw [eR];exact ⟨by decide,gO⟩
   ·rw [gN]
    exact ⟨noSp_signToks op n (fun e=>by rw [if_pos e] at h2;simp_all),sV op true sub h4⟩
theorem sV (op : Int) : ∀ (b : Bool) (fs : List Fm),dR fs = true → noSp (dL op b fs)
 | _,[],_=>gO
 | b,f :: fs,h=>by
  simp only [dR,Bool.and_eq_true] at h
  simp only [dL]
  rw [gN,gN]
  refine ⟨?_,Fm.noSp_toks f h.1,sV op false fs h.2⟩
  cases b
  ·simp only [Bool.false_eq_true,if_false];rw [eR];exact ⟨signBetween_noSp op,gO⟩
  ·exact gO
end

/- Unique reading. -/
def zH (r : List Bs) : Prop:=∀ x s,r = x :: s → x ≠ wOf
theorem notOf_nil : zH []:=fun _ _ h=>by cases h
theorem rG {x : Bs} {r : List Bs} (h : x ≠ wOf) : zH (x :: r):=fun _ _ e=>by cases e;exact h

theorem head_of_checker {first other : UInt8 → Bool} {c : UInt8} {r : Bs} (h : dA first other (c :: r) = true) : first c = true:=by
 simp [dA] at h;exact h.1.2

theorem var_not_fun {s : Bs} (h : aZ s = true) (h' : dO s = true) : False:=by
 obtain ⟨c,r,rfl,hc,_⟩:=lX h
 have:=head_of_checker h'
 simp at hc this
 have h1:=UInt8.le_iff_toNat_le.1 hc.1
 have h2:=UInt8.le_iff_toNat_le.1 this.2
 simp at h1 h2;omega

def jS (as : List Tm) : List Bs:=if as.isEmpty then [] else [cB]
theorem Tm.words_eq (v : Bool) (n : Bs) (as : List Tm) : (Tm.mk v n as).words = n :: (aQ true as ++ jS as):=by simp [Tm.words,jS]
theorem termWords_eq (n : Bs) (as : List Tm) : termWords n as = n :: (aQ true as ++ jS as):=rfl

theorem arity_cases {op : Int} {n : Nat} (h : n = arity op) (hn : n ≠ 9) : op = 1 ∨ op = 2 ∨ op = 3 ∨ op = 4 ∨ op = 5 ∨ op = 6 ∨ op = 7 ∨ op = 8 ∨ op = 9 ∨ op = 10 ∨ op = 11 ∨ op = 12 ∨ op = 13 ∨ op = 14:=by
 unfold arity at h
 repeat' split at h
 all_goals omega

theorem vO {n : Bs} (h : bN n = true) {k : Bs} (hk : ∀ c r,k = c :: r → cZ c = false) : n ≠ k:=by
 intro e
 obtain ⟨c,r,rfl,hc,_⟩:=lX h
 rw [hk c r e.symm] at hc;cases hc

theorem Fm.ok_op {op : Int} {n : Bs} {as : List Tm} {sub : List Fm} (h : (Fm.mk op n as sub).ok = true) :
  op = 1 ∨ op = 2 ∨ op = 3 ∨ op = 4 ∨ op = 5 ∨ op = 6 ∨ op = 7 ∨ op = 8 ∨ op = 9 ∨ op = 10 ∨ op = 11 ∨ op = 12 ∨ op = 13 ∨ op = 14:=by
 simp only [Fm.ok,Bool.and_eq_true,decide_eq_true_eq] at h
 exact arity_cases h.1.1.1.1 (by omega)

theorem signBetween_ne (op : Int) : aG op ≠ wOf:=by
 unfold aG
 repeat' split
 all_goals decide

end Ly
/- Plain law: two proofs that can be described, with the same lines, are the same; likewise claims. Nothing of the program is imported. -/
namespace Ly
open Go.Lib (decDigits itoa)

inductive Pf where
 | mk (rule : Bs) (form : Fm) (label : Int) (sub : List Pf) (marks : List (List Int))
namespace Pf
def rule : Pf → Bs | .mk r _ _ _ _=>r
def form : Pf → Fm | .mk _ f _ _ _=>f
def label : Pf → Int | .mk _ _ l _ _=>l
def sub : Pf → List Pf | .mk _ _ _ s _=>s
def marks : Pf → List (List Int) | .mk _ _ _ _ m=>m
end Pf

def aT (sep : Bs) : List Bs → Bs
 | []=>[]
 | [x]=>x
 | x :: y :: r=>x ++ sep ++ aT sep (y :: r)

theorem AJ : ∀ l : List Bs,aW l = aT [32] l
 | []=>rfl
 | [x]=>rfl
 | x :: y :: r=>by simp [aW,aT,AJ (y :: r)]

def cs : Bs:=[44,32]
def eD : Bs:=[32,101,110,100,105,110,103,32]
def eC : Bs:=[97,115,115,117,109,101,32]
def pR : Bs:=[44,32,115,116,105,108,108,32,116,111,32,115,104,111,119]
def wBy : Bs:=[44,32,98,121,32]
def fJ : Bs:=[32,102,114,111,109,32]
def eX : Bs:=[32,97,110,100,32]
def eE : Bs:=[58,32]
def pQ : Bs:=[110,111,116,104,105,110,103]
def hole : Bs:=[63]

def numbers (l : List Int) : Bs:=if l.isEmpty then pQ else aT eX (l.map itoa)

def dY (n : Nat) (marks : List Int) : Bs:=itoa n ++ (if marks.isEmpty then [] else eD ++ numbers marks)

def bS (rule : Bs) (form : Fm) (label : Int) (prems : List Bs) : Bs :=
 if rule = [] then eC ++ itoa label ++ cs ++ form.text
 else if rule = hole then form.text ++ pR
 else form.text ++ wBy ++ rule ++ (if prems.isEmpty then [] else fJ ++ aT cs prems)

mutual
def Pf.steps : Pf → Nat
 | .mk _ _ _ sub _=>aE sub + 1
def aE : List Pf → Nat
 | []=>0
 | p :: ps=>p.steps + aE ps
end

def aO : Nat → List Pf → List (List Int) → List Bs
 | _,[],_=>[]
 | k,p :: ps,ms=>dY (k + p.steps) (ms.headD []) :: aO (k + p.steps) ps ms.tail

mutual
def Pf.lines : Nat → Pf → List Bs
 | k,.mk rule form label sub marks=>cE k sub ++ [itoa (k + aE sub + 1 : Nat) ++ eE ++ bS rule form label (aO k sub marks)]
def cE : Nat → List Pf → List Bs
 | _,[]=>[]
 | k,p :: ps=>p.lines k ++ cE (k + p.steps) ps
end

/- Which proofs can be described. -/
def bU : Bs → Bool
 | []=>false
 | c :: r=>decide (r.length + 1 ≤ 16) && (small c || cZ c) && r.all bR
def cN (n : Int) : Bool:=decide (0 ≤ n ∧ n ≤ 999)
def dF (rule : Bs) (label : Int) (nsub : Nat) (marks : List (List Int)) : Bool :=
 if rule = [] then decide (nsub = 0) && marks.isEmpty && decide (1 ≤ label ∧ label ≤ 999)
 else if rule = hole then decide (nsub = 0) && marks.isEmpty && decide (label = 0)
 else bU rule && decide (label = 0) && decide (nsub ≤ 4) && decide (marks.length = nsub) && marks.all fun l=>decide (l.length ≤ 3) && l.all cN
mutual
def Pf.ok : Pf → Bool
 | .mk rule form label sub marks=>form.right && dF rule label sub.length marks && iX sub
def iX : List Pf → Bool
 | []=>true
 | p :: ps=>p.ok && iX ps
end
mutual
def Pf.depth : Pf → Nat
 | .mk _ _ _ sub _=>dX sub
def dX : List Pf → Nat
 | []=>0
 | p :: ps=>max (p.depth + 1) (dX ps)
end
def Pf.right (p : Pf) : Bool:=p.ok && decide (p.steps ≤ 300) && decide (p.depth ≤ 40)

/- Numerals. -/
theorem decDigits_digit (n : Nat) : ∀ c ∈ decDigits n,48 ≤ c.toNat ∧ c.toNat ≤ 57:=by
 induction n using Nat.strongRecOn with
 | ind n ih =>
  rw [decDigits]
  split
  ·intro c hc;simp at hc;subst hc;simp;omega
  ·intro c hc
   rcases List.mem_append.1 hc with h | h
   ·exact ih (n / 10) (by omega) c h
   ·simp at h;subst h;simp;omega

theorem decDigits_inj : ∀ (n m : Nat),decDigits n = decDigits m → n = m:=by
 intro n
 induction n using Nat.strongRecOn with
 | ind n ih =>
  intro m h
  rw [decDigits.eq_def n,decDigits.eq_def m] at h
  have dig : ∀ a b : Nat,a < 10 → b < 10 → UInt8.ofNat (48 + a) = UInt8.ofNat (48 + b) → a = b:=by
   intro a b ha hb e
   have:=congrArg UInt8.toNat e
   simp at this;omega
  have ne : ∀ k,decDigits k ≠ []:=by
   intro k;rw [decDigits];split <;> simp
  split at h <;> split at h
  ·simp at h;exact dig n m ‹_› ‹_› (by simpa using h)
  ·have:=congrArg List.length h;simp at this;exact absurd this (ne _)
  ·have:=congrArg List.length h;simp at this;exact absurd this (ne _)
  ·have h1:=List.append_inj' h (by simp)
   have e1:=ih (n / 10) (by omega) _ h1.1
   have e2:=dig (n % 10) (m % 10) (by omega) (by omega) (by simpa using h1.2)
   omega

theorem sQ (n : Nat) : itoa (n : Int) = decDigits n:=by
 unfold itoa;rw [if_neg (by omega)];simp

theorem xH {n : Int} (h : 0 ≤ n) : ∀ c ∈ itoa n,48 ≤ c.toNat ∧ c.toNat ≤ 57:=by
 obtain ⟨k,rfl⟩:=Int.eq_ofNat_of_zero_le h
 rw [sQ];exact decDigits_digit k
theorem iU {n : Int} (h : 0 ≤ n) {c : UInt8} (hc : c.toNat < 48 ∨ 57 < c.toNat) : c ∉ itoa n:=fun hm=>by
 have:=xH h c hm;omega
theorem xI {n m : Int} (h : 0 ≤ n) (h' : 0 ≤ m) (e : itoa n = itoa m) : n = m:=by
 obtain ⟨k,rfl⟩:=Int.eq_ofNat_of_zero_le h
 obtain ⟨j,rfl⟩:=Int.eq_ofNat_of_zero_le h'
 rw [sQ,sQ] at e
 rw [decDigits_inj _ _ e]
theorem itoa_ne {n : Int} : itoa n ≠ []:=by
 unfold itoa;split
 ·simp
 ·rw [decDigits];split <;> simp

/- Lists put together are told apart. -/
theorem xJ {c : UInt8} {t : Bs} : ∀ {a b : List Bs},(∀ x ∈ a,c ∉ x) → (∀ x ∈ b,c ∉ x) → a ≠ [] → b ≠ [] → aT (c :: t) a = aT (c :: t) b → a = b
 | [],_,_,_,ha,_,_=>absurd rfl ha
 | _ :: _,[],_,_,_,hb,_=>absurd rfl hb
 | [x],[y],_,_,_,_,h=>by simpa [aT] using h
 | [x],y :: z :: r,hx,_,_,_,h=>(DW (r:=t ++ aT (c :: t) (z :: r)) (hx x (by simp)) (by simpa [aT] using h)).elim
 | x :: z :: r,[y],_,hy,_,_,h=>(DW (r:=t ++ aT (c :: t) (z :: r)) (hy y (by simp)) (by simpa [aT] using h.symm)).elim
 | x :: x' :: r,y :: y' :: s,hx,hy,_,_,h=>by
  have h' : x ++ c :: (t ++ aT (c :: t) (x' :: r)) = y ++ c :: (t ++ aT (c :: t) (y' :: s)):=by simpa [aT] using h
  obtain ⟨e1,e2⟩:=tK (hx x (by simp)) (hy y (by simp)) h'
  have e3:=List.append_cancel_left e2
  rw [e1,xJ (fun z hz=>hx z (List.mem_cons_of_mem _ hz)) (fun z hz=>hy z (List.mem_cons_of_mem _ hz)) (by simp) (by simp) e3]

theorem sT : ∀ {a b : List Int},(∀ x ∈ a,0 ≤ x) → (∀ x ∈ b,0 ≤ x) → a.map itoa = b.map itoa → a = b
 | [],[],_,_,_=>rfl
 | [],_ :: _,_,_,h=>by simp at h
 | _ :: _,[],_,_,h=>by simp at h
 | x :: a,y :: b,ha,hb,h=>by
  simp only [List.map_cons,List.cons.injEq] at h
  rw [xI (ha x (by simp)) (hb y (by simp)) h.1,sT (fun z hz=>ha z (List.mem_cons_of_mem _ hz)) (fun z hz=>hb z (List.mem_cons_of_mem _ hz)) h.2]

theorem numbers_inj {a b : List Int} (ha : ∀ x ∈ a,0 ≤ x) (hb : ∀ x ∈ b,0 ≤ x) (na : a ≠ []) (nb : b ≠ []) (h : numbers a = numbers b) : a = b:=by
 unfold numbers at h
 rw [if_neg (by simpa using na),if_neg (by simpa using nb)] at h
 refine sT ha hb (xJ (c:=32) (t:=[97,110,100,32]) ?_ ?_ (by simpa using na) (by simpa using nb) h)
 ·intro x hx;obtain ⟨n,hn,rfl⟩:=List.mem_map.1 hx;exact iU (ha n hn) (by decide)
 ·intro x hx;obtain ⟨n,hn,rfl⟩:=List.mem_map.1 hx;exact iU (hb n hn) (by decide)

theorem premText_inj {n m : Nat} {a b : List Int} (ha : ∀ x ∈ a,0 ≤ x) (hb : ∀ x ∈ b,0 ≤ x) (h : dY n a = dY m b) : n = m ∧ a = b:=by
 unfold dY at h
 have i1 : (32 : UInt8) ∉ itoa (n : Int):=iU (by omega) (by decide)
 have i2 : (32 : UInt8) ∉ itoa (m : Int):=iU (by omega) (by decide)
 cases a with
 | nil =>
  cases b with
  | nil =>
   simp at h
   exact ⟨by have:=xI (by omega) (by omega) h;omega,rfl⟩
  | cons y b=>exact (DW (c:=32) (x:=itoa n) (y:=itoa m) (r:=[101,110,100,105,110,103,32] ++ numbers (y :: b)) i1 (by simpa [eD] using h)).elim
 | cons x a =>
  cases b with
  | nil=>exact (DW (c:=32) (x:=itoa m) (y:=itoa n) (r:=[101,110,100,105,110,103,32] ++ numbers (x :: a)) i2 (by simpa [eD] using h.symm)).elim
  | cons y b =>
   have h' : itoa n ++ 32 :: ([101,110,100,105,110,103,32] ++ numbers (x :: a)) = itoa m ++ 32 :: ([101,110,100,105,110,103,32] ++ numbers (y :: b)):=by simpa [eD] using h
   obtain ⟨e1,e2⟩:=tK i1 i2 h'
   exact ⟨by have:=xI (by omega) (by omega) e1;omega,numbers_inj ha hb (by simp) (by simp) (List.append_cancel_left e2)⟩

end Ly
namespace Ly
open Go.Lib (decDigits itoa)

/- The text of a right formula holds letters, digits and spaces alone. -/
def al (x : Bs) : Prop:=∀ c ∈ x,bR c = true
def als (l : List Bs) : Prop:=∀ x ∈ l,al x
theorem jH {a b : List Bs} : als (a ++ b) ↔ als a ∧ als b:=by simp [als,List.mem_append,or_imp,forall_and]
theorem fA {x : Bs} {b : List Bs} : als (x :: b) ↔ al x ∧ als b:=by simp [als]
theorem gV : als []:=by simp [als]

theorem DT {first other : UInt8 → Bool} {s : Bs} (h : dA first other s = true) (h1 : ∀ c,first c = true → bR c = true) (h2 : ∀ c,other c = true → bR c = true) : al s:=by
 obtain ⟨c,r,rfl,hc,hr⟩:=lX h
 intro x hx
 rcases List.mem_cons.1 hx with e | e
 ·rw [e];exact h1 c hc
 ·exact h2 x (hr x e)

theorem uT {c : UInt8} {a b : UInt8} (h : (a ≤ c && c ≤ b) = true) (ha : 97 ≤ a) (hb : b ≤ 122) : bR c = true:=by
 simp only [Bool.and_eq_true,decide_eq_true_eq] at h
 have : small c = true:=by
  simp only [small,Bool.and_eq_true,decide_eq_true_eq]
  exact ⟨UInt8.le_trans ha h.1,UInt8.le_trans h.2 hb⟩
 simp [bR,this]

theorem rT {s : Bs} (h : aZ s = true) : al s:=DT h (fun _ hc=>uT hc (by decide) (by decide)) (fun c hc=>by simp [bR,hc])
theorem funName_al {s : Bs} (h : dO s = true) : al s:=DT h (fun _ hc=>uT hc (by decide) (by decide)) (fun _ hc=>hc)
theorem predName_al {s : Bs} (h : bN s = true) : al s:=DT h (fun c hc=>by simp [bR,hc]) (fun _ hc=>hc)

mutual
theorem Tm.al_words : ∀ t : Tm,t.ok = true → als t.words
 | .mk v n as,h=>by
  have hn : al n:=by
   simp only [Tm.ok] at h;split at h
   ·exact rT (by simp_all)
   ·exact funName_al (by simp_all)
  have ha : als (aQ true as):=by
   simp only [Tm.ok] at h;split at h
   ·have : as = []:=by simp_all
    subst this;exact gV
   ·exact oG true as (by simp_all)
  simp only [Tm.words]
  rw [fA,jH]
  refine ⟨hn,ha, ?_⟩
  split
  ·exact gV
  ·rw [fA];exact ⟨by unfold al;decide,gV⟩
theorem oG : ∀ (b : Bool) (as : List Tm),cJ as = true → als (aQ b as)
 | _,[],_=>gV
 | b,t :: ts,h=>by
  simp only [cJ,Bool.and_eq_true] at h
  simp only [aQ]
  rw [fA,jH]
  refine ⟨?_,Tm.al_words t h.1,oG false ts h.2⟩
  cases b <;> (unfold al;decide)
end

theorem al_termWords (n : Bs) (as : List Tm) (hn : al n) (ha : cJ as = true) : als (termWords n as):=by
 unfold termWords
 rw [fA,jH]
 refine ⟨hn,oG true as ha, ?_⟩
 split
 ·exact gV
 ·rw [fA];exact ⟨by unfold al;decide,gV⟩

theorem signBetween_al (op : Int) : al (aG op):=by
 unfold aG al
 repeat' split
 all_goals decide
theorem signFirst_al (op : Int) (n : Bs) (h8 : op ≠ 8) (h9 : op ≠ 9) : al (aM op n):=by
 unfold aM al
 rw [if_neg h8,if_neg h9]
 repeat' split
 all_goals decide
theorem al_signToks (op : Int) (n : Bs) (h : op = 8 ∨ op = 9 → aZ n = true) : als (dI op n):=by
 unfold dI
 split
 ·rw [fA,fA,fA];exact ⟨by unfold al;decide,by unfold al;decide,rT (h (.inl ‹_›)),gV⟩
 ·split
  ·rw [fA,fA,fA];exact ⟨by unfold al;decide,by unfold al;decide,rT (h (.inr ‹_›)),gV⟩
  ·rw [fA];exact ⟨signFirst_al op n ‹_› ‹_›,gV⟩

mutual
theorem Fm.al_toks : ∀ f : Fm,f.ok = true → als f.toks
 | .mk op n as sub,h=>by
  simp only [Fm.ok,Bool.and_eq_true] at h
  obtain ⟨⟨⟨h1,h2⟩,h3⟩,h4⟩:=h
  simp only [Fm.toks]
  split
  ·rename_i ho;rw [if_pos ho] at h2;exact al_termWords n as (predName_al (by simp_all)) h3
  ·rename_i ho;rw [if_neg ho] at h2
   split
   ·rw [fA];exact ⟨by unfold al;decide,gV⟩
   ·rw [jH]
    exact ⟨al_signToks op n (fun e=>by rw [if_pos e] at h2;simp_all),wS op true sub h4⟩
theorem wS (op : Int) : ∀ (b : Bool) (fs : List Fm),dR fs = true → als (dL op b fs)
 | _,[],_=>gV
 | b,f :: fs,h=>by
  simp only [dR,Bool.and_eq_true] at h
  simp only [dL]
  rw [jH,jH]
  refine ⟨?_,Fm.al_toks f h.1,wS op false fs h.2⟩
  cases b
  ·simp only [Bool.false_eq_true,if_false];rw [fA];exact ⟨signBetween_al op,gV⟩
  ·exact gV
end

theorem xX {c : UInt8} : ∀ {l : List Bs},c ∈ aW l → c = 32 ∨ ∃ x ∈ l,c ∈ x
 | [],h=>by simp [aW] at h
 | [x],h=>.inr ⟨x,by simp,h⟩
 | x :: y :: r,h=>by
  simp only [aW,List.mem_append,List.mem_cons] at h
  rcases h with h | h | h
  ·exact .inr ⟨x,by simp,h⟩
  ·exact .inl h
  ·rcases xX h with e | ⟨z,hz,hc⟩
   ·exact .inl e
   ·exact .inr ⟨z,List.mem_cons_of_mem _ hz,hc⟩

theorem Fm.text_not {f : Fm} (h : f.ok = true) {c : UInt8} (h1 : bR c = false) (h2 : c ≠ 32) : c ∉ f.text:=by
 rw [Fm.text_eq]
 intro hm
 rcases xX hm with e | ⟨x,hx,hc⟩
 ·exact h2 e
 ·have:=Fm.al_toks f h x hx c hc
  rw [h1] at this;cases this

/- Steps. -/
mutual
theorem Pf.lines_length : ∀ (p : Pf) (k : Nat),(p.lines k).length = p.steps
 | .mk r f l s m,k=>by simp [Pf.lines,Pf.steps,dT s k]
theorem dT : ∀ (ps : List Pf) (k : Nat),(cE k ps).length = aE ps
 | [],_=>rfl
 | p :: ps,k=>by simp [cE,aE,Pf.lines_length p k,dT ps]
end

theorem vR {s : Bs} (h : bU s = true) : al s:=by
 cases s with
 | nil=>simp [bU] at h
 | cons c r =>
  simp only [bU,Bool.and_eq_true,decide_eq_true_eq,List.all_eq_true] at h
  intro x hx
  rcases List.mem_cons.1 hx with e | e
  ·rw [e];rcases Bool.or_eq_true_iff.1 h.1.2 with e | e <;> simp [bR,e]
  ·exact h.2 x e
theorem DB {s : Bs} (h : al s) {c : UInt8} (hc : bR c = false) : c ∉ s:=fun hm=>by rw [h c hm] at hc;cases hc

theorem markOk_nonneg {l : List Int} (h : l.all cN = true) : ∀ x ∈ l,0 ≤ x:=fun x hx=>by
 have:=List.all_eq_true.1 h x hx
 simp [cN] at this;exact this.1

theorem xW {c : UInt8} {sep : Bs} : ∀ {l : List Bs},c ∈ aT sep l → c ∈ sep ∨ ∃ x ∈ l,c ∈ x
 | [],h=>by simp [aT] at h
 | [x],h=>.inr ⟨x,by simp,h⟩
 | x :: y :: r,h=>by
  simp only [aT,List.mem_append] at h
  rcases h with (h | h) | h
  ·exact .inr ⟨x,by simp,h⟩
  ·exact .inl h
  ·rcases xW h with e | ⟨z,hz,hc⟩
   ·exact .inl e
   ·exact .inr ⟨z,List.mem_cons_of_mem _ hz,hc⟩

theorem premText_not {n : Nat} {l : List Int} (h : ∀ x ∈ l,0 ≤ x) : (44 : UInt8) ∉ dY n l:=by
 unfold dY
 intro hm
 rcases List.mem_append.1 hm with e | e
 ·exact iU (by omega) (by decide) e
 ·split at e
  ·cases e
  ·rcases List.mem_append.1 e with e | e
   ·revert e;decide
   ·unfold numbers at e
    split at e
    ·revert e;decide
    ·rcases xW e with e | ⟨x,hx,hc⟩
     ·revert e;decide
     ·obtain ⟨y,hy,rfl⟩:=List.mem_map.1 hx
      exact iU (h y hy) (by decide) hc

def sU (ms : List (List Int)) : Prop:=∀ l ∈ ms,∀ x ∈ l,0 ≤ x

theorem marksOk_head {ms : List (List Int)} (h : sU ms) : ∀ x ∈ ms.headD [],0 ≤ x:=by
 cases ms with
 | nil=>simp
 | cons l ms=>exact h l (by simp)
theorem marksOk_tail {ms : List (List Int)} (h : sU ms) : sU ms.tail:=fun l hl=>h l (List.mem_of_mem_tail hl)

theorem qV : ∀ (ps : List Pf) (k : Nat) (ms : List (List Int)),sU ms → ∀ x ∈ aO k ps ms,(44 : UInt8) ∉ x
 | [],_,_,_,x,hx=>by simp [aO] at hx
 | p :: ps,k,ms,h,x,hx=>by
  simp only [aO,List.mem_cons] at hx
  rcases hx with e | e
  ·rw [e];exact premText_not (marksOk_head h)
  ·exact qV ps _ _ (marksOk_tail h) x e

theorem premTexts_ne {ps : List Pf} {k : Nat} {ms : List (List Int)} : aO k ps ms = [] ↔ ps = []:=by
 cases ps <;> simp [aO]

theorem marksOk_of {ms : List (List Int)} (h : (ms.all fun l=>decide (l.length ≤ 3) && l.all cN) = true) : sU ms:=fun l hl=>by
 have:=List.all_eq_true.1 h l hl
 simp only [Bool.and_eq_true] at this
 exact markOk_nonneg this.2

end Ly
namespace Ly
/- Equality, as the program tells it. -/
mutual
def Tm.same : Tm → Tm → Bool
 | .mk v n as,.mk v' n' bs=>(v == v') && (n == n') && eN as bs
def eN : List Tm → List Tm → Bool
 | [],[]=>true
 | t :: ts,u :: us=>t.same u && eN ts us
 | [],_ :: _=>false
 | _ :: _,[]=>false
end
mutual
def Fm.same : Fm → Fm → Bool
 | .mk o n as sub,.mk o' n' bs sub'=>(o == o') && (n == n') && eN as bs && fB sub sub'
def fB : List Fm → List Fm → Bool
 | [],[]=>true
 | t :: ts,u :: us=>t.same u && fB ts us
 | [],_ :: _=>false
 | _ :: _,[]=>false
end
mutual
def Pf.same : Pf → Pf → Bool
 | .mk r f l sub ms,.mk r' f' l' sub' ms'=>(r == r') && f.same f' && (l == l') && fF sub sub' && (ms == ms')
def fF : List Pf → List Pf → Bool
 | [],[]=>true
 | t :: ts,u :: us=>t.same u && fF ts us
 | [],_ :: _=>false
 | _ :: _,[]=>false
end
mutual
theorem Tm.same_iff : ∀ t u : Tm,t.same u = true ↔ t = u
 | .mk v n as,.mk v' n' bs=>by simp [Tm.same,mB as bs,and_assoc]
theorem mB : ∀ ts us : List Tm,eN ts us = true ↔ ts = us
 | [],[]=>by simp [eN]
 | t :: ts,u :: us=>by simp [eN,Tm.same_iff t u,mB ts us]
 | [],_ :: _=>by simp [eN]
 | _ :: _,[]=>by simp [eN]
end
mutual
theorem Fm.same_iff : ∀ t u : Fm,t.same u = true ↔ t = u
 | .mk o n as sub,.mk o' n' bs sub'=>by simp [Fm.same,mB as bs,oO sub sub',and_assoc]
theorem oO : ∀ ts us : List Fm,fB ts us = true ↔ ts = us
 | [],[]=>by simp [fB]
 | t :: ts,u :: us=>by simp [fB,Fm.same_iff t u,oO ts us]
 | [],_ :: _=>by simp [fB]
 | _ :: _,[]=>by simp [fB]
end
mutual
theorem Pf.same_iff : ∀ t u : Pf,t.same u = true ↔ t = u
 | .mk r f l sub ms,.mk r' f' l' sub' ms'=>by simp [Pf.same,Fm.same_iff f f',pL sub sub',and_assoc]
theorem pL : ∀ ts us : List Pf,fF ts us = true ↔ ts = us
 | [],[]=>by simp [fF]
 | t :: ts,u :: us=>by simp [fF,Pf.same_iff t u,pL ts us]
 | [],_ :: _=>by simp [fF]
 | _ :: _,[]=>by simp [fF]
end
theorem tmsSame_len {ts us : List Tm} (h : ts.length ≠ us.length) : eN ts us = false:=by
 rw [Bool.eq_false_iff];intro e;rw [mB] at e;exact h (by rw [e])
theorem fmsSame_len {ts us : List Fm} (h : ts.length ≠ us.length) : fB ts us = false:=by
 rw [Bool.eq_false_iff];intro e;rw [oO] at e;exact h (by rw [e])
theorem pfsSame_len {ts us : List Pf} (h : ts.length ≠ us.length) : fF ts us = false:=by
 rw [Bool.eq_false_iff];intro e;rw [pL] at e;exact h (by rw [e])
end Ly
