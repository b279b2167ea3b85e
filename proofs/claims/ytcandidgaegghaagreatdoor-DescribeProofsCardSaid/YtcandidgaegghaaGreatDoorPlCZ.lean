/- Plain laws: the outline of a formula, the order of a proof's lines, lists that are joined and split. Nothing of the program is imported. -/
import Derived.Test.YtcandidgaegghaaGreatDoorPlBZ
import Derived.Lib.Split
set_option maxRecDepth 10000
set_option linter.unusedSimpArgs false
set_option linter.unusedVariables false
/- Plain law: the outline of a formula, scanned along the words of its text. Nothing of the program is imported. -/
namespace Ly

def Fm.headToks : Fm → List Bs
 | .mk op n as _=>if op = 1 then termWords n as else if op = 2 then [cF] else dI op n
def Fm.head (f : Fm) : Bs:=if f.op = 1 ∨ f.op = 2 then f.text else aM f.op f.name

mutual
def Fm.outl (lv : Nat) : Fm → List (Nat × Bs)
 | .mk op n as sub=>(lv,(Fm.mk op n as sub).head) :: dE (lv + 1) sub
def dE (lv : Nat) : List Fm → List (Nat × Bs)
 | []=>[]
 | f :: fs=>f.outl lv ++ dE lv fs
end
mutual
def Fm.parts : Fm → Nat
 | .mk _ _ _ sub=>1 + iD sub
def iD : List Fm → Nat
 | []=>0
 | f :: fs=>f.parts + iD fs
end
mutual
theorem Fm.outl_length : ∀ (f : Fm) (lv : Nat),(f.outl lv).length = f.parts
 | .mk op n as sub,lv=>by simp [Fm.outl,Fm.parts,lD sub (lv + 1)];omega
theorem lD : ∀ (fs : List Fm) (lv : Nat),(dE lv fs).length = iD fs
 | [],_=>rfl
 | f :: fs,lv=>by simp [dE,iD,Fm.outl_length f lv,lD fs lv]
end

theorem Fm.toks_head {f : Fm} (h : f.ok = true) : f.toks = f.headToks ++ dL f.op true f.sub:=by
 obtain ⟨op,n,as,sub⟩:=f
 simp only [Fm.ok,Bool.and_eq_true,decide_eq_true_eq] at h
 simp only [Fm.toks,Fm.headToks,Fm.op,Fm.sub]
 by_cases h1 : op = 1
 ·have z : sub = []:=List.eq_nil_of_length_eq_zero (by have:=h.1.1.1.1;simpa [h1,arity] using this)
  subst z;simp [h1,dL]
 ·by_cases h2 : op = 2
  ·have z : sub = []:=List.eq_nil_of_length_eq_zero (by have:=h.1.1.1.1;simpa [h2,arity] using this)
   subst z;simp [h2,dL]
  ·simp [h1,h2]

theorem Fm.noSp_head {f : Fm} (h : f.ok = true) : noSp f.headToks:=by
 have:=Fm.noSp_toks f h
 rw [Fm.toks_head h,gN] at this
 exact this.1

theorem sp_head {x : Bs} {r : List Bs} : ∃ t,aW (x :: r) ++ [32] = x ++ 32 :: t:=by
 cases r with
 | nil=>exact ⟨[],rfl⟩
 | cons y r=>exact ⟨aW (y :: r) ++ [32],by rw [gK x (y :: r) (by simp)];simp⟩
def scan1 (W : List Bs) (first : Bool) (st : Nat × Int) (ln : Nat × Bs) : Option (Nat × Int) :=
 if st.2 + 1 < ln.1 ∨ (decide (ln.1 = 0) != first) = true then none
 else
  let at1:=if first = false ∧ st.1 < W.length ∧ (ln.2 ++ [32]).isPrefixOf (aW (W.drop st.1) ++ [32]) = false then st.1 + 1 else st.1
  if (ln.2 ++ [32]).isPrefixOf (aW (W.drop (min at1 W.length)) ++ [32]) = true then some (at1 + (ln.2.count 32 + 1),(ln.1 : Int)) else none
def scan (W : List Bs) : List (Nat × Bs) → Nat × Int → Option (Nat × Int)
 | [],st=>some st
 | ln :: r,st=>match scan1 W false st ln with | none=>none | some st'=>scan W r st'

end Ly
/- Plain law: the lines of a proof, and which lines a step uses. Nothing of the program is imported. -/
namespace Ly
open Go.Lib (decDigits itoa index cut)

theorem Pf.steps_pos (p : Pf) : 1 ≤ p.steps:=by cases p;simp [Pf.steps]

end Ly
/- Plain law: what was joined is split again. Nothing of the program is imported. -/
namespace Ly
open Go.Lib (index count split splitK countFrom)

theorem kU {c : UInt8} {t : Bs} : ∀ (x r : Bs),c ∉ x → index (x ++ (c :: t) ++ r) (c :: t) = x.length
 | [],r,_=>by
  simp only [List.nil_append,List.cons_append,index]
  rw [if_pos (by rw [List.isPrefixOf_iff_prefix];exact ⟨r,by simp⟩)];rfl
 | a :: x,r,h=>by
  have ih:=kU x r (fun hm=>h (List.mem_cons_of_mem _ hm)) (t:=t)
  have ha : a ≠ c:=fun e=>h (by rw [e];exact List.mem_cons_self)
  rw [List.cons_append,List.cons_append,index,ih]
  have : (c :: t).isPrefixOf (a :: (x ++ c :: t ++ r)) = false:=by simp [List.isPrefixOf,Ne.symm ha]
  rw [this]
  simp
theorem index_none {c : UInt8} {t : Bs} : ∀ (x : Bs),c ∉ x → index x (c :: t) = -1
 | [],_=>by simp [index]
 | a :: x,h=>by
  have ih:=index_none x (fun hm=>h (List.mem_cons_of_mem _ hm)) (t:=t)
  have ha : a ≠ c:=fun e=>h (by rw [e];exact List.mem_cons_self)
  rw [index,ih]
  have : (c :: t).isPrefixOf (a :: x) = false:=by simp [List.isPrefixOf,Ne.symm ha]
  rw [this]
  simp

theorem tL {c : UInt8} {t : Bs} : ∀ (l : List Bs),l ≠ [] → (∀ x ∈ l,c ∉ x) → count (aT (c :: t) l) (c :: t) + 1 = l.length ∧ ∀ k,l.length ≤ k + 1 → splitK (c :: t) 0 k (aT (c :: t) l) = l
 | [],h,_=>absurd rfl h
 | [x],_,hx=>by
  have e:=index_none (t:=t) x (hx x (by simp))
  refine ⟨?_,fun k _=>?_⟩
  ·simp only [aT,List.length_cons,List.length_nil]
   rw [Go.Lib.count_miss e]
  ·simp only [aT]
   cases k with
   | zero=>rfl
   | succ k=>rw [splitK,e];simp
 | x :: y :: r,_,hx=>by
  obtain ⟨h1,h2⟩:=tL (c:=c) (t:=t) (y :: r) (by simp) (fun z hz=>hx z (by simp at hz ⊢;right;exact hz))
  have e:=kU (c:=c) (t:=t) x (aT (c :: t) (y :: r)) (hx x (by simp))
  have ej : aT (c :: t) (x :: y :: r) = x ++ (c :: t) ++ aT (c :: t) (y :: r):=rfl
  have ed : (x ++ (c :: t) ++ aT (c :: t) (y :: r)).drop (x.length + (c :: t).length) = aT (c :: t) (y :: r):=by
   rw [← List.length_append,List.drop_left]
  rw [ej]
  refine ⟨?_,fun k hk=>?_⟩
  ·rw [Go.Lib.count_hit (by simp) e,ed]
   simp only [List.length_cons] at h1 ⊢;omega
  ·cases k with
   | zero=>simp at hk
   | succ k =>
    rw [splitK,e]
    simp only [Nat.add_zero,Int.toNat_natCast]
    rw [if_neg (by simp),ed,h2 k (by simp at hk ⊢;omega)]
    simp
theorem rP {c : UInt8} {t : Bs} (l : List Bs) (h : l ≠ []) (hx : ∀ x ∈ l,c ∉ x) : split (aT (c :: t) l) (c :: t) = l:=by
 obtain ⟨h1,h2⟩:=tL (c:=c) (t:=t) l h hx
 unfold split
 exact h2 _ (by omega)
theorem split_text (f : Fm) (h : f.ok = true) : split f.text [32] = f.toks:=by
 rw [Fm.text_eq,AJ]
 exact rP f.toks (Fm.toks_ne f) (Fm.noSp_toks f h)
end Ly
