/- Plain laws: reading words back; what the statements build out of bytes is right; claims are told by their words. Nothing of the program is imported. -/
import Derived.Test.YtppfalbnhnpbnaaGreatDoorMakeC
import Derived.Test.YtppfalbnhnpbnaaGreatDoorRightC
import Derived.Test.YtppfalbnhnpbnaaGreatDoorShelfC
import Derived.Test.YtppfalbnhnpbnaaGreatDoorSameBC
import Derived.Lib.AppendIntMem
import Derived.OneCell
import Derived.Lib.QuietBelow
import Derived.Deep.DeepCutAuto
import Derived.Lib.AppendZerosOnto
import Derived.Lib.SliceRun
import Derived.Maps.AppendAt
import Derived.Laws.IdiomStrings
import Derived.Shelf.Abstract
import Derived.Maps.OwnOps
import Derived.Maps.Views
import Derived.Orders
import Derived.Laws.EntriesVeiled
import Derived.Laws.Rows
set_option linter.unusedSimpArgs false
set_option linter.unusedVariables false
/- Plain law: reading words back. What the reader of words answers, and that it reads the words of a right formula. Nothing of the program is imported. -/
namespace Ly
end Ly
/- Plain law: the formulas and proofs that the statements build out of bytes (lyceumlaw30.Built, lyceumlaw41.Proved), and that they are right. Nothing of the program is imported. -/
namespace Ly
def nmX : Bs:=[120]
def nmY : Bs:=[121]
def nmZ : Bs:=[122]
def nmA : Bs:=[97]
def nmB : Bs:=[98]
def nmF : Bs:=[102]
def nmG : Bs:=[103]
def nmP : Bs:=[80]
def nmQ : Bs:=[81]
def nmR : Bs:=[82]
def rY (k : Nat) : Bs:=if k = 0 then nmX else if k = 1 then nmY else nmZ
def iD (k : Nat) : Bs:=if k = 0 then nmP else if k = 1 then nmQ else nmR
def mS (k : Nat) : Tm:=if k = 0 then .mk true nmX [] else if k = 1 then .mk true nmY [] else if k = 2 then .mk true nmZ [] else if k = 3 then .mk false nmA [] else .mk false nmB []
def bX (b : Nat) : Tm:=if 0 < b / 5 % 3 then .mk false (if b / 5 % 3 = 1 then nmF else nmG) [mS (b % 5)] else mS (b % 5)
def unOp (k : Nat) : Int:=if k = 0 then 3 else if k = 1 then 10 else 12
def fls : Fm:=.mk 2 [] [] []
def cI (s : List Fm) (c : Nat) : List Fm :=
 if c % 12 < 2 then s ++ [.mk 1 (iD (c / 12 % 3)) [] []]
 else if c % 12 < 4 then s ++ [.mk 1 (if c % 12 % 2 = 0 then nmP else nmQ) [bX (c / 12)] []]
 else if c % 12 = 4 then s ++ [.mk 1 nmR [bX (c / 12),bX (c / 12 / 3)] []]
 else if c % 12 = 5 then s ++ [fls]
 else if c % 12 = 6 then (if 1 ≤ s.length then s.take (s.length - 1) ++ [.mk (unOp (c / 12 % 3)) [] [] [s.getD (s.length - 1) fls]] else s)
 else if c % 12 < 10 then (if 2 ≤ s.length then s.take (s.length - 2) ++ [.mk ((c % 12 : Nat) - 3) [] [] [s.getD (s.length - 2) fls,s.getD (s.length - 1) fls]] else s)
 else (if 1 ≤ s.length then s.take (s.length - 1) ++ [.mk ((c % 12 : Nat) - 2) (rY (c / 12 % 3)) [] [s.getD (s.length - 1) fls]] else s)
def vH (l : Bs) : List Fm:=l.foldl (fun s c=>cI s c.toNat) []
def eD : Fm → List Fm → Fm:=fun f r=>r.foldl (fun f g=>.mk 14 [] [] [f,g]) f
def nI : List Fm → Fm
 | []=>fls
 | f :: r=>eD f r
def built (l : Bs) : Fm:=nI (vH (l.take 20))
/- They are right. -/
theorem leafTm_ok (k : Nat) : (mS k).ok = true ∧ (mS k).nodes = 1 ∧ (mS k).depth = 1:=by
 unfold mS
 repeat' split
 all_goals exact ⟨by decide,by decide,by decide⟩
theorem qM (b : Nat) : (bX b).ok = true ∧ (bX b).nodes ≤ 2 ∧ (bX b).depth ≤ 2:=by
 obtain ⟨h1,h2,h3⟩:=leafTm_ok (b % 5)
 unfold bX
 split
 ·refine ⟨?_, ?_, ?_⟩
  ·split <;> simp [Tm.ok,cE,h1] <;> decide
  ·simp [Tm.nodes,aF,h2]
  ·simp [Tm.depth,cC,h3]
 ·exact ⟨h1,by omega,by omega⟩
def BInv (k : Nat) (s : List Fm) : Prop:=s.length ≤ k ∧ aD s ≤ 5 * k ∧ ∀ f ∈ s,f.ok = true ∧ f.depth + s.length ≤ 3 + k
theorem eL (a b : List Fm) : aD (a ++ b) = aD a + aD b:=by
 induction a with
 | nil=>simp [aD]
 | cons x a ih=>simp [aD,ih];omega
theorem qY {l : List Fm} {i : Nat} (h : i < l.length) : l.getD i fls ∈ l:=by
 rw [List.getD_eq_getElem?_getD,List.getElem?_eq_getElem h];simp
theorem getD_split1 {l : List Fm} (h : 1 ≤ l.length) : l = l.take (l.length - 1) ++ [l.getD (l.length - 1) fls]:=by
 conv=>lhs;rw [← List.take_append_drop (l.length - 1) l]
 rw [List.drop_eq_getElem_cons (by omega)]
 rw [List.drop_of_length_le (by omega)]
 simp [List.getD_eq_getElem?_getD,List.getElem?_eq_getElem (show l.length - 1 < l.length by omega)]
theorem getD_split2 {l : List Fm} (h : 2 ≤ l.length) : l = l.take (l.length - 2) ++ [l.getD (l.length - 2) fls,l.getD (l.length - 1) fls]:=by
 conv=>lhs;rw [← List.take_append_drop (l.length - 2) l]
 rw [List.drop_eq_getElem_cons (by omega),show l.length - 2 + 1 = l.length - 1 by omega,List.drop_eq_getElem_cons (by omega)]
 rw [List.drop_of_length_le (by omega)]
 simp [List.getD_eq_getElem?_getD,List.getElem?_eq_getElem (show l.length - 1 < l.length by omega),List.getElem?_eq_getElem (show l.length - 2 < l.length by omega)]
theorem nH {k : Nat} {s : List Fm} (h : BInv k s) {f : Fm} (h1 : f.ok = true) (h2 : f.nodes ≤ 5) (h3 : f.depth ≤ 3) : BInv (k + 1) (s ++ [f]):=by
 obtain ⟨a,b,c⟩:=h
 refine ⟨by simp;omega,by rw [eL];simp [aD];omega, ?_⟩
 intro g hg
 simp only [List.length_append,List.length_cons,List.length_nil]
 rcases List.mem_append.1 hg with hg | hg
 ·have:=c g hg;exact ⟨this.1,by omega⟩
 ·simp only [List.mem_cons,List.mem_nil_iff,or_false] at hg;subst hg;exact ⟨h1,by omega⟩
theorem oD {k : Nat} {s : List Fm} (h : BInv k s) : BInv (k + 1) s:=by
 obtain ⟨a,b,c⟩:=h
 exact ⟨by omega,by omega,fun g hg=>⟨(c g hg).1,by have:=(c g hg).2;omega⟩⟩
theorem ok_one {op : Int} {n : Bs} {f : Fm} (h : f.ok = true) (ho : op = 3 ∨ op = 10 ∨ op = 12 ∨ op = 8 ∨ op = 9) (hn : if op = 8 ∨ op = 9 then bU n = true else n = []) : (Fm.mk op n [] [f]).ok = true:=by
 simp only [Fm.ok,bW,cE,h]
 rcases ho with rfl | rfl | rfl | rfl | rfl <;> simp [arity] at hn ⊢ <;> simp [hn]
theorem ok_two {op : Int} {f g : Fm} (h : f.ok = true) (h' : g.ok = true) (ho : op = 4 ∨ op = 5 ∨ op = 6 ∨ op = 7 ∨ op = 14) : (Fm.mk op [] [] [f,g]).ok = true:=by
 simp only [Fm.ok,bW,cE,h,h']
 rcases ho with rfl | rfl | rfl | rfl | rfl <;> simp [arity]
theorem vJ {k : Nat} {s : List Fm} (h : BInv k s) (hl : 1 ≤ s.length) {op : Int} {n : Bs} (ho : op = 3 ∨ op = 10 ∨ op = 12 ∨ op = 8 ∨ op = 9) (hn : if op = 8 ∨ op = 9 then bU n = true else n = []) :
  BInv (k + 1) (s.take (s.length - 1) ++ [.mk op n [] [s.getD (s.length - 1) fls]]):=by
 obtain ⟨a,b,c⟩:=h
 have e:=getD_split1 hl
 have en : aD s = aD (s.take (s.length - 1)) + (s.getD (s.length - 1) fls).nodes:=by conv=>lhs;rw [e,eL];simp only [aD,Nat.add_zero]
 have hm:=c _ (qY (l:=s) (i:=s.length - 1) (by omega))
 refine ⟨by simp;omega,by rw [eL];simp only [aD,Fm.nodes,aF];omega, ?_⟩
 intro g hg
 simp only [List.length_append,List.length_take,List.length_cons,List.length_nil]
 rcases List.mem_append.1 hg with hg | hg
 ·have:=c g (List.mem_of_mem_take hg);exact ⟨this.1,by omega⟩
 ·simp only [List.mem_cons,List.mem_nil_iff,or_false] at hg;subst hg
  exact ⟨ok_one hm.1 ho hn,by simp only [Fm.depth,cC,cL];omega⟩
theorem binv_two {k : Nat} {s : List Fm} (h : BInv k s) (hl : 2 ≤ s.length) {op : Int} (ho : op = 4 ∨ op = 5 ∨ op = 6 ∨ op = 7 ∨ op = 14) :
  BInv (k + 1) (s.take (s.length - 2) ++ [.mk op [] [] [s.getD (s.length - 2) fls,s.getD (s.length - 1) fls]]):=by
 obtain ⟨a,b,c⟩:=h
 have e:=getD_split2 hl
 have en : aD s = aD (s.take (s.length - 2)) + ((s.getD (s.length - 2) fls).nodes + (s.getD (s.length - 1) fls).nodes):=by conv=>lhs;rw [e,eL];simp only [aD,Nat.add_zero]
 have hm:=c _ (qY (l:=s) (i:=s.length - 1) (by omega))
 have hm2:=c _ (qY (l:=s) (i:=s.length - 2) (by omega))
 refine ⟨by simp;omega,by rw [eL];simp only [aD,Fm.nodes,aF];omega, ?_⟩
 intro g hg
 simp only [List.length_append,List.length_take,List.length_cons,List.length_nil]
 rcases List.mem_append.1 hg with hg | hg
 ·have:=c g (List.mem_of_mem_take hg);exact ⟨this.1,by omega⟩
 ·simp only [List.mem_cons,List.mem_nil_iff,or_false] at hg;subst hg
  exact ⟨ok_two hm2.1 hm.1 ho,by simp only [Fm.depth,cC,cL];omega⟩
theorem predPQR_ok (k : Nat) : cW (iD k) = true:=by unfold iD;(repeat' split) <;> decide
theorem varXYZ_ok (k : Nat) : bU (rY k) = true:=by unfold rY;(repeat' split) <;> decide
theorem bStep_inv {k : Nat} {s : List Fm} (h : BInv k s) (c : Nat) : BInv (k + 1) (cI s c):=by
 obtain ⟨t1,t2,t3⟩:=qM (c / 12)
 obtain ⟨u1,u2,u3⟩:=qM (c / 12 / 3)
 unfold cI
 split
 ·refine nH h ?_ (by simp [Fm.nodes,aF,aD]) (by simp [Fm.depth,cC,cL])
  simp [Fm.ok,arity,predPQR_ok,cE,bW]
 split
 ·refine nH h ?_ (by simp [Fm.nodes,aF,aD];omega) (by simp [Fm.depth,cC,cL];omega)
  have : cW (if c % 12 % 2 = 0 then nmP else nmQ) = true:=by split <;> decide
  generalize (if c % 12 % 2 = 0 then nmP else nmQ) = nm at *
  simp [Fm.ok,arity,cE,bW,t1,this]
 split
 ·refine nH h ?_ (by simp [Fm.nodes,aF,aD];omega) (by simp [Fm.depth,cC,cL];omega)
  have : cW nmR = true:=by decide
  simp [Fm.ok,arity,cE,bW,t1,u1,this]
 split
 ·exact nH h (by decide) (by decide) (by decide)
 split
 ·split
  ·refine vJ h ‹_› ?_ ?_
   ·unfold unOp;(repeat' split) <;> simp
   ·rw [if_neg];unfold unOp;(repeat' split) <;> simp
  ·exact oD h
 split
 ·split
  ·exact binv_two h ‹_› (by omega)
  ·exact oD h
 ·split
  ·refine vJ h ‹_› (by omega) ?_
   rw [if_pos (by omega)];exact varXYZ_ok _
  ·exact oD h
theorem sM (l : Bs) : BInv l.length (vH l):=by
 unfold vH
 have key : ∀ (l : Bs) (k : Nat) (s : List Fm),BInv k s → BInv (k + l.length) (l.foldl (fun s c=>cI s c.toNat) s):=by
  intro l
  induction l with
  | nil=>intro k s h;exact h
  | cons c l ih =>
   intro k s h
   rw [List.foldl_cons,List.length_cons,show k + (l.length + 1) = k + 1 + l.length by omega]
   exact ih _ _ (bStep_inv h _)
 have:=key l 0 [] ⟨by simp,by simp [aD],by simp⟩
 simpa using this
theorem uD : ∀ (r : List Fm) (f : Fm) (B : Nat),f.ok = true → f.depth ≤ B → (∀ g ∈ r,g.ok = true ∧ g.depth ≤ B) →
  (eD f r).ok = true ∧ (eD f r).depth ≤ B + r.length ∧ (eD f r).nodes = f.nodes + aD r + r.length
 | [],f,B,h,hd,hg=>⟨h,by simpa [eD] using hd,by simp [eD,aD]⟩
 | x :: r,f,B,h,hd,hg=>by
  have hx:=hg x (by simp)
  obtain ⟨a,b,c⟩:=uD r (.mk 14 [] [] [f,x]) (B + 1) (ok_two h hx.1 (by simp)) (by simp [Fm.depth,cC,cL];omega)
   (fun g hg'=>⟨(hg g (by simp [hg'])).1,by have:=(hg g (by simp [hg'])).2;omega⟩)
  refine ⟨a, ?_, ?_⟩
  ·show (eD (.mk 14 [] [] [f,x]) r).depth ≤ _
   simp only [List.length_cons];omega
  ·show (eD (.mk 14 [] [] [f,x]) r).nodes = _
   rw [c];simp [Fm.nodes,aF,aD];omega
theorem pE (l : Bs) : (built l).right = true:=by
 have h:=sM (l.take 20)
 have hl : (l.take 20).length ≤ 20:=by simp;omega
 generalize (l.take 20).length = k at *
 unfold built
 generalize vH (l.take 20) = s at *
 obtain ⟨h1,h2,h3⟩:=h
 cases s with
 | nil=>decide
 | cons f r =>
  simp only [List.length_cons] at h1 h3
  simp only [aD] at h2
  have hf:=h3 f (by simp)
  obtain ⟨a,b,c⟩:=uD r f (2 + k - r.length) hf.1 (by omega) (fun g hg=>⟨(h3 g (by simp [hg])).1,by have:=(h3 g (by simp [hg])).2;omega⟩)
  have hn : (eD f r).nodes ≤ 400:=by omega
  have hd : (eD f r).depth ≤ 40:=by omega
  simp [Fm.right,nI,a,hn,hd]
end Ly
/- Plain law: claims are told by their words. Nothing of the program is imported. -/
namespace Ly
end Ly
namespace Go.Proofs.YtppfalbnhnpbnaaGreatDoor
open Go Go.RowKit Ly
open Go.Lib (itoa)
set_option maxRecDepth 10000
set_option maxHeartbeats 400000
def cK (w : World) : Prop:=Lib.TabIs Tryz.prog w "internal/strconv.uint64pow10" .u64 Lib.pow10Tab
theorem cK.below {w w' : World} (h : cK w) (hb : Below w.heap.size w w') : cK w':=Lib.tabBelow_of_tabIs h w' hb
theorem wQ (n : Int) (h0 : 0 ≤ n) (h1 : n ≤ 1000000) (w : World) (hp : cK w) :
  Calls Tryz.prog 71 #[.int .i64 n] w fun e w'=>e = .returned (str (itoa n)) ∧ Below w.heap.size w w' :=
 (Tryz.strconv_Itoa n (by omega) (by omega) w hp).mono fun _ _ ⟨he,k,os,hw⟩=>⟨he,by subst hw;exact Lib.below_grow _ _ (Nat.le_refl _) _ _⟩
theorem itoa_len {n : Int} (h0 : 0 ≤ n) (h1 : n ≤ 1000000) : (itoa n).length ≤ 7:=by
 unfold itoa
 rw [if_neg (by omega)]
 have h : n.toNat ≤ 1000000:=by omega
 have key : ∀ (k m : Nat),m < 10 ^ (k + 1) → (Lib.decDigits m).length ≤ k + 1:=by
  intro k
  induction k with
  | zero=>intro m hm;rw [Lib.decDigits,dif_pos (by omega)];simp
  | succ k ih =>
   intro m hm
   rw [Lib.decDigits]
   split
   ·simp
   ·have:=ih (m / 10) (by rw [Nat.pow_succ] at hm;omega)
    simp;omega
 exact key 6 _ (by omega)
end Go.Proofs.YtppfalbnhnpbnaaGreatDoor
namespace Go.Proofs.YtppfalbnhnpbnaaGreatDoor
open Go Go.RowKit Ly
open Go.Lib (itoa)
set_option maxRecDepth 10000
set_option maxHeartbeats 400000
end Go.Proofs.YtppfalbnhnpbnaaGreatDoor
namespace Go.Proofs.YtppfalbnhnpbnaaGreatDoor
open Go Go.RowKit Ly
open Go.Lib (itoa)
end Go.Proofs.YtppfalbnhnpbnaaGreatDoor
namespace Go.Proofs.YtppfalbnhnpbnaaGreatDoor
open Go Go.RowKit Ly
open Go.Lib (itoa)
open Go.Sort (grow)
set_option maxRecDepth 10000
set_option maxHeartbeats 6000000
theorem bE {w : World} {H : Nat} {cs : Array Value} {t : TypeId} {fz : Nat × Nat} (h : w.heap[H]? = some (.cells cs t fz)) (k : Nat) : w.cell? ⟨H,k,none⟩ = cs[k]?:=by
 simp [World.cell?,h]
end Go.Proofs.YtppfalbnhnpbnaaGreatDoor
namespace Go.Proofs.YtppfalbnhnpbnaaGreatDoor
open Go Go.RowKit Ly
open Go.Lib (itoa)
set_option maxRecDepth 10000
set_option maxHeartbeats 1600000
end Go.Proofs.YtppfalbnhnpbnaaGreatDoor
namespace Go.Proofs.YtppfalbnhnpbnaaGreatDoor
open Go Go.RowKit Ly
set_option maxRecDepth 10000
set_option maxHeartbeats 800000
structure RdIx where
 L : Nat
 A : Nat
 S : Nat
 R : Nat
 M : Nat
 la : Option Addr
 ln : Nat
 lc : Nat
abbrev one (b : Nat) : Value:=.pointer (some ⟨b,0,none⟩)
theorem aC {w : World} {b o : Nat} {cs : Array Value} {u : Value} {t : TypeId} {fz : Nat × Nat} (h : w.heap[b]? = some (.cells cs t fz)) : (w.setCell ⟨b,o,none⟩ u).heap[b]? = some (.cells (cs.setIfInBounds o u) t fz):=by
 simp [World.setCell,Array.getElem?_modify,h]
end Go.Proofs.YtppfalbnhnpbnaaGreatDoor
namespace Go.Proofs.YtppfalbnhnpbnaaGreatDoor
open Go Go.RowKit Ly
set_option maxRecDepth 10000
set_option maxHeartbeats 800000
def fR (v : Value) : Option (DataW Value × List MemPlace):=some (.held v,[])
def MapIs (w : World) (M n : Nat) (T : Bs → Value) : Prop:=∃ D : DataW Value,w.ownsMap Tryz.prog 9 fR M n D ∧ ∀ s : Bs,D.atKey (.string s) (.held .nilFunc) = .held (T s)
end Go.Proofs.YtppfalbnhnpbnaaGreatDoor
namespace Go.Proofs.YtppfalbnhnpbnaaGreatDoor
open Go Go.RowKit Ly
set_option maxRecDepth 10000
set_option maxHeartbeats 800000
def CloOne (w : World) (S : Nat) (op : Int) (v : Value) : Prop:=∃ b1 b2,v = .func (.func 264) #[] #[one b1,one b2] ∧ w.heap[b1]? = some (.cells #[.int .u8 op] 5 (0,0)) ∧ w.heap[b2]? = some (.cells #[one S] 153 (0,0))
def CloTwo (w : World) (S : Nat) (op : Int) (x : Bs) (v : Value) : Prop:=∃ b1 b2 b3,v = .func (.func 267) #[] #[one b1,one b2,one b3] ∧ w.heap[b1]? = some (.cells #[one S] 153 (0,0)) ∧ w.heap[b2]? = some (.cells #[str x] 9 (0,0)) ∧ w.heap[b3]? = some (.cells #[.int .u8 op] 5 (0,0))
section
variable {t : Tmp} {z : Int} {ops : Array Oper} {Q : Exit → Act → World → Prop} {K : Act → World → Prop} {a : Act} {w : World} {o : Oper} {i : Nat}
end
end Go.Proofs.YtppfalbnhnpbnaaGreatDoor
namespace Go.Proofs.YtppfalbnhnpbnaaGreatDoor
open Go Go.RowKit Ly
set_option maxRecDepth 10000
set_option maxHeartbeats 800000
inductive Kd where
 | load
 | mk
 | clo1 (op : Int)
 | clo2 (op : Int) (x : Bs)
 | meth
def kdOf : Nat → Kd
 | 1=>.mk
 | 4=>.clo1 3
 | 7=>.clo1 10
 | 10=>.clo1 11
 | 13=>.clo1 12
 | 16=>.clo1 13
 | 19=>.meth
 | 22=>.clo2 4 wAnd
 | 25=>.clo2 5 wOr
 | 28=>.clo2 6 wThen
 | 31=>.clo2 7 wSo
 | 34=>.clo2 14 oX
 | _=>.load
def tab : List (Nat × Nat):=[(0,15),(1,16),(3,17),(4,18),(6,19),(7,20),(9,21),(10,22),(12,23),(13,24),(15,25),(16,26),(18,27),(19,28),(21,29),(22,30),(24,31),(25,32),(27,33),(28,34),(30,35),(31,36),(33,37),(34,38)]
def zB : List Nat:=[2,5,8,11,14,17,20,23,26,29,32,35]
def AG : Nat → Bs
 | 2=>jM
 | 5=>wNot
 | 8=>wNec
 | 11=>wPos
 | 14=>mH
 | 17=>gU
 | 20=>wFor
 | 23=>wBoth
 | 26=>wEither
 | 29=>wIf
 | 32=>wAs
 | _=>wWhile
def Vl (w : World) (S : Nat) : Kd → Value → Prop
 | .load,v=>v = one S
 | .mk,_=>True
 | .clo1 op,v=>CloOne w S op v
 | .clo2 op x,v=>CloTwo w S op x v
 | .meth,v=>v = .func (.func 194) #[one S] #[]
def IV (w : World) (S : Nat) (i : Nat) (v : Value) : Prop:=if i = 2 then v = .func (.func 192) #[] #[] else Vl w S (kdOf (i - 1)) v
structure MapSt (W0 w : World) (S : Nat) (fuel : Nat) (listed : Array Bool) (M n : Nat) (T : Bs → Value) : Prop where
 own : W0.heap.size ≤ M
 is : MapIs w M n T
 room : n + fuel ≤ 40
 ins : ∀ i ∈ zB,listed.getD i false = true → IV w S i (T (AG i))
 none : ∀ s,(∀ i ∈ zB,s ≠ AG i) → T s = .nilFunc
structure St (W0 : World) (S R : Nat) (a0 : Act) (fuel : Nat) (listed : Array Bool) (a : Act) (w : World) : Prop where
 size : listed.size = 40
 tsz : a.tmps.size = 43
 same : ∀ d,d < 15 → a.tmps.getD d undef = a0.tmps.getD d undef
 dfr : a.defers = a0.defers
 t4 : a0.tmps.getD 4 undef = one R
 cell : w.heap[R]? = some (.cells #[one S] 153 (0,0))
 grew : Below W0.heap.size W0 w
 vals : ∀ p ∈ tab,listed.getD p.1 false = true → Vl w S (kdOf p.1) (a.tmps.getD p.2 undef)
 map : listed.getD 1 false = true → ∃ M n T,a.tmps.getD 16 undef = .map (some M) ∧ MapSt W0 w S fuel listed M n T
 mv : listed.getD 36 false = true → a.tmps.getD 39 undef = a.tmps.getD 16 undef
 all36 : listed.getD 36 false = true → ∀ j,1 ≤ j → j < 36 → listed.getD j false = true
end Go.Proofs.YtppfalbnhnpbnaaGreatDoor
namespace Go.Proofs.YtppfalbnhnpbnaaGreatDoor
open Go Go.RowKit Ly
set_option maxRecDepth 10000
set_option maxHeartbeats 800000
variable {ops : Array Oper}
end Go.Proofs.YtppfalbnhnpbnaaGreatDoor
namespace Go.Proofs.YtppfalbnhnpbnaaGreatDoor
open Go Go.RowKit Ly
set_option maxRecDepth 10000
set_option maxHeartbeats 800000
variable {ops : Array Oper}
section
variable {Q : Exit → Act → World → Prop} {K : Act → World → Prop} {a : Act} {w : World} {o : Oper}
end
end Go.Proofs.YtppfalbnhnpbnaaGreatDoor
namespace Go.Proofs.YtppfalbnhnpbnaaGreatDoor
open Go Go.RowKit Ly
set_option maxRecDepth 10000
set_option maxHeartbeats 4000000
end Go.Proofs.YtppfalbnhnpbnaaGreatDoor
namespace Go.Proofs.YtppfalbnhnpbnaaGreatDoor
open Go Go.RowKit Ly
set_option maxRecDepth 10000
set_option maxHeartbeats 4000000
end Go.Proofs.YtppfalbnhnpbnaaGreatDoor
namespace Go.Proofs.YtppfalbnhnpbnaaGreatDoor
open Go Go.RowKit Ly
set_option maxRecDepth 10000
set_option maxHeartbeats 800000
def hide (p : Nat → Bool) (w : World) : World:=⟨w.heap.mapIdx fun i o=>if p i then .map #[] 0 else o,w.tape,w.drawn,w.os,w.output⟩
theorem gX (p : Nat → Bool) (w : World) (k : Nat) (h : p k = false) : (hide p w).heap[k]? = w.heap[k]?:=by
 simp only [hide,Array.getElem?_mapIdx,h,Bool.false_eq_true,if_false]
 cases w.heap[k]? <;> rfl
theorem cD {p : Nat → Bool} {w : World} {a : Addr} (h : p a.block = false) : (hide p w).cell? a = w.cell? a:=World.cell?_of_block (gX p w _ h)
theorem eA {p : Nat → Bool} {w : World} {a : Addr} {v : Value} (h : (hide p w).cell? a = some v) : p a.block = false:=by
 cases hp : p a.block with
 | false=>rfl
 | true =>
  exfalso
  have lt:=World.block_lt_of_cell? _ a h
  have g : (hide p w).heap[a.block]? = some (.map #[] 0):=by
   have l2 : a.block < w.heap.size:=by simpa [hide] using lt
   simp [hide,Array.getElem?_mapIdx,hp,l2]
  simp [World.cell?,g] at h
theorem aH {p q : Nat → Bool} {w w' : World} (h : ∀ k,k < w.heap.size → p k = false → q k = false ∧ w'.heap[k]? = w.heap[k]?) : bI (hide p w) (hide q w'):=fun a v hv=>by
 have hp:=eA hv
 rw [cD hp] at hv
 obtain ⟨h1,h2⟩:=h a.block (World.block_lt_of_cell? w a hv) hp
 rw [cD h1,World.cell?_of_block h2];exact hv
def aU (W : World) (ds : List D) (xs : List Value) : Prop:=xs.length = ds.length ∧ ∀ (j : Nat) (d : D),ds[j]? = some d → ∃ u,xs[j]? = some u ∧ At W d u
theorem aU.keep {W W' : World} {ds : List D} {xs : List Value} (h : aU W ds xs) (k : bI W W') : aU W' ds xs :=
 ⟨h.1,fun j d hd=>by obtain ⟨u,h1,h2⟩:=h.2 j d hd;exact ⟨u,h1,At.keep k _ _ h2⟩⟩
theorem aU.nil (W : World) : aU W [] []:=⟨rfl,fun j d h=>by simp at h⟩
theorem aU.cons {W : World} {d : D} {x : Value} {ds : List D} {xs : List Value} (h : At W d x) (hs : aU W ds xs) : aU W (d :: ds) (x :: xs):=by
 refine ⟨by simp [hs.1],fun j e he=>?_⟩
 cases j with
 | zero=>simp at he;subst he;exact ⟨x,rfl,h⟩
 | succ j=>simp at he ⊢;exact hs.2 j e he
theorem aU.append {W : World} {ds es : List D} {xs ys : List Value} (h : aU W ds xs) (h' : aU W es ys) : aU W (ds ++ es) (xs ++ ys):=by
 refine ⟨by simp [h.1,h'.1],fun j d hd=>?_⟩
 by_cases hj : j < ds.length
 ·rw [List.getElem?_append_left hj] at hd
  rw [List.getElem?_append_left (by rw [h.1];exact hj)]
  exact h.2 j d hd
 ·rw [List.getElem?_append_right (by omega)] at hd
  rw [List.getElem?_append_right (by rw [h.1];omega),h.1]
  exact h'.2 _ d hd
def eJ (p : Nat → Bool) (base : Nat) (w : World) (e : TypeId) (size n : Nat) (ds : List D) (v : Value) : Prop :=
 ∃ xs,w.ownsRow base e size v n xs ∧ aU (hide (fun k=>p k || decide (v.ownBlock = some k)) w) ds xs
theorem eJ.nil (p : Nat → Bool) (base : Nat) (w : World) (e : TypeId) (size : Nat) : eJ p base w e size 0 [] (.slice none 0 0):=⟨[],World.ownsRow_nil _ _ _ _,aU.nil _⟩
theorem eJ.at {p : Nat → Bool} {base : Nat} {w : World} {e : TypeId} {size n : Nat} {ds : List D} {v : Value} (h : eJ p base w e size n ds v) (hp : ∀ k,base ≤ k → p k = false) : At (hide p w) (.sl size n ds) v:=by
 obtain ⟨xs,ho,hc⟩:=h
 have hl:=ho.1
 rcases ho.2 with ⟨rfl,rfl⟩ | ⟨g,cap,cur,rfl,hb,hg,h1,h2,h3,h4⟩
 ·have : ds = []:=List.eq_nil_of_length_eq_zero (by rw [← hc.1,hl];simp)
  subst this
  exact At.sl_nil (Nat.zero_le _)
 ·refine At.sl_mk (by rw [← hc.1];exact hl) h1 h2 fun j d hd=>?_
  obtain ⟨u,u1,u2⟩:=hc.2 j d hd
  refine ⟨u, ?_,At.keep (aH fun k hk hpk=>⟨?_,rfl⟩) _ _ u2⟩
  ·rw [cD (hp g hb),bE hg]
   rw [← h4,List.getElem?_take] at u1
   split at u1
   ·simpa using u1
   ·cases u1
  ·exact (Bool.or_eq_false_iff.1 hpk).1
theorem eJ.moved {p : Nat → Bool} {base : Nat} {w w' : World} {e : TypeId} {size n : Nat} {ds : List D} {v : Value} (h : eJ p base w e size n ds v) (hp : ∀ k,base ≤ k → p k = false) (hk : ∀ k,k < w.heap.size → p k = false → w'.heap[k]? = w.heap[k]?) : eJ p base w' e size n ds v:=by
 obtain ⟨xs,ho,hc⟩:=h
 refine ⟨xs,⟨ho.1, ?_⟩,hc.keep (aH fun k h1 h2=>⟨h2,hk k h1 (Bool.or_eq_false_iff.1 h2).1⟩)⟩
 rcases ho.2 with h1 | ⟨g,cap,cur,rfl,hb,hg,h1,h2,h3,h4⟩
 ·exact .inl h1
 ·exact .inr ⟨g,cap,cur,rfl,hb,(hk g (Array.getElem?_eq_some_iff.1 hg).1 (hp g hb)).trans hg,h1,h2,h3,h4⟩
theorem eJ.appended {p : Nat → Bool} {base : Nat} {w w' : World} {e : TypeId} {size n m : Nat} {ds es : List D} {v v' : Value} {xs ys : List Value} (hc : aU (hide (fun k=>p k || decide (v.ownBlock = some k)) w) ds xs) (he : aU (hide (fun k=>p k || decide (v.ownBlock = some k)) w) es ys)
  (ho : w'.ownsRow base e size v' (n + m) (xs ++ ys)) (hg : w.grownBy w' v.ownBlock) (hv : v'.ownBlock = v.ownBlock ∨ v'.ownBlock = some w.heap.size) : eJ p base w' e size (n + m) (ds ++ es) v':=by
 refine ⟨_,ho,(hc.append he).keep (aH fun k hk hp=>?_)⟩
 simp only [Bool.or_eq_false_iff,decide_eq_false_iff_not] at hp ⊢
 refine ⟨⟨hp.1, ?_⟩,hg.block k hk (Ne.symm hp.2)⟩
 rcases hv with e | e
 ·rw [e];exact hp.2
 ·rw [e];intro e2;cases e2;omega
end Go.Proofs.YtppfalbnhnpbnaaGreatDoor
namespace Go.Proofs.YtppfalbnhnpbnaaGreatDoor
open Go Go.RowKit Ly
set_option maxRecDepth 10000
set_option maxHeartbeats 4000000
end Go.Proofs.YtppfalbnhnpbnaaGreatDoor
namespace Go.Proofs.YtppfalbnhnpbnaaGreatDoor
open Go Go.RowKit Ly
set_option maxRecDepth 10000
set_option maxHeartbeats 4000000
theorem u25 : ∃ fs,Tryz.prog.underlying 40 = some (.struct fs):=⟨_,Tryz.underlying40⟩
theorem i25 : (Tryz.prog.info? 40).map (·.size) = some 4:=by kernel_rfl
theorem u95 : ∃ fs,Tryz.prog.underlying 38 = some (.struct fs):=⟨_,Tryz.underlying38⟩
theorem i95 : (Tryz.prog.info? 38).map (·.size) = some 3:=by kernel_rfl
theorem jV {fn : Func} {p : Tmp} (h : fn.results = #[.cell p 40]) (tmps : Array Value) (w : World) (g : Nat) (a b c d : Value) (fr : Nat × Nat)
  (hp : tmps.getD p undef = one g) (hg : w.heap[g]? = some (.cells #[a,b,c,d] 40 fr)) : (results fn tmps).run Tryz.prog w = .ok (.agg #[a,b,c,d]) w:=by
 obtain ⟨fs,h1⟩:=u25
 exact results_cell_row h tmps w g 40 #[a,b,c,d] fr _ hp hg h1 rfl i25
theorem gJ {fn : Func} {p : Tmp} (h : fn.results = #[.cell p 38]) (tmps : Array Value) (w : World) (g : Nat) (a b c : Value) (fr : Nat × Nat)
  (hp : tmps.getD p undef = one g) (hg : w.heap[g]? = some (.cells #[a,b,c] 38 fr)) : (results fn tmps).run Tryz.prog w = .ok (.agg #[a,b,c]) w:=by
 obtain ⟨fs,h1⟩:=u95
 exact results_cell_row h tmps w g 38 #[a,b,c] fr _ hp hg h1 rfl i95
end Go.Proofs.YtppfalbnhnpbnaaGreatDoor
namespace Go.Proofs.YtppfalbnhnpbnaaGreatDoor
open Go Go.RowKit Ly
set_option maxRecDepth 10000
set_option maxHeartbeats 4000000
def lo (w : World) : Nat → Bool:=fun k=>decide (k < w.heap.size)
theorem rF {w w1 w' w'' : World} (h : w.heap.size ≤ w1.heap.size) (hk : ∀ k,w1.heap.size ≤ k → k < w'.heap.size → w''.heap[k]? = w'.heap[k]?) : bI (hide (lo w1) w') (hide (lo w) w''):=aH fun k h1 h2=>by
 simp only [lo,decide_eq_false_iff_not,Nat.not_lt] at h2 ⊢
 exact ⟨by omega,hk k h2 h1⟩
end Go.Proofs.YtppfalbnhnpbnaaGreatDoor
