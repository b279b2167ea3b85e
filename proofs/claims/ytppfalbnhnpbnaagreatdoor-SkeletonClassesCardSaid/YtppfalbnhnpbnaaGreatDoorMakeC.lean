/- Plain laws: formulas and proofs are told by their words. Nothing of the program is imported. -/
import Derived.Lib.ItoaNum
import Derived.WalkKit
import Derived.Deep.RegionWith
import Derived.Lib.Hide
import Derived.Test.YtppfalbnhnpbnaaGreatDoorProg
set_option linter.unusedSimpArgs false
set_option linter.unusedVariables false
/- Plain law: formulas, terms and proofs as data, and their words; words tell formulas apart. Nothing of the program is imported. -/
namespace Ly
abbrev Bs:=List UInt8
inductive Tm where
 | mk (v : Bool) (name : Bs) (args : List Tm)
inductive Fm where
 | mk (op : Int) (name : Bs) (args : List Tm) (sub : List Fm)
namespace Tm
def v : Tm → Bool | .mk v _ _=>v
def name : Tm → Bs | .mk _ n _=>n
def args : Tm → List Tm | .mk _ _ a=>a
end Tm
namespace Fm
def op : Fm → Int | .mk o _ _ _=>o
def name : Fm → Bs | .mk _ n _ _=>n
def args : Fm → List Tm | .mk _ _ a _=>a
def sub : Fm → List Fm | .mk _ _ _ s=>s
end Fm
def wAnd : Bs:=[97,110,100]
def jM : Bs:=[102,97,108,115,101]
def wNot : Bs:=[110,111,116]
def wNec : Bs:=[110,101,99,101,115,115,97,114,105,108,121]
def wPos : Bs:=[112,111,115,115,105,98,108,121]
def mH : Bs:=[110,101,120,116]
def gU : Bs:=[97,108,119,97,121,115]
def wFor : Bs:=[102,111,114]
def wAll : Bs:=[97,108,108]
def mI : Bs:=[115,111,109,101]
def wBoth : Bs:=[98,111,116,104]
def wEither : Bs:=[101,105,116,104,101,114]
def wOr : Bs:=[111,114]
def wIf : Bs:=[105,102]
def wThen : Bs:=[116,104,101,110]
def wAs : Bs:=[97,115]
def wSo : Bs:=[115,111]
def wWhile : Bs:=[119,104,105,108,101]
def oX : Bs:=[117,110,116,105,108]
/- Which formulas are right. -/
def small (c : UInt8) : Bool:=97 ≤ c && c ≤ 122
def dZ (c : UInt8) : Bool:=65 ≤ c && c ≤ 90
def digit (c : UInt8) : Bool:=48 ≤ c && c ≤ 57
def cS (c : UInt8) : Bool:=small c || dZ c || digit c
def eM (s : Bs) : Bool:=s == wAll || s == mI || s == jM || s == mH || s == gU || s == oX
def cG (first other : UInt8 → Bool) : Bs → Bool
 | []=>false
 | c :: r=>decide (r.length + 1 ≤ 16) && !eM (c :: r) && first c && r.all other
def bU (s : Bs) : Bool:=cG (fun c=>117 ≤ c && c ≤ 122) digit s
def eS (s : Bs) : Bool:=cG (fun c=>97 ≤ c && c ≤ 116) cS s
def cW (s : Bs) : Bool:=cG dZ cS s
mutual
def Tm.ok : Tm → Bool
 | .mk v n az=>if v then az.isEmpty && bU n else decide (az.length ≤ 4) && eS n && cE az
def cE : List Tm → Bool
 | []=>true
 | t :: ts=>t.ok && cE ts
end
def arity (op : Int) : Nat :=
 if op = 1 ∨ op = 2 then 0 else if op = 3 ∨ 8 ≤ op ∧ op ≤ 13 then 1 else if 4 ≤ op ∧ op ≤ 7 ∨ op = 14 then 2 else 9
mutual
def Fm.ok : Fm → Bool
 | .mk op n az sub =>
  decide (sub.length = arity op ∧ sub.length ≤ 2) && (if op = 1 then cW n && decide (az.length ≤ 4) else az.isEmpty && (if op = 8 ∨ op = 9 then bU n else n.isEmpty)) && cE az && bW sub
def bW : List Fm → Bool
 | []=>true
 | f :: fs=>f.ok && bW fs
end
mutual
def Tm.nodes : Tm → Nat
 | .mk _ _ az=>1 + aF az
def aF : List Tm → Nat
 | []=>0
 | t :: ts=>t.nodes + aF ts
end
mutual
def Fm.nodes : Fm → Nat
 | .mk _ _ az sub=>1 + aF az + aD sub
def aD : List Fm → Nat
 | []=>0
 | f :: fs=>f.nodes + aD fs
end
mutual
def Tm.depth : Tm → Nat
 | .mk _ _ az=>1 + cC az
def cC : List Tm → Nat
 | []=>0
 | t :: ts=>max t.depth (cC ts)
end
mutual
def Fm.depth : Fm → Nat
 | .mk _ _ az sub=>1 + max (cC az) (cL sub)
def cL : List Fm → Nat
 | []=>0
 | f :: fs=>max f.depth (cL fs)
end
def Fm.right (f : Fm) : Bool:=f.ok && decide (f.nodes ≤ 400) && decide (f.depth ≤ 40)
end Ly
/- Plain law: two right formulas with the same text are the same. Nothing of the program is imported. -/
namespace Ly
theorem arity_cases {op : Int} {n : Nat} (h : n = arity op) (hn : n ≠ 9) : op = 1 ∨ op = 2 ∨ op = 3 ∨ op = 4 ∨ op = 5 ∨ op = 6 ∨ op = 7 ∨ op = 8 ∨ op = 9 ∨ op = 10 ∨ op = 11 ∨ op = 12 ∨ op = 13 ∨ op = 14:=by
 unfold arity at h
 repeat' split at h
 all_goals omega
theorem Fm.ok_op {op : Int} {n : Bs} {az : List Tm} {sub : List Fm} (h : (Fm.mk op n az sub).ok = true) :
  op = 1 ∨ op = 2 ∨ op = 3 ∨ op = 4 ∨ op = 5 ∨ op = 6 ∨ op = 7 ∨ op = 8 ∨ op = 9 ∨ op = 10 ∨ op = 11 ∨ op = 12 ∨ op = 13 ∨ op = 14:=by
 simp only [Fm.ok,Bool.and_eq_true,decide_eq_true_eq] at h
 exact arity_cases h.1.1.1.1 (by omega)
end Ly
/- Plain law: two proofs that can be described, with the same lines, are the same; likewise claims. Nothing of the program is imported. -/
namespace Ly
open Go.Lib (decDigits itoa)
inductive Pf where
 | mk (rule : Bs) (form : Fm) (label : Int) (sub : List Pf) (marks : List (List Int))
namespace Pf
end Pf
def zD (sep : Bs) : List Bs → Bs
 | []=>[]
 | [x]=>x
 | x :: y :: r=>x ++ sep ++ zD sep (y :: r)
def cs : Bs:=[44,32]
def wAnds : Bs:=[32,97,110,100,32]
def wNothing : Bs:=[110,111,116,104,105,110,103]
def hole : Bs:=[63]
def numbers (l : List Int) : Bs:=if l.isEmpty then wNothing else zD wAnds (l.map itoa)
/- Which proofs can be described. -/
def ruleName : Bs → Bool
 | []=>false
 | c :: r=>decide (r.length + 1 ≤ 16) && (small c || dZ c) && r.all cS
def markOk (n : Int) : Bool:=decide (0 ≤ n ∧ n ≤ 999)
def shaped (rule : Bs) (label : Int) (nsub : Nat) (marks : List (List Int)) : Bool :=
 if rule = [] then decide (nsub = 0) && marks.isEmpty && decide (1 ≤ label ∧ label ≤ 999)
 else if rule = hole then decide (nsub = 0) && marks.isEmpty && decide (label = 0)
 else ruleName rule && decide (label = 0) && decide (nsub ≤ 4) && decide (marks.length = nsub) && marks.all fun l=>decide (l.length ≤ 3) && l.all markOk
/- Numerals. -/
theorem decDigits_digit (n : Nat) : ∀ c ∈ decDigits n,48 ≤ c.toNat ∧ c.toNat ≤ 57:=by
 induction n using Nat.strongRecOn with
 | ind n ih =>
  rw [decDigits]
  split
  ·intro c hc;simp at hc;subst hc;simp;omega
  ·intro c hc
   rcases List.mem_append.1 hc with h | h
   ·exact ih (n / 10) (by omega) c h
   ·simp at h;subst h;simp;omega
theorem decDigits_inj : ∀ (n m : Nat),decDigits n = decDigits m → n = m:=by
 intro n
 induction n using Nat.strongRecOn with
 | ind n ih =>
  intro m h
  rw [decDigits.eq_def n,decDigits.eq_def m] at h
  have dig : ∀ a b : Nat,a < 10 → b < 10 → UInt8.ofNat (48 + a) = UInt8.ofNat (48 + b) → a = b:=by
   intro a b ha hb e
   have:=congrArg UInt8.toNat e
   simp at this;omega
  have ne : ∀ k,decDigits k ≠ []:=by
   intro k;rw [decDigits];split <;> simp
  split at h <;> split at h
  ·simp at h;exact dig n m ‹_› ‹_› (by simpa using h)
  ·have:=congrArg List.length h;simp at this;exact absurd this (ne _)
  ·have:=congrArg List.length h;simp at this;exact absurd this (ne _)
  ·have h1:=List.append_inj' h (by simp)
   have e1:=ih (n / 10) (by omega) _ h1.1
   have e2:=dig (n % 10) (m % 10) (by omega) (by omega) (by simpa using h1.2)
   omega
theorem jS (n : Nat) : itoa (n : Int) = decDigits n:=by
 unfold itoa;rw [if_neg (by omega)];simp
theorem itoa_digit {n : Int} (h : 0 ≤ n) : ∀ c ∈ itoa n,48 ≤ c.toNat ∧ c.toNat ≤ 57:=by
 obtain ⟨k,rfl⟩:=Int.eq_ofNat_of_zero_le h
 rw [jS];exact decDigits_digit k
theorem itoa_inj {n m : Int} (h : 0 ≤ n) (h' : 0 ≤ m) (e : itoa n = itoa m) : n = m:=by
 obtain ⟨k,rfl⟩:=Int.eq_ofNat_of_zero_le h
 obtain ⟨j,rfl⟩:=Int.eq_ofNat_of_zero_le h'
 rw [jS,jS] at e
 rw [decDigits_inj _ _ e]
theorem xS {n : Int} : itoa n ≠ []:=by
 unfold itoa;split
 ·simp
 ·rw [decDigits];split <;> simp
end Ly
namespace Ly
open Go.Lib (decDigits itoa)
end Ly
namespace Ly
/- Equality, as the program tells it. -/
mutual
def Tm.same : Tm → Tm → Bool
 | .mk v n az,.mk v' n' bs=>(v == v') && (n == n') && dI az bs
def dI : List Tm → List Tm → Bool
 | [],[]=>true
 | t :: ts,u :: us=>t.same u && dI ts us
 | [],_ :: _=>false
 | _ :: _,[]=>false
end
mutual
def Fm.same : Fm → Fm → Bool
 | .mk o n az sub,.mk o' n' bs sub'=>(o == o') && (n == n') && dI az bs && cA sub sub'
def cA : List Fm → List Fm → Bool
 | [],[]=>true
 | t :: ts,u :: us=>t.same u && cA ts us
 | [],_ :: _=>false
 | _ :: _,[]=>false
end
mutual
theorem Tm.same_iff : ∀ t u : Tm,t.same u = true ↔ t = u
 | .mk v n az,.mk v' n' bs=>by simp [Tm.same,jC az bs,and_assoc]
theorem jC : ∀ ts us : List Tm,dI ts us = true ↔ ts = us
 | [],[]=>by simp [dI]
 | t :: ts,u :: us=>by simp [dI,Tm.same_iff t u,jC ts us]
 | [],_ :: _=>by simp [dI]
 | _ :: _,[]=>by simp [dI]
end
mutual
theorem Fm.same_iff : ∀ t u : Fm,t.same u = true ↔ t = u
 | .mk o n az sub,.mk o' n' bs sub'=>by simp [Fm.same,jC az bs,cY sub sub',and_assoc]
theorem cY : ∀ ts us : List Fm,cA ts us = true ↔ ts = us
 | [],[]=>by simp [cA]
 | t :: ts,u :: us=>by simp [cA,Fm.same_iff t u,cY ts us]
 | [],_ :: _=>by simp [cA]
 | _ :: _,[]=>by simp [cA]
end
theorem tmsSame_len {ts us : List Tm} (h : ts.length ≠ us.length) : dI ts us = false:=by
 rw [Bool.eq_false_iff];intro e;rw [jC] at e;exact h (by rw [e])
theorem fmsSame_len {ts us : List Fm} (h : ts.length ≠ us.length) : cA ts us = false:=by
 rw [Bool.eq_false_iff];intro e;rw [cY] at e;exact h (by rw [e])
end Ly
namespace Ly
open Go Go.RowKit
inductive D where
 | val (v : Value)
 | sl (size n : Nat) (cells : List D)
mutual
def At (w : World) : D → Value → Prop
 | .val v,u=>u = v
 | .sl size n ds,u=>∃ a cap,u = .slice a n cap ∧ n ≤ cap ∧ cap ≤ maxLen ∧ ds.length = n * size ∧ (n = 0 ∨ ∃ b off,a = some ⟨b,off,none⟩ ∧ fU w b off ds)
def fU (w : World) (b : Nat) : Nat → List D → Prop
 | _,[]=>True
 | off,d :: ds=>(∃ u,w.cell? ⟨b,off,none⟩ = some u ∧ At w d u) ∧ fU w b (off + 1) ds
end
def bI (w w' : World) : Prop:=∀ a v,w.cell? a = some v → w'.cell? a = some v
theorem bI.refl (w : World) : bI w w:=fun _ _ h=>h
theorem bI.trans {a b c : World} (h : bI a b) (h' : bI b c) : bI a c:=fun p v hp=>h' p v (h p v hp)
theorem aA {w w' : World} (h : Below w.heap.size w w') : bI w w':=fun a v hv=>by
 rw [h.cell (World.block_lt_of_cell? w a hv)];exact hv
mutual
theorem At.keep {w w' : World} (hk : bI w w') : ∀ (d : D) (u : Value),At w d u → At w' d u
 | .val v,u,h=>h
 | .sl size n ds,u,h=>by
  obtain ⟨a,cap,h1,h2,h3,h4,h5⟩:=h
  refine ⟨a,cap,h1,h2,h3,h4, ?_⟩
  rcases h5 with h5 | ⟨b,off,e,h5⟩
  ·exact .inl h5
  ·exact .inr ⟨b,off,e,fU.keep hk b off ds h5⟩
theorem fU.keep {w w' : World} (hk : bI w w') (b : Nat) : ∀ (off : Nat) (ds : List D),fU w b off ds → fU w' b off ds
 | _,[],_=>trivial
 | off,d :: ds,h=>by
  obtain ⟨⟨u,h1,h2⟩,h3⟩:=h
  exact ⟨⟨u,hk _ _ h1,At.keep hk d u h2⟩,fU.keep hk b (off + 1) ds h3⟩
end
theorem fU.get {w : World} {b : Nat} : ∀ {off : Nat} {ds : List D},fU w b off ds → ∀ (j : Nat) (d : D),ds[j]? = some d → ∃ u,w.cell? ⟨b,off + j,none⟩ = some u ∧ At w d u
 | _,[],_,j,d,h=>by simp at h
 | off,x :: ds,h,0,d,e=>by
  obtain ⟨⟨u,h1,h2⟩,_⟩:=h
  simp at e;subst e
  exact ⟨u,h1,h2⟩
 | off,x :: ds,h,j + 1,d,e=>by
  have:=fU.get h.2 j d (by simpa using e)
  rwa [show off + 1 + j = off + (j + 1) by omega] at this
theorem fU.mk {w : World} {b : Nat} : ∀ {off : Nat} {ds : List D},(∀ (j : Nat) (d : D),ds[j]? = some d → ∃ u,w.cell? ⟨b,off + j,none⟩ = some u ∧ At w d u) → fU w b off ds
 | _,[],_=>trivial
 | off,x :: ds,h=>⟨h 0 x (by simp),fU.mk fun j d hd=>by
   have:=h (j + 1) d (by simpa using hd)
   rwa [show off + (j + 1) = off + 1 + j by omega] at this⟩
theorem At.sl_inv {w : World} {size n : Nat} {ds : List D} {u : Value} (h : At w (.sl size n ds) u) :
  ∃ a cap,u = .slice a n cap ∧ n ≤ cap ∧ cap ≤ maxLen ∧ ds.length = n * size ∧ (n = 0 ∨ ∃ b off,a = some ⟨b,off,none⟩ ∧ ∀ (j : Nat) (d : D),ds[j]? = some d → ∃ u,w.cell? ⟨b,off + j,none⟩ = some u ∧ At w d u):=by
 obtain ⟨a,cap,h1,h2,h3,h4,h5⟩:=h
 refine ⟨a,cap,h1,h2,h3,h4, ?_⟩
 rcases h5 with h5 | ⟨b,off,e,h5⟩
 ·exact .inl h5
 ·exact .inr ⟨b,off,e,fun j d hd=>h5.get j d hd⟩
theorem At.sl_mk {w : World} {size n : Nat} {ds : List D} {b off cap : Nat} (hl : ds.length = n * size) (hn : n ≤ cap) (hc : cap ≤ maxLen)
  (h : ∀ (j : Nat) (d : D),ds[j]? = some d → ∃ u,w.cell? ⟨b,off + j,none⟩ = some u ∧ At w d u) : At w (.sl size n ds) (.slice (some ⟨b,off,none⟩) n cap) :=
 ⟨_,_,rfl,hn,hc,hl,.inr ⟨b,off,rfl,fU.mk h⟩⟩
theorem At.sl_nil {w : World} {size : Nat} {a : Option Addr} {cap : Nat} (hc : cap ≤ maxLen) : At w (.sl size 0 []) (.slice a 0 cap) :=
 ⟨a,cap,rfl,Nat.zero_le _,hc,by simp,.inl rfl⟩
/- Strings, lists of strings, of numbers. -/
abbrev str (s : Bs) : Value:=.string ⟨s.toArray⟩
def strD (s : Bs) : D:=.val (str s)
def intD (n : Int) : D:=.val (.int .i64 n)
def eP (w : World) (l : List Bs) (u : Value) : Prop:=At w (.sl 1 l.length (l.map strD)) u
def jF (w : World) (l : List Int) (u : Value) : Prop:=At w (.sl 1 l.length (l.map intD)) u
/- Terms, formulas, proofs. -/
mutual
def Tm.ds : Tm → List D
 | .mk v n az=>[.val (.bool v),.val (str n),.sl 3 az.length (bS az)]
def bS : List Tm → List D
 | []=>[]
 | t :: ts=>t.ds ++ bS ts
end
mutual
def Fm.ds : Fm → List D
 | .mk op n az sub=>[.val (.int .u8 op),.val (str n),.sl 3 az.length (bS az),.sl 4 sub.length (bJ sub)]
def bJ : List Fm → List D
 | []=>[]
 | f :: fs=>f.ds ++ bJ fs
end
def bG (w : World) (l : List Tm) (u : Value) : Prop:=At w (.sl 3 l.length (bS l)) u
def aN (w : World) (l : List Fm) (u : Value) : Prop:=At w (.sl 4 l.length (bJ l)) u
def dC (w : World) (t : Tm) (u : Value) : Prop:=∃ a n c,u = .agg #[.bool t.v,str t.name,.slice a n c] ∧ bG w t.args (.slice a n c)
def aV (w : World) (f : Fm) (u : Value) : Prop :=
 ∃ a n c b m d,u = .agg #[.int .u8 f.op,str f.name,.slice a n c,.slice b m d] ∧ bG w f.args (.slice a n c) ∧ aN w f.sub (.slice b m d)
theorem bG.keep {w w' : World} {l : List Tm} {u : Value} (h : bG w l u) (k : bI w w') : bG w' l u:=At.keep k _ _ h
theorem aN.keep {w w' : World} {l : List Fm} {u : Value} (h : aN w l u) (k : bI w w') : aN w' l u:=At.keep k _ _ h
theorem eP.keep {w w' : World} {l : List Bs} {u : Value} (h : eP w l u) (k : bI w w') : eP w' l u:=At.keep k _ _ h
theorem jF.keep {w w' : World} {l : List Int} {u : Value} (h : jF w l u) (k : bI w w') : jF w' l u:=At.keep k _ _ h
theorem aV.keep {w w' : World} {f : Fm} {u : Value} (h : aV w f u) (k : bI w w') : aV w' f u:=by
 obtain ⟨a,n,c,b,m,d,e,h,h'⟩:=h;exact ⟨a,n,c,b,m,d,e,h.keep k,h'.keep k⟩
theorem Tm.ds_length (t : Tm) : t.ds.length = 3:=by cases t;rfl
theorem Fm.ds_length (f : Fm) : f.ds.length = 4:=by cases f;rfl
theorem lJ {α : Type} (ds : α → List D) (all : List α → List D) (k : Nat) (hk : ∀ x,(ds x).length = k) (h0 : all [] = []) (h1 : ∀ x xs,all (x :: xs) = ds x ++ all xs) :
  ∀ (l : List α) (i : Nat) (x : α),l[i]? = some x → ∀ j,j < k → (all l)[i * k + j]? = (ds x)[j]?
 | [],i,x,h,_,_=>by simp at h
 | y :: ys,0,x,h,j,hj=>by
  simp at h;subst h
  rw [h1,Nat.zero_mul,Nat.zero_add,List.getElem?_append_left (by rw [hk];exact hj)]
 | y :: ys,i + 1,x,h,j,hj=>by
  rw [h1,List.getElem?_append_right (by rw [hk,Nat.succ_mul];omega),hk,show (i + 1) * k + j - k = i * k + j by rw [Nat.succ_mul];omega]
  exact lJ ds all k hk h0 h1 ys i x (by simpa using h) j hj
theorem oQ (l : List Tm) (i : Nat) (t : Tm) (h : l[i]? = some t) (j : Nat) (hj : j < 3) : (bS l)[i * 3 + j]? = t.ds[j]? :=
 lJ Tm.ds bS 3 Tm.ds_length (by simp [bS]) (by intros;simp [bS]) l i t h j hj
theorem fY (l : List Fm) (i : Nat) (t : Fm) (h : l[i]? = some t) (j : Nat) (hj : j < 4) : (bJ l)[i * 4 + j]? = t.ds[j]? :=
 lJ Fm.ds bJ 4 Fm.ds_length (by simp [bJ]) (by intros;simp [bJ]) l i t h j hj
structure TmCells (w : World) (b o : Nat) (t : Tm) (a : Option Addr) (n c : Nat) : Prop where
 c0 : w.cell? ⟨b,o,none⟩ = some (.bool t.v)
 c1 : w.cell? ⟨b,o + 1,none⟩ = some (str t.name)
 c2 : w.cell? ⟨b,o + 2,none⟩ = some (.slice a n c)
 at_ : bG w t.args (.slice a n c)
structure jY (w : World) (b o : Nat) (f : Fm) (a : Option Addr) (n c : Nat) (a' : Option Addr) (m d : Nat) : Prop where
 c0 : w.cell? ⟨b,o,none⟩ = some (.int .u8 f.op)
 c1 : w.cell? ⟨b,o + 1,none⟩ = some (str f.name)
 c2 : w.cell? ⟨b,o + 2,none⟩ = some (.slice a n c)
 c3 : w.cell? ⟨b,o + 3,none⟩ = some (.slice a' m d)
 at_ : bG w f.args (.slice a n c)
 at' : aN w f.sub (.slice a' m d)
theorem bG.len {w : World} {l : List Tm} {a : Option Addr} {n c : Nat} (h : bG w l (.slice a n c)) : n = l.length ∧ n ≤ c ∧ c ≤ maxLen:=by
 obtain ⟨a',cap,e,h1,h2,_⟩:=h
 simp only [Value.slice.injEq] at e
 obtain ⟨_,rfl,rfl⟩:=e
 exact ⟨rfl,h1,h2⟩
theorem aN.len {w : World} {l : List Fm} {a : Option Addr} {n c : Nat} (h : aN w l (.slice a n c)) : n = l.length ∧ n ≤ c ∧ c ≤ maxLen:=by
 obtain ⟨a',cap,e,h1,h2,_⟩:=h
 simp only [Value.slice.injEq] at e
 obtain ⟨_,rfl,rfl⟩:=e
 exact ⟨rfl,h1,h2⟩
theorem bG.slice {w : World} {l : List Tm} {u : Value} (h : bG w l u) : ∃ a n c,u = .slice a n c:=by
 obtain ⟨a,c,e,_⟩:=h;exact ⟨a,_,c,e⟩
theorem aN.slice {w : World} {l : List Fm} {u : Value} (h : aN w l u) : ∃ a n c,u = .slice a n c:=by
 obtain ⟨a,c,e,_⟩:=h;exact ⟨a,_,c,e⟩
theorem bG.get {w : World} {l : List Tm} {a : Option Addr} {n c : Nat} (h : bG w l (.slice a n c)) (hn : l ≠ []) :
  ∃ b off,a = some ⟨b,off,none⟩ ∧ ∀ (i : Nat) (t : Tm),l[i]? = some t → ∃ x k e,TmCells w b (off + i * 3) t x k e:=by
 obtain ⟨a',cap,e,_,_,_,h5⟩:=h.sl_inv
 simp only [Value.slice.injEq] at e
 obtain ⟨rfl,rfl,rfl⟩:=e
 rcases h5 with h5 | ⟨b,off,rfl,h5⟩
 ·exact absurd (List.eq_nil_of_length_eq_zero h5) hn
 ·refine ⟨b,off,rfl,fun i t ht=>?_⟩
  obtain ⟨v,nm,az⟩:=t
  obtain ⟨u0,k0,p0⟩:=h5 (i * 3) (.val (.bool v)) (oQ l i _ ht 0 (by omega))
  obtain ⟨u1,k1,p1⟩:=h5 (i * 3 + 1) (.val (str nm)) (oQ l i _ ht 1 (by omega))
  obtain ⟨u2,k2,p2⟩:=h5 (i * 3 + 2) (.sl 3 az.length (bS az)) (oQ l i _ ht 2 (by omega))
  obtain ⟨x,k,e,rfl⟩:=bG.slice (w:=w) (l:=az) p2
  have p0' : u0 = _:=p0
  have p1' : u1 = _:=p1
  subst p0' p1'
  exact ⟨x,k,e,k0,by rw [Nat.add_assoc];exact k1,by rw [Nat.add_assoc];exact k2,p2⟩
theorem aN.get {w : World} {l : List Fm} {a : Option Addr} {n c : Nat} (h : aN w l (.slice a n c)) (hn : l ≠ []) :
  ∃ b off,a = some ⟨b,off,none⟩ ∧ ∀ (i : Nat) (f : Fm),l[i]? = some f → ∃ x k e y m d,jY w b (off + i * 4) f x k e y m d:=by
 obtain ⟨a',cap,e,_,_,_,h5⟩:=h.sl_inv
 simp only [Value.slice.injEq] at e
 obtain ⟨rfl,rfl,rfl⟩:=e
 rcases h5 with h5 | ⟨b,off,rfl,h5⟩
 ·exact absurd (List.eq_nil_of_length_eq_zero h5) hn
 ·refine ⟨b,off,rfl,fun i t ht=>?_⟩
  obtain ⟨op,nm,az,sub⟩:=t
  obtain ⟨u0,k0,p0⟩:=h5 (i * 4) (.val (.int .u8 op)) (fY l i _ ht 0 (by omega))
  obtain ⟨u1,k1,p1⟩:=h5 (i * 4 + 1) (.val (str nm)) (fY l i _ ht 1 (by omega))
  obtain ⟨u2,k2,p2⟩:=h5 (i * 4 + 2) (.sl 3 az.length (bS az)) (fY l i _ ht 2 (by omega))
  obtain ⟨u3,k3,p3⟩:=h5 (i * 4 + 3) (.sl 4 sub.length (bJ sub)) (fY l i _ ht 3 (by omega))
  obtain ⟨x,k,e,rfl⟩:=bG.slice (w:=w) (l:=az) p2
  obtain ⟨y,m,d,rfl⟩:=aN.slice (w:=w) (l:=sub) p3
  have p0' : u0 = _:=p0
  have p1' : u1 = _:=p1
  subst p0' p1'
  exact ⟨x,k,e,y,m,d,k0,by rw [Nat.add_assoc];exact k1,by rw [Nat.add_assoc];exact k2,by rw [Nat.add_assoc];exact k3,p2,p3⟩
theorem eP.len {w : World} {l : List Bs} {a : Option Addr} {n c : Nat} (h : eP w l (.slice a n c)) : n = l.length ∧ n ≤ c ∧ c ≤ maxLen:=by
 obtain ⟨a',cap,e,h1,h2,_⟩:=h
 simp only [Value.slice.injEq] at e
 obtain ⟨_,rfl,rfl⟩:=e
 exact ⟨rfl,h1,h2⟩
theorem jF.get {w : World} {l : List Int} {a : Option Addr} {n c : Nat} (h : jF w l (.slice a n c)) (hn : l ≠ []) :
  ∃ b off,a = some ⟨b,off,none⟩ ∧ ∀ (i : Nat) (x : Int),l[i]? = some x → w.cell? ⟨b,off + i,none⟩ = some (.int .i64 x):=by
 obtain ⟨a',cap,e,_,_,_,h5⟩:=h.sl_inv
 simp only [Value.slice.injEq] at e
 obtain ⟨rfl,rfl,rfl⟩:=e
 rcases h5 with h5 | ⟨b,off,rfl,h5⟩
 ·exact absurd (List.eq_nil_of_length_eq_zero h5) hn
 ·refine ⟨b,off,rfl,fun i x hx=>?_⟩
  obtain ⟨u,k,p⟩:=h5 i (intD x) (by rw [List.getElem?_map,hx];rfl)
  have p' : u = _:=p
  subst p';exact k
theorem eP.get {w : World} {l : List Bs} {a : Option Addr} {n c : Nat} (h : eP w l (.slice a n c)) (hn : l ≠ []) :
  ∃ b off,a = some ⟨b,off,none⟩ ∧ ∀ (i : Nat) (x : Bs),l[i]? = some x → w.cell? ⟨b,off + i,none⟩ = some (str x):=by
 obtain ⟨a',cap,e,_,_,_,h5⟩:=h.sl_inv
 simp only [Value.slice.injEq] at e
 obtain ⟨rfl,rfl,rfl⟩:=e
 rcases h5 with h5 | ⟨b,off,rfl,h5⟩
 ·exact absurd (List.eq_nil_of_length_eq_zero h5) hn
 ·refine ⟨b,off,rfl,fun i x hx=>?_⟩
  obtain ⟨u,k,p⟩:=h5 i (strD x) (by rw [List.getElem?_map,hx];rfl)
  have p' : u = _:=p
  subst p';exact k
/- Small things for walks. -/
theorem aT {α : Type} {l : List α} {j : Nat} (h : j < l.length) : ∃ x,l[j]? = some x:=⟨_,List.getElem?_eq_getElem h⟩
theorem aX {α : Type} {l : List α} {j : Nat} {x : α} (h : l[j]? = some x) : l ≠ []:=by intro e;subst e;simp at h
theorem le63 {c : Nat} (h : c ≤ maxLen) : c ≤ 9223372036854775807:=by unfold maxLen at h;omega
theorem aG {w w' w'' : World} (h : Below w.heap.size w w') (h' : Below w'.heap.size w' w'') : Below w.heap.size w w'':=h.trans (h'.mono h.size)
theorem nG {W w1 : World} (hb : Below W.heap.size W w1) : (∀ b o,b < W.heap.size → w1.cell? ⟨b,o,none⟩ = W.cell? ⟨b,o,none⟩) ∧ (∀ b o,b < W.heap.size → w1.frozen? ⟨b,o,none⟩ = W.frozen? ⟨b,o,none⟩) :=
 ⟨fun b o h=>hb.cell (p:=⟨b,o,none⟩) h,fun b o h=>hb.frozen (p:=⟨b,o,none⟩) h⟩
theorem bV {w w1 : World} {o : Obj} (h : Below (w.alloc o).heap.size (w.alloc o) w1) : Below w.heap.size w w1:=aG ((Below.refl _ _).alloc (Nat.le_refl _) _) h
theorem hO {w w1 : World} {o o' : Obj} (h : Below ((w.alloc o).alloc o').heap.size ((w.alloc o).alloc o') w1) : Below w.heap.size w w1:=bV (bV h)
theorem uU (w : World) (o : Obj) : bI w (w.alloc o):=aA ((Below.refl _ _).alloc (Nat.le_refl _) _)
theorem zE (w : World) (o o' : Obj) : bI w ((w.alloc o).alloc o'):=(uU w o).trans (uU _ o')
end Ly
namespace Go.Proofs.YtppfalbnhnpbnaaGreatDoor
open Go Go.RowKit Ly
def Ret {α : Type} (A : World → α → Value → Prop) (x : α) (w : World) (e : Ending) (w' : World) : Prop:=∃ v,e = .returned v ∧ A w' x v ∧ Below w.heap.size w w'
theorem fms_one {w : World} {b : Nat} {f : Fm} {a : Option Addr} {n c : Nat} {a' : Option Addr} {m d : Nat} (h : jY w b 0 f a n c a' m d) : aN w [f] (.slice (some ⟨b,0,none⟩) 1 1):=by
 refine At.sl_mk (by simp [bJ,Fm.ds_length]) (Nat.le_refl _) (by decide) fun j d hd=>?_
 obtain ⟨op,nm,ts,sub⟩:=f
 have hj : j < 4:=by
  have:=(List.getElem?_eq_some_iff.1 hd).1;simpa [bJ,Fm.ds_length] using this
 rcases (show j = 0 ∨ j = 1 ∨ j = 2 ∨ j = 3 by omega) with rfl | rfl | rfl | rfl
 ·cases hd;exact ⟨_,h.c0,rfl⟩
 ·cases hd;exact ⟨_,h.c1,rfl⟩
 ·cases hd;exact ⟨_,h.c2,h.at_⟩
 ·cases hd;exact ⟨_,h.c3,h.at'⟩
set_option maxHeartbeats 400000
theorem vG (n : Bs) (ts : List Tm) (a : Option Addr) (k c : Nat) (w : World) (h : bG w ts (.slice a k c)) :
  Calls Tryz.prog 18 #[str n,.slice a k c] w (Ret aV (.mk 1 n ts []) w):=by
 have H:=Lib.hid h;clear h
 go_enter Tryz.func18,Tryz.ntmps18
 go_wp2
 have hb : Below w.heap.size w (w.alloc (.cells #[.int .u8 1,str n,.slice a k c,.slice none 0 0] 40)):=(Below.refl _ _).alloc (Nat.le_refl _) _
 exact bodyPost_ret (v:=.agg #[.int .u8 1,str n,.slice a k c,.slice none 0 0]) (by simp [results,Tryz.results18,go_sem]) rfl
  ⟨_,rfl,⟨_,_,_,_,_,_,rfl,H.out.keep (aA hb),At.sl_nil (Nat.zero_le _)⟩,hb⟩
theorem fJ (o : Int) (fs : List Fm) (a : Option Addr) (k c : Nat) (w : World) (h : aN w fs (.slice a k c)) :
  Calls Tryz.prog 17 #[.int .u8 o,.slice a k c] w (Ret aV (.mk o [] [] fs) w):=by
 have H:=Lib.hid h;clear h
 go_enter Tryz.func17,Tryz.ntmps17
 go_wp2
 have hb : Below w.heap.size w (w.alloc (.cells #[.int .u8 o,str [],.slice none 0 0,.slice a k c] 40)):=(Below.refl _ _).alloc (Nat.le_refl _) _
 exact bodyPost_ret (v:=.agg #[.int .u8 o,str [],.slice none 0 0,.slice a k c]) (by simp [results,Tryz.results17,go_sem]) rfl
  ⟨_,rfl,⟨_,_,_,_,_,_,rfl,At.sl_nil (Nat.zero_le _),H.out.keep (aA hb)⟩,hb⟩
theorem sJ (n : Bs) (ts : List Tm) (a : Option Addr) (k c : Nat) (w : World) (h : bG w ts (.slice a k c)) :
  Calls Tryz.prog 34 #[str n,.slice a k c] w (Ret dC (.mk false n ts) w):=by
 have H:=Lib.hid h;clear h
 go_enter Tryz.func34,Tryz.ntmps34
 go_wp2
 have hb : Below w.heap.size w (w.alloc (.cells #[.bool false,str n,.slice a k c] 38)):=(Below.refl _ _).alloc (Nat.le_refl _) _
 exact bodyPost_ret (v:=.agg #[.bool false,str n,.slice a k c]) (by simp [results,Tryz.results34,go_sem]) rfl
  ⟨_,rfl,⟨_,_,_,rfl,H.out.keep (aA hb)⟩,hb⟩
theorem sN (o : Int) (n : Bs) (f : Fm) (x : Value) (w : World) (h : aV w f x) :
  Calls Tryz.prog 32 #[.int .u8 o,str n,x] w (Ret aV (.mk o n [] [f]) w):=by
 obtain ⟨a,k,c,b,m,d,rfl,h1,h2⟩:=h
 have H1:=Lib.hid h1;clear h1
 have H2:=Lib.hid h2;clear h2
 go_enter Tryz.func32,Tryz.ntmps32
 go_wp2
 refine bodyPost_ret (v:=.agg #[.int .u8 o,str n,.slice none 0 0,.slice (some ⟨w.heap.size + 1 + 1,0,none⟩) 1 1]) (by simp [results,Tryz.results32,go_sem]) rfl
  ⟨_,rfl,⟨_,_,_,_,_,_,rfl,At.sl_nil (Nat.zero_le _),fms_one (f:=f) (a:=a) (n:=k) (c:=c) (a':=b) (m:=m) (d:=d) ⟨by simp [go_sem],by simp [go_sem],by simp [go_sem],by simp [go_sem],H1.out.keep ((zE _ _ _).trans (uU _ _)),H2.out.keep ((zE _ _ _).trans (uU _ _))⟩⟩, ?_⟩
 exact (((Below.refl _ _).alloc (Nat.le_refl _) _).alloc (by simp) _).alloc (by simp;omega) _
end Go.Proofs.YtppfalbnhnpbnaaGreatDoor
