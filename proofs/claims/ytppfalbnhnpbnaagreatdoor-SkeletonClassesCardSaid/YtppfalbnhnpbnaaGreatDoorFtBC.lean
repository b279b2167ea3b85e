/- Plain law: the text of formulas with as few brackets as needed, as package format writes it: terms and names. Nothing of the program is imported. -/
import Derived.Test.YtppfalbnhnpbnaaGreatDoorRdCC
set_option linter.unusedSimpArgs false
set_option linter.unusedVariables false
namespace Ly
def wStr (op : Int) : Nat:=if op = 4 then 5 else if op = 5 then 4 else if op = 6 then 2 else if op = 7 then 1 else if op = 14 then 3 else 6
def eK (op : Int) : Bs:=if op = 2 then jM else if op = 3 then [126] else if op = 4 then [38] else if op = 5 then [124] else if op = 6 then [45,62] else if op = 7 then [60,45,62] else if op = 8 then wAll else if op = 9 then mI else if op = 10 then [91,93] else if op = 11 then [60,62] else if op = 12 then mH else if op = 13 then gU else if op = 14 then oX else []
def jQ (op : Int) (n : Bs) : Bs:=if op = 8 ∨ op = 9 then eK op ++ 32 :: (n ++ [32]) else if op = 12 ∨ op = 13 then eK op ++ [32] else eK op
def cN : List Bs → Bs
 | []=>[]
 | x :: r=>44 :: 32 :: (x ++ cN r)
def cB : List Bs → Bs
 | []=>[]
 | x :: r=>x ++ cN r
def fS : List Bs → Bs
 | []=>[]
 | x :: r=>40 :: (cB (x :: r) ++ [41])
mutual
def Tm.ft : Tm → Bs
 | .mk _ n az=>n ++ fS (cT az)
def cT : List Tm → List Bs
 | []=>[]
 | t :: ts=>t.ft :: cT ts
end
def mK (n : Bs) (az : List Tm) : Bs:=n ++ fS (cT az)
def brk (b : Bool) (x : Bs) : Bs:=if b then 40 :: (x ++ [41]) else x
def bH (op : Int) (i : Bool) (o : Int) : Bool:=decide (wStr o < wStr op) || (decide (wStr o = wStr op) && (i == (decide (op = 6) || decide (op = 14))))
def ftBy (op : Int) (n : Bs) (az : List Tm) : List Int → List Bs → Bs
 | [],_=>if op = 2 then jM else mK n az
 | [o],x :: _=>jQ op n ++ brk (decide (wStr o < 6)) x
 | o :: p :: _,x :: y :: _=>brk (bH op true o) x ++ 32 :: (eK op ++ 32 :: brk (bH op false p) y)
 | _,_=>[]
mutual
def Fm.ft : Fm → Bs
 | .mk op n az sub=>ftBy op n az (sub.map Fm.op) (dS sub)
def dS : List Fm → List Bs
 | []=>[]
 | f :: fs=>f.ft :: dS fs
end
def Stop (s : Bs) : Prop:=∀ c r,s = c :: r → c = 32 ∨ c = 41 ∨ c = 44
theorem Stop.nil : Stop []:=fun _ _ h=>by cases h
theorem Stop.cons {c : UInt8} {r : Bs} (h : c = 32 ∨ c = 41 ∨ c = 44) : Stop (c :: r):=fun d q e=>by cases e;exact h
def NA (s : Bs) : Prop:=∀ c r,s = c :: r → cS c = false
theorem Stop.na {s : Bs} (h : Stop s) : NA s:=fun c r e=>by rcases h c r e with rfl | rfl | rfl <;> decide
theorem NA.cons {c : UInt8} {r : Bs} (h : cS c = false) : NA (c :: r):=fun d q e=>by cases e;exact h
theorem nD : ∀ (n m s t : Bs),(∀ c ∈ n,cS c = true) → (∀ c ∈ m,cS c = true) → NA s → NA t → n ++ s = m ++ t → n = m ∧ s = t
 | [],[],s,t,_,_,_,_,h=>⟨rfl,h⟩
 | [],c :: m,s,t,_,hm,hs,_,h=>by
  have:=hs c (m ++ t) h
  rw [hm c (by simp)] at this;cases this
 | c :: n,[],s,t,hn,_,_,ht,h=>by
  have:=ht c (n ++ s) h.symm
  rw [hn c (by simp)] at this;cases this
 | c :: n,d :: m,s,t,hn,hm,hs,ht,h=>by
  obtain ⟨e1,e2⟩:=List.cons.inj h
  obtain ⟨e3,e4⟩:=nD n m s t (fun x hx=>hn x (by simp [hx])) (fun x hx=>hm x (by simp [hx])) hs ht e2
  exact ⟨by rw [e1,e3],e4⟩
theorem al_of_digit {c : UInt8} (h : digit c = true) : cS c = true:=by unfold cS;simp [h]
theorem al_of_cap {c : UInt8} (h : dZ c = true) : cS c = true:=by unfold cS;simp [h]
theorem pC {c : UInt8} (h : small c = true) : cS c = true:=by unfold cS;simp [h]
theorem mL {f o : UInt8 → Bool} {s : Bs} (h : cG f o s = true) (hf : ∀ c,f c = true → cS c = true) (ho : ∀ c,o c = true → cS c = true) : (∃ c r,s = c :: r ∧ f c = true) ∧ ∀ c ∈ s,cS c = true:=by
 cases s with
 | nil=>cases h
 | cons c r =>
  simp only [cG,Bool.and_eq_true,List.all_eq_true] at h
  refine ⟨⟨c,r,rfl,h.1.2⟩,fun x hx=>?_⟩
  rcases List.mem_cons.1 hx with rfl | hx
  ·exact hf _ h.1.2
  ·exact ho _ (h.2 x hx)
theorem vA {s : Bs} (h : bU s = true) : (∃ c r,s = c :: r ∧ (117 ≤ c && c ≤ 122) = true) ∧ ∀ c ∈ s,cS c = true :=
 mL h (fun c hc=>pC (by unfold small;simp only [Bool.and_eq_true,decide_eq_true_eq] at hc ⊢;exact ⟨UInt8.le_trans (by decide) hc.1,hc.2⟩)) fun c hc=>al_of_digit hc
theorem yY {s : Bs} (h : eS s = true) : (∃ c r,s = c :: r ∧ (97 ≤ c && c ≤ 116) = true) ∧ ∀ c ∈ s,cS c = true :=
 mL h (fun c hc=>pC (by unfold small;simp only [Bool.and_eq_true,decide_eq_true_eq] at hc ⊢;exact ⟨hc.1,UInt8.le_trans hc.2 (by decide)⟩)) fun c hc=>hc
theorem lW {s : Bs} (h : cW s = true) : (∃ c r,s = c :: r ∧ dZ c = true) ∧ ∀ c ∈ s,cS c = true :=
 mL h (fun c hc=>al_of_cap hc) fun c hc=>hc
theorem mB {l : List Bs} {s : Bs} (h : Stop s) : NA (fS l ++ s):=by
 cases l with
 | nil=>exact h.na
 | cons x r=>exact NA.cons (by decide)
theorem Tm.ok_name {v : Bool} {n : Bs} {az : List Tm} (h : (Tm.mk v n az).ok = true) : (∀ c ∈ n,cS c = true) ∧ (v = true → bU n = true) ∧ (v = false → eS n = true) ∧ cE az = true:=by
 cases v with
 | true =>
  simp only [Tm.ok,if_true,Bool.and_eq_true,List.isEmpty_iff] at h
  exact ⟨(vA h.2).2,fun _=>h.2,fun e=>(by cases e),(by rw [h.1];rfl)⟩
 | false =>
  simp only [Tm.ok,Bool.false_eq_true,if_false,Bool.and_eq_true] at h
  exact ⟨(yY h.1.2).2,fun e=>(by cases e),fun _=>h.1.2,h.2⟩
theorem gR (l : List Bs) (s : Bs) : Stop (cN l ++ 41 :: s):=by
 cases l with
 | nil=>exact .cons (.inr (.inl rfl))
 | cons x r=>exact .cons (.inr (.inr rfl))
theorem rZ {n : Bs} (h : bU n = true) (k : eS n = true) : False:=by
 obtain ⟨⟨c,r,rfl,hc⟩,-⟩:=vA h
 obtain ⟨⟨d,q,e,hd⟩,-⟩:=yY k
 cases e
 simp only [Bool.and_eq_true,decide_eq_true_eq] at hc hd
 exact absurd (UInt8.le_trans hc.1 hd.2) (by decide)
mutual
theorem Tm.ft_inj : ∀ (a b : Tm) (s t : Bs),a.ok = true → b.ok = true → Stop s → Stop t → a.ft ++ s = b.ft ++ t → a = b ∧ s = t
 | .mk v n az,.mk v' n' bs,s,t,ha,hb,hs,ht,h=>by
  obtain ⟨h1,h2,h3,h4⟩:=Tm.ok_name ha
  obtain ⟨k1,k2,k3,k4⟩:=Tm.ok_name hb
  simp only [Tm.ft,List.append_assoc] at h
  obtain ⟨e0,h'⟩:=nD _ _ _ _ h1 k1 (mB hs) (mB ht) h
  clear h
  subst e0
  have h:=h'
  clear h'
  have hv : v = v':=by
   cases v <;> cases v'
   ·rfl
   ·exact (rZ (k2 rfl) (h3 rfl)).elim
   ·exact (rZ (h2 rfl) (k3 rfl)).elim
   ·rfl
  subst hv
  cases az with
  | nil =>
   cases bs with
   | nil=>exact ⟨rfl,h⟩
   | cons b br=>rcases hs _ _ h with e | e | e <;> cases e
  | cons a ar =>
   cases bs with
   | nil=>rcases ht _ _ h.symm with e | e | e <;> cases e
   | cons b br =>
    simp only [cE,Bool.and_eq_true] at h4 k4
    simp only [cT,fS,cB,List.cons_append,List.append_assoc,List.cons.injEq,true_and,List.nil_append] at h
    obtain ⟨e1,i1⟩:=Tm.ft_inj a b _ _ h4.1 k4.1 (gR _ _) (gR _ _) h
    obtain ⟨e2,i2⟩:=oR ar br s t h4.2 k4.2 i1
    exact ⟨by rw [e1,e2],i2⟩
theorem oR : ∀ (az bs : List Tm) (s t : Bs),cE az = true → cE bs = true → cN (cT az) ++ 41 :: s = cN (cT bs) ++ 41 :: t → az = bs ∧ s = t
 | [],[],s,t,_,_,h=>⟨rfl,(List.cons.inj h).2⟩
 | [],b :: br,s,t,_,_,h=>by simp only [cT,cN,List.nil_append,List.cons_append,List.cons.injEq] at h;exact absurd h.1 (by decide)
 | a :: ar,[],s,t,_,_,h=>by simp only [cT,cN,List.nil_append,List.cons_append,List.cons.injEq] at h;exact absurd h.1 (by decide)
 | a :: ar,b :: br,s,t,ha,hb,h=>by
  simp only [cE,Bool.and_eq_true] at ha hb
  simp only [cT,cN,List.cons_append,List.append_assoc,List.cons.injEq,true_and] at h
  obtain ⟨e1,i1⟩:=Tm.ft_inj a b _ _ ha.1 hb.1 (gR _ _) (gR _ _) h
  obtain ⟨e2,i2⟩:=oR ar br s t ha.2 hb.2 i1
  exact ⟨by rw [e1,e2],i2⟩
end
end Ly
namespace Ly
abbrev Pr:=Bool × Fm
def prTx (p : Pr) : Bs:=brk p.1 p.2.ft
def fL : List (Int × Pr) → Bs
 | []=>[]
 | x :: l=>32 :: (eK x.1 ++ 32 :: (prTx x.2 ++ fL l))
theorem tP : ∀ l m : List (Int × Pr),fL (l ++ m) = fL l ++ fL m
 | [],m=>rfl
 | x :: l,m=>by simp only [List.cons_append,fL,tP l m,List.append_assoc]
def bin (op : Int) : Prop:=op = 4 ∨ op = 5 ∨ op = 6 ∨ op = 7 ∨ op = 14
theorem Fm.shape {op : Int} {n : Bs} {az : List Tm} {sub : List Fm} (h : (Fm.mk op n az sub).ok = true) :
  (sub = [] ∧ op = 1 ∧ cW n = true ∧ cE az = true) ∨ (sub = [] ∧ op = 2 ∧ n = [] ∧ az = []) ∨
   (∃ g,sub = [g] ∧ az = [] ∧ g.ok = true ∧ (((op = 8 ∨ op = 9) ∧ bU n = true) ∨ ((op = 3 ∨ op = 10 ∨ op = 11 ∨ op = 12 ∨ op = 13) ∧ n = []))) ∨
   ∃ g k,sub = [g,k] ∧ bin op ∧ n = [] ∧ az = [] ∧ g.ok = true ∧ k.ok = true:=by
 simp only [Fm.ok,Bool.and_eq_true,decide_eq_true_eq] at h
 obtain ⟨⟨⟨⟨h1,h2⟩,h3⟩,h4⟩,h5⟩:=h
 match sub,h1,h2,h5 with
 | [],h1,_,_ =>
  have e : op = 1 ∨ op = 2:=by
   unfold arity at h1
   split at h1
   ·assumption
   ·split at h1
    ·cases h1
    ·split at h1 <;> cases h1
  rcases e with rfl | rfl
  ·simp only [if_true,Bool.and_eq_true] at h3
   exact .inl ⟨rfl,rfl,h3.1,h4⟩
  ·rw [if_neg (by decide),if_neg (by decide)] at h3
   simp only [Bool.and_eq_true,List.isEmpty_iff] at h3
   exact .inr (.inl ⟨rfl,rfl,h3.2,h3.1⟩)
 | [g],h1,_,h5 =>
  have e : op = 3 ∨ 8 ≤ op ∧ op ≤ 13:=by
   unfold arity at h1
   split at h1
   ·cases h1
   ·split at h1
    ·assumption
    ·split at h1 <;> cases h1
  rw [if_neg (by omega)] at h3
  simp only [Bool.and_eq_true,List.isEmpty_iff] at h3
  simp only [bW,Bool.and_eq_true] at h5
  refine .inr (.inr (.inl ⟨g,rfl,h3.1,h5.1, ?_⟩))
  by_cases q : op = 8 ∨ op = 9
  ·rw [if_pos q] at h3;exact .inl ⟨q,h3.2⟩
  ·rw [if_neg q] at h3;exact .inr ⟨by omega,List.isEmpty_iff.1 h3.2⟩
 | [g,k],h1,_,h5 =>
  have e : bin op:=by
   unfold arity at h1
   unfold bin
   split at h1
   ·cases h1
   ·split at h1
    ·cases h1
    ·split at h1
     ·omega
     ·cases h1
  have e1 : ¬ op = 1:=by unfold bin at e;omega
  have e2 : ¬ (op = 8 ∨ op = 9):=by unfold bin at e;omega
  rw [if_neg e1,if_neg e2] at h3
  simp only [Bool.and_eq_true,List.isEmpty_iff] at h3
  simp only [bW,Bool.and_eq_true] at h5
  exact .inr (.inr (.inr ⟨g,k,rfl,e,h3.2,h3.1,h5.1,h5.2.1⟩))
 | _ :: _ :: _ :: _,_,h2,_=>simp at h2
def side (op : Int) (i : Bool) (g : Fm) (c : Pr × List (Int × Pr)) : Pr × List (Int × Pr):=if bH op i g.op = true then ((true,g),[]) else c
def Fm.chain : Fm → Pr × List (Int × Pr)
 | .mk op n az [g,h]=>((side op true g g.chain).1,(side op true g g.chain).2 ++ (op,(side op false h h.chain).1) :: (side op false h h.chain).2)
 | f=>((false,f),[])
termination_by f=>sizeOf f
theorem fX (op : Int) (n : Bs) (az : List Tm) (g h : Fm) : (Fm.mk op n az [g,h]).chain = ((side op true g g.chain).1,(side op true g g.chain).2 ++ (op,(side op false h h.chain).1) :: (side op false h h.chain).2):=by rw [Fm.chain]
theorem chain_nil (op : Int) (n : Bs) (az : List Tm) : (Fm.mk op n az []).chain = ((false,.mk op n az []),[]):=by rw [Fm.chain];intros;simp_all
theorem jP (op : Int) (n : Bs) (az : List Tm) (g : Fm) : (Fm.mk op n az [g]).chain = ((false,.mk op n az [g]),[]):=by rw [Fm.chain];intros;simp_all
theorem yE {op : Int} {i : Bool} {g : Fm} (h : g.ft = prTx g.chain.1 ++ fL g.chain.2) : brk (bH op i g.op) g.ft = prTx (side op i g g.chain).1 ++ fL (side op i g g.chain).2:=by
 unfold side
 by_cases q : bH op i g.op = true
 ·rw [if_pos q,q];simp [prTx,fL]
 ·rw [if_neg q,Bool.eq_false_iff.2 q];exact h
theorem lD : ∀ f : Fm,f.ok = true → f.ft = prTx f.chain.1 ++ fL f.chain.2
 | .mk op n az sub,h=>by
  rcases Fm.shape h with ⟨rfl,-⟩ | ⟨rfl,-⟩ | ⟨g,rfl,-⟩ | ⟨g,k,rfl,hb,rfl,rfl,hg,hk⟩
  ·rw [chain_nil];simp [prTx,fL,brk]
  ·rw [chain_nil];simp [prTx,fL,brk]
  ·rw [jP];simp [prTx,fL,brk]
  ·have i1:=yE (op:=op) (i:=true) (lD g hg)
   have i2:=yE (op:=op) (i:=false) (lD k hk)
   rw [fX,Fm.ft]
   simp only [dS,List.map_cons,List.map_nil,ftBy,i1,i2,tP,fL,List.append_assoc]
termination_by f=>sizeOf f
structure PrOk (N : Nat) (p : Pr) : Prop where
 ok : p.2.ok = true
 six : p.1 = false → wStr p.2.op = 6
 le : 2 * p.2.nodes + (if p.1 = true then 1 else 0) ≤ N
theorem PrOk.mono {N M : Nat} {p : Pr} (h : PrOk N p) (l : N ≤ M) : PrOk M p:=⟨h.ok,h.six,Nat.le_trans h.le l⟩
structure ChOk (k N : Nat) (c : Pr × List (Int × Pr)) : Prop where
 p : PrOk N c.1
 l : ∀ x ∈ c.2,bin x.1 ∧ k ≤ wStr x.1 ∧ PrOk N x.2
theorem wStr_bin {op : Int} (h : bin op) : wStr op < 6:=by rcases h with rfl | rfl | rfl | rfl | rfl <;> decide
def strict (op : Int) (i : Bool) : Bool:=i == (decide (op = 6) || decide (op = 14))
theorem weak_no {op o : Int} {i : Bool} (h : ¬ bH op i o = true) : (if strict op i = true then wStr op + 1 else wStr op) ≤ wStr o:=by
 unfold bH at h
 simp only [Bool.or_eq_true,decide_eq_true_eq,Bool.and_eq_true,not_or,not_and] at h
 obtain ⟨h1,h2⟩:=h
 split
 ·next e =>
  have : ¬ wStr o = wStr op:=fun e2=>h2 e2 e
  omega
 ·omega
theorem mA {op : Int} {i : Bool} {g : Fm} (hg : g.ok = true) (h : ChOk (wStr g.op) (2 * g.nodes) g.chain) : ChOk (if strict op i = true then wStr op + 1 else wStr op) (2 * g.nodes + 1) (side op i g g.chain):=by
 unfold side
 by_cases q : bH op i g.op = true
 ·rw [if_pos q]
  exact ⟨⟨hg,fun e=>(by cases e),(by simp)⟩,fun x hx=>by cases hx⟩
 ·rw [if_neg q]
  have w:=weak_no q
  exact ⟨h.p.mono (Nat.le_succ _),fun x hx=>⟨(h.l x hx).1,Nat.le_trans w (h.l x hx).2.1,(h.l x hx).2.2.mono (Nat.le_succ _)⟩⟩
theorem eU : ∀ f : Fm,f.ok = true → ChOk (wStr f.op) (2 * f.nodes) f.chain
 | .mk op n az sub,h=>by
  rcases Fm.shape h with ⟨rfl,rfl,-⟩ | ⟨rfl,rfl,-⟩ | ⟨g,rfl,-,-,e⟩ | ⟨g,k,rfl,hb,rfl,rfl,hg,hk⟩
  ·rw [chain_nil];exact ⟨⟨h,fun _=>rfl,by simp⟩,fun x hx=>by cases hx⟩
  ·rw [chain_nil];exact ⟨⟨h,fun _=>rfl,by simp⟩,fun x hx=>by cases hx⟩
  ·rw [jP]
   refine ⟨⟨h,fun _=>?_,by simp⟩,fun x hx=>by cases hx⟩
   rcases e with ⟨rfl | rfl,-⟩ | ⟨rfl | rfl | rfl | rfl | rfl,-⟩ <;> rfl
  ·have i1:=mA (op:=op) (i:=true) hg (eU g hg)
   have i2:=mA (op:=op) (i:=false) hk (eU k hk)
   have l1 : 2 * g.nodes + 1 ≤ 2 * (Fm.mk op [] [] [g,k]).nodes:=by simp only [Fm.nodes,aD,aF];omega
   have l2 : 2 * k.nodes + 1 ≤ 2 * (Fm.mk op [] [] [g,k]).nodes:=by simp only [Fm.nodes,aD,aF];omega
   have w : ∀ i,wStr op ≤ (if strict op i = true then wStr op + 1 else wStr op):=fun i=>by split <;> omega
   rw [fX]
   refine ⟨i1.p.mono l1,fun x hx=>?_⟩
   rcases List.mem_append.1 hx with hx | hx
   ·exact ⟨(i1.l x hx).1,Nat.le_trans (w _) (i1.l x hx).2.1,(i1.l x hx).2.2.mono l1⟩
   ·rcases List.mem_cons.1 hx with rfl | hx
    ·exact ⟨hb,Nat.le_refl _,i2.p.mono l2⟩
    ·exact ⟨(i2.l x hx).1,Nat.le_trans (w _) (i2.l x hx).2.1,(i2.l x hx).2.2.mono l2⟩
termination_by f=>sizeOf f
theorem lL {α : Type} {P : α → Prop} : ∀ {A A' B B' : List α} {x x' : α},A ++ x :: B = A' ++ x' :: B' → P x → P x' → (∀ y ∈ A,¬ P y) → (∀ y ∈ A',¬ P y) → A = A' ∧ x = x' ∧ B = B'
 | [],[],B,B',x,x',h,_,_,_,_=>⟨rfl,(List.cons.inj h).1,(List.cons.inj h).2⟩
 | [],a :: A',B,B',x,x',h,hx,_,_,hA'=>absurd hx (by rw [(List.cons.inj h).1];exact hA' a (by simp))
 | a :: A,[],B,B',x,x',h,_,hx',hA,_=>absurd hx' (by rw [← (List.cons.inj h).1];exact hA a (by simp))
 | a :: A,a' :: A',B,B',x,x',h,hx,hx',hA,hA'=>by
  obtain ⟨e1,e2⟩:=List.cons.inj h
  obtain ⟨e3,e4,e5⟩:=lL e2 hx hx' (fun y hy=>hA y (by simp [hy])) (fun y hy=>hA' y (by simp [hy]))
  exact ⟨by rw [e1,e3],e4,e5⟩
theorem split_last {α : Type} {P : α → Prop} {A A' B B' : List α} {x x' : α} (h : A ++ x :: B = A' ++ x' :: B') (hx : P x) (hx' : P x') (hB : ∀ y ∈ B,¬ P y) (hB' : ∀ y ∈ B',¬ P y) : A = A' ∧ x = x' ∧ B = B':=by
 have h2:=congrArg List.reverse h
 simp only [List.reverse_append,List.reverse_cons,List.append_assoc,List.singleton_append] at h2
 obtain ⟨e1,e2,e3⟩:=lL h2 hx hx' (fun y hy=>hB y (List.mem_reverse.1 hy)) (fun y hy=>hB' y (List.mem_reverse.1 hy))
 exact ⟨by rw [← List.reverse_reverse A,e3,List.reverse_reverse],e2,by rw [← List.reverse_reverse B,e1,List.reverse_reverse]⟩
theorem bin_inj {a b : Int} (ha : bin a) (hb : bin b) (h : wStr a = wStr b) : a = b:=by
 rcases ha with rfl | rfl | rfl | rfl | rfl <;> rcases hb with rfl | rfl | rfl | rfl | rfl <;> first | rfl | (exact absurd h (by decide))
theorem gE {f : Fm} (hf : f.ok = true) (h : f.chain.2 = []) : f.chain.1 = (false,f):=by
 obtain ⟨op,n,az,sub⟩:=f
 rcases Fm.shape hf with ⟨rfl,-⟩ | ⟨rfl,-⟩ | ⟨g,rfl,-⟩ | ⟨g,k,rfl,-⟩
 ·rw [chain_nil]
 ·rw [chain_nil]
 ·rw [jP]
 ·rw [fX] at h;simp at h
theorem wJ {op : Int} {i : Bool} {g k : Fm} (hg : g.ok = true) (hk : k.ok = true) (ih : g.chain = k.chain → g = k) (h : side op i g g.chain = side op i k k.chain) : g = k:=by
 unfold side at h
 split at h <;> split at h
 ·exact congrArg (fun c=>c.1.2) h
 ·have:=gE hk (congrArg Prod.snd h).symm
  rw [← h] at this
  cases this
 ·have:=gE hg (congrArg Prod.snd h)
  rw [h] at this
  cases this
 ·exact ih h
theorem oE : ∀ f g : Fm,f.ok = true → g.ok = true → f.chain = g.chain → f = g
 | .mk op n az sub,g0,hf,hg,h=>by
  rcases Fm.shape hf with ⟨rfl,-⟩ | ⟨rfl,-⟩ | ⟨g,rfl,-⟩ | ⟨g,k,rfl,hb,rfl,rfl,h1,h2⟩
  ·rw [chain_nil] at h
   have:=gE hg (congrArg Prod.snd h).symm
   rw [← h] at this
   exact congrArg Prod.snd this
  ·rw [chain_nil] at h
   have:=gE hg (congrArg Prod.snd h).symm
   rw [← h] at this
   exact congrArg Prod.snd this
  ·rw [jP] at h
   have:=gE hg (congrArg Prod.snd h).symm
   rw [← h] at this
   exact congrArg Prod.snd this
  ·obtain ⟨op',n',as',sub'⟩:=g0
   rcases Fm.shape hg with ⟨rfl,-⟩ | ⟨rfl,-⟩ | ⟨g',rfl,-⟩ | ⟨g',k',rfl,hb',rfl,rfl,h1',h2'⟩
   ·rw [chain_nil,fX] at h;simp at h
   ·rw [chain_nil,fX] at h;simp at h
   ·rw [jP,fX] at h;simp at h
   ·have c1:=(eU _ hf).l
    have c2:=(eU _ hg).l
    have a1:=mA (op:=op) (i:=true) h1 (eU g h1)
    have a2:=mA (op:=op) (i:=false) h2 (eU k h2)
    have b1:=mA (op:=op') (i:=true) h1' (eU g' h1')
    have b2:=mA (op:=op') (i:=false) h2' (eU k' h2')
    rw [fX] at c1 h
    rw [fX] at c2 h
    obtain ⟨e1,e2⟩:=Prod.mk.inj h
    have m1:=(c2 (op,(side op false k k.chain).1) (by show _ ∈ (side op' true g' g'.chain).2 ++ _;rw [← e2];simp)).2.1
    have m2:=(c1 (op',(side op' false k' k'.chain).1) (by show _ ∈ (side op true g g.chain).2 ++ _;rw [e2];simp)).2.1
    have eo : op = op':=bin_inj hb hb' (Nat.le_antisymm m2 m1)
    subst eo
    have key : (side op true g g.chain).2 = (side op true g' g'.chain).2 ∧ (op,(side op false k k.chain).1) = (op,(side op false k' k'.chain).1) ∧ (side op false k k.chain).2 = (side op false k' k'.chain).2:=by
     by_cases q : strict op true = true
     ·rw [if_pos q] at a1 b1
      exact lL (P:=fun x=>wStr x.1 ≤ wStr op) e2 (Nat.le_refl _) (Nat.le_refl _) (fun y hy=>by have:=(a1.l y hy).2.1;omega) (fun y hy=>by have:=(b1.l y hy).2.1;omega)
     ·have q2 : strict op false = true:=by
       unfold strict at q ⊢
       revert q
       cases (decide (op = 6) || decide (op = 14)) <;> simp
      rw [if_pos q2] at a2 b2
      exact split_last (P:=fun x=>wStr x.1 ≤ wStr op) e2 (Nat.le_refl _) (Nat.le_refl _) (fun y hy=>by have:=(a2.l y hy).2.1;omega) (fun y hy=>by have:=(b2.l y hy).2.1;omega)
    have i1:=wJ h1 h1' (oE g g' h1 h1') (Prod.ext e1 key.1)
    have i2:=wJ h2 h2' (oE k k' h2 h2') (Prod.ext (congrArg Prod.snd key.2.1) key.2.2)
    rw [i1,i2]
termination_by f=>sizeOf f
end Ly
