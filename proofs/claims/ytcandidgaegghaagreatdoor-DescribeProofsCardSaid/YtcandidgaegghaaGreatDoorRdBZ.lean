/- The reader of words: newReader returns a reader at the first word, with its map of first words. Conditions: the list is at most a million words. -/
import Derived.Test.YtcandidgaegghaaGreatDoorCpZ
import Derived.Test.YtcandidgaegghaaGreatDoorRdAZ
import Derived.Laws.EntriesVeiled
set_option maxRecDepth 10000
set_option linter.unusedSimpArgs false
set_option linter.unusedVariables false
namespace Go.Proofs.YtcandidgaegghaaGreatDoor
open Go Go.RowKit Ly
set_option maxHeartbeats 800000
inductive Kd where
 | load
 | mk
 | clo1 (op : Int)
 | clo2 (op : Int) (x : Bs)
 | meth
def kdOf : Nat → Kd
 | 1=>.mk
 | 4=>.clo1 3
 | 7=>.clo1 10
 | 10=>.clo1 11
 | 13=>.clo1 12
 | 16=>.clo1 13
 | 19=>.meth
 | 22=>.clo2 4 wAnd
 | 25=>.clo2 5 wOr
 | 28=>.clo2 6 zG
 | 31=>.clo2 7 wSo
 | 34=>.clo2 14 mK
 | _=>.load
def tab : List (Nat × Nat):=[(0,15),(1,16),(3,17),(4,18),(6,19),(7,20),(9,21),(10,22),(12,23),(13,24),(15,25),(16,26),(18,27),(19,28),(21,29),(22,30),(24,31),(25,32),(27,33),(28,34),(30,35),(31,36),(33,37),(34,38)]
def cW : List Nat:=[2,5,8,11,14,17,20,23,26,29,32,35]
def dN : Nat → Bs
 | 2=>cF
 | 5=>wNot
 | 8=>wNec
 | 11=>wPos
 | 14=>iZ
 | 17=>eO
 | 20=>wFor
 | 23=>nA
 | 26=>hH
 | 29=>wIf
 | 32=>wAs
 | _=>jQ
def LZ : Nat → Operand
 | 2=>.func 192
 | 5=>.tmp 18
 | 8=>.tmp 20
 | 11=>.tmp 22
 | 14=>.tmp 24
 | 17=>.tmp 26
 | 20=>.tmp 28
 | 23=>.tmp 30
 | 26=>.tmp 32
 | 29=>.tmp 34
 | 32=>.tmp 36
 | _=>.tmp 38
def Vl (w : World) (S : Nat) : Kd → Value → Prop
 | .load,v=>v = one S
 | .mk,_=>True
 | .clo1 op,v=>rA w S op v
 | .clo2 op x,v=>rB w S op x v
 | .meth,v=>v = .func (.func 194) #[one S] #[]
def IV (w : World) (S : Nat) (i : Nat) (v : Value) : Prop:=if i = 2 then v = .func (.func 192) #[] #[] else Vl w S (kdOf (i - 1)) v
def IM (w w' : World) : Prop:=∀ (b : Nat) (cs : Array Value) (t : TypeId) (fz : Nat × Nat),w.heap[b]? = some (.cells cs t fz) → w'.heap[b]? = some (.cells cs t fz)
theorem dS {w w' : World} (h : Below w.heap.size w w') : IM w w':=fun b cs t fz hb=>(h.block b (Array.getElem?_eq_some_iff.1 hb).1).trans hb
theorem Vl.keep {w w' : World} (k : IM w w') {S : Nat} {kd : Kd} {v : Value} (h : Vl w S kd v) : Vl w' S kd v:=by
 cases kd with
 | load=>exact h
 | mk=>exact h
 | clo1 op=>obtain ⟨b1,b2,e,h1,h2⟩:=h;exact ⟨b1,b2,e,k _ _ _ _ h1,k _ _ _ _ h2⟩
 | clo2 op x=>obtain ⟨b1,b2,b3,e,h1,h2,h3⟩:=h;exact ⟨b1,b2,b3,e,k _ _ _ _ h1,k _ _ _ _ h2,k _ _ _ _ h3⟩
 | meth=>exact h
theorem IV.keep {w w' : World} (k : IM w w') {S i : Nat} {v : Value} (h : IV w S i v) : IV w' S i v:=by
 unfold IV at *
 split
 ·rename_i e;rw [if_pos e] at h;exact h
 ·rename_i e;rw [if_neg e] at h;exact h.keep k
structure MH (W0 w : World) (S : Nat) (fuel : Nat) (listed : Array Bool) (M n : Nat) (T : Bs → Value) : Prop where
 own : W0.heap.size ≤ M
 is : gI w M n T
 room : n + fuel ≤ 40
 ins : ∀ i ∈ cW,listed.getD i false = true → IV w S i (T (dN i))
 none : ∀ s,(∀ i ∈ cW,s ≠ dN i) → T s = .nilFunc
structure St (W0 : World) (S R : Nat) (a0 : Act) (fuel : Nat) (listed : Array Bool) (a : Act) (w : World) : Prop where
 size : listed.size = 40
 tsz : a.tmps.size = 43
 same : ∀ d,d < 15 → a.tmps.getD d undef = a0.tmps.getD d undef
 dfr : a.defers = a0.defers
 t4 : a0.tmps.getD 4 undef = one R
 cell : w.heap[R]? = some (.cells #[one S] 153 (0,0))
 grew : Below W0.heap.size W0 w
 vals : ∀ p ∈ tab,listed.getD p.1 false = true → Vl w S (kdOf p.1) (a.tmps.getD p.2 undef)
 map : listed.getD 1 false = true → ∃ M n T,a.tmps.getD 16 undef = .map (some M) ∧ MH W0 w S fuel listed M n T
 mv : listed.getD 36 false = true → a.tmps.getD 39 undef = a.tmps.getD 16 undef
 all36 : listed.getD 36 false = true → ∀ j,1 ≤ j → j < 36 → listed.getD j false = true
theorem dP {a : Act} {d t : Nat} {v : Value} (hd : d < a.tmps.size) : (a.put (some d) v).tmps.getD t undef = if t = d then v else a.tmps.getD t undef:=by
 simp only [Act.put,Array.getD_eq_getD_getElem?,Array.getElem?_setIfInBounds]
 by_cases h : t = d
 ·subst h;simp [hd]
 ·have h' : ¬ d = t:=fun e=>h e.symm
  simp [h,h']
theorem bL {listed : Array Bool} (hs : listed.size = 40) {i j : Nat} (hi : i < 40) : (listed.setIfInBounds i true).getD j false = if j = i then true else listed.getD j false:=by
 simp only [Array.getD_eq_getD_getElem?,Array.getElem?_setIfInBounds]
 by_cases h : j = i
 ·subst h;simp [hs,hi]
 ·have h' : ¬ i = j:=fun e=>h e.symm
  simp [h,h']
theorem CG : ∀ p ∈ tab,∀ q ∈ tab,(p.1 = q.1 ↔ p.2 = q.2):=by decide
theorem CH : ∀ p ∈ tab,p.1 < 36 ∧ 15 ≤ p.2 ∧ p.2 < 39 ∧ p.1 ∉ cW ∧ (p.2 = 16 ↔ p.1 = 1):=by decide
theorem pY : ∀ i ∈ cW,i < 36 ∧ i ≠ 1 ∧ ∀ p ∈ tab,p.1 ≠ i:=by decide
theorem key_inj : ∀ i ∈ cW,∀ j ∈ cW,dN i = dN j → i = j:=by decide
theorem St.value {W0 : World} {S R : Nat} {a0 : Act} {fuel : Nat} {listed : Array Bool} {a : Act} {w w' : World} (h : St W0 S R a0 (fuel + 1) listed a w) {i d : Nat} (hp : (i,d) ∈ tab) (h1 : i ≠ 1)
  {v : Value} (hv : Vl w' S (kdOf i) v) (hb : Below w.heap.size w w') : St W0 S R a0 fuel (listed.setIfInBounds i true) (a.put (some d) v) w':=by
 have hs:=CH _ hp
 simp only at hs
 have hd : d < a.tmps.size:=by rw [h.tsz];omega
 have hi : i < 40:=by omega
 have k:=dS hb
 refine ⟨by simp [h.size],by simp [Act.put,h.tsz],fun t ht=>?_,h.dfr,h.t4,k _ _ _ _ h.cell,h.grew.trans (hb.mono h.grew.size),fun p hp' hl=>?_,fun hl=>?_,fun hl=>?_,fun hl=>?_⟩
 ·rw [dP hd,if_neg (by omega)];exact h.same t ht
 ·rw [bL h.size hi] at hl
  rw [dP hd]
  have f:=CG _ hp' _ hp
  simp only at f
  by_cases e : p.1 = i
  ·rw [if_pos (f.1 e),e];exact hv
  ·rw [if_neg (fun e2=>e (f.2 e2))]
   rw [if_neg e] at hl
   exact (h.vals p hp' hl).keep k
 ·rw [bL h.size hi,if_neg (Ne.symm h1)] at hl
  obtain ⟨M,n,T,e,m⟩:=h.map hl
  refine ⟨M,n,T,by rw [dP hd,if_neg (fun e2=>h1 (hs.2.2.2.2.1 e2.symm))];exact e,m.own,m.is.grown (row:=none) ⟨hb.os,hb.tape,hb.output,hb.size,fun k hk _=>hb.block k hk⟩ (by simp),by have:=m.room;omega,fun j hj hl2=>?_,m.none⟩
  rw [bL h.size hi,if_neg (fun e2=>hs.2.2.2.1 (by rw [← e2];exact hj))] at hl2
  exact (m.ins j hj hl2).keep k
 ·rw [bL h.size hi,if_neg (by omega)] at hl
  rw [dP hd,if_neg (by omega),dP hd,if_neg (fun e2=>h1 (hs.2.2.2.2.1 e2.symm))];exact h.mv hl
 ·rw [bL h.size hi,if_neg (by omega)] at hl
  intro j hj1 hj2
  rw [bL h.size hi]
  split
  ·rfl
  ·exact h.all36 hl j hj1 hj2
theorem St.made {W0 : World} {S R : Nat} {a0 : Act} {fuel : Nat} {listed : Array Bool} {a : Act} {w : World} (h : St W0 S R a0 (fuel + 1) listed a w) (hf : fuel ≤ 40) (hl : ∀ i ∈ cW,listed.getD i false = true → listed.getD 1 false = true) (h0 : listed.getD 1 false = false) :
  St W0 S R a0 fuel (listed.setIfInBounds 1 true) (a.put (some 16) (.map (some w.heap.size))) (w.alloc (.map #[] 0)):=by
 have hb : Below w.heap.size w (w.alloc (.map #[] 0)):=bnew
 have hd : 16 < a.tmps.size:=by rw [h.tsz];omega
 have k:=dS hb
 refine ⟨by simp [h.size],by simp [Act.put,h.tsz],fun t ht=>?_,h.dfr,h.t4,k _ _ _ _ h.cell,h.grew.trans (hb.mono h.grew.size),fun p hp' hl'=>?_,fun _=>?_,fun hl'=>?_,fun _=>?_⟩
 ·rw [dP hd,if_neg (by omega)];exact h.same t ht
 ·rw [bL h.size (by omega)] at hl'
  rw [dP hd]
  have f:=CG _ hp' (1,16) (by decide)
  simp only at f
  by_cases e : p.1 = 1
  ·rw [e];trivial
  ·rw [if_neg (fun e2=>e (f.2 e2))]
   rw [if_neg e] at hl'
   exact (h.vals p hp' hl').keep k
 ·refine ⟨w.heap.size,0,fun _=>.nilFunc,by rw [dP hd,if_pos rfl],h.grew.size,gI.made w,by omega,fun i hi hl2=>?_,fun _ _=>rfl⟩
  rw [bL h.size (by omega),if_neg (pY i hi).2.1] at hl2
  rw [hl i hi hl2] at h0;cases h0
 ·rw [bL h.size (by omega),if_neg (by decide)] at hl'
  rw [h.all36 hl' 1 (by decide) (by decide)] at h0;cases h0
 ·rename_i hl'
  rw [bL h.size (by omega),if_neg (by decide)] at hl'
  rw [h.all36 hl' 1 (by decide) (by decide)] at h0;cases h0
theorem St.insert {W0 : World} {S R : Nat} {a0 : Act} {fuel : Nat} {listed : Array Bool} {a : Act} {w w' : World} (h : St W0 S R a0 (fuel + 1) listed a w) {i : Nat} (hi : i ∈ cW) {M n : Nat} {T : Bs → Value} {v : Value}
  (e16 : a.tmps.getD 16 undef = .map (some M)) (m : MH W0 w S (fuel + 1) listed M n T) (hv : IV w S i v) (hM : gI w' M (n + 1) (fun t=>if t = dN i then v else T t)) (hg : w.grownBy w' (some M)) :
  St W0 S R a0 fuel (listed.setIfInBounds i true) a w':=by
 have hs:=pY i hi
 have hmap : ∃ es clk,w.heap[M]? = some (.map es clk):=by
  obtain ⟨D,⟨es,clk,hb,_⟩,_⟩:=m.is
  exact ⟨es,clk,hb⟩
 have k : IM w w':=fun b cs t fz hb=>by
  refine (hg.block b (Array.getElem?_eq_some_iff.1 hb).1 (fun e=>?_)).trans hb
  cases e
  obtain ⟨es,clk,hm⟩:=hmap
  rw [hm] at hb;cases hb
 refine ⟨by simp [h.size],h.tsz,h.same,h.dfr,h.t4,k _ _ _ _ h.cell, ?_,fun p hp' hl=>?_,fun _=>?_,fun hl=>?_,fun hl=>?_⟩
 ·exact ⟨hg.os.trans h.grew.os,hg.tape.trans h.grew.tape,hg.output.trans h.grew.output,Nat.le_trans h.grew.size hg.size,fun b hb=>(hg.block b (Nat.lt_of_lt_of_le hb h.grew.size) (fun e=>by cases e;have:=m.own;omega)).trans (h.grew.block b hb)⟩
 ·rw [bL h.size (by omega),if_neg (hs.2.2 p hp')] at hl
  exact (h.vals p hp' hl).keep k
 ·refine ⟨M,n + 1,_,e16,m.own,hM,by have:=m.room;omega,fun j hj hl=>?_,fun s hs'=>?_⟩
  ·by_cases e : j = i
   ·subst e;simp only [if_pos rfl];exact hv.keep k
   ·rw [bL h.size (by omega),if_neg e] at hl
    have : dN j ≠ dN i:=fun e2=>e (key_inj j hj i hi e2)
    simp only [if_neg this]
    exact (m.ins j hj hl).keep k
  ·simp only [if_neg (hs' i hi)]
   exact m.none s hs'
 ·rw [bL h.size (by omega),if_neg (by omega)] at hl
  exact h.mv hl
 ·rw [bL h.size (by omega),if_neg (by omega)] at hl
  intro j hj1 hj2
  rw [bL h.size (by omega)]
  split
  ·rfl
  ·exact h.all36 hl j hj1 hj2
theorem St.moved {W0 : World} {S R : Nat} {a0 : Act} {fuel : Nat} {listed : Array Bool} {a : Act} {w : World} (h : St W0 S R a0 (fuel + 1) listed a w) (la : ∀ j,1 ≤ j → j < 36 → listed.getD j false = true) :
  St W0 S R a0 fuel (listed.setIfInBounds 36 true) (a.put (some 39) (a.tmps.getD 16 undef)) w:=by
 have hd : 39 < a.tmps.size:=by rw [h.tsz];omega
 refine ⟨by simp [h.size],by simp [Act.put,h.tsz],fun t ht=>?_,h.dfr,h.t4,h.cell,h.grew,fun p hp' hl=>?_,fun hl=>?_,fun _=>?_,fun _=>?_⟩
 ·rw [dP hd,if_neg (by omega)];exact h.same t ht
 ·have f:=CH _ hp'
  rw [bL h.size (by omega),if_neg (by omega)] at hl
  rw [dP hd,if_neg (by omega)]
  exact h.vals p hp' hl
 ·obtain ⟨M,n,T,e,m⟩:=h.map (la 1 (by decide) (by decide))
  refine ⟨M,n,T,by rw [dP hd,if_neg (by decide)];exact e,m.own,m.is,by have:=m.room;omega,fun j hj hl2=>?_,m.none⟩
  rw [bL h.size (by omega),if_neg (by have:=pY j hj;omega)] at hl2
  exact m.ins j hj hl2
 ·rw [dP hd,if_pos rfl,dP hd,if_neg (by decide)]
 ·intro j hj1 hj2
  rw [bL h.size (by omega),if_neg (by omega)];exact la j hj1 hj2
open Go Go.RowKit Ly
set_option maxHeartbeats 800000
def zT (t : Nat) (z : Int) : Op:=.call { callee:=.value (.func 193),args:=#[.tmp t,.const (.int .u8 z)],argTypes:=#[153,5] }
def zU (t : Nat) (z : Int) (x : Bs) : Op:=.call { callee:=.value (.func 195),args:=#[.tmp t,.const (.int .u8 z),.const (.string ⟨x.toArray⟩)],argTypes:=#[153,5,9] }
def opAt : Nat → Op
 | 1=>.makeMap 159 none
 | 4=>zT 17 3
 | 7=>zT 19 10
 | 10=>zT 21 11
 | 13=>zT 23 12
 | 16=>zT 25 13
 | 19=>.makeFunc (.func 194) #[.tmp 27] #[]
 | 22=>zU 29 4 wAnd
 | 25=>zU 31 5 wOr
 | 28=>zU 33 6 zG
 | 31=>zU 35 7 wSo
 | 34=>zU 37 14 mK
 | _=>.load 153 (.tmp 4)
def deps : List (Nat × Nat):=[(2,1),(5,1),(8,1),(11,1),(14,1),(17,1),(20,1),(23,1),(26,1),(29,1),(32,1),(35,1),(4,3),(5,4),(7,6),(8,7),(10,9),(11,10),(13,12),(14,13),(16,15),(17,16),(19,18),(20,19),(22,21),(23,22),(25,24),(26,25),(28,27),(29,28),(31,30),(32,31),(34,33),(35,34),(37,36),(37,0),(38,37),(39,38)]
def Dep (ops : Array Oper) (i j : Nat) : Prop:=∃ o,ops[i]? = some o ∧ ∃ e ∈ o.after,Region.binds .any e = true ∧ e.on = j
structure zI (ops : Array Oper) : Prop where
 size : ops.size = 40
 val : ∀ p ∈ tab,∃ o,ops[p.1]? = some o ∧ o.guard = none ∧ o.dst = some p.2 ∧ o.op = opAt p.1
 ins : ∀ i ∈ cW,∃ o,ops[i]? = some o ∧ o.guard = none ∧ o.dst = none ∧ o.op = Op.insert 159 (.tmp 16) (.const (.string ⟨(dN i).toArray⟩)) (LZ i)
 after : ∀ (i : Nat) (o : Oper),ops[i]? = some o → ∀ e ∈ o.after,e.on < i
 dep : ∀ q ∈ deps,Dep ops q.1 q.2
 dep36 : ∀ j,1 ≤ j → j < 36 → Dep ops 36 j
 t36 : ∃ o,ops[36]? = some o ∧ o.guard = none ∧ o.dst = some 39 ∧ o.op = .move (.tmp 16)
 t37 : ∃ o,ops[37]? = some o ∧ o.guard = none ∧ o.dst = some 40 ∧ o.op = .nilCheck (.tmp 15)
 t38 : ∃ o,ops[38]? = some o ∧ o.guard = none ∧ o.dst = some 41 ∧ o.op = .fieldAddr 161 (.tmp 40) 3
 t39 : ∃ o,ops[39]? = some o ∧ o.guard = none ∧ o.dst = none ∧ o.op = .store 159 (.tmp 41) (.tmp 39)
variable {ops : Array Oper}
theorem bM {listed : Array Bool} {i j : Nat} (hd : Dep ops i j) (hi : i ∈ Region.ready .any ops listed) : listed.getD j false = true:=by
 obtain ⟨o,ho,e,he,hb,rfl⟩:=hd
 obtain ⟨_,o',ho',h⟩:=mem_ready.1 hi
 rw [ho] at ho';cases ho'
 exact h e he hb
theorem GB {listed : Array Bool} (ok : zI ops) (hs : listed.size = 40) {i : Nat} (hi : i < 40) (h0 : listed.getD i false = false) (hl : ∀ j < i,listed.getD j false = true) : i ∈ Region.ready .any ops listed:=by
 have hi' : i < ops.size:=by rw [ok.size];exact hi
 refine mem_ready.2 ⟨?_,ops[i],Array.getElem?_eq_getElem hi',fun e he _=>hl _ (ok.after i _ (Array.getElem?_eq_getElem hi') e he)⟩
 have : i < listed.size:=by rw [hs];exact hi
 simp only [Array.getD_eq_getD_getElem?,Array.getElem?_eq_getElem this] at h0 ⊢
 exact h0
theorem gG {listed : Array Bool} (hs : listed.size = 40) {i : Nat} (hi : i ∈ Region.ready .any ops listed) : i < 40 ∧ listed.getD i false = false:=by
 have h:=(mem_ready.1 hi).1
 by_cases hlt : i < listed.size
 ·refine ⟨by omega, ?_⟩
  simp only [Array.getD_eq_getD_getElem?,Array.getElem?_eq_getElem hlt] at h ⊢
  exact h
 ·simp [Array.getD_eq_getD_getElem?,Array.getElem?_eq_none (by omega : listed.size ≤ i)] at h
theorem exists_least {listed : Array Bool} {n : Nat} (h : ∃ i < n,listed.getD i false = false) : ∃ i < n,listed.getD i false = false ∧ ∀ j < i,listed.getD j false = true:=by
 induction n with
 | zero=>obtain ⟨i,hi,_⟩:=h;omega
 | succ n ih =>
  by_cases h2 : ∃ i < n,listed.getD i false = false
  ·obtain ⟨i,hi,a,b⟩:=ih h2
   exact ⟨i,by omega,a,b⟩
  ·obtain ⟨i,hi,a⟩:=h
   have : i = n:=by
    rcases Nat.lt_or_ge i n with h3 | h3
    ·exact absurd ⟨i,h3,a⟩ h2
    ·omega
   subst this
   refine ⟨i,hi,a,fun j hj=>?_⟩
   cases e : listed.getD j false with
   | true=>rfl
   | false=>exact absurd ⟨j,hj,e⟩ h2
def oT (listed : Array Bool) : Nat:=((List.range 37).filter fun i=>!listed.getD i false).length
theorem left37_set {listed : Array Bool} (hs : listed.size = 40) {i : Nat} (hi : i < 37) (h0 : listed.getD i false = false) : oT (listed.setIfInBounds i true) + 1 = oT listed:=by
 unfold oT
 have key : ∀ n,i < n → n ≤ 37 → ((List.range n).filter fun j=>!(listed.setIfInBounds i true).getD j false).length + 1 = ((List.range n).filter fun j=>!listed.getD j false).length:=by
  intro n
  induction n with
  | zero=>intro h _;omega
  | succ n ih =>
   intro h hn
   rw [List.range_succ,List.filter_append,List.filter_append,List.length_append,List.length_append]
   by_cases e : i = n
   ·subst e
    have same : (List.range i).filter (fun j=>!(listed.setIfInBounds i true).getD j false) = (List.range i).filter (fun j=>!listed.getD j false):=by
     refine List.filter_congr fun j hj=>?_
     rw [bL hs (by omega),if_neg (by have:=List.mem_range.1 hj;omega)]
    rw [same]
    have a1 : (listed.setIfInBounds i true).getD i false = true:=by rw [bL hs (by omega),if_pos rfl]
    simp only [List.filter_cons,List.filter_nil,a1,h0,Bool.not_true,Bool.not_false,Bool.false_eq_true,if_false,if_true,List.length_nil,List.length_cons]
   ·have:=ih (by omega) (by omega)
    have a1 : (listed.setIfInBounds i true).getD n false = listed.getD n false:=by rw [bL hs (by omega),if_neg (Ne.symm e)]
    simp only [List.filter_cons,List.filter_nil,a1]
    omega
 exact key 37 hi (Nat.le_refl _)
theorem left37_zero {listed : Array Bool} (h : oT listed = 0) : ∀ i < 37,listed.getD i false = true:=by
 intro i hi
 unfold oT at h
 have:=List.length_eq_zero_iff.1 h
 rw [List.filter_eq_nil_iff] at this
 have h2:=this i (List.mem_range.2 hi)
 simpa using h2
theorem left37_pos {listed : Array Bool} (h : oT listed ≠ 0) : ∃ i < 37,listed.getD i false = false:=by
 unfold oT at h
 have hne : (List.range 37).filter (fun i=>!listed.getD i false) ≠ []:=fun e=>h (by rw [e];rfl)
 obtain ⟨i,hi⟩:=List.exists_mem_of_ne_nil _ hne
 have:=List.mem_filter.1 hi
 exact ⟨i,List.mem_range.1 this.1,by simpa using this.2⟩
theorem wp_move16 {Q : Exit → Act → World → Prop} {K : Act → World → Prop} {a : Act} {w : World} {o : Oper} (hop : o.op = .move (.tmp 16)) {v : Value} (h : a.tmps.getD 16 undef = v) (hK : K (a.put o.dst v) w) : o.wp Tryz.prog a w K Q:=by
 have e : a.eval (.tmp 16) = v:=h
 unfold Oper.wp
 simp only [execOp,hop,e]
 go_simp
 exact hK
theorem tab_all : ∀ i < 36,i ∈ cW ∨ ∃ p ∈ tab,p.1 = i:=by decide
theorem mapIs_mono {w : World} {M n m : Nat} {T : Bs → Value} (h : gI w M n T) (hn : n ≤ m) : gI w M m T:=by
 obtain ⟨D,h1,h2⟩:=h
 exact ⟨D,h1.mono hn,h2⟩
theorem oJ {Q : Exit → Act → World → Prop} {K : Act → World → Prop} {a : Act} {w : World} {o : Oper} {t : Nat} {z : Int} (hop : o.op = zT t z) {S : Nat} (ht : a.tmps.getD t undef = one S)
  (hK : ∀ v w',rA w' S z v → Below w.heap.size w w' → K (a.put o.dst v) w') : o.wp Tryz.prog a w K Q:=wp_call1 hop ht hK
theorem oK {Q : Exit → Act → World → Prop} {K : Act → World → Prop} {a : Act} {w : World} {o : Oper} {t : Nat} {z : Int} {x : Bs} (hop : o.op = zU t z x) {S : Nat} (ht : a.tmps.getD t undef = one S)
  (hK : ∀ v w',rB w' S z x v → Below w.heap.size w w' → K (a.put o.dst v) w') : o.wp Tryz.prog a w K Q:=wp_call2 hop ht hK
theorem FA : ∀ i ∈ cW,(i,1) ∈ deps:=by decide
theorem ins_dep2 : ∀ i ∈ cW,i ≠ 2 → (i,i - 1) ∈ deps:=by decide
theorem key_len : ∀ i ∈ cW,(dN i).length ≤ 100:=by decide
theorem ins_src : ∀ i ∈ cW,i ≠ 2 → ∃ d,(i - 1,d) ∈ tab ∧ LZ i = .tmp d:=by
 intro i hi h2
 simp only [cW,List.mem_cons,List.mem_nil_iff,or_false] at hi
 rcases hi with rfl | rfl | rfl | rfl | rfl | rfl | rfl | rfl | rfl | rfl | rfl | rfl
 ·exact absurd rfl h2
 all_goals exact ⟨_,by decide,rfl⟩
theorem St.step {Q : Exit → Act → World → Prop} {K : Act → World → Prop} (ok : zI ops) {W0 : World} {S R : Nat} {a0 : Act} {fuel : Nat} {listed : Array Bool} {a : Act} {w : World} (h : St W0 S R a0 (fuel + 1) listed a w) (hf : fuel ≤ 40)
  (hl1 : ∀ i ∈ cW,listed.getD i false = true → listed.getD 1 false = true) {i : Nat} (hi : i ∈ Region.ready .any ops listed) (h36 : i < 37)
  (hK : ∀ a' w',St W0 S R a0 fuel (listed.setIfInBounds i true) a' w' → K a' w') : wpOp Tryz.prog ops Q i K a w:=by
 have un:=gG h.size hi
 by_cases e36 : i = 36
 ·subst e36
  obtain ⟨o,ho,hg,hd,hop⟩:=ok.t36
  refine qG ho hg (wp_move16 hop rfl ?_)
  rw [hd]
  exact hK _ _ (h.moved fun j h1 h2=>bM (ok.dep36 j h1 h2) hi)
 rcases tab_all i (by omega) with hin | ⟨p,hp,rfl⟩
 ·obtain ⟨o,ho,hg,hd,hop⟩:=ok.ins i hin
  refine qG ho hg ?_
  have l1 : listed.getD 1 false = true:=by
   exact bM (ok.dep (i,1) (FA i hin)) hi
  obtain ⟨M,n,T,e16,m⟩:=h.map l1
  have hv : IV w S i (a.eval (LZ i)):=by
   unfold IV
   by_cases e2 : i = 2
   ·subst e2;rw [if_pos rfl];rfl
   ·rw [if_neg e2]
    have l2 : listed.getD (i - 1) false = true:=by
     exact bM (ok.dep (i,i - 1) (ins_dep2 i hin e2)) hi
    obtain ⟨d,hq1,hq2⟩:=ins_src i hin e2
    rw [hq2]
    exact h.vals _ hq1 l2
  refine wp_insert hop hd e16 m.is (by have:=m.room;omega) (key_len i hin) fun w' hM hg'=>hK _ _ (h.insert hin e16 m hv hM hg')
 ·obtain ⟨o,ho,hg,hd,hop⟩:=ok.val p hp
  refine qG ho hg ?_
  have e4 : a.tmps.getD 4 undef = one R:=(h.same 4 (by decide)).trans h.t4
  have c4 : w.cell? ⟨R,0,none⟩ = some (one S):=cell_of_one h.cell
  have hp0:=hp
  simp only [tab,List.mem_cons,List.mem_nil_iff,or_false] at hp
  rcases hp with rfl | rfl | rfl | rfl | rfl | rfl | rfl | rfl | rfl | rfl | rfl | rfl | rfl | rfl | rfl | rfl | rfl | rfl | rfl | rfl | rfl | rfl | rfl | rfl
  ·exact dU hop e4 c4 (by rw [hd];exact hK _ _ (h.value hp0 (by decide) rfl (Below.refl _ _)))
  ·exact wp_mkmap hop (by rw [hd];exact hK _ _ (h.made hf hl1 un.2))
  ·exact dU hop e4 c4 (by rw [hd];exact hK _ _ (h.value hp0 (by decide) rfl (Below.refl _ _)))
  ·exact oJ hop (h.vals (3,17) (by decide) (bM (ok.dep (4,3) (by decide)) hi)) fun v w' hv hb=>by rw [hd];exact hK _ _ (h.value hp0 (by decide) hv hb)
  ·exact dU hop e4 c4 (by rw [hd];exact hK _ _ (h.value hp0 (by decide) rfl (Below.refl _ _)))
  ·exact oJ hop (h.vals (6,19) (by decide) (bM (ok.dep (7,6) (by decide)) hi)) fun v w' hv hb=>by rw [hd];exact hK _ _ (h.value hp0 (by decide) hv hb)
  ·exact dU hop e4 c4 (by rw [hd];exact hK _ _ (h.value hp0 (by decide) rfl (Below.refl _ _)))
  ·exact oJ hop (h.vals (9,21) (by decide) (bM (ok.dep (10,9) (by decide)) hi)) fun v w' hv hb=>by rw [hd];exact hK _ _ (h.value hp0 (by decide) hv hb)
  ·exact dU hop e4 c4 (by rw [hd];exact hK _ _ (h.value hp0 (by decide) rfl (Below.refl _ _)))
  ·exact oJ hop (h.vals (12,23) (by decide) (bM (ok.dep (13,12) (by decide)) hi)) fun v w' hv hb=>by rw [hd];exact hK _ _ (h.value hp0 (by decide) hv hb)
  ·exact dU hop e4 c4 (by rw [hd];exact hK _ _ (h.value hp0 (by decide) rfl (Below.refl _ _)))
  ·exact oJ hop (h.vals (15,25) (by decide) (bM (ok.dep (16,15) (by decide)) hi)) fun v w' hv hb=>by rw [hd];exact hK _ _ (h.value hp0 (by decide) hv hb)
  ·exact dU hop e4 c4 (by rw [hd];exact hK _ _ (h.value hp0 (by decide) rfl (Below.refl _ _)))
  ·exact wp_mkfunc hop (h.vals (18,27) (by decide) (bM (ok.dep (19,18) (by decide)) hi)) (by rw [hd];exact hK _ _ (h.value hp0 (by decide) rfl (Below.refl _ _)))
  ·exact dU hop e4 c4 (by rw [hd];exact hK _ _ (h.value hp0 (by decide) rfl (Below.refl _ _)))
  ·exact oK hop (h.vals (21,29) (by decide) (bM (ok.dep (22,21) (by decide)) hi)) fun v w' hv hb=>by rw [hd];exact hK _ _ (h.value hp0 (by decide) hv hb)
  ·exact dU hop e4 c4 (by rw [hd];exact hK _ _ (h.value hp0 (by decide) rfl (Below.refl _ _)))
  ·exact oK hop (h.vals (24,31) (by decide) (bM (ok.dep (25,24) (by decide)) hi)) fun v w' hv hb=>by rw [hd];exact hK _ _ (h.value hp0 (by decide) hv hb)
  ·exact dU hop e4 c4 (by rw [hd];exact hK _ _ (h.value hp0 (by decide) rfl (Below.refl _ _)))
  ·exact oK hop (h.vals (27,33) (by decide) (bM (ok.dep (28,27) (by decide)) hi)) fun v w' hv hb=>by rw [hd];exact hK _ _ (h.value hp0 (by decide) hv hb)
  ·exact dU hop e4 c4 (by rw [hd];exact hK _ _ (h.value hp0 (by decide) rfl (Below.refl _ _)))
  ·exact oK hop (h.vals (30,35) (by decide) (bM (ok.dep (31,30) (by decide)) hi)) fun v w' hv hb=>by rw [hd];exact hK _ _ (h.value hp0 (by decide) hv hb)
  ·exact dU hop e4 c4 (by rw [hd];exact hK _ _ (h.value hp0 (by decide) rfl (Below.refl _ _)))
  ·exact oK hop (h.vals (33,37) (by decide) (bM (ok.dep (34,33) (by decide)) hi)) fun v w' hv hb=>by rw [hd];exact hK _ _ (h.value hp0 (by decide) hv hb)
open Go Go.RowKit Ly
set_option maxHeartbeats 800000
variable {ops : Array Oper}
theorem rQ {listed : Array Bool} (ok : zI ops) (hs : listed.size = 40) {k : Nat} (hk : 37 ≤ k) (hk2 : k < 40) (hno : ∀ j,k ≤ j → j < 40 → listed.getD j false = false) (hall : ∀ j < k,listed.getD j false = true) :
  (∀ i ∈ Region.ready .any ops listed,i = k) ∧ Region.ready .any ops listed ≠ []:=by
 refine ⟨fun i hi=>?_,fun e=>?_⟩
 ·have un:=gG hs hi
  rcases Nat.lt_trichotomy i k with h | h | h
  ·rw [hall i h] at un;cases un.2
  ·exact h
  ·have hd : (i,i - 1) ∈ deps:=by
    rcases (show i = 38 ∨ i = 39 by omega) with rfl | rfl <;> decide
   have:=bM (ok.dep (i,i - 1) hd) hi
   simp only at this
   rw [hno (i - 1) (by omega) (by omega)] at this;cases this
 ·have:=GB ok hs hk2 (hno k (Nat.le_refl _) hk2) hall
  rw [e] at this;cases this
structure Made (W0 : World) (S : Nat) (a0 a : Act) (w : World) : Prop where
 tsz : a.tmps.size = 43
 same : ∀ d,d < 15 → a.tmps.getD d undef = a0.tmps.getD d undef
 dfr : a.defers = a0.defers
 world : ∃ w1 M T,w = w1.setCell ⟨S,3,none⟩ (.map (some M)) ∧ Below W0.heap.size W0 w1 ∧ W0.heap.size ≤ M ∧ gI w1 M 37 T ∧ (∀ i ∈ cW,IV w1 S i (T (dN i))) ∧ ∀ s,(∀ i ∈ cW,s ≠ dN i) → T s = .nilFunc
section
variable {Q : Exit → Act → World → Prop} {K : Act → World → Prop} {a : Act} {w : World} {o : Oper}
theorem wp_nilc (hop : o.op = .nilCheck (.tmp 15)) {S : Nat} (h : a.tmps.getD 15 undef = one S) (hK : K (a.put o.dst (one S)) w) : o.wp Tryz.prog a w K Q:=by
 have e : a.eval (.tmp 15) = one S:=h
 unfold Oper.wp
 simp only [execOp,hop,e]
 go_simp
 exact hK
theorem wp_faddr (hop : o.op = .fieldAddr 161 (.tmp 40) 3) {S : Nat} (h : a.tmps.getD 40 undef = one S) (hK : K (a.put o.dst (.pointer (some ⟨S,3,none⟩))) w) : o.wp Tryz.prog a w K Q:=by
 have e : a.eval (.tmp 40) = one S:=h
 unfold Oper.wp
 simp only [execOp,hop,e]
 go_simp
 exact hK
theorem wp_store3 (hop : o.op = .store 159 (.tmp 41) (.tmp 39)) (hd : o.dst = none) {S M : Nat} (h : a.tmps.getD 41 undef = .pointer (some ⟨S,3,none⟩)) (h2 : a.tmps.getD 39 undef = .map (some M)) {v0 : Value} (hc : w.cell? ⟨S,3,none⟩ = some v0) (hf : w.frozen? ⟨S,3,none⟩ = false)
  (hK : K a (w.setCell ⟨S,3,none⟩ (.map (some M)))) : o.wp Tryz.prog a w K Q:=by
 have e : a.eval (.tmp 41) = .pointer (some ⟨S,3,none⟩):=h
 have e2 : a.eval (.tmp 39) = .map (some M):=h2
 unfold Oper.wp
 simp only [execOp,hop,e,e2]
 go_simp
 exact hK
end
theorem reader_tail {Q : Exit → Act → World → Prop} (ok : zI ops) {W0 : World} {S R : Nat} {a0 : Act} {listed : Array Bool} {a : Act} {w : World} (h : St W0 S R a0 3 listed a w) (hall : ∀ j < 37,listed.getD j false = true) (hno : ∀ j,37 ≤ j → j < 40 → listed.getD j false = false)
  {v0 : Value} (hc : W0.cell? ⟨S,3,none⟩ = some v0) (hf : W0.frozen? ⟨S,3,none⟩ = false) (hend : ∀ a' w',Made W0 S a0 a' w' → Q .normal a' w') : wpAny Tryz.prog .any ops Q 3 listed a w:=by
 obtain ⟨M,n,T,e16,m⟩:=h.map (hall 1 (by decide))
 have e39 : a.tmps.getD 39 undef = .map (some M):=(h.mv (hall 36 (by decide))).trans e16
 have e15 : a.tmps.getD 15 undef = one S:=h.vals (0,15) (by decide) (hall 0 (by decide))
 have hS:=World.block_lt_of_cell? W0 _ hc
 have hcw : w.cell? ⟨S,3,none⟩ = some v0:=(h.grew.cell (p:=⟨S,3,none⟩) hS).trans hc
 have hfw : w.frozen? ⟨S,3,none⟩ = false:=(h.grew.frozen (p:=⟨S,3,none⟩) hS).trans hf
 have s0:=h.size
 have set_all : ∀ (l : Array Bool) (k : Nat),l.size = 40 → k < 40 → (∀ j < k,l.getD j false = true) → ∀ j < k + 1,(l.setIfInBounds k true).getD j false = true:=by
  intro l k hl hk ha j hj
  rw [bL hl hk]
  by_cases e : j = k
  ·rw [if_pos e]
  ·rw [if_neg e];exact ha j (by omega)
 have set_no : ∀ (l : Array Bool) (k : Nat),l.size = 40 → k < 40 → (∀ j,k ≤ j → j < 40 → l.getD j false = false) → ∀ j,k + 1 ≤ j → j < 40 → (l.setIfInBounds k true).getD j false = false:=by
  intro l k hl hk ha j hj hj2
  rw [bL hl hk,if_neg (by omega)];exact ha j (by omega) hj2
 have z0:=h.tsz
 have p37:=rQ ok s0 (by decide) (by decide) hno hall
 refine ⟨fun e=>absurd e p37.2,fun i hi=>?_⟩
 obtain rfl:=p37.1 i hi
 obtain ⟨o,ho,hg,hd,hop⟩:=ok.t37
 refine qG ho hg (wp_nilc hop e15 ?_)
 rw [hd]
 have s2 : (listed.setIfInBounds 37 true).size = 40:=by simp [s0]
 have a2:=set_all _ 37 s0 (by decide) hall
 have n2:=set_no _ 37 s0 (by decide) hno
 have p38:=rQ ok s2 (by decide) (by decide) n2 a2
 refine ⟨fun e=>absurd e p38.2,fun i hi=>?_⟩
 obtain rfl:=p38.1 i hi
 obtain ⟨o,ho,hg,hd,hop⟩:=ok.t38
 refine qG ho hg (wp_faddr hop (S:=S) (by rw [dP (by omega),if_pos rfl]) ?_)
 rw [hd]
 have s3 : ((listed.setIfInBounds 37 true).setIfInBounds 38 true).size = 40:=by simp [s0]
 have a3:=set_all _ 38 s2 (by decide) a2
 have n3:=set_no _ 38 s2 (by decide) n2
 have z2 : (a.put (some 40) (one S)).tmps.size = 43:=by simp [Act.put,z0]
 have z3 : ((a.put (some 40) (one S)).put (some 41) (.pointer (some ⟨S,3,none⟩))).tmps.size = 43:=by simp [Act.put,z0]
 have p39:=rQ ok s3 (by decide) (by decide) n3 a3
 refine ⟨fun e=>absurd e p39.2,fun i hi=>?_⟩
 obtain rfl:=p39.1 i hi
 obtain ⟨o,ho,hg,hd,hop⟩:=ok.t39
 refine qG ho hg (wp_store3 hop hd (S:=S) (M:=M) (by rw [dP (by omega),if_pos rfl]) (by rw [dP (by omega),if_neg (by decide),dP (by omega),if_neg (by decide)];exact e39) hcw hfw ?_)
 have a4:=set_all _ 39 s3 (by decide) a3
 have hz : Region.ready .any ops (((listed.setIfInBounds 37 true).setIfInBounds 38 true).setIfInBounds 39 true) = []:=by
  rw [List.eq_nil_iff_forall_not_mem]
  intro i hi
  have un:=gG (by simp [s0]) hi
  rw [a4 i un.1] at un;cases un.2
 refine ⟨hz,hend _ _ ⟨z3,fun d hd'=>?_,h.dfr,w,M,T,rfl,h.grew,m.own,mapIs_mono m.is (by have:=m.room;omega),fun i hi=>m.ins i hi (hall i (by have:=(pY i hi).1;omega)),m.none⟩⟩
 rw [dP (by omega),if_neg (by omega),dP (by omega),if_neg (by omega)]
 exact h.same d hd'
theorem yK {Q : Exit → Act → World → Prop} (ok : zI ops) {W0 : World} {S R : Nat} {a0 : Act} {v0 : Value} (hc : W0.cell? ⟨S,3,none⟩ = some v0) (hf : W0.frozen? ⟨S,3,none⟩ = false) (hend : ∀ a' w',Made W0 S a0 a' w' → Q .normal a' w') :
  ∀ (k : Nat) (listed : Array Bool) (a : Act) (w : World),k ≤ 37 → St W0 S R a0 (k + 3) listed a w → oT listed = k → (∀ i ∈ cW,listed.getD i false = true → listed.getD 1 false = true) → (∀ j,37 ≤ j → j < 40 → listed.getD j false = false) → wpAny Tryz.prog .any ops Q (k + 3) listed a w
 | 0,listed,a,w,_,h,hl,_,hno=>reader_tail ok h (left37_zero hl) hno hc hf hend
 | k + 1,listed,a,w,hk,h,hl,h1,hno=>by
  have hne : ∃ i < 37,listed.getD i false = false:=left37_pos (by omega)
  refine ⟨fun e=>?_,fun i hi=>?_⟩
  ·obtain ⟨i,hi,hu,hb⟩:=exists_least hne
   have:=GB ok h.size (by omega) hu hb
   rw [e] at this;cases this
  ·have un:=gG h.size hi
   by_cases h36 : i < 37
   ·have h' : St W0 S R a0 ((k + 3) + 1) listed a w:=by rw [show k + 3 + 1 = k + 1 + 3 by omega];exact h
    refine St.step ok h' (by omega) h1 hi h36 fun a' w' hs=>?_
    refine yK ok hc hf hend k _ a' w' (by omega) hs (by have:=left37_set h.size h36 un.2;omega) (fun j hj hlj=>?_) (fun j hj hj2=>?_)
    ·rw [bL h.size (by omega)] at hlj ⊢
     by_cases e1 : (1 : Nat) = i
     ·rw [if_pos e1]
     ·rw [if_neg e1]
      by_cases ej : j = i
      ·subst ej;exact bM (ok.dep (j,1) (FA j hj)) hi
      ·rw [if_neg ej] at hlj;exact h1 j hj hlj
    ·rw [bL h.size (by omega),if_neg (by omega)];exact hno j hj hj2
   ·exfalso
    rcases (show i = 37 ∨ i = 38 ∨ i = 39 by omega) with rfl | rfl | rfl
    ·obtain ⟨j,hj,hu⟩:=hne
     by_cases j36 : j = 36
     ·subst j36
      have:=bM (ok.dep (37,36) (by decide)) hi
      simp only at this;rw [hu] at this;cases this
     by_cases j0 : j = 0
     ·subst j0
      have:=bM (ok.dep (37,0) (by decide)) hi
      simp only at this;rw [hu] at this;cases this
     have l36:=bM (ok.dep (37,36) (by decide)) hi
     simp only at l36
     have:=h.all36 l36 j (by omega) (by omega)
     rw [hu] at this;cases this
    ·have:=bM (ok.dep (38,37) (by decide)) hi
     simp only at this;rw [hno 37 (by decide) (by decide)] at this;cases this
    ·have:=bM (ok.dep (39,38) (by decide)) hi
     simp only at this;rw [hno 38 (by decide) (by decide)] at this;cases this
theorem arr43 (t : Array Value) (h : t.size = 43) : ∃ u15 u16 u17 u18 u19 u20 u21 u22 u23 u24 u25 u26 u27 u28 u29 u30 u31 u32 u33 u34 u35 u36 u37 u38 u39 u40 u41 u42 : Value,t = #[t.getD 0 undef,t.getD 1 undef,t.getD 2 undef,t.getD 3 undef,t.getD 4 undef,t.getD 5 undef,t.getD 6 undef,t.getD 7 undef,t.getD 8 undef,t.getD 9 undef,t.getD 10 undef,t.getD 11 undef,t.getD 12 undef,t.getD 13 undef,t.getD 14 undef,u15,u16,u17,u18,u19,u20,u21,u22,u23,u24,u25,u26,u27,u28,u29,u30,u31,u32,u33,u34,u35,u36,u37,u38,u39,u40,u41,u42]:=by
 refine ⟨t.getD 15 undef,t.getD 16 undef,t.getD 17 undef,t.getD 18 undef,t.getD 19 undef,t.getD 20 undef,t.getD 21 undef,t.getD 22 undef,t.getD 23 undef,t.getD 24 undef,t.getD 25 undef,t.getD 26 undef,t.getD 27 undef,t.getD 28 undef,t.getD 29 undef,t.getD 30 undef,t.getD 31 undef,t.getD 32 undef,t.getD 33 undef,t.getD 34 undef,t.getD 35 undef,t.getD 36 undef,t.getD 37 undef,t.getD 38 undef,t.getD 39 undef,t.getD 40 undef,t.getD 41 undef,t.getD 42 undef, ?_⟩
 apply Array.ext (by simp [h])
 intro i h1 h2
 have h3 : i < 43:=by omega
 rcases (show i = 0 ∨ i = 1 ∨ i = 2 ∨ i = 3 ∨ i = 4 ∨ i = 5 ∨ i = 6 ∨ i = 7 ∨ i = 8 ∨ i = 9 ∨ i = 10 ∨ i = 11 ∨ i = 12 ∨ i = 13 ∨ i = 14 ∨ i = 15 ∨ i = 16 ∨ i = 17 ∨ i = 18 ∨ i = 19 ∨ i = 20 ∨ i = 21 ∨ i = 22 ∨ i = 23 ∨ i = 24 ∨ i = 25 ∨ i = 26 ∨ i = 27 ∨ i = 28 ∨ i = 29 ∨ i = 30 ∨ i = 31 ∨ i = 32 ∨ i = 33 ∨ i = 34 ∨ i = 35 ∨ i = 36 ∨ i = 37 ∨ i = 38 ∨ i = 39 ∨ i = 40 ∨ i = 41 ∨ i = 42 by omega) with rfl | rfl | rfl | rfl | rfl | rfl | rfl | rfl | rfl | rfl | rfl | rfl | rfl | rfl | rfl | rfl | rfl | rfl | rfl | rfl | rfl | rfl | rfl | rfl | rfl | rfl | rfl | rfl | rfl | rfl | rfl | rfl | rfl | rfl | rfl | rfl | rfl | rfl | rfl | rfl | rfl | rfl | rfl
 all_goals simp [Array.getD_eq_getD_getElem?,h1]
open Go Go.RowKit Ly
set_option maxHeartbeats 4000000
def depB (ops : Array Oper) (i j : Nat) : Bool:=match ops[i]? with
 | some o=>o.after.toList.any fun e=>Region.binds .any e && e.on == j
 | none=>false
def opsB (ops : Array Oper) : Bool:=(ops.size == 40) && ((List.range 40).all fun i=>match ops[i]? with | some o=>o.after.toList.all fun e=>decide (e.on < i) | none=>true) && (deps.all fun q=>depB ops q.1 q.2) && ((List.range 36).all fun j=>j == 0 || depB ops 36 j)
theorem zY {ops : Array Oper} {i j : Nat} (h : depB ops i j = true) : Dep ops i j:=by
 unfold depB at h
 split at h
 ·rename_i o ho
  obtain ⟨e,he,hb⟩:=List.any_eq_true.1 h
  simp only [Bool.and_eq_true,beq_iff_eq] at hb
  exact ⟨o,ho,e,Array.mem_toList_iff.1 he,hb.1,hb.2⟩
 ·cases h
theorem opsB_spec {ops : Array Oper} (h : opsB ops = true) : ops.size = 40 ∧ (∀ (i : Nat) (o : Oper),ops[i]? = some o → ∀ e ∈ o.after,e.on < i) ∧ (∀ q ∈ deps,Dep ops q.1 q.2) ∧ ∀ j,1 ≤ j → j < 36 → Dep ops 36 j:=by
 simp only [opsB,Bool.and_eq_true,beq_iff_eq] at h
 obtain ⟨⟨⟨h1,h2⟩,h3⟩,h4⟩:=h
 refine ⟨h1,fun i o ho e he=>?_,fun q hq=>zY (List.all_eq_true.1 h3 q hq),fun j hj1 hj=>zY ?_⟩
 rotate_left
 ·have:=List.all_eq_true.1 h4 j (List.mem_range.2 hj)
  simpa [show j ≠ 0 by omega] using this
 have hi : i < 40:=by have:=(Array.getElem?_eq_some_iff.1 ho).1;omega
 have:=List.all_eq_true.1 h2 i (List.mem_range.2 hi)
 rw [ho] at this
 simp only [] at this
 have h5:=List.all_eq_true.1 this e (Array.mem_toList_iff.2 he)
 simpa using h5
theorem reader_start {ops : Array Oper} {Q : Exit → Act → World → Prop} (ok : zI ops) {W : World} {S R : Nat} {a : Act} {v0 : Value} (hc : W.cell? ⟨S,3,none⟩ = some v0) (hf : W.frozen? ⟨S,3,none⟩ = false)
  (tsz : a.tmps.size = 43) (t4 : a.tmps.getD 4 undef = one R) (cell : W.heap[R]? = some (.cells #[one S] 153 (0,0))) (hend : ∀ a' w',Made W S a a' w' → Q .normal a' w') : wpAny Tryz.prog .any ops Q 40 (Array.replicate 40 false) a W:=by
 have z : ∀ i,(Array.replicate 40 false).getD i false = false:=by
  intro i
  simp only [Array.getD_eq_getD_getElem?,Array.getElem?_replicate]
  split <;> rfl
 refine yK ok hc hf hend 37 _ a W (Nat.le_refl _) ⟨by simp,tsz,fun _ _=>rfl,rfl,t4,cell,Below.refl _ _,fun p _ hl=>?_,fun hl=>?_,fun hl=>?_,fun hl=>?_⟩ (by decide) (fun i _ hl=>?_) (fun j _ _=>z j)
 ·rw [z] at hl;cases hl
 ·rw [z] at hl;cases hl
 ·rw [z] at hl;cases hl
 ·rw [z] at hl;cases hl
 ·rw [z] at hl;cases hl
structure Tb (w : World) (I : RdIx) : Prop where
 ex : ∃ n T,gI w I.M n T ∧ (∀ i ∈ cW,IV w I.S i (T (dN i))) ∧ ∀ s,(∀ i ∈ cW,s ≠ dN i) → T s = .nilFunc
def MJ (ws : List Bs) (w : World) (e : Ending) (w' : World) : Prop:=∃ I : RdIx,e = .returned (one I.S) ∧ Rd w' I ws 0 false ∧ Tb w' I ∧ Below w.heap.size w w' ∧ w.heap.size ≤ I.A ∧ w.heap.size ≤ I.S
theorem jZ (w : World) (o1 o2 o3 o4 : Obj) : ((((w.alloc o1).alloc o2).alloc o3).alloc o4).heap[w.heap.size]? = some o1 ∧ ((((w.alloc o1).alloc o2).alloc o3).alloc o4).heap[w.heap.size + 1]? = some o2 ∧ ((((w.alloc o1).alloc o2).alloc o3).alloc o4).heap[w.heap.size + 1 + 1]? = some o3 ∧ ((((w.alloc o1).alloc o2).alloc o3).alloc o4).heap[w.heap.size + 1 + 1 + 1]? = some o4:=by
 have z1 : (w.alloc o1).heap.size = w.heap.size + 1:=by simp
 have z2 : ((w.alloc o1).alloc o2).heap.size = w.heap.size + 1 + 1:=by simp
 have z3 : (((w.alloc o1).alloc o2).alloc o3).heap.size = w.heap.size + 1 + 1 + 1:=by simp
 have h2:=heap_alloc_new (w.alloc o1) o2
 have h3:=heap_alloc_new ((w.alloc o1).alloc o2) o3
 have h4:=heap_alloc_new (((w.alloc o1).alloc o2).alloc o3) o4
 rw [z1] at h2
 rw [z2] at h3
 rw [z3] at h4
 refine ⟨?_, ?_, ?_,h4⟩
 ·rw [heap_alloc_old _ _ (by simp;omega),heap_alloc_old _ _ (by simp;omega),heap_alloc_old _ _ (by simp)];exact heap_alloc_new w o1
 ·rw [heap_alloc_old _ _ (by simp),heap_alloc_old _ _ (by simp)];exact h2
 ·rw [heap_alloc_old _ _ (by simp)];exact h3
def KR (w w' : World) : Prop:=∀ (b : Nat) (cs : Array Value) (t : TypeId) (fz : Nat × Nat),t ≠ 161 → t ≠ 3 → w.heap[b]? = some (.cells cs t fz) → w'.heap[b]? = some (.cells cs t fz)
theorem Vl.keepn {w w' : World} (k : KR w w') {S : Nat} {kd : Kd} {v : Value} (h : Vl w S kd v) : Vl w' S kd v:=by
 cases kd with
 | load=>exact h
 | mk=>exact h
 | clo1 op=>obtain ⟨b1,b2,e,h1,h2⟩:=h;exact ⟨b1,b2,e,k _ _ _ _ (by decide) (by decide) h1,k _ _ _ _ (by decide) (by decide) h2⟩
 | clo2 op x=>obtain ⟨b1,b2,b3,e,h1,h2,h3⟩:=h;exact ⟨b1,b2,b3,e,k _ _ _ _ (by decide) (by decide) h1,k _ _ _ _ (by decide) (by decide) h2,k _ _ _ _ (by decide) (by decide) h3⟩
 | meth=>exact h
theorem IV.keepn {w w' : World} (k : KR w w') {S i : Nat} {v : Value} (h : IV w S i v) : IV w' S i v:=by
 unfold IV at *
 split
 ·rename_i e;rw [if_pos e] at h;exact h
 ·rename_i e;rw [if_neg e] at h;exact h.keepn k
theorem reader_fin {ws : List Bs} {la : Option Addr} {ln lc : Nat} {w W w1 : World} {M : Nat} {T : Bs → Value} (h : aU w ws (.slice la ln lc)) (hla : ∀ a,la = some a → a.block < w.heap.size) (hsh : ws.length ≤ 1000000)
  (hW : (((w.alloc (.cells #[.slice la ln lc] 36)).alloc (.cells #[.int .i64 0] 3)).alloc (.cells #[.func (.func 190) #[] #[one (w.heap.size + 1 + 1 + 1),one (w.heap.size + 1),one w.heap.size],.func (.func 191) #[] #[one (w.heap.size + 1),one w.heap.size],.bool false,.map none] 161)).alloc (.cells #[one (w.heap.size + 1 + 1)] 153) = W)
  (hb : Below W.heap.size ⟨W.heap,W.tape,W.drawn + 1,W.os,W.output⟩ w1) (hown : W.heap.size ≤ M) (hmi : gI w1 M 37 T) (hins : ∀ i ∈ cW,IV w1 (w.heap.size + 1 + 1) i (T (dN i))) (hnone : ∀ s,(∀ i ∈ cW,s ≠ dN i) → T s = .nilFunc) :
  (w1.setCell ⟨w.heap.size + 1 + 1,3,none⟩ (.map (some M))).cell? ⟨w.heap.size + 1 + 1 + 1,0,none⟩ = some (one (w.heap.size + 1 + 1)) ∧ MJ ws w (.returned (one (w.heap.size + 1 + 1))) (w1.setCell ⟨w.heap.size + 1 + 1,3,none⟩ (.map (some M))):=by
 have hs : W.heap.size = w.heap.size + 4:=by rw [← hW];simp
 have hbW : Below w.heap.size w W:=by
  rw [← hW]
  exact ((bnew.alloc (by simp) _).alloc (by simp;omega) _).alloc (by simp;omega) _
 have g4:=jZ w (.cells #[.slice la ln lc] 36) (.cells #[.int .i64 0] 3) (.cells #[.func (.func 190) #[] #[one (w.heap.size + 1 + 1 + 1),one (w.heap.size + 1),one w.heap.size],.func (.func 191) #[] #[one (w.heap.size + 1),one w.heap.size],.bool false,.map none] 161) (.cells #[one (w.heap.size + 1 + 1)] 153)
 rw [hW] at g4
 obtain ⟨gL,gA,gS,gR⟩:=g4
 have b1 : ∀ k,k < W.heap.size → w1.heap[k]? = W.heap[k]?:=hb.block
 have bb : Below w.heap.size w w1:=hbW.trans (Below.mono (show Below W.heap.size W w1 from ⟨hb.os,hb.tape,hb.output,hb.size,hb.block⟩) hbW.size)
 have b2 : Below w.heap.size w (w1.setCell ⟨w.heap.size + 1 + 1,3,none⟩ (.map (some M))):=bb.setCell (by simp;omega) _
 have r1:=(b1 (w.heap.size + 1 + 1 + 1) (by omega)).trans gR
 have s1:=(b1 (w.heap.size + 1 + 1) (by omega)).trans gS
 have rr : (w1.setCell ⟨w.heap.size + 1 + 1,3,none⟩ (.map (some M))).heap[w.heap.size + 1 + 1 + 1]? = some (.cells #[one (w.heap.size + 1 + 1)] 153 (0,0)):=by
  rw [Below.heap_setCell _ _ _ _ (by simp)];exact r1
 refine ⟨cell_of_one rr,⟨w.heap.size,w.heap.size + 1,w.heap.size + 1 + 1,w.heap.size + 1 + 1 + 1,M,la,ln,lc⟩,rfl,⟨?_, ?_, ?_,rr, ?_,Nat.zero_le _,hsh,fun a ha=>?_,by simp⟩, ?_,b2,by simp,by simp;omega⟩
 ·dsimp only;rw [Below.heap_setCell _ _ _ _ (by simp;omega)];exact (b1 _ (by omega)).trans gL
 ·dsimp only;rw [Below.heap_setCell _ _ _ _ (by simp)];exact (b1 _ (by omega)).trans gA
 ·exact (aC s1).trans rfl
 ·exact aU.keep h (aA b2)
 ·have:=hla a ha
  constructor <;> simp <;> omega
 ·have mv : w1.grownBy (w1.setCell ⟨w.heap.size + 1 + 1,3,none⟩ (.map (some M))) (some (w.heap.size + 1 + 1)):=by
   refine ⟨rfl,rfl,rfl,by simp [World.setCell],fun k _ hk=>Below.heap_setCell _ _ _ _ (fun e=>hk (by rw [e]))⟩
  refine ⟨37,T,hmi.grown mv (by simp;omega),fun i hi=>?_,hnone⟩
  refine (hins i hi).keepn fun b cs t fz h1 h2 hb3=>?_
  rw [Below.heap_setCell _ _ _ _ ?_]
  ·exact hb3
  ·intro e
   subst e
   rw [s1] at hb3
   cases hb3
   exact h1 rfl
theorem mA (ws : List Bs) (la : Option Addr) (ln lc : Nat) (w : World) (h : aU w ws (.slice la ln lc)) (hla : ∀ a,la = some a → a.block < w.heap.size) (hsh : ws.length ≤ 1000000) :
  Calls Tryz.prog 116 #[.slice la ln lc] w (MJ ws w):=by
 have HX:=Hd h
 have HLA:=Hd hla
 have hX:=h
 have hfin:=@reader_fin
 clear h hla
 go_enter Tryz.func116,Tryz.ntmps116
 go_wp2_with fail
 generalize hW : (((w.alloc (.cells #[.slice la ln lc] 36)).alloc (.cells #[.int .i64 0] 3)).alloc (.cells #[.func (.func 190) #[] #[one (w.heap.size + 1 + 1 + 1),one (w.heap.size + 1),one w.heap.size],.func (.func 191) #[] #[one (w.heap.size + 1),one w.heap.size],.bool false,.map none] 161)).alloc (.cells #[one (w.heap.size + 1 + 1)] 153) = W
 have HW:=Hd hW
 clear hW
 refine wp_region_any (by kernel_rfl) ?_
 refine reader_start (S:=w.heap.size + 1 + 1) (R:=w.heap.size + 1 + 1 + 1) (v0:=.map none) ?ok ?hc ?hf rfl rfl ?cell ?hend
 case ok =>
  obtain ⟨h1,h2,h3,h4⟩:=opsB_spec (by kernel_rfl)
  refine ⟨h1,fun p hp=>?_,fun i hi=>?_,h2,h3,h4,⟨_,rfl,rfl,rfl,rfl⟩,⟨_,rfl,rfl,rfl,rfl⟩,⟨_,rfl,rfl,rfl,rfl⟩,⟨_,rfl,rfl,rfl,rfl⟩⟩
  ·simp only [tab,List.mem_cons,List.mem_nil_iff,or_false] at hp
   rcases hp with rfl | rfl | rfl | rfl | rfl | rfl | rfl | rfl | rfl | rfl | rfl | rfl | rfl | rfl | rfl | rfl | rfl | rfl | rfl | rfl | rfl | rfl | rfl | rfl
   all_goals exact ⟨_,rfl,rfl,rfl,rfl⟩
  ·simp only [cW,List.mem_cons,List.mem_nil_iff,or_false] at hi
   rcases hi with rfl | rfl | rfl | rfl | rfl | rfl | rfl | rfl | rfl | rfl | rfl | rfl
   all_goals exact ⟨_,rfl,rfl,rfl,rfl⟩
 case hend =>
  intro a' w' hm
  obtain ⟨tsz,same,dfr,w1,M,T,hw',hb,hown,hmi,hins,hnone⟩:=hm
  obtain ⟨tmps,dfs⟩:=a'
  simp only at dfr tsz same
  subst dfr
  obtain ⟨u15,u16,u17,u18,u19,u20,u21,u22,u23,u24,u25,u26,u27,u28,u29,u30,u31,u32,u33,u34,u35,u36,u37,u38,u39,u40,u41,u42,ht⟩:=arr43 tmps tsz
  rw [same 0 (by decide),same 1 (by decide),same 2 (by decide),same 3 (by decide),same 4 (by decide),same 5 (by decide),same 6 (by decide),same 7 (by decide),same 8 (by decide),same 9 (by decide),same 10 (by decide),same 11 (by decide),same 12 (by decide),same 13 (by decide),same 14 (by decide)] at ht
  clear same tsz
  subst ht
  have FIN:=hfin hX HLA.out hsh HW.out hb hown hmi hins hnone
  rw [← hw'] at FIN
  have HF:=Hd FIN.2
  have rc:=FIN.1
  clear FIN hfin hb hown hmi hins hnone hw' HW HX HLA
  go_wp2_with fail
  go_ret
  exact HF.out
 case cell =>
  rw [← HW.out];exact (jZ w _ _ _ _).2.2.2
 case hc =>
  have:=(jZ w (.cells #[.slice la ln lc] 36) (.cells #[.int .i64 0] 3) (.cells #[.func (.func 190) #[] #[one (w.heap.size + 1 + 1 + 1),one (w.heap.size + 1),one w.heap.size],.func (.func 191) #[] #[one (w.heap.size + 1),one w.heap.size],.bool false,.map none] 161) (.cells #[one (w.heap.size + 1 + 1)] 153)).2.2.1
  rw [HW.out] at this
  exact (box_cell (w:=⟨W.heap,W.tape,W.drawn + 1,W.os,W.output⟩) this 3).trans rfl
 case hf =>
  have:=(jZ w (.cells #[.slice la ln lc] 36) (.cells #[.int .i64 0] 3) (.cells #[.func (.func 190) #[] #[one (w.heap.size + 1 + 1 + 1),one (w.heap.size + 1),one w.heap.size],.func (.func 191) #[] #[one (w.heap.size + 1),one w.heap.size],.bool false,.map none] 161) (.cells #[one (w.heap.size + 1 + 1)] 153)).2.2.1
  rw [HW.out] at this
  simp [World.frozen?,this]
end Go.Proofs.YtcandidgaegghaaGreatDoor
