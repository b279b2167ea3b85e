/- Relations: the program's tests and the reference's agree; lyceumref12.order, persists, Fits. Conditions: the list is a relation where that is said. -/
import Derived.Test.YtcandidgaegghaaGreatDoorCpZ
import Derived.Test.YtcandidgaegghaaGreatDoorMdLZ
set_option maxRecDepth 10000
set_option linter.unusedSimpArgs false
set_option linter.unusedVariables false
namespace Go.Proofs.YtcandidgaegghaaGreatDoor
open Go Go.RowKit Go.Sort Ly
set_option maxHeartbeats 4000000
def bitI (x : Int) (u : Nat) : Bool:=(x / 2 ^ u).tmod 2 == 1
def getI (l : List Int) (j : Nat) : Int:=(l[j]?).getD 0
theorem cW {l : List Int} {j : Nat} {x : Int} (h : l[j]? = some x) : getI l j = x:=by simp [getI,h]
theorem jT {l : List Int} {p q : Nat} (h : p < l.length) : dQ l p q = bitI (getI l p) q:=by
 obtain ⟨x,hx⟩ : ∃ x,l[p]? = some x:=⟨l[p],List.getElem?_eq_getElem h⟩
 rw [oJ hx,cW hx];rfl
def ckOr : Bool:=(List.range 16).all fun a=>(List.range 16).all fun b=>decide (0 ≤ bits .or .i64 (a:Int) (b:Int)) && decide (bits .or .i64 (a:Int) (b:Int) < 16) && (List.range 16).all fun c =>
 (decide (bits .andNot .i64 (bits .or .i64 (a:Int) (b:Int)) (c:Int) = 0)) == (decide (bits .andNot .i64 (a:Int) (c:Int) = 0) && decide (bits .andNot .i64 (b:Int) (c:Int) = 0))
theorem tK : ckOr = true:=by kernel_rfl
def ckBits : Bool:=(List.range 5).all fun k=>(List.range 16).all fun x=>(List.range 5).all fun u=>((bits .and .i64 ((x:Int) / 2 ^ u) 1 == 1) == bitI x u) && (((x : Int) / 2 ^ u).tmod 2 == 0) == !bitI x u && (decide (bits .andNot .i64 (2 ^ u) (x:Int) = 0) == (decide (u < 4) && bitI x u))
theorem ckBits_true : ckBits = true:=by kernel_rfl
def ckAll : Bool:=(List.range 5).all fun k=>(List.range 16).all fun x=>!decide (x < 2 ^ k) || (decide ((x : Int) = 2 ^ k - 1) == aI k fun u=>bitI x u)
theorem ckAll_true : ckAll = true:=by kernel_rfl
def ckSub : Bool:=(List.range 5).all fun k=>(List.range 16).all fun y=>!decide (y < 2 ^ k) || (List.range 16).all fun x=>decide (bits .andNot .i64 (y:Int) (x:Int) = 0) == aI k fun u=>!bitI y u || bitI x u
theorem ckSub_true : ckSub = true:=by kernel_rfl
theorem dT {n : Nat} {P : Nat → Bool} (h : (List.range n).all P = true) {j : Nat} (hj : j < n) : P j = true:=List.all_eq_true.1 h j (List.mem_range.2 hj)
theorem gG {x : Int} (h0 : 0 ≤ x) (h1 : x < 16) : ∃ a : Nat,a < 16 ∧ x = (a : Int):=⟨x.toNat,by omega,by omega⟩
theorem or16 {a b : Int} (ha : 0 ≤ a) (ha' : a < 16) (hb : 0 ≤ b) (hb' : b < 16) : 0 ≤ bits .or .i64 a b ∧ bits .or .i64 a b < 16:=by
 obtain ⟨a,h1,rfl⟩:=gG ha ha'
 obtain ⟨b,h2,rfl⟩:=gG hb hb'
 have:=dT (dT tK h1) h2
 simp only [Bool.and_eq_true,decide_eq_true_eq] at this
 exact this.1
theorem yI {a b c : Int} (ha : 0 ≤ a) (ha' : a < 16) (hb : 0 ≤ b) (hb' : b < 16) (hc : 0 ≤ c) (hc' : c < 16) : bits .andNot .i64 (bits .or .i64 a b) c = 0 ↔ bits .andNot .i64 a c = 0 ∧ bits .andNot .i64 b c = 0:=by
 obtain ⟨a,h1,rfl⟩:=gG ha ha'
 obtain ⟨b,h2,rfl⟩:=gG hb hb'
 obtain ⟨c,h3,rfl⟩:=gG hc hc'
 have:=dT (dT tK h1) h2
 simp only [Bool.and_eq_true] at this
 have:=dT this.2 h3
 rw [beq_iff_eq,Bool.eq_iff_iff] at this
 simpa using this
theorem bits16 {x : Int} (h0 : 0 ≤ x) (h9 : x < 16) {u : Nat} (hu : u < 5) : (bits .and .i64 (x / 2 ^ u) 1 == 1) = bitI x u ∧ ((x / 2 ^ u).tmod 2 == 0) = !bitI x u ∧ (u < 4 → (bits .andNot .i64 (2 ^ u) x = 0 ↔ bitI x u = true)):=by
 obtain ⟨a,h1,rfl⟩:=gG h0 h9
 have:=dT (dT (dT ckBits_true (show 0 < 5 by omega)) h1) hu
 simp only [Bool.and_eq_true,beq_iff_eq] at this
 obtain ⟨⟨h2,h3⟩,h4⟩:=this
 refine ⟨by rw [Bool.eq_iff_iff] at h2 ⊢;simpa using h2,h3,fun hu4=>?_⟩
 rw [Bool.eq_iff_iff] at h4
 simpa [hu4] using h4
theorem all16 {x : Int} {k : Nat} (h0 : 0 ≤ x) (hk : k ≤ 4) (h1 : x < 2 ^ k) : x = 2 ^ k - 1 ↔ ∀ u,u < k → bitI x u = true:=by
 have h16 : x < 16:=Int.lt_of_lt_of_le h1 (by rcases (show k = 0 ∨ k = 1 ∨ k = 2 ∨ k = 3 ∨ k = 4 by omega) with rfl | rfl | rfl | rfl | rfl <;> decide)
 obtain ⟨a,h2,rfl⟩:=gG h0 h16
 have h3 : a < 2 ^ k:=by exact_mod_cast h1
 have:=dT (dT ckAll_true (show k < 5 by omega)) h2
 rw [decide_eq_true h3] at this
 simp only [Bool.not_true,Bool.false_or,beq_iff_eq] at this
 rw [Bool.eq_iff_iff,aT,decide_eq_true_eq] at this
 exact this
theorem zQ {x y : Int} {k : Nat} (hy : 0 ≤ y) (hk : k ≤ 4) (hy' : y < 2 ^ k) (hx : 0 ≤ x) (hx' : x < 16) : bits .andNot .i64 y x = 0 ↔ ∀ u,u < k → bitI y u = true → bitI x u = true:=by
 have h16 : y < 16:=Int.lt_of_lt_of_le hy' (by rcases (show k = 0 ∨ k = 1 ∨ k = 2 ∨ k = 3 ∨ k = 4 by omega) with rfl | rfl | rfl | rfl | rfl <;> decide)
 obtain ⟨a,h2,rfl⟩:=gG hy h16
 obtain ⟨b,h3,rfl⟩:=gG hx hx'
 have h4 : a < 2 ^ k:=by exact_mod_cast hy'
 have:=dT (dT ckSub_true (show k < 5 by omega)) h2
 rw [decide_eq_true h4] at this
 simp only [Bool.not_true,Bool.false_or] at this
 have:=dT this h3
 rw [beq_iff_eq,Bool.eq_iff_iff,aT,decide_eq_true_eq] at this
 rw [this]
 constructor
 ·intro h u hu h';have:=h u hu;rw [h'] at this;simpa using this
 ·intro h u hu
  cases hb : bitI (a : Int) u
  ·rfl
  ·have:=h u hu hb;simpa using this
def gT (l : List Int) (w : Nat) : Nat → Int
 | 0=>0
 | j + 1=>if dQ l w j then bits .or .i64 (gT l w j) (getI l j) else gT l w j
def kX (l : List Int) (w : Nat) : Int:=bits .andNot .i64 (bits .or .i64 (2 ^ w) (gT l w l.length)) (getI l w)
def iF (l : List Int) (w u : Nat) : Bool:=!(dQ l w u && dQ l u w)
def ordP (l : List Int) : Bool:=decide (getI l 0 = 2 ^ l.length - 1) && (aI l.length (fun w=>aI w (iF l w)) && aI l.length (fun w=>kX l w == 0))
def gU (l : List Int) (w u : Nat) : Bool:=dQ l 0 u && !(decide (w ≠ u) && dQ l w u && dQ l u w)
def ordR (l : List Int) : Bool:=aI l.length (fun w=>aI l.length (gU l w)) && ordB l
theorem dA {l : List Int} (h : relB l = true) : (1 ≤ l.length ∧ l.length ≤ 4) ∧ ∀ j,j < l.length → 0 ≤ getI l j ∧ getI l j < 2 ^ l.length:=by
 unfold relB at h
 rw [Bool.and_eq_true,decide_eq_true_eq,aT] at h
 refine ⟨h.1,fun j hj=>?_⟩
 have:=h.2 j hj
 obtain ⟨x,hx⟩ : ∃ x,l[j]? = some x:=⟨l[j],List.getElem?_eq_getElem hj⟩
 rw [oG hx] at this
 rw [cW hx]
 simpa using this
theorem sD {k : Nat} (h : k ≤ 4) : (2 : Int) ^ k ≤ 16:=by
 rcases (show k = 0 ∨ k = 1 ∨ k = 2 ∨ k = 3 ∨ k = 4 by omega) with rfl | rfl | rfl | rfl | rfl <;> decide
theorem qC {l : List Int} (h : relB l = true) (w : Nat) : ∀ j,j ≤ l.length → 0 ≤ gT l w j ∧ gT l w j < 16
 | 0,_=>⟨Int.le_refl 0,show (0 : Int) < 16 by decide⟩
 | j + 1,hj=>by
  have ih:=qC h w j (by omega)
  have g:=(dA h).2 j (by omega)
  have p:=sD (dA h).1.2
  unfold gT
  split
  ·exact or16 ih.1 ih.2 g.1 (by omega)
  ·exact ih
theorem rY {l : List Int} (h : relB l = true) (w : Nat) {c : Int} (hc : 0 ≤ c) (hc' : c < 16) : ∀ j,j ≤ l.length → (bits .andNot .i64 (gT l w j) c = 0 ↔ ∀ u,u < j → dQ l w u = true → bits .andNot .i64 (getI l u) c = 0)
 | 0,_=>by
  obtain ⟨a,h1,rfl⟩:=gG hc hc'
  constructor
  ·intro _ u hu;omega
  ·intro _
   have:=zQ (k:=0) (y:=0) (x:=(a : Int)) (by omega) (by omega) (by decide) (by omega) (by omega)
   exact this.2 fun u hu=>by omega
 | j + 1,hj=>by
  have ih:=rY h w hc hc' j (by omega)
  have bd:=qC h w j (by omega)
  have g:=(dA h).2 j (by omega)
  have p:=sD (dA h).1.2
  unfold gT
  split
  ·rename_i hs
   rw [yI bd.1 bd.2 g.1 (by omega) hc hc',ih]
   constructor
   ·rintro ⟨h1,h2⟩ u hu hsu
    rcases Nat.lt_succ_iff_lt_or_eq.1 hu with hu | rfl
    ·exact h1 u hu hsu
    ·exact h2
   ·intro h1
    exact ⟨fun u hu=>h1 u (by omega),h1 j (by omega) hs⟩
  ·rename_i hs
   rw [ih]
   constructor
   ·intro h1 u hu hsu
    rcases Nat.lt_succ_iff_lt_or_eq.1 hu with hu | rfl
    ·exact h1 u hu hsu
    ·exact absurd hsu hs
   ·intro h1 u hu;exact h1 u (by omega)
theorem tW {l : List Int} (h : relB l = true) {w : Nat} (hw : w < l.length) : kX l w = 0 ↔ dQ l w w = true ∧ ∀ u,u < l.length → dQ l w u = true → ∀ x,x < l.length → dQ l u x = true → dQ l w x = true:=by
 have hg:=dA h
 have p:=sD hg.1.2
 have gw:=hg.2 w hw
 have nt:=qC h w l.length (Nat.le_refl _)
 have pw : (0 : Int) ≤ 2 ^ w ∧ (2 : Int) ^ w < 16:=by
  rcases (show w = 0 ∨ w = 1 ∨ w = 2 ∨ w = 3 by omega) with rfl | rfl | rfl | rfl <;> decide
 unfold kX
 rw [yI pw.1 pw.2 nt.1 nt.2 gw.1 (by omega),rY h w gw.1 (by omega) _ (Nat.le_refl _),(bits16 gw.1 (by omega) (show w < 5 by omega)).2.2 (by omega),jT hw]
 refine and_congr Iff.rfl (forall_congr' fun u=>forall_congr' fun hu=>forall_congr' fun _=>?_)
 rw [zQ (hg.2 u hu).1 hg.1.2 (hg.2 u hu).2 gw.1 (by omega)]
 refine forall_congr' fun x=>forall_congr' fun hx=>?_
 rw [jT hu,jT hw]
theorem ord_same {l : List Int} (h : relB l = true) : ordP l = ordR l:=by
 have hg:=dA h
 have p:=sD hg.1.2
 rw [Bool.eq_iff_iff]
 unfold ordP ordR ordB
 rw [Bool.and_eq_true,Bool.and_eq_true,Bool.and_eq_true,decide_eq_true_eq,aT,aT,aT,aT,all16 (hg.2 0 (by omega)).1 hg.1.2 (hg.2 0 (by omega)).2]
 constructor
 ·rintro ⟨h1,h2,h3⟩
  refine ⟨fun w hw=>?_,fun w hw=>?_⟩
  ·rw [aT]
   intro u hu
   unfold gU
   rw [jT (show 0 < l.length by omega),h1 u hu]
   by_cases e : w = u
   ·simp [e]
   ·have : iF l w u = true:=by
     rcases Nat.lt_or_gt_of_ne e with e | e
     ·have:=aT.1 (h2 u hu) w e
      unfold iF at this ⊢
      rw [Bool.and_comm];exact this
     ·exact aT.1 (h2 w hw) u e
    unfold iF at this
    simpa [e] using this
  ·have:=(tW h hw).1 (by simpa using h3 w hw)
   unfold tr1
   rw [this.1,Bool.true_and,aT]
   intro u hu
   unfold tr2
   rw [aT]
   intro x hx
   unfold trAt
   cases h4 : dQ l w u
   ·simp
   ·cases h5 : dQ l u x
    ·simp
    ·rw [this.2 u hu h4 x hx h5];rfl
 ·rintro ⟨h1,h2⟩
  have h1' : ∀ w,w < l.length → ∀ u,u < l.length → gU l w u = true:=fun w hw=>aT.1 (h1 w hw)
  refine ⟨fun u hu=>?_,fun w hw=>?_,fun w hw=>?_⟩
  ·have:=h1' 0 (by omega) u hu
   unfold gU at this
   rw [Bool.and_eq_true,jT (show 0 < l.length by omega)] at this
   exact this.1
  ·rw [aT]
   intro u hu
   have:=h1' w hw u (by omega)
   unfold gU at this
   rw [Bool.and_eq_true] at this
   have:=this.2
   unfold iF
   rw [decide_eq_true (by omega)] at this
   simpa using this
  ·have t:=h2 w hw
   unfold tr1 at t
   rw [Bool.and_eq_true,aT] at t
   have : kX l w = 0:=(tW h hw).2 ⟨t.1,fun u hu h4 x hx h5=>by
    have:=t.2 u hu
    unfold tr2 at this
    have:=aT.1 this x hx
    unfold trAt at this
    rw [h4,h5] at this
    simpa using this⟩
   rw [this];rfl
def jO (l : List Int) (t : Int) (w : Nat) : Bool:=!(bitI t w && bits .andNot .i64 (getI l w) t != 0)
def zJ (l : List Int) (t : Int) : Bool:=aI l.length (jO l t)
def gJ (l : List Int) (t : Int) (w u : Nat) : Bool:=!(bitI t w && dQ l w u && !bitI t u)
def kL (l : List Int) (t : Int) : Bool:=aI l.length fun w=>aI l.length (gJ l t w)
theorem pers_same {l : List Int} (h : relB l = true) {t : Int} (h0 : 0 ≤ t) (h1 : t < 2 ^ l.length) : zJ l t = kL l t:=by
 have hg:=dA h
 have p:=sD hg.1.2
 rw [Bool.eq_iff_iff]
 unfold zJ kL
 rw [aT,aT]
 refine forall_congr' fun w=>forall_congr' fun hw=>?_
 rw [aT]
 unfold jO gJ
 have gw:=hg.2 w hw
 have:=zQ gw.1 hg.1.2 gw.2 h0 (by omega)
 cases hb : bitI t w
 ·simp
 ·simp only [Bool.true_and,Bool.not_eq_true',bne_eq_false_iff_eq,this]
  refine forall_congr' fun u=>forall_congr' fun hu=>?_
  rw [jT hw]
  cases bitI (getI l w) u <;> cases bitI t u <;> simp
theorem rJ (n : Int) : bits .and .i64 n 1 = n % 2:=by
 have h127 : (BitVec.ofInt 64 1).toNat = 2 ^ 1 - 1:=by decide
 have key : (BitVec.ofInt 64 n &&& BitVec.ofInt 64 1).toNat = (n % ((2 ^ 64 : Nat) : Int)).toNat % 2 ^ 1:=by
  rw [BitVec.toNat_and,BitVec.toNat_ofInt,h127,Nat.and_two_pow_sub_one_eq_mod]
 show IntKind.i64.wrap ((BitVec.ofInt 64 n &&& BitVec.ofInt 64 1).toNat : Nat) = n % 2
 rw [key,IntKind.wrap_i64]
 omega
theorem oU {m : Int} (h : 0 ≤ m) (n : Nat) : (bits .and .i64 (m / 2 ^ n) 1 == 1) = bitI m n:=by
 have h2 : (0 : Int) ≤ m / 2 ^ n:=Int.ediv_nonneg h (Int.pow_nonneg (by decide))
 rw [rJ]
 unfold bitI
 generalize m / 2 ^ n = q at *
 rw [Int.tmod_eq_emod_of_nonneg h2]
theorem bit_tmod0 {m : Int} (h : 0 ≤ m) (n : Nat) : ((m / 2 ^ n).tmod 2 == 0) = !bitI m n:=by
 have h2 : (0 : Int) ≤ m / 2 ^ n:=Int.ediv_nonneg h (Int.pow_nonneg (by decide))
 unfold bitI
 generalize m / 2 ^ n = q at *
 rw [Int.tmod_eq_emod_of_nonneg h2]
 rcases (show q % 2 = 0 ∨ q % 2 = 1 by omega) with e | e <;> rw [e] <;> rfl
theorem bit_above {m : Int} (h : 0 ≤ m) {n : Nat} (hn : m / 2 ^ n ≤ 0) {i : Nat} (hi : n ≤ i) : bitI m i = false:=by
 have hp : (0 : Int) < 2 ^ n:=Int.pow_pos (by decide)
 have h1 : m < 2 ^ n:=by
  have h3:=Int.emod_lt_of_pos m hp
  have h4:=Int.mul_ediv_add_emod m (2 ^ n)
  have h5 : (0 : Int) ≤ m / 2 ^ n:=Int.ediv_nonneg h (Int.le_of_lt hp)
  have h6 : m / 2 ^ n = 0:=by omega
  rw [h6,Int.mul_zero,Int.zero_add] at h4
  omega
 have h2 : (2 : Int) ^ n ≤ 2 ^ i:=by exact_mod_cast Nat.pow_le_pow_right (by decide : 0 < 2) hi
 have : m / 2 ^ i = 0:=Int.ediv_eq_zero_of_lt h (by omega)
 unfold bitI
 rw [this];rfl
def dG (m : Int) (n : Nat) : List Int:=((List.range n).filter (bitI m)).map (Nat.cast : Nat → Int)
def bJ (m : Int) : List Int:=dG m 16
theorem oC {m : Int} {n : Nat} (h : bitI m n = true) : dG m (n + 1) = dG m n ++ [(n : Int)]:=by simp [dG,List.range_succ,h]
theorem nK {m : Int} {n : Nat} (h : bitI m n = false) : dG m (n + 1) = dG m n:=by simp [dG,List.range_succ,h]
theorem bitsUp_all {m : Int} (h : 0 ≤ m) {n : Nat} (hn : m / 2 ^ n ≤ 0) (h16 : n ≤ 16) : dG m n = bJ m:=by
 have : ∀ d,dG m (n + d) = dG m n:=by
  intro d
  induction d with
  | zero=>rfl
  | succ d ih=>rw [← Nat.add_assoc,nK (bit_above h hn (by omega)),ih]
 have:=this (16 - n)
 rw [show n + (16 - n) = 16 by omega] at this
 exact this.symm
theorem lH (m : Int) : ∀ n,(dG m n).length ≤ n
 | 0=>by simp [dG]
 | n + 1=>by
  have:=lH m n
  cases h : bitI m n
  ·rw [nK h];omega
  ·rw [oC h];simp;omega
theorem rM (m : Int) : ∀ n,∀ x ∈ dG m n,0 ≤ x ∧ x < n:=by
 intro n x hx
 simp only [dG,List.mem_map,List.mem_filter,List.mem_range] at hx
 obtain ⟨i,⟨hi,_⟩,rfl⟩:=hx
 exact ⟨Int.natCast_nonneg i,by omega⟩
def eD (z : Nat) (m : Int) : List (Int × Int):=(List.range z).flatMap fun a=>((List.range z).filter fun b=>bitI m (a * z + b)).map fun (b : Nat)=>((a : Int),(b : Int))
def ckPairs : Bool:=(List.range 4).all fun z=>(List.range 512).all fun m=>!decide (m < 2 ^ (z * z)) || decide ((bJ (m : Int)).map (fun n=>(n.tdiv (z : Int),n.tmod (z : Int))) = eD z (m : Int))
theorem ckPairs_true : ckPairs = true:=by kernel_rfl
theorem pairs_bits {z : Nat} (hz : z ≤ 3) {m : Int} (h0 : 0 ≤ m) (h1 : m < 2 ^ (z * z)) : (bJ m).map (fun n=>(n.tdiv (z : Int),n.tmod (z : Int))) = eD z m:=by
 have h2 : z * z ≤ 9:=by rcases (show z = 0 ∨ z = 1 ∨ z = 2 ∨ z = 3 by omega) with rfl | rfl | rfl | rfl <;> decide
 have h3 : (2 : Int) ^ (z * z) ≤ 2 ^ 9:=by exact_mod_cast Nat.pow_le_pow_right (by decide : 0 < 2) h2
 obtain ⟨a,rfl⟩ : ∃ a : Nat,m = (a : Int):=⟨m.toNat,by omega⟩
 have h4 : a < 2 ^ (z * z):=by exact_mod_cast h1
 have:=dT (dT ckPairs_true (show z < 4 by omega)) (show a < 512 by omega)
 rw [decide_eq_true h4] at this
 simpa using this
theorem pS {l : List Int} {p q : Nat} {x : Int} (h : l[p]? = some x) : bitI x q = dQ l p q:=by rw [oJ h];rfl
theorem uE (l : List Int) (a : Option Addr) (k c : Nat) (w : World) (hx : aM w 1 (inV l) l.length (.slice a k c)) (hk4 : l.length ≤ 4) :
  Calls Tryz.prog 231 #[.slice a k c] w fun e w'=>e = .returned (.bool (ordR l)) ∧ w' = w:=by
 have hk:=hx.len.1
 have k4 : k ≤ 4:=by omega
 have L1:=Hd hk
 have S : Hid (∀ p q : Nat,p < k → q < k → Calls Tryz.prog 281 #[.slice a k c,.int .i64 p,.int .i64 q] w fun e w'=>e = .returned (.bool (dQ l p q)) ∧ w = w'):=fun p q hp hq=>xK l a k c w hx hk4 p q (by omega) (by omega)
 have FT:=Hd (fits3_c l a k c w hx hk4)
 obtain ⟨B,hB⟩ : ∃ B,ordB l = B:=⟨_,rfl⟩
 obtain ⟨R,hR⟩ : ∃ R,aI l.length (fun p=>aI l.length (gU l p)) = R:=⟨_,rfl⟩
 have TB : Hid (ordR l = (R && B)):=by show _ = _;unfold ordR;rw [hB,hR]
 have HR : Hid (aI k (fun p=>aI k (gU l p)) = R):=by show _ = _;rw [← hR,hk]
 rw [TB.out]
 rw [hB] at FT
 clear hR hB TB hk hx hk4
 go_enter Tryz.func231,Tryz.ntmps231
 go_wp2_with fail
 go_loopw [3] (fun i wr=>∃ p : Nat,p ≤ k ∧ i = .int .i64 p ∧ w = wr ∧ Hid (aI p (fun p=>aI k (gU l p)) = true)) (fun i _=>k - (intOf i).toNat)
 case atStart=>exact ⟨0,Nat.zero_le _,rfl,rfl,aN _⟩
 case round =>
  obtain ⟨p,hp,rfl,rfl,hs⟩:=hrel
  by_cases hlt : p < k
  ·have g1 : decide ((p : Int) < (k : Int)) = true:=by simp;omega
   go_wp2_with fail
   go_loopw [4] (fun i wx=>∃ q : Nat,q ≤ k ∧ i = .int .i64 q ∧ w = wx ∧ Hid (aI q (gU l p) = true)) (fun i _=>k - (intOf i).toNat)
   case atStart=>exact ⟨0,Nat.zero_le _,rfl,rfl,aN _⟩
   case round =>
    obtain ⟨q,hq,rfl,rfl,hs2⟩:=hrel
    by_cases hlq : q < k
    ·have g2 : decide ((q : Int) < (k : Int)) = true:=by simp;omega
     have k0 : 0 < k:=by omega
     obtain ⟨s1,h1⟩ : ∃ b,dQ l 0 q = b:=⟨_,rfl⟩
     obtain ⟨s2,h2⟩ : ∃ b,dQ l p q = b:=⟨_,rfl⟩
     obtain ⟨s3,h3⟩ : ∃ b,dQ l q p = b:=⟨_,rfl⟩
     obtain ⟨d,hd⟩ : ∃ d,((p : Int) != (q : Int)) = d:=⟨_,rfl⟩
     have C1:=Hd (S.out 0 q k0 hlq)
     have C2:=Hd (S.out p q hlt hlq)
     have C3:=Hd (S.out q p hlq hlt)
     rw [h1] at C1
     rw [h2] at C2
     rw [h3] at C3
     have TA : Hid (gU l p q = (s1 && !(d && s2 && s3))):=by
      show _ = _
      have : decide (p ≠ q) = d:=by
       rw [← hd]
       by_cases e : p = q
       ·subst e;simp
       ·have e2 : (p : Int) ≠ (q : Int):=by omega
        simp [e,e2]
      unfold gU;rw [h1,h2,h3,this]
     clear h1 h2 h3
     have NO : Hid (gU l p q = false → R = false):=fun h=>by
      rw [← HR.out]
      exact aE hlt (aE hlq h)
     rcases (show s1 = false ∨ (s1 = true ∧ d = false) ∨ (s1 = true ∧ d = true ∧ s2 = false) ∨ (s1 = true ∧ d = true ∧ s2 = true ∧ s3 = false) ∨ (s1 = true ∧ d = true ∧ s2 = true ∧ s3 = true) by cases s1 <;> cases d <;> cases s2 <;> cases s3 <;> simp) with rfl | ⟨rfl,rfl⟩ | ⟨rfl,rfl,rfl⟩ | ⟨rfl,rfl,rfl,rfl⟩ | ⟨rfl,rfl,rfl,rfl⟩
     ·have RT : Hid (R = false):=NO.out (by rw [TA.out];rfl)
      go_wp2_with (go_at_call 281;refine C1.out.mono ?_;rintro e w1 ⟨rfl,rfl⟩)
      go_ret
      exact ⟨by rw [RT.out];rfl,rfl⟩
     ·have OK : Hid (gU l p q = true):=by show _ = _;rw [TA.out];rfl
      go_wp2_with (go_at_call 281;refine C1.out.mono ?_;rintro e w1 ⟨rfl,rfl⟩)
      go_roundw
      case rel=>exact ⟨q + 1,by omega,by go_num,by trivial,aL hs2.out OK.out⟩
      case measure=>simp [intOf];omega
     ·have OK : Hid (gU l p q = true):=by show _ = _;rw [TA.out];rfl
      go_wp2_with (first | (have Z1':=Z1.out;clear Z1';go_at_call 281;refine C2.out.mono ?_;rintro e w1 ⟨rfl,rfl⟩) | (go_at_call 281;refine C1.out.mono ?_;rintro e w1 ⟨rfl,rfl⟩;have Z1:=Hd True.intro))
      go_roundw
      case rel=>exact ⟨q + 1,by omega,by go_num,by trivial,aL hs2.out OK.out⟩
      case measure=>simp [intOf];omega
     ·have OK : Hid (gU l p q = true):=by show _ = _;rw [TA.out];rfl
      go_wp2_with (first | (have Z2':=Z2.out;clear Z2';go_at_call 281;refine C3.out.mono ?_;rintro e w1 ⟨rfl,rfl⟩) | (have Z1':=Z1.out;clear Z1';go_at_call 281;refine C2.out.mono ?_;rintro e w1 ⟨rfl,rfl⟩;have Z2:=Hd True.intro) | (go_at_call 281;refine C1.out.mono ?_;rintro e w1 ⟨rfl,rfl⟩;have Z1:=Hd True.intro))
      go_roundw
      case rel=>exact ⟨q + 1,by omega,by go_num,by trivial,aL hs2.out OK.out⟩
      case measure=>simp [intOf];omega
     ·have RT : Hid (R = false):=NO.out (by rw [TA.out];rfl)
      go_wp2_with (first | (have Z2':=Z2.out;clear Z2';go_at_call 281;refine C3.out.mono ?_;rintro e w1 ⟨rfl,rfl⟩) | (have Z1':=Z1.out;clear Z1';go_at_call 281;refine C2.out.mono ?_;rintro e w1 ⟨rfl,rfl⟩;have Z2:=Hd True.intro) | (go_at_call 281;refine C1.out.mono ?_;rintro e w1 ⟨rfl,rfl⟩;have Z1:=Hd True.intro))
      go_ret
      exact ⟨by rw [RT.out];rfl,rfl⟩
    ·have e : q = k:=by omega
     have g2 : decide ((q : Int) < (k : Int)) = false:=by simp;omega
     have OK : Hid (aI k (gU l p) = true):=by show _ = _;have h:=hs2.out;rw [e] at h;exact h
     go_wp2_with fail
     go_roundw
     case rel=>exact ⟨p + 1,by omega,by go_num,by trivial,aL hs.out OK.out⟩
     case measure=>simp [intOf];omega
  ·have e : p = k:=by omega
   have RT : Hid (R = true):=by show _ = _;rw [← HR.out];have h:=hs.out;rw [e] at h;exact h
   have g1 : decide ((p : Int) < (k : Int)) = false:=by simp;omega
   clear hs
   go_wp2_with (go_at_call 232;refine FT.out.mono ?_;rintro e w1 ⟨rfl,rfl⟩)
   go_ret
   exact ⟨by rw [RT.out];rfl,rfl⟩
theorem pC (l : List Int) (t : Int) (a : Option Addr) (k c : Nat) (w : World) (hx : aM w 1 (inV l) l.length (.slice a k c)) (hk4 : l.length ≤ 4) (ht : 0 ≤ t) :
  Calls Tryz.prog 230 #[.slice a k c,.int .i64 t] w fun e w'=>e = .returned (.bool (kL l t)) ∧ w' = w:=by
 have hk:=hx.len.1
 have k4 : k ≤ 4:=by omega
 have L1:=Hd hk
 have S : Hid (∀ p q : Nat,p < k → q < k → Calls Tryz.prog 281 #[.slice a k c,.int .i64 p,.int .i64 q] w fun e w'=>e = .returned (.bool (dQ l p q)) ∧ w = w'):=fun p q hp hq=>xK l a k c w hx hk4 p q (by omega) (by omega)
 obtain ⟨R,hR⟩ : ∃ R,aI l.length (fun p=>aI l.length (gJ l t p)) = R:=⟨_,rfl⟩
 have TB : Hid (kL l t = R):=hR
 have HR : Hid (aI k (fun p=>aI k (gJ l t p)) = R):=by show _ = _;rw [← hR,hk]
 rw [TB.out]
 clear hR TB hk hx hk4
 go_enter Tryz.func230,Tryz.ntmps230
 go_wp2_with fail
 go_loopw [5] (fun i wr=>∃ p : Nat,p ≤ k ∧ i = .int .i64 p ∧ w = wr ∧ Hid (aI p (fun p=>aI k (gJ l t p)) = true)) (fun i _=>k - (intOf i).toNat)
 case atStart=>exact ⟨0,Nat.zero_le _,rfl,rfl,aN _⟩
 case round =>
  obtain ⟨p,hp,rfl,rfl,hs⟩:=hrel
  by_cases hlt : p < k
  ·have g1 : decide ((p : Int) < (k : Int)) = true:=by simp;omega
   have p64 : (p : Int) ≤ 64:=by omega
   go_wp2_with fail
   go_loopw [6] (fun i wx=>∃ q : Nat,q ≤ k ∧ i = .int .i64 q ∧ w = wx ∧ Hid (aI q (gJ l t p) = true)) (fun i _=>k - (intOf i).toNat)
   case atStart=>exact ⟨0,Nat.zero_le _,rfl,rfl,aN _⟩
   case round =>
    obtain ⟨q,hq,rfl,rfl,hs2⟩:=hrel
    by_cases hlq : q < k
    ·have g2 : decide ((q : Int) < (k : Int)) = true:=by simp;omega
     have q64 : (q : Int) ≤ 64:=by omega
     obtain ⟨s1,h1⟩ : ∃ b,bitI t p = b:=⟨_,rfl⟩
     obtain ⟨s2,h2⟩ : ∃ b,dQ l p q = b:=⟨_,rfl⟩
     obtain ⟨s3,h3⟩ : ∃ b,bitI t q = b:=⟨_,rfl⟩
     have C2:=Hd (S.out p q hlt hlq)
     rw [h2] at C2
     have b1 : ((t / 2 ^ p).tmod 2 == 1) = s1:=h1
     have b3 : ((t / 2 ^ q).tmod 2 == 0) = !s3:=by rw [bit_tmod0 ht,h3]
     have TA : Hid (gJ l t p q = !(s1 && s2 && !s3)):=by show _ = _;unfold gJ;rw [h1,h2,h3]
     clear h1 h2 h3
     have NO : Hid (gJ l t p q = false → R = false):=fun h=>by
      rw [← HR.out]
      exact aE hlt (aE hlq h)
     rcases (show s1 = false ∨ (s1 = true ∧ s2 = false) ∨ (s1 = true ∧ s2 = true ∧ s3 = true) ∨ (s1 = true ∧ s2 = true ∧ s3 = false) by cases s1 <;> cases s2 <;> cases s3 <;> simp) with rfl | ⟨rfl,rfl⟩ | ⟨rfl,rfl,rfl⟩ | ⟨rfl,rfl,rfl⟩
     ·have OK : Hid (gJ l t p q = true):=by show _ = _;rw [TA.out];rfl
      go_wp2_with fail
      go_roundw
      case rel=>exact ⟨q + 1,by omega,by go_num,by trivial,aL hs2.out OK.out⟩
      case measure=>simp [intOf];omega
     ·have OK : Hid (gJ l t p q = true):=by show _ = _;rw [TA.out];rfl
      go_wp2_with (go_at_call 281;refine C2.out.mono ?_;rintro e w1 ⟨rfl,rfl⟩)
      go_roundw
      case rel=>exact ⟨q + 1,by omega,by go_num,by trivial,aL hs2.out OK.out⟩
      case measure=>simp [intOf];omega
     ·have OK : Hid (gJ l t p q = true):=by show _ = _;rw [TA.out];rfl
      go_wp2_with (go_at_call 281;refine C2.out.mono ?_;rintro e w1 ⟨rfl,rfl⟩)
      go_roundw
      case rel=>exact ⟨q + 1,by omega,by go_num,by trivial,aL hs2.out OK.out⟩
      case measure=>simp [intOf];omega
     ·have RT : Hid (R = false):=NO.out (by rw [TA.out];rfl)
      go_wp2_with (go_at_call 281;refine C2.out.mono ?_;rintro e w1 ⟨rfl,rfl⟩)
      go_ret
      exact ⟨by rw [RT.out];rfl,rfl⟩
    ·have e : q = k:=by omega
     have g2 : decide ((q : Int) < (k : Int)) = false:=by simp;omega
     have OK : Hid (aI k (gJ l t p) = true):=by show _ = _;have h:=hs2.out;rw [e] at h;exact h
     go_wp2_with fail
     go_roundw
     case rel=>exact ⟨p + 1,by omega,by go_num,by trivial,aL hs.out OK.out⟩
     case measure=>simp [intOf];omega
  ·have e : p = k:=by omega
   have RT : Hid (R = true):=by show _ = _;rw [← HR.out];have h:=hs.out;rw [e] at h;exact h
   have g1 : decide ((p : Int) < (k : Int)) = false:=by simp;omega
   clear hs
   go_wp2_with fail
   go_ret
   exact ⟨by rw [RT.out];rfl,rfl⟩
theorem fits0_c (l : List Int) (a : Option Addr) (k c : Nat) (w : World) (hx : aM w 1 (inV l) l.length (.slice a k c)) (hk4 : l.length ≤ 4) :
  Calls Tryz.prog 232 #[.slice a k c,.int .u8 0] w fun e w'=>e = .returned (.bool true) ∧ w' = w:=by
 have hk:=hx.len.1
 have k4 : k ≤ 4:=by omega
 clear hk hx hk4
 have y1 : bits BinOp.and IntKind.u8 0 1 = 0:=by kernel_rfl
 have y2 : bits BinOp.and IntKind.u8 0 4 = 0:=by kernel_rfl
 have y3 : bits BinOp.and IntKind.u8 0 2 = 0:=by kernel_rfl
 go_enter Tryz.func232,Tryz.ntmps232
 go_wp2_with fail
 go_loopw [5] (fun i wr=>∃ p : Nat,p ≤ k ∧ i = .int .i64 p ∧ w = wr) (fun i _=>k - (intOf i).toNat)
 case atStart=>exact ⟨0,Nat.zero_le _,rfl,rfl⟩
 case round =>
  obtain ⟨p,hp,rfl,rfl⟩:=hrel
  by_cases hlt : p < k
  ·have g1 : decide ((p : Int) < (k : Int)) = true:=by simp;omega
   go_wp2_with fail
   go_loopw [6] (fun i wx=>∃ q : Nat,q ≤ k ∧ i = .int .i64 q ∧ w = wx) (fun i _=>k - (intOf i).toNat)
   case atStart=>exact ⟨0,Nat.zero_le _,rfl,rfl⟩
   case round =>
    obtain ⟨q,hq,rfl,rfl⟩:=hrel
    by_cases hlq : q < k
    ·have g2 : decide ((q : Int) < (k : Int)) = true:=by simp;omega
     go_wp2_with fail
     go_loopw [7] (fun i wy=>∃ x : Nat,x ≤ k ∧ i = .int .i64 x ∧ w = wy) (fun i _=>k - (intOf i).toNat)
     case atStart=>exact ⟨0,Nat.zero_le _,rfl,rfl⟩
     case round =>
      obtain ⟨x,hx,rfl,rfl⟩:=hrel
      by_cases hlx : x < k
      ·have g3 : decide ((x : Int) < (k : Int)) = true:=by simp;omega
       go_wp2_with fail
       go_roundw
       case rel=>exact ⟨x + 1,by omega,by go_num,by trivial⟩
       case measure=>simp [intOf];omega
      ·have g3 : decide ((x : Int) < (k : Int)) = false:=by simp;omega
       go_wp2_with fail
       go_roundw
       case rel=>exact ⟨q + 1,by omega,by go_num,by trivial⟩
       case measure=>simp [intOf];omega
    ·have g2 : decide ((q : Int) < (k : Int)) = false:=by simp;omega
     go_wp2_with fail
     go_roundw
     case rel=>exact ⟨p + 1,by omega,by go_num,by trivial⟩
     case measure=>simp [intOf];omega
  ·have g1 : decide ((p : Int) < (k : Int)) = false:=by simp;omega
   go_wp2_with fail
   go_ret
   exact ⟨rfl,rfl⟩
theorem vK (l : List Int) (a : Option Addr) (k c : Nat) (w : World) (hx : aM w 1 (inV l) l.length (.slice a k c)) :
  Calls Tryz.prog 151 #[.slice a k c,.int .u8 0] w (Rt (.bool (relB l)) w):=by
 have R1:=Hd (lU l a k c w hx)
 obtain ⟨q,hq⟩ : ∃ q,relB l = q:=⟨_,rfl⟩
 rw [hq] at R1 ⊢
 have F : Hid (q = true → ∀ W,Below w.heap.size w W → Calls Tryz.prog 232 #[.slice a k c,.int .u8 0] W fun e w'=>e = .returned (.bool true) ∧ w' = W):=fun h W hW=>by
  subst h
  exact fits0_c l a k c W (hx.keep (aC hW)) (dA hq).1.2
 clear hx hq
 cases q
 ·go_enter Tryz.func151,Tryz.ntmps151
  go_wp2_with (go_at_call 227;refine R1.out.mono ?_;rintro e w1 ⟨rfl,b1⟩)
  go_ret
  exact ⟨rfl,b1⟩
 ·go_enter Tryz.func151,Tryz.ntmps151
  go_wp2_with (first | (go_at_call 227;refine R1.out.mono ?_;rintro e w1 ⟨rfl,b1⟩;have B1:=Hd b1;clear b1) | (go_at_call 232;refine (F.out (by trivial) _ B1.out).mono ?_;rintro e w2 ⟨rfl,rfl⟩))
  go_ret
  exact ⟨rfl,B1.out⟩
end Go.Proofs.YtcandidgaegghaaGreatDoor
