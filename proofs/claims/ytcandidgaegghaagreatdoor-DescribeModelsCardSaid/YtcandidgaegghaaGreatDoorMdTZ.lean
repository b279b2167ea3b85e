/- Symbols: lyceumref11.less, power; finite.power, compareSymbols and the tests of symbols. Conditions: names fit into memory. -/
import Derived.Test.YtcandidgaegghaaGreatDoorCpZ
import Derived.Test.YtcandidgaegghaaGreatDoorMdLZ
set_option maxRecDepth 10000
set_option linter.unusedSimpArgs false
set_option linter.unusedVariables false
namespace Go.Proofs.YtcandidgaegghaaGreatDoor
open Go Go.RowKit Go.Sort Ly
set_option maxHeartbeats 4000000
theorem rN : ∀ x y : List UInt8,decide (Lib.compareBytes x y < 0) = Op.bytesLess x y
 | [],[]=>rfl
 | [],_ :: _=>rfl
 | _ :: _,[]=>rfl
 | a :: ta,b :: tb=>by
  unfold Lib.compareBytes Op.bytesLess
  by_cases h : a < b
  ·have h2 : ¬ b < a:=fun h'=>by exact absurd (UInt8.lt_trans h h') (UInt8.lt_irrefl _)
   have h3 : ¬ a = b:=fun e=>by subst e;exact absurd h (UInt8.lt_irrefl _)
   simp [h,h2,h3]
  ·by_cases h' : b < a
   ·have h3 : ¬ a = b:=fun e=>by subst e;exact absurd h' (UInt8.lt_irrefl _)
    simp [h,h',h3]
   ·have h3 : a = b:=by
     rcases UInt8.lt_or_lt_of_ne (a:=a) (b:=b) |> fun t=>(Classical.em (a = b)).imp_right t with e | e
     ·exact e
     ·exact absurd e (by simp [h,h'])
    subst h3
    simp [h,rN ta tb]
theorem cmp_eq : ∀ x y : List UInt8,Lib.compareBytes x y = 0 ↔ x = y
 | [],[]=>by simp [Lib.compareBytes]
 | [],_ :: _=>by simp [Lib.compareBytes]
 | _ :: _,[]=>by simp [Lib.compareBytes]
 | a :: ta,b :: tb=>by
  unfold Lib.compareBytes
  by_cases h : a < b
  ·have h3 : ¬ a = b:=fun e=>by subst e;exact absurd h (UInt8.lt_irrefl _)
   simp [h,h3]
  ·by_cases h' : b < a
   ·have h3 : ¬ a = b:=fun e=>by subst e;exact absurd h' (UInt8.lt_irrefl _)
    simp [h,h',h3]
   ·have h3 : a = b:=by
     rcases UInt8.lt_or_lt_of_ne (a:=a) (b:=b) |> fun t=>(Classical.em (a = b)).imp_right t with e | e
     ·exact e
     ·exact absurd e (by simp [h,h'])
    subst h3
    simp [h,cmp_eq ta tb]
def fL (ok : Bs → Bool) (l : List Bs) (j : Nat) : Bool :=
 match l[j]? with
 | none=>true
 | some x=>ok x && (match j with
  | 0=>true
  | i + 1=>match l[i]? with
   | none=>true
   | some y=>Op.bytesLess y x)
theorem rA {ok : Bs → Bool} {l : List Bs} {x : Bs} (h : l[0]? = some x) : fL ok l 0 = ok x:=by simp [fL,h]
theorem qZ {ok : Bs → Bool} {l : List Bs} {x y : Bs} {i : Nat} (h : l[i + 1]? = some x) (h' : l[i]? = some y) : fL ok l (i + 1) = (ok x && Op.bytesLess y x):=by simp [fL,h,h']
def iN (a b : Bi) : Bool:=Op.bytesLess a.name b.name || (decide (a.name = b.name) && decide (a.at_ < b.at_))
def dI (ok : Bs → Bool) (mx : Int) (l : List Bi) (j : Nat) : Bool :=
 match l[j]? with
 | none=>true
 | some x=>(ok x.name && (decide (0 ≤ x.at_) && decide (x.at_ ≤ mx))) && (match j with
  | 0=>true
  | i + 1=>match l[i]? with
   | none=>true
   | some y=>iN y x)
theorem iW {ok : Bs → Bool} {mx : Int} {l : List Bi} {x : Bi} (h : l[0]? = some x) : dI ok mx l 0 = (ok x.name && (decide (0 ≤ x.at_) && decide (x.at_ ≤ mx))):=by simp [dI,h]
theorem iV {ok : Bs → Bool} {mx : Int} {l : List Bi} {x y : Bi} {i : Nat} (h : l[i + 1]? = some x) (h' : l[i]? = some y) : dI ok mx l (i + 1) = ((ok x.name && (decide (0 ≤ x.at_) && decide (x.at_ ≤ mx))) && iN y x):=by simp [dI,h,h']
def symF (l : List Fa) : List Bi:=l.map fun f=>⟨f.name,f.args⟩
def symG (l : List Fu) : List Bi:=l.map fun f=>⟨f.name,f.args⟩
def sigB (F G : List Bi) (V : List Bs) : Bool:=aI F.length (dI aY 2 F) && (aI G.length (dI bZ 1 G) && aI V.length (fL bR V))
def powZ (z n : Int) : Int:=z ^ n.toNat
def iG (z : Int) (l : List Fa) (j : Nat) : Bool :=
 match l[j]? with
 | none=>true
 | some f=>decide (0 ≤ f.tru) && decide (f.tru < 2 ^ (powZ z f.args).toNat)
theorem lJ {z : Int} {l : List Fa} {j : Nat} {f : Fa} (h : l[j]? = some f) : iG z l j = (decide (0 ≤ f.tru) && decide (f.tru < 2 ^ (powZ z f.args).toNat)):=by simp [iG,h]
def inAt (z : Int) (l : List Int) (j : Nat) : Bool :=
 match l[j]? with
 | none=>true
 | some x=>decide (0 ≤ x) && decide (x < z)
theorem pW {z : Int} {l : List Int} {j : Nat} {x : Int} (h : l[j]? = some x) : inAt z l j = (decide (0 ≤ x) && decide (x < z)):=by simp [inAt,h]
def iH (z : Int) (l : List Fu) (j : Nat) : Bool :=
 match l[j]? with
 | none=>true
 | some f=>decide ((f.value.length : Int) = powZ z f.args) && aI f.value.length (inAt z f.value)
theorem lK {z : Int} {l : List Fu} {j : Nat} {f : Fu} (h : l[j]? = some f) : iH z l j = (decide ((f.value.length : Int) = powZ z f.args) && aI f.value.length (inAt z f.value)):=by simp [iH,h]
def jM (z : Int) (l : List Bi) (j : Nat) : Bool :=
 match l[j]? with
 | none=>true
 | some b=>decide (0 ≤ b.at_) && decide (b.at_ < z)
theorem lI {z : Int} {l : List Bi} {j : Nat} {b : Bi} (h : l[j]? = some b) : jM z l j = (decide (0 ≤ b.at_) && decide (b.at_ < z)):=by simp [jM,h]
def finB (F : List Fa) (G : List Fu) (B : List Bi) (z lo : Int) (rn : Nat) : Bool:=decide (1 ≤ z ∧ z ≤ 3 ∧ rn = 0 ∧ lo = 0) && (sigB (symF F) (symG G) (B.map Bi.name) &&
 (aI F.length (iG z F) && (aI G.length (iH z G) && aI B.length (jM z B))))
theorem nC {w : World} {b t : Nat} {x0 x1 : Value} (h : w.heap[b]? = some (.cells #[x0,x1] t (0,0))) :
  w.cell? ⟨b,0,none⟩ = some x0 ∧ w.cell? ⟨b,1,none⟩ = some x1 :=
 ⟨(aJ h 0).trans rfl,(aJ h 1).trans rfl⟩
theorem zC (x y : Bi) (w : World) : Calls Tryz.prog 280 #[.agg #[str x.name,.int .i64 x.at_],.agg #[str y.name,.int .i64 y.at_]] w (Rt (.bool (iN x y)) w):=by
 obtain ⟨n,a⟩:=x
 obtain ⟨m,b⟩:=y
 obtain ⟨r,hr⟩ : ∃ r,Op.bytesLess n m = r:=⟨_,rfl⟩
 obtain ⟨s,hs⟩ : ∃ s,(n == m) = s:=⟨_,rfl⟩
 obtain ⟨d,hd⟩ : ∃ d,decide (a < b) = d:=⟨_,rfl⟩
 have t1 : Op.bytesLess (⟨n.toArray⟩ : ByteArray).toList (⟨m.toArray⟩ : ByteArray).toList = r:=by simpa using hr
 have t2 : ((⟨n.toArray⟩ : ByteArray).toList == (⟨m.toArray⟩ : ByteArray).toList) = s:=by simpa using hs
 have TB : iN ⟨n,a⟩ ⟨m,b⟩ = (r || (s && d)):=by
  unfold iN
  have : decide (n = m) = s:=by rw [← hs];by_cases e : n = m <;> simp [e]
  simp only [hr,this,hd]
 rw [TB]
 have HB : Hid (Below w.heap.size w ((w.alloc (.cells #[str n,.int .i64 a] 308)).alloc (.cells #[str m,.int .i64 b] 308))):=bnew.alloc (by simp) _
 clear TB
 rcases (show r = true ∨ (r = false ∧ s = false) ∨ (r = false ∧ s = true ∧ d = false) ∨ (r = false ∧ s = true ∧ d = true) by cases r <;> cases s <;> cases d <;> simp) with rfl | ⟨rfl,rfl⟩ | ⟨rfl,rfl,rfl⟩ | ⟨rfl,rfl,rfl⟩
 all_goals
  go_enter Tryz.func280,Tryz.ntmps280
  go_wp2_with fail
  go_ret
  exact ⟨by simp,HB.out⟩
theorem power11_c (z n : Int) (hz : 1 ≤ z) (hz3 : z ≤ 3) (hn : 0 ≤ n) (hn2 : n ≤ 2) (w : World) : Calls Tryz.prog 224 #[.int .i64 z,.int .i64 n] w fun e w'=>e = .returned (.int .i64 (powZ z n)) ∧ w = w':=by
 rcases (show z = 1 ∨ z = 2 ∨ z = 3 by omega) with rfl | rfl | rfl <;> rcases (show n = 0 ∨ n = 1 ∨ n = 2 by omega) with rfl | rfl | rfl
 ·show Calls Tryz.prog 224 #[.int .i64 1,.int .i64 0] w fun e w'=>e = .returned (.int .i64 1) ∧ w = w'
  go_enter Tryz.func224,Tryz.ntmps224
  go_wp2_with fail
  refine wp_loop_rounds 1 ?_
  rw [rounds_succ];go_wp2_with fail
  go_ret
  exact ⟨rfl,rfl⟩
 ·show Calls Tryz.prog 224 #[.int .i64 1,.int .i64 1] w fun e w'=>e = .returned (.int .i64 1) ∧ w = w'
  go_enter Tryz.func224,Tryz.ntmps224
  go_wp2_with fail
  refine wp_loop_rounds 2 ?_
  rw [rounds_succ];go_wp2_with fail
  rw [rounds_succ];go_wp2_with fail
  go_ret
  exact ⟨rfl,rfl⟩
 ·show Calls Tryz.prog 224 #[.int .i64 1,.int .i64 2] w fun e w'=>e = .returned (.int .i64 1) ∧ w = w'
  go_enter Tryz.func224,Tryz.ntmps224
  go_wp2_with fail
  refine wp_loop_rounds 3 ?_
  rw [rounds_succ];go_wp2_with fail
  rw [rounds_succ];go_wp2_with fail
  rw [rounds_succ];go_wp2_with fail
  go_ret
  exact ⟨rfl,rfl⟩
 ·show Calls Tryz.prog 224 #[.int .i64 2,.int .i64 0] w fun e w'=>e = .returned (.int .i64 1) ∧ w = w'
  go_enter Tryz.func224,Tryz.ntmps224
  go_wp2_with fail
  refine wp_loop_rounds 1 ?_
  rw [rounds_succ];go_wp2_with fail
  go_ret
  exact ⟨rfl,rfl⟩
 ·show Calls Tryz.prog 224 #[.int .i64 2,.int .i64 1] w fun e w'=>e = .returned (.int .i64 2) ∧ w = w'
  go_enter Tryz.func224,Tryz.ntmps224
  go_wp2_with fail
  refine wp_loop_rounds 2 ?_
  rw [rounds_succ];go_wp2_with fail
  rw [rounds_succ];go_wp2_with fail
  go_ret
  exact ⟨rfl,rfl⟩
 ·show Calls Tryz.prog 224 #[.int .i64 2,.int .i64 2] w fun e w'=>e = .returned (.int .i64 4) ∧ w = w'
  go_enter Tryz.func224,Tryz.ntmps224
  go_wp2_with fail
  refine wp_loop_rounds 3 ?_
  rw [rounds_succ];go_wp2_with fail
  rw [rounds_succ];go_wp2_with fail
  rw [rounds_succ];go_wp2_with fail
  go_ret
  exact ⟨rfl,rfl⟩
 ·show Calls Tryz.prog 224 #[.int .i64 3,.int .i64 0] w fun e w'=>e = .returned (.int .i64 1) ∧ w = w'
  go_enter Tryz.func224,Tryz.ntmps224
  go_wp2_with fail
  refine wp_loop_rounds 1 ?_
  rw [rounds_succ];go_wp2_with fail
  go_ret
  exact ⟨rfl,rfl⟩
 ·show Calls Tryz.prog 224 #[.int .i64 3,.int .i64 1] w fun e w'=>e = .returned (.int .i64 3) ∧ w = w'
  go_enter Tryz.func224,Tryz.ntmps224
  go_wp2_with fail
  refine wp_loop_rounds 2 ?_
  rw [rounds_succ];go_wp2_with fail
  rw [rounds_succ];go_wp2_with fail
  go_ret
  exact ⟨rfl,rfl⟩
 ·show Calls Tryz.prog 224 #[.int .i64 3,.int .i64 2] w fun e w'=>e = .returned (.int .i64 9) ∧ w = w'
  go_enter Tryz.func224,Tryz.ntmps224
  go_wp2_with fail
  refine wp_loop_rounds 3 ?_
  rw [rounds_succ];go_wp2_with fail
  rw [rounds_succ];go_wp2_with fail
  rw [rounds_succ];go_wp2_with fail
  go_ret
  exact ⟨rfl,rfl⟩
theorem power_c (z n : Int) (hz : 1 ≤ z) (hz3 : z ≤ 3) (hn : 0 ≤ n) (hn2 : n ≤ 2) (w : World) : Calls Tryz.prog 356 #[.int .i64 z,.int .i64 n] w fun e w'=>e = .returned (.int .i64 (powZ z n)) ∧ w = w':=by
 rcases (show z = 1 ∨ z = 2 ∨ z = 3 by omega) with rfl | rfl | rfl <;> rcases (show n = 0 ∨ n = 1 ∨ n = 2 by omega) with rfl | rfl | rfl
 ·show Calls Tryz.prog 356 #[.int .i64 1,.int .i64 0] w fun e w'=>e = .returned (.int .i64 1) ∧ w = w'
  go_enter Tryz.func356,Tryz.ntmps356
  go_wp2_with fail
  refine wp_loop_rounds 1 ?_
  rw [rounds_succ];go_wp2_with fail
  go_ret
  exact ⟨rfl,rfl⟩
 ·show Calls Tryz.prog 356 #[.int .i64 1,.int .i64 1] w fun e w'=>e = .returned (.int .i64 1) ∧ w = w'
  go_enter Tryz.func356,Tryz.ntmps356
  go_wp2_with fail
  refine wp_loop_rounds 2 ?_
  rw [rounds_succ];go_wp2_with fail
  rw [rounds_succ];go_wp2_with fail
  go_ret
  exact ⟨rfl,rfl⟩
 ·show Calls Tryz.prog 356 #[.int .i64 1,.int .i64 2] w fun e w'=>e = .returned (.int .i64 1) ∧ w = w'
  go_enter Tryz.func356,Tryz.ntmps356
  go_wp2_with fail
  refine wp_loop_rounds 3 ?_
  rw [rounds_succ];go_wp2_with fail
  rw [rounds_succ];go_wp2_with fail
  rw [rounds_succ];go_wp2_with fail
  go_ret
  exact ⟨rfl,rfl⟩
 ·show Calls Tryz.prog 356 #[.int .i64 2,.int .i64 0] w fun e w'=>e = .returned (.int .i64 1) ∧ w = w'
  go_enter Tryz.func356,Tryz.ntmps356
  go_wp2_with fail
  refine wp_loop_rounds 1 ?_
  rw [rounds_succ];go_wp2_with fail
  go_ret
  exact ⟨rfl,rfl⟩
 ·show Calls Tryz.prog 356 #[.int .i64 2,.int .i64 1] w fun e w'=>e = .returned (.int .i64 2) ∧ w = w'
  go_enter Tryz.func356,Tryz.ntmps356
  go_wp2_with fail
  refine wp_loop_rounds 2 ?_
  rw [rounds_succ];go_wp2_with fail
  rw [rounds_succ];go_wp2_with fail
  go_ret
  exact ⟨rfl,rfl⟩
 ·show Calls Tryz.prog 356 #[.int .i64 2,.int .i64 2] w fun e w'=>e = .returned (.int .i64 4) ∧ w = w'
  go_enter Tryz.func356,Tryz.ntmps356
  go_wp2_with fail
  refine wp_loop_rounds 3 ?_
  rw [rounds_succ];go_wp2_with fail
  rw [rounds_succ];go_wp2_with fail
  rw [rounds_succ];go_wp2_with fail
  go_ret
  exact ⟨rfl,rfl⟩
 ·show Calls Tryz.prog 356 #[.int .i64 3,.int .i64 0] w fun e w'=>e = .returned (.int .i64 1) ∧ w = w'
  go_enter Tryz.func356,Tryz.ntmps356
  go_wp2_with fail
  refine wp_loop_rounds 1 ?_
  rw [rounds_succ];go_wp2_with fail
  go_ret
  exact ⟨rfl,rfl⟩
 ·show Calls Tryz.prog 356 #[.int .i64 3,.int .i64 1] w fun e w'=>e = .returned (.int .i64 3) ∧ w = w'
  go_enter Tryz.func356,Tryz.ntmps356
  go_wp2_with fail
  refine wp_loop_rounds 2 ?_
  rw [rounds_succ];go_wp2_with fail
  rw [rounds_succ];go_wp2_with fail
  go_ret
  exact ⟨rfl,rfl⟩
 ·show Calls Tryz.prog 356 #[.int .i64 3,.int .i64 2] w fun e w'=>e = .returned (.int .i64 9) ∧ w = w'
  go_enter Tryz.func356,Tryz.ntmps356
  go_wp2_with fail
  refine wp_loop_rounds 3 ?_
  rw [rounds_succ];go_wp2_with fail
  rw [rounds_succ];go_wp2_with fail
  rw [rounds_succ];go_wp2_with fail
  go_ret
  exact ⟨rfl,rfl⟩
theorem symRight357_c (x : Bi) (hx : x.name.length ≤ 9223372036854775807) (w : World) : Calls Tryz.prog 357 #[.agg #[str x.name,.int .i64 x.at_]] w (Rt (.bool (aY x.name && (decide (0 ≤ x.at_) && decide (x.at_ ≤ 2)))) w):=by
 obtain ⟨n,a⟩:=x
 have HP:=Hd (fF n · hx)
 obtain ⟨q,hq⟩ : ∃ q,aY n = q:=⟨_,rfl⟩
 obtain ⟨d,hd⟩ : ∃ d,decide (0 ≤ a) = d:=⟨_,rfl⟩
 obtain ⟨d2,hd2⟩ : ∃ d2,decide (a ≤ 2) = d2:=⟨_,rfl⟩
 have TB : (aY n && (decide (0 ≤ a) && decide (a ≤ 2))) = (q && (d && d2)):=by rw [hq,hd,hd2]
 simp only [] at hx ⊢
 rw [TB]
 rw [hq] at HP
 have HB : Hid (Below w.heap.size w (w.alloc (.cells #[str n,.int .i64 a] 360))):=bnew
 have NEW:=Hd (heap_alloc_new w (.cells #[str n,.int .i64 a] 360))
 clear hq TB hx
 rcases (show q = false ∨ (q = true ∧ d = false) ∨ (q = true ∧ d = true ∧ d2 = false) ∨ (q = true ∧ d = true ∧ d2 = true) by cases q <;> cases d <;> cases d2 <;> simp) with rfl | ⟨rfl,rfl⟩ | ⟨rfl,rfl,rfl⟩ | ⟨rfl,rfl,rfl⟩
 all_goals
  go_enter Tryz.func357,Tryz.ntmps357
  go_wp2_with (go_at_call 198;refine (HP.out _).mono ?_;rintro e w1 ⟨rfl,b1⟩;have N1:=Hd (kc b1 NEW.out);have B1:=Hd (aA HB.out b1);clear b1;obtain ⟨c0,c1⟩:=nC N1.out)
  go_ret
  exact ⟨by simp,B1.out⟩
theorem symRight358_c (x : Bi) (hx : x.name.length ≤ 9223372036854775807) (w : World) : Calls Tryz.prog 358 #[.agg #[str x.name,.int .i64 x.at_]] w (Rt (.bool (bZ x.name && (decide (0 ≤ x.at_) && decide (x.at_ ≤ 1)))) w):=by
 obtain ⟨n,a⟩:=x
 have HP:=Hd (oA n · hx)
 obtain ⟨q,hq⟩ : ∃ q,bZ n = q:=⟨_,rfl⟩
 obtain ⟨d,hd⟩ : ∃ d,decide (0 ≤ a) = d:=⟨_,rfl⟩
 obtain ⟨d2,hd2⟩ : ∃ d2,decide (a ≤ 1) = d2:=⟨_,rfl⟩
 have TB : (bZ n && (decide (0 ≤ a) && decide (a ≤ 1))) = (q && (d && d2)):=by rw [hq,hd,hd2]
 simp only [] at hx ⊢
 rw [TB]
 rw [hq] at HP
 have HB : Hid (Below w.heap.size w (w.alloc (.cells #[str n,.int .i64 a] 360))):=bnew
 have NEW:=Hd (heap_alloc_new w (.cells #[str n,.int .i64 a] 360))
 clear hq TB hx
 rcases (show q = false ∨ (q = true ∧ d = false) ∨ (q = true ∧ d = true ∧ d2 = false) ∨ (q = true ∧ d = true ∧ d2 = true) by cases q <;> cases d <;> cases d2 <;> simp) with rfl | ⟨rfl,rfl⟩ | ⟨rfl,rfl,rfl⟩ | ⟨rfl,rfl,rfl⟩
 all_goals
  go_enter Tryz.func358,Tryz.ntmps358
  go_wp2_with (go_at_call 307;refine (HP.out _).mono ?_;rintro e w1 ⟨rfl,b1⟩;have N1:=Hd (kc b1 NEW.out);have B1:=Hd (aA HB.out b1);clear b1;obtain ⟨c0,c1⟩:=nC N1.out)
  go_ret
  exact ⟨by simp,B1.out⟩
def oK (x y : Bi) : Int:=if Lib.compareBytes x.name y.name = 0 then Lib.compareInt x.at_ y.at_ else Lib.compareBytes x.name y.name
theorem rB (x y : Bi) : decide (0 ≤ oK x y) = !iN x y:=by
 obtain ⟨n,a⟩:=x
 obtain ⟨m,b⟩:=y
 unfold oK iN
 have h1:=rN n m
 have h2:=cmp_eq n m
 simp only []
 by_cases e : Lib.compareBytes n m = 0
 ·have e2:=h2.1 e
  subst e2
  rw [e] at h1
  rw [if_pos e,← h1]
  unfold Lib.compareInt
  by_cases h3 : a < b
  ·simp [h3]
  ·by_cases h4 : b < a
   ·simp [h3,h4]
   ·simp [h3,h4]
 ·rw [if_neg e,← h1]
  have : ¬ n = m:=fun e2=>e (h2.2 e2)
  simp [this]
  by_cases h3 : Lib.compareBytes n m < 0
  ·simp [h3]
  ·simp [h3];omega
theorem kT (x y : Bi) (w : World) : Calls Tryz.prog 360 #[.agg #[str x.name,.int .i64 x.at_],.agg #[str y.name,.int .i64 y.at_]] w (Rt (.int .i64 (oK x y)) w):=by
 obtain ⟨n,a⟩:=x
 obtain ⟨m,b⟩:=y
 have C1 : Hid (∀ W,Calls Tryz.prog 164 #[str n,str m] W fun e w'=>e = .returned (.int .i64 (Lib.compareBytes n m)) ∧ w' = W):=fun W=>by
  have:=Tryz.strings_Compare ⟨n.toArray⟩ ⟨m.toArray⟩ W
  simpa using this
 have C2:=Hd (Tryz.cmp_Compare_int a b)
 obtain ⟨v,hv⟩ : ∃ v,Lib.compareBytes n m = v:=⟨_,rfl⟩
 obtain ⟨u,hu⟩ : ∃ u,Lib.compareInt a b = u:=⟨_,rfl⟩
 have TB : oK ⟨n,a⟩ ⟨m,b⟩ = if v = 0 then u else v:=by unfold oK;simp only [hv,hu]
 rw [TB]
 rw [hv] at C1
 rw [hu] at C2
 have HB : Hid (Below w.heap.size w ((w.alloc (.cells #[str n,.int .i64 a] 360)).alloc (.cells #[str m,.int .i64 b] 360))):=bnew.alloc (by simp) _
 clear hv hu TB
 by_cases e : v = 0
 ·have t1 : (v != 0) = false:=by simpa using e
  rw [if_pos e]
  clear e
  go_enter Tryz.func360,Tryz.ntmps360
  go_wp2_with (first | (go_at_call 164;refine (C1.out _).mono ?_;rintro e w1 ⟨rfl,rfl⟩) | (go_at_call 243;refine (C2.out _).mono ?_;rintro e w1 ⟨rfl,rfl⟩))
  go_ret
  exact ⟨rfl,HB.out⟩
 ·have t1 : (v != 0) = true:=by simpa using e
  rw [if_neg e]
  clear e
  go_enter Tryz.func360,Tryz.ntmps360
  go_wp2_with (go_at_call 164;refine (C1.out _).mono ?_;rintro e w1 ⟨rfl,rfl⟩)
  go_ret
  exact ⟨rfl,HB.out⟩
open Go Go.RowKit Go.Sort Ly
set_option maxHeartbeats 4000000
theorem incr357_c (l : List Bi) (hl : ∀ x ∈ l,x.name.length ≤ 9223372036854775807) (a : Option Addr) (k c : Nat) (w : World) (hx : aM w 2 (bisV l) l.length (.slice a k c)) :
  Calls Tryz.prog 359 #[.slice a k c,.func (.func 360) #[] #[],.func (.func 357) #[] #[]] w (Rt (.bool (aI l.length (dI aY 2 l))) w):=by
 have hk:=hx.len
 have hlk : k ≤ 9223372036854775807:=le63 (Nat.le_trans (Nat.le_of_eq hk.1) (Nat.le_trans hk.2.1 hk.2.2.1))
 have L1:=Hd hk.1
 have HX:=Hd hx
 have HL:=Hd hl
 obtain ⟨R,hR⟩ : ∃ R,aI l.length (dI aY 2 l) = R:=⟨_,rfl⟩
 have HR : Hid (aI k (dI aY 2 l) = R):=by show _ = _;rw [← hR,hk.1]
 rw [hR]
 clear hk hx hl hR
 go_enter Tryz.func359,Tryz.ntmps359
 go_wp2_with fail
 go_loopw [11] (fun i wr=>∃ j : Nat,j ≤ k ∧ i = .int .i64 j ∧ Hid (aI j (dI aY 2 l) = true ∧ Below w.heap.size w wr)) (fun i _=>k - (intOf i).toNat)
 case atStart=>exact ⟨0,Nat.zero_le _,rfl,aN _,Below.refl _ _⟩
 case round =>
  obtain ⟨j,hj,rfl,hs⟩:=hrel
  by_cases hlt : j < k
  ·obtain ⟨T,hT⟩:=aH (l:=l) (j:=j) (by rw [← L1.out];exact hlt)
   obtain ⟨b,off,rfl,p0,p1⟩:=gE HX.out hT
   have hK:=aC hs.out.2
   have c0:=hK _ _ p0;have c1:=hK _ _ p1
   have TL:=HL.out T (List.mem_of_getElem? hT)
   have GET : Hid (∀ i y,l[i]? = some y → wr.cell? ⟨b,off + i * 2,none⟩ = some (str y.name) ∧ wr.cell? ⟨b,off + i * 2 + 1,none⟩ = some (.int .i64 y.at_)):=fun i y hy=>by
    obtain ⟨b',off',e,q0,q1⟩:=gE HX.out hy
    cases e;exact ⟨hK _ _ q0,hK _ _ q1⟩
   have HT:=Hd hT
   have SY:=Hd (fun W=>symRight357_c T TL W)
   have SC:=Hd (fun y W=>kT y T W)
   obtain ⟨nm,ar⟩:=T
   simp only [Bi.at_,Bi.name] at *
   obtain ⟨q,hq⟩ : ∃ q,(aY nm && (decide (0 ≤ ar) && decide (ar ≤ 2))) = q:=⟨_,rfl⟩
   have HQ:=Hd hq
   have A1 : Hid (Below wr.heap.size wr (wr.alloc (.cells #[str nm,.int .i64 ar] 360))):=bnew
   have B1 : Hid (Below w.heap.size w (wr.alloc (.cells #[str nm,.int .i64 ar] 360))):=aA hs.out.2 A1.out
   have NEW1:=Hd (heap_alloc_new wr (.cells #[str nm,.int .i64 ar] 360))
   obtain ⟨e0,e1⟩:=nC NEW1.out
   have m0:=cell_regrown e0;have m1:=cell_regrown e1
   have cP : Hid (∀ d os,Calls Tryz.prog 357 #[.agg #[str nm,.int .i64 ar]] (grow (redrawn (wr.alloc (.cells #[str nm,.int .i64 ar] 360)) d) os) fun e w''=>e = .returned (.bool q) ∧ ∃ p : Regrown,w'' = grow (redrawn (wr.alloc (.cells #[str nm,.int .i64 ar] 360)) p.d) p.os):=fun d os=>by
    rw [← hq];exact Calls.regrown_of (SY.out _)
   clear hT hK p0 p1 hq e0 e1
   cases j with
   | zero =>
    rw [Nat.zero_mul,Nat.add_zero] at c0 c1
    have QZ : Hid (dI aY 2 l 0 = q):=by show _ = _;rw [iW HT.out,HQ.out]
    cases q
    ·have RT : Hid (R = false):=by show _ = _;rw [← HR.out,aE hlt QZ.out]
     go_wp2_with fail
     refine wqb ?_
     repeat (go_big_quiet_step ((first | (go_at_call 357;exact cP.out _ _))))
     refine wpQuiet_nil (qe fun wq Bwq=>?_)
     go_wp2_with fail
     go_ret
     exact ⟨by rw [RT.out];rfl,aA B1.out Bwq.out⟩
    ·go_wp2_with fail
     refine wqb ?_
     repeat (go_big_quiet_step ((first | (go_at_call 357;exact cP.out _ _))))
     refine wpQuiet_nil (qe fun wq Bwq=>?_)
     go_wp2_with fail
     go_roundw
     case rel=>exact ⟨0 + 1,by omega,by go_num,aL hs.out.1 (by rw [QZ.out]),aA B1.out Bwq.out⟩
     case measure=>simp [intOf];omega
   | succ i =>
    obtain ⟨Y,hY⟩:=aH (l:=l) (j:=i) (by rw [← L1.out];omega)
    obtain ⟨f0,f1⟩:=GET.out i Y hY
    have n0:=cell_regrown (aC A1.out _ _ f0)
    have n1:=cell_regrown (aC A1.out _ _ f1)
    obtain ⟨v,hv⟩ : ∃ v,oK Y ⟨nm,ar⟩ = v:=⟨_,rfl⟩
    obtain ⟨r,hr⟩ : ∃ r,iN Y ⟨nm,ar⟩ = r:=⟨_,rfl⟩
    have cC : Hid (∀ d os,Calls Tryz.prog 360 #[.agg #[str Y.name,.int .i64 Y.at_],.agg #[str nm,.int .i64 ar]] (grow (redrawn (wr.alloc (.cells #[str nm,.int .i64 ar] 360)) d) os) fun e w''=>e = .returned (.int .i64 v) ∧ ∃ p : Regrown,w'' = grow (redrawn (wr.alloc (.cells #[str nm,.int .i64 ar] 360)) p.d) p.os):=fun d os=>by
     rw [← hv];exact Calls.regrown_of (SC.out Y _)
    have QZ : Hid (dI aY 2 l (i + 1) = (q && r)):=by show _ = _;rw [iV HT.out hY,HQ.out,hr]
    have t0 : decide ((0 : Int) < (i : Int) + 1) = true:=decide_eq_true (by omega)
    have e0 : ((i : Int) + 1 - 1) = (i : Int):=by omega
    have t1 : decide (0 ≤ v) = !r:=by rw [← hv,rB,hr]
    obtain ⟨y,yar⟩:=Y
    simp only [Bi.at_,Bi.name] at *
    clear hY hv hr f0 f1 SC SY
    rcases (show q = false ∨ (q = true ∧ r = false) ∨ (q = true ∧ r = true) by cases q <;> cases r <;> simp) with rfl | ⟨rfl,rfl⟩ | ⟨rfl,rfl⟩
    ·have RT : Hid (R = false):=by show _ = _;rw [← HR.out,aE hlt (by rw [QZ.out];rfl)]
     go_wp2_with fail
     refine wqb ?_
     repeat (go_big_quiet_step ((first | (go_at_call 357;exact cP.out _ _) | (go_at_call 360;exact cC.out _ _))))
     refine wpQuiet_nil (qe fun wq Bwq=>?_)
     go_wp2_with fail
     go_ret
     exact ⟨by rw [RT.out];rfl,aA B1.out Bwq.out⟩
    ·have RT : Hid (R = false):=by show _ = _;rw [← HR.out,aE hlt (by rw [QZ.out];rfl)]
     go_wp2_with fail
     refine wqb ?_
     repeat (go_big_quiet_step ((first | (go_at_call 357;exact cP.out _ _) | (go_at_call 360;exact cC.out _ _))))
     refine wpQuiet_nil (qe fun wq Bwq=>?_)
     go_wp2_with fail
     go_ret
     exact ⟨by rw [RT.out];rfl,aA B1.out Bwq.out⟩
    ·go_wp2_with fail
     refine wqb ?_
     repeat (go_big_quiet_step ((first | (go_at_call 357;exact cP.out _ _) | (go_at_call 360;exact cC.out _ _))))
     refine wpQuiet_nil (qe fun wq Bwq=>?_)
     go_wp2_with fail
     go_roundw
     case rel=>exact ⟨i + 1 + 1,by omega,by go_num,aL hs.out.1 (by rw [QZ.out];rfl),aA B1.out Bwq.out⟩
     case measure=>simp [intOf];omega
  ·have e : j = k:=by omega
   have RT : Hid (R = true):=by show _ = _;rw [← HR.out,← e];exact hs.out.1
   have BW:=Hd hs.out.2
   have g1 : decide ((j : Int) < (k : Int)) = false:=by simp;omega
   clear hs
   go_wp2_with fail
   go_ret
   exact ⟨by rw [RT.out];rfl,BW.out⟩
theorem incr358_c (l : List Bi) (hl : ∀ x ∈ l,x.name.length ≤ 9223372036854775807) (a : Option Addr) (k c : Nat) (w : World) (hx : aM w 2 (bisV l) l.length (.slice a k c)) :
  Calls Tryz.prog 359 #[.slice a k c,.func (.func 360) #[] #[],.func (.func 358) #[] #[]] w (Rt (.bool (aI l.length (dI bZ 1 l))) w):=by
 have hk:=hx.len
 have hlk : k ≤ 9223372036854775807:=le63 (Nat.le_trans (Nat.le_of_eq hk.1) (Nat.le_trans hk.2.1 hk.2.2.1))
 have L1:=Hd hk.1
 have HX:=Hd hx
 have HL:=Hd hl
 obtain ⟨R,hR⟩ : ∃ R,aI l.length (dI bZ 1 l) = R:=⟨_,rfl⟩
 have HR : Hid (aI k (dI bZ 1 l) = R):=by show _ = _;rw [← hR,hk.1]
 rw [hR]
 clear hk hx hl hR
 go_enter Tryz.func359,Tryz.ntmps359
 go_wp2_with fail
 go_loopw [11] (fun i wr=>∃ j : Nat,j ≤ k ∧ i = .int .i64 j ∧ Hid (aI j (dI bZ 1 l) = true ∧ Below w.heap.size w wr)) (fun i _=>k - (intOf i).toNat)
 case atStart=>exact ⟨0,Nat.zero_le _,rfl,aN _,Below.refl _ _⟩
 case round =>
  obtain ⟨j,hj,rfl,hs⟩:=hrel
  by_cases hlt : j < k
  ·obtain ⟨T,hT⟩:=aH (l:=l) (j:=j) (by rw [← L1.out];exact hlt)
   obtain ⟨b,off,rfl,p0,p1⟩:=gE HX.out hT
   have hK:=aC hs.out.2
   have c0:=hK _ _ p0;have c1:=hK _ _ p1
   have TL:=HL.out T (List.mem_of_getElem? hT)
   have GET : Hid (∀ i y,l[i]? = some y → wr.cell? ⟨b,off + i * 2,none⟩ = some (str y.name) ∧ wr.cell? ⟨b,off + i * 2 + 1,none⟩ = some (.int .i64 y.at_)):=fun i y hy=>by
    obtain ⟨b',off',e,q0,q1⟩:=gE HX.out hy
    cases e;exact ⟨hK _ _ q0,hK _ _ q1⟩
   have HT:=Hd hT
   have SY:=Hd (fun W=>symRight358_c T TL W)
   have SC:=Hd (fun y W=>kT y T W)
   obtain ⟨nm,ar⟩:=T
   simp only [Bi.at_,Bi.name] at *
   obtain ⟨q,hq⟩ : ∃ q,(bZ nm && (decide (0 ≤ ar) && decide (ar ≤ 1))) = q:=⟨_,rfl⟩
   have HQ:=Hd hq
   have A1 : Hid (Below wr.heap.size wr (wr.alloc (.cells #[str nm,.int .i64 ar] 360))):=bnew
   have B1 : Hid (Below w.heap.size w (wr.alloc (.cells #[str nm,.int .i64 ar] 360))):=aA hs.out.2 A1.out
   have NEW1:=Hd (heap_alloc_new wr (.cells #[str nm,.int .i64 ar] 360))
   obtain ⟨e0,e1⟩:=nC NEW1.out
   have m0:=cell_regrown e0;have m1:=cell_regrown e1
   have cP : Hid (∀ d os,Calls Tryz.prog 358 #[.agg #[str nm,.int .i64 ar]] (grow (redrawn (wr.alloc (.cells #[str nm,.int .i64 ar] 360)) d) os) fun e w''=>e = .returned (.bool q) ∧ ∃ p : Regrown,w'' = grow (redrawn (wr.alloc (.cells #[str nm,.int .i64 ar] 360)) p.d) p.os):=fun d os=>by
    rw [← hq];exact Calls.regrown_of (SY.out _)
   clear hT hK p0 p1 hq e0 e1
   cases j with
   | zero =>
    rw [Nat.zero_mul,Nat.add_zero] at c0 c1
    have QZ : Hid (dI bZ 1 l 0 = q):=by show _ = _;rw [iW HT.out,HQ.out]
    cases q
    ·have RT : Hid (R = false):=by show _ = _;rw [← HR.out,aE hlt QZ.out]
     go_wp2_with fail
     refine wqb ?_
     repeat (go_big_quiet_step ((first | (go_at_call 358;exact cP.out _ _))))
     refine wpQuiet_nil (qe fun wq Bwq=>?_)
     go_wp2_with fail
     go_ret
     exact ⟨by rw [RT.out];rfl,aA B1.out Bwq.out⟩
    ·go_wp2_with fail
     refine wqb ?_
     repeat (go_big_quiet_step ((first | (go_at_call 358;exact cP.out _ _))))
     refine wpQuiet_nil (qe fun wq Bwq=>?_)
     go_wp2_with fail
     go_roundw
     case rel=>exact ⟨0 + 1,by omega,by go_num,aL hs.out.1 (by rw [QZ.out]),aA B1.out Bwq.out⟩
     case measure=>simp [intOf];omega
   | succ i =>
    obtain ⟨Y,hY⟩:=aH (l:=l) (j:=i) (by rw [← L1.out];omega)
    obtain ⟨f0,f1⟩:=GET.out i Y hY
    have n0:=cell_regrown (aC A1.out _ _ f0)
    have n1:=cell_regrown (aC A1.out _ _ f1)
    obtain ⟨v,hv⟩ : ∃ v,oK Y ⟨nm,ar⟩ = v:=⟨_,rfl⟩
    obtain ⟨r,hr⟩ : ∃ r,iN Y ⟨nm,ar⟩ = r:=⟨_,rfl⟩
    have cC : Hid (∀ d os,Calls Tryz.prog 360 #[.agg #[str Y.name,.int .i64 Y.at_],.agg #[str nm,.int .i64 ar]] (grow (redrawn (wr.alloc (.cells #[str nm,.int .i64 ar] 360)) d) os) fun e w''=>e = .returned (.int .i64 v) ∧ ∃ p : Regrown,w'' = grow (redrawn (wr.alloc (.cells #[str nm,.int .i64 ar] 360)) p.d) p.os):=fun d os=>by
     rw [← hv];exact Calls.regrown_of (SC.out Y _)
    have QZ : Hid (dI bZ 1 l (i + 1) = (q && r)):=by show _ = _;rw [iV HT.out hY,HQ.out,hr]
    have t0 : decide ((0 : Int) < (i : Int) + 1) = true:=decide_eq_true (by omega)
    have e0 : ((i : Int) + 1 - 1) = (i : Int):=by omega
    have t1 : decide (0 ≤ v) = !r:=by rw [← hv,rB,hr]
    obtain ⟨y,yar⟩:=Y
    simp only [Bi.at_,Bi.name] at *
    clear hY hv hr f0 f1 SC SY
    rcases (show q = false ∨ (q = true ∧ r = false) ∨ (q = true ∧ r = true) by cases q <;> cases r <;> simp) with rfl | ⟨rfl,rfl⟩ | ⟨rfl,rfl⟩
    ·have RT : Hid (R = false):=by show _ = _;rw [← HR.out,aE hlt (by rw [QZ.out];rfl)]
     go_wp2_with fail
     refine wqb ?_
     repeat (go_big_quiet_step ((first | (go_at_call 358;exact cP.out _ _) | (go_at_call 360;exact cC.out _ _))))
     refine wpQuiet_nil (qe fun wq Bwq=>?_)
     go_wp2_with fail
     go_ret
     exact ⟨by rw [RT.out];rfl,aA B1.out Bwq.out⟩
    ·have RT : Hid (R = false):=by show _ = _;rw [← HR.out,aE hlt (by rw [QZ.out];rfl)]
     go_wp2_with fail
     refine wqb ?_
     repeat (go_big_quiet_step ((first | (go_at_call 358;exact cP.out _ _) | (go_at_call 360;exact cC.out _ _))))
     refine wpQuiet_nil (qe fun wq Bwq=>?_)
     go_wp2_with fail
     go_ret
     exact ⟨by rw [RT.out];rfl,aA B1.out Bwq.out⟩
    ·go_wp2_with fail
     refine wqb ?_
     repeat (go_big_quiet_step ((first | (go_at_call 358;exact cP.out _ _) | (go_at_call 360;exact cC.out _ _))))
     refine wpQuiet_nil (qe fun wq Bwq=>?_)
     go_wp2_with fail
     go_roundw
     case rel=>exact ⟨i + 1 + 1,by omega,by go_num,aL hs.out.1 (by rw [QZ.out];rfl),aA B1.out Bwq.out⟩
     case measure=>simp [intOf];omega
  ·have e : j = k:=by omega
   have RT : Hid (R = true):=by show _ = _;rw [← HR.out,← e];exact hs.out.1
   have BW:=Hd hs.out.2
   have g1 : decide ((j : Int) < (k : Int)) = false:=by simp;omega
   clear hs
   go_wp2_with fail
   go_ret
   exact ⟨by rw [RT.out];rfl,BW.out⟩
theorem incrS_c (l : List Bs) (hl : ∀ x ∈ l,x.length ≤ 9223372036854775807) (a : Option Addr) (k c : Nat) (w : World) (hx : aX w l (.slice a k c)) :
  Calls Tryz.prog 361 #[.slice a k c,.func (.func 164) #[] #[],.func (.func 266) #[] #[]] w (Rt (.bool (aI l.length (fL bR l))) w):=by
 have hk:=hx.len
 have hlk : k ≤ 9223372036854775807:=by have:=le63 hk.2.2;omega
 have L1:=Hd hk.1
 have HX:=Hd hx
 have HL:=Hd hl
 obtain ⟨R,hR⟩ : ∃ R,aI l.length (fL bR l) = R:=⟨_,rfl⟩
 have HR : Hid (aI k (fL bR l) = R):=by show _ = _;rw [← hR,hk.1]
 rw [hR]
 clear hk hx hl hR
 go_enter Tryz.func361,Tryz.ntmps361
 go_wp2_with fail
 go_loopw [11] (fun i wr=>∃ j : Nat,j ≤ k ∧ i = .int .i64 j ∧ Hid (aI j (fL bR l) = true ∧ Below w.heap.size w wr)) (fun i _=>k - (intOf i).toNat)
 case atStart=>exact ⟨0,Nat.zero_le _,rfl,aN _,Below.refl _ _⟩
 case round =>
  obtain ⟨j,hj,rfl,hs⟩:=hrel
  by_cases hlt : j < k
  ·obtain ⟨x,hx⟩:=aH (l:=l) (j:=j) (by rw [← L1.out];exact hlt)
   obtain ⟨b,off,rfl,hc⟩:=jH HX.out hx
   have hK:=aC hs.out.2
   have c0:=hK _ _ (hc j x hx)
   obtain ⟨q,hq⟩ : ∃ q,bR x = q:=⟨_,rfl⟩
   have VC : Hid (∀ W,Calls Tryz.prog 266 #[str x] W (Rt (.bool q) W)):=fun W=>by
    rw [← hq];exact gD x W (HL.out x (List.mem_of_getElem? hx))
   have g1 : decide ((j : Int) < (k : Int)) = true:=by simp;omega
   have HQ:=Hd hq
   have HXX:=Hd hx
   cases j with
   | zero =>
    rw [Nat.add_zero] at c0
    have QZ : Hid (fL bR l 0 = q):=by show _ = _;rw [rA HXX.out,HQ.out]
    clear hc hx hq hK
    cases q
    ·have RT : Hid (R = false):=by show _ = _;rw [← HR.out,aE hlt QZ.out]
     go_wp2_with (first | (go_at_call 266;refine (VC.out _).mono ?_;rintro e w3 ⟨rfl,b3⟩;have B3:=Hd (aA hs.out.2 b3);have B4:=Hd b3;clear b3;first | have d1:=aC B4.out _ _ d0 | skip) | (go_at_call 164;refine (SC.out _).mono ?_;rintro e w4 ⟨rfl,rfl⟩))
     go_ret
     exact ⟨by rw [RT.out];rfl,B3.out⟩
    ·go_wp2_with (first | (go_at_call 266;refine (VC.out _).mono ?_;rintro e w3 ⟨rfl,b3⟩;have B3:=Hd (aA hs.out.2 b3);have B4:=Hd b3;clear b3;first | have d1:=aC B4.out _ _ d0 | skip) | (go_at_call 164;refine (SC.out _).mono ?_;rintro e w4 ⟨rfl,rfl⟩))
     go_roundw
     case rel=>exact ⟨1,by omega,by go_num,aL hs.out.1 QZ.out,B3.out⟩
     case measure=>simp [intOf];omega
   | succ i =>
    obtain ⟨y,hy⟩:=aH (l:=l) (j:=i) (by rw [← L1.out];omega)
    have d0:=hK _ _ (hc i y hy)
    obtain ⟨v,hv⟩ : ∃ v,Lib.compareBytes y x = v:=⟨_,rfl⟩
    obtain ⟨r,hr⟩ : ∃ r,Op.bytesLess y x = r:=⟨_,rfl⟩
    have SC : Hid (∀ W,Calls Tryz.prog 164 #[str y,str x] W fun e w'=>e = .returned (.int .i64 v) ∧ w' = W):=fun W=>by
     have:=Tryz.strings_Compare ⟨y.toArray⟩ ⟨x.toArray⟩ W
     rw [← hv]
     simpa using this
    have QZ : Hid (fL bR l (i + 1) = (q && r)):=by show _ = _;rw [qZ HXX.out hy,HQ.out,hr]
    have t0 : decide ((0 : Int) < (i : Int) + 1) = true:=decide_eq_true (by omega)
    have e0 : ((i : Int) + 1 - 1) = (i : Int):=by omega
    have t1 : decide (0 ≤ v) = !r:=by
     have:=rN y x
     rw [hv,hr] at this
     rw [← this]
     by_cases h : v < 0
     ·rw [decide_eq_true h,decide_eq_false (by omega)];rfl
     ·rw [decide_eq_false h,decide_eq_true (by omega)];rfl
    clear hc hx hq hK hy hv hr
    rcases (show q = false ∨ (q = true ∧ r = false) ∨ (q = true ∧ r = true) by cases q <;> cases r <;> simp) with rfl | ⟨rfl,rfl⟩ | ⟨rfl,rfl⟩
    ·have RT : Hid (R = false):=by show _ = _;rw [← HR.out,aE hlt (by rw [QZ.out];rfl)]
     go_wp2_with (first | (go_at_call 266;refine (VC.out _).mono ?_;rintro e w3 ⟨rfl,b3⟩;have B3:=Hd (aA hs.out.2 b3);have B4:=Hd b3;clear b3;first | have d1:=aC B4.out _ _ d0 | skip) | (go_at_call 164;refine (SC.out _).mono ?_;rintro e w4 ⟨rfl,rfl⟩))
     go_ret
     exact ⟨by rw [RT.out];rfl,B3.out⟩
    ·have RT : Hid (R = false):=by show _ = _;rw [← HR.out,aE hlt (by rw [QZ.out];rfl)]
     go_wp2_with (first | (go_at_call 266;refine (VC.out _).mono ?_;rintro e w3 ⟨rfl,b3⟩;have B3:=Hd (aA hs.out.2 b3);have B4:=Hd b3;clear b3;first | have d1:=aC B4.out _ _ d0 | skip) | (go_at_call 164;refine (SC.out _).mono ?_;rintro e w4 ⟨rfl,rfl⟩))
     go_ret
     exact ⟨by rw [RT.out];rfl,B3.out⟩
    ·go_wp2_with (first | (go_at_call 266;refine (VC.out _).mono ?_;rintro e w3 ⟨rfl,b3⟩;have B3:=Hd (aA hs.out.2 b3);have B4:=Hd b3;clear b3;first | have d1:=aC B4.out _ _ d0 | skip) | (go_at_call 164;refine (SC.out _).mono ?_;rintro e w4 ⟨rfl,rfl⟩))
     go_roundw
     case rel=>exact ⟨i + 1 + 1,by omega,by go_num,aL hs.out.1 (by rw [QZ.out];rfl),B3.out⟩
     case measure=>simp [intOf];omega
  ·have e : j = k:=by omega
   have RT : Hid (R = true):=by show _ = _;rw [← HR.out,← e];exact hs.out.1
   have BW:=Hd hs.out.2
   have g1 : decide ((j : Int) < (k : Int)) = false:=by simp;omega
   clear hs
   go_wp2_with fail
   go_ret
   exact ⟨by rw [RT.out];rfl,BW.out⟩
end Go.Proofs.YtcandidgaegghaaGreatDoor
