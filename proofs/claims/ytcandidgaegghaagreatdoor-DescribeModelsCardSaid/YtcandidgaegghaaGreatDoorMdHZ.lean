/- The names of a model's facts, and whether names are rising: lyceumref10.Names, lyceumref13.rising, lyceumref12.rising, truth.isNames; names of lyceumref12 to 14. Conditions: names fit into memory; at most a thousand facts. -/
import Derived.Test.YtcandidgaegghaaGreatDoorCpZ
import Derived.Test.YtcandidgaegghaaGreatDoorRefDZ
import Derived.Test.YtcandidgaegghaaGreatDoorProofAZ
import Derived.Laws.Cover1
set_option maxRecDepth 10000
set_option linter.unusedSimpArgs false
set_option linter.unusedVariables false
namespace Go.Proofs.YtcandidgaegghaaGreatDoor
open Go Go.RowKit Go.Sort Ly
set_option maxHeartbeats 4000000
def dO (l : List Bs) (j : Nat) : Bool :=
 match l[j]? with
 | none=>true
 | some x=>aY x && (match j with
  | 0=>true
  | i + 1=>match l[i]? with
   | none=>true
   | some y=>Op.bytesLess y x)
def aI (n : Nat) (P : Nat → Bool) : Bool:=(List.range n).all P
theorem aN (P : Nat → Bool) : aI 0 P = true:=rfl
theorem aL {n : Nat} {P : Nat → Bool} (h : aI n P = true) (h' : P n = true) : aI (n + 1) P = true:=by
 unfold aI at h ⊢
 rw [List.range_succ,List.all_append,h];simp [h']
theorem aE {n j : Nat} {P : Nat → Bool} (h : j < n) (h' : P j = false) : aI n P = false:=by
 unfold aI
 rw [← Bool.not_eq_true,List.all_eq_true]
 intro hh
 have:=hh j (List.mem_range.2 h)
 rw [h'] at this;cases this
theorem aT {n : Nat} {P : Nat → Bool} : aI n P = true ↔ ∀ j,j < n → P j = true:=by
 unfold aI
 rw [List.all_eq_true]
 exact ⟨fun h j hj=>h j (List.mem_range.2 hj),fun h j hj=>h j (List.mem_range.1 hj)⟩
def dP (l : List Bs) : Bool:=aI l.length (dO l)
theorem cU {l : List Bs} {x : Bs} (h : l[0]? = some x) : dO l 0 = aY x:=by simp [dO,h]
theorem bM {l : List Bs} {x y : Bs} {i : Nat} (h : l[i + 1]? = some x) (h' : l[i]? = some y) : dO l (i + 1) = (aY x && Op.bytesLess y x):=by simp [dO,h,h']
theorem jH {w : World} {l : List Bs} {a : Option Addr} {n c : Nat} (h : aX w l (.slice a n c)) {j : Nat} {x : Bs} (hx : l[j]? = some x) : ∃ b off,a = some ⟨b,off,none⟩ ∧ ∀ (i : Nat) (x : Bs),l[i]? = some x → w.cell? ⟨b,off + i,none⟩ = some (str x):=h.get (bG hx)
theorem names10_c (l : List Bs) (hl : ∀ x ∈ l,x.length ≤ 9223372036854775807) (a : Option Addr) (k c : Nat) (w : World) (hx : aX w l (.slice a k c)) :
  Calls Tryz.prog 146 #[.slice a k c] w (Rt (.bool (dP l)) w):=by
 have hk:=hx.len
 have hlk : k ≤ 9223372036854775807:=by have:=le63 hk.2.2;omega
 have L1:=Hd hk.1
 have HX:=Hd hx
 have HL:=Hd hl
 obtain ⟨R,hR⟩ : ∃ R,dP l = R:=⟨_,rfl⟩
 have HR : Hid (aI k (dO l) = R):=by show _ = _;rw [← hR,hk.1];rfl
 rw [hR]
 clear hk hx hl hR
 go_enter Tryz.func146,Tryz.ntmps146
 go_wp2_with fail
 go_loopw [3] (fun i wr=>∃ j : Nat,j ≤ k ∧ i = .int .i64 j ∧ Hid (aI j (dO l) = true ∧ Below w.heap.size w wr)) (fun i _=>k - (intOf i).toNat)
 case atStart=>exact ⟨0,Nat.zero_le _,rfl,aN _,Below.refl _ _⟩
 case round =>
  obtain ⟨j,hj,rfl,hs⟩:=hrel
  by_cases hlt : j < k
  ·obtain ⟨x,hx⟩:=aH (l:=l) (j:=j) (by rw [← L1.out];exact hlt)
   obtain ⟨b,off,rfl,hc⟩:=jH HX.out hx
   have hK:=aC hs.out.2
   have c0:=cell_regrown (hK _ _ (hc j x hx))
   obtain ⟨q,hq⟩ : ∃ q,aY x = q:=⟨_,rfl⟩
   have cP : Hid (∀ d os,Calls Tryz.prog 216 #[str x] (grow (redrawn wr d) os) fun e w''=>e = .returned (.bool q) ∧ ∃ p : Regrown,w'' = grow (redrawn wr p.d) p.os):=fun d os=>by
    rw [← hq];exact Calls.regrown_of ((jL x _ (HL.out x (List.mem_of_getElem? hx))).mono fun e w' h=>⟨h.1,by rw [← h.2];exact Below.refl _ _⟩)
   have g1 : decide ((j : Int) < (k : Int)) = true:=by simp;omega
   have HQ:=Hd hq
   have HXX:=Hd hx
   cases j with
   | zero =>
    rw [Nat.add_zero] at c0
    clear hc hx hq hK
    cases q
    all_goals
     go_wp2_with fail
     refine wqb ?_
     repeat (go_big_quiet_step (first | (go_at_call 216;exact cP.out _ _)))
     refine wpQuiet_nil (qe fun wq WQ=>?_)
     go_wp2_with fail
    ·go_ret
     refine ⟨?_,aA hs.out.2 WQ.out⟩
     rw [← HR.out,aE hlt (by rw [cU HXX.out,HQ.out])];rfl
    ·go_roundw
     case rel=>exact ⟨1,by omega,by go_num,aL hs.out.1 (by rw [cU HXX.out,HQ.out]),aA hs.out.2 WQ.out⟩
     case measure=>simp [intOf];omega
   | succ i =>
    obtain ⟨y,hy⟩:=aH (l:=l) (j:=i) (by rw [← L1.out];omega)
    have d0:=cell_regrown (hK _ _ (hc i y hy))
    obtain ⟨r,hr⟩ : ∃ r,Op.bytesLess y x = r:=⟨_,rfl⟩
    have HYY:=Hd hy
    have HRR:=Hd hr
    have t0 : decide ((0 : Int) < (i : Int) + 1) = true:=decide_eq_true (by omega)
    have e0 : ((i : Int) + 1 - 1) = (i : Int):=by omega
    have t1 : Op.bytesLess (⟨y.toArray⟩ : ByteArray).toList (⟨x.toArray⟩ : ByteArray).toList = r:=by simpa using hr
    clear hc hx hq hK hy
    cases q <;> cases r
    all_goals
     go_wp2_with fail
     refine wqb ?_
     repeat (go_big_quiet_step (first | (go_at_call 216;exact cP.out _ _)))
     refine wpQuiet_nil (qe fun wq WQ=>?_)
     go_wp2_with fail
    ·go_ret
     refine ⟨?_,aA hs.out.2 WQ.out⟩
     rw [← HR.out,aE hlt (by rw [bM HXX.out HYY.out,HQ.out];rfl)];rfl
    ·go_ret
     refine ⟨?_,aA hs.out.2 WQ.out⟩
     rw [← HR.out,aE hlt (by rw [bM HXX.out HYY.out,HQ.out];rfl)];rfl
    ·go_ret
     refine ⟨?_,aA hs.out.2 WQ.out⟩
     rw [← HR.out,aE hlt (by rw [bM HXX.out HYY.out,HQ.out,HRR.out];rfl)];rfl
    ·go_roundw
     case rel=>exact ⟨i + 1 + 1,by omega,by go_num,aL hs.out.1 (by rw [bM HXX.out HYY.out,HQ.out,HRR.out];rfl),aA hs.out.2 WQ.out⟩
     case measure=>simp [intOf];omega
  ·have e : j = k:=by omega
   have g1 : decide ((j : Int) < (k : Int)) = false:=by simp;omega
   have RT : Hid (R = true):=by show _ = _;rw [← HR.out,← e];exact hs.out.1
   have BW:=Hd hs.out.2
   clear hs
   go_wp2_with fail
   go_ret
   exact ⟨by rw [RT.out];rfl,BW.out⟩
theorem rising13_c (l : List Bs) (hl : ∀ x ∈ l,x.length ≤ 9223372036854775807) (a : Option Addr) (k c : Nat) (w : World) (hx : aX w l (.slice a k c)) :
  Calls Tryz.prog 225 #[.slice a k c] w (Rt (.bool (dP l)) w):=by
 have hk:=hx.len
 have hlk : k ≤ 9223372036854775807:=by have:=le63 hk.2.2;omega
 have L1:=Hd hk.1
 have HX:=Hd hx
 have HL:=Hd hl
 obtain ⟨R,hR⟩ : ∃ R,dP l = R:=⟨_,rfl⟩
 have HR : Hid (aI k (dO l) = R):=by show _ = _;rw [← hR,hk.1];rfl
 rw [hR]
 clear hk hx hl hR
 go_enter Tryz.func225,Tryz.ntmps225
 go_wp2_with fail
 go_loopw [3] (fun i wr=>∃ j : Nat,j ≤ k ∧ i = .int .i64 j ∧ Hid (aI j (dO l) = true ∧ Below w.heap.size w wr)) (fun i _=>k - (intOf i).toNat)
 case atStart=>exact ⟨0,Nat.zero_le _,rfl,aN _,Below.refl _ _⟩
 case round =>
  obtain ⟨j,hj,rfl,hs⟩:=hrel
  by_cases hlt : j < k
  ·obtain ⟨x,hx⟩:=aH (l:=l) (j:=j) (by rw [← L1.out];exact hlt)
   obtain ⟨b,off,rfl,hc⟩:=jH HX.out hx
   have hK:=aC hs.out.2
   have c0:=cell_regrown (hK _ _ (hc j x hx))
   obtain ⟨q,hq⟩ : ∃ q,aY x = q:=⟨_,rfl⟩
   have cP : Hid (∀ d os,Calls Tryz.prog 216 #[str x] (grow (redrawn wr d) os) fun e w''=>e = .returned (.bool q) ∧ ∃ p : Regrown,w'' = grow (redrawn wr p.d) p.os):=fun d os=>by
    rw [← hq];exact Calls.regrown_of ((jL x _ (HL.out x (List.mem_of_getElem? hx))).mono fun e w' h=>⟨h.1,by rw [← h.2];exact Below.refl _ _⟩)
   have g1 : decide ((j : Int) < (k : Int)) = true:=by simp;omega
   have HQ:=Hd hq
   have HXX:=Hd hx
   cases j with
   | zero =>
    rw [Nat.add_zero] at c0
    clear hc hx hq hK
    cases q
    all_goals
     go_wp2_with fail
     refine wqb ?_
     repeat (go_big_quiet_step (first | (go_at_call 216;exact cP.out _ _)))
     refine wpQuiet_nil (qe fun wq WQ=>?_)
     go_wp2_with fail
    ·go_ret
     refine ⟨?_,aA hs.out.2 WQ.out⟩
     rw [← HR.out,aE hlt (by rw [cU HXX.out,HQ.out])];rfl
    ·go_roundw
     case rel=>exact ⟨1,by omega,by go_num,aL hs.out.1 (by rw [cU HXX.out,HQ.out]),aA hs.out.2 WQ.out⟩
     case measure=>simp [intOf];omega
   | succ i =>
    obtain ⟨y,hy⟩:=aH (l:=l) (j:=i) (by rw [← L1.out];omega)
    have d0:=cell_regrown (hK _ _ (hc i y hy))
    obtain ⟨r,hr⟩ : ∃ r,Op.bytesLess y x = r:=⟨_,rfl⟩
    have HYY:=Hd hy
    have HRR:=Hd hr
    have t0 : decide ((0 : Int) < (i : Int) + 1) = true:=decide_eq_true (by omega)
    have e0 : ((i : Int) + 1 - 1) = (i : Int):=by omega
    have t1 : Op.bytesLess (⟨y.toArray⟩ : ByteArray).toList (⟨x.toArray⟩ : ByteArray).toList = r:=by simpa using hr
    clear hc hx hq hK hy
    cases q <;> cases r
    all_goals
     go_wp2_with fail
     refine wqb ?_
     repeat (go_big_quiet_step (first | (go_at_call 216;exact cP.out _ _)))
     refine wpQuiet_nil (qe fun wq WQ=>?_)
     go_wp2_with fail
    ·go_ret
     refine ⟨?_,aA hs.out.2 WQ.out⟩
     rw [← HR.out,aE hlt (by rw [bM HXX.out HYY.out,HQ.out];rfl)];rfl
    ·go_ret
     refine ⟨?_,aA hs.out.2 WQ.out⟩
     rw [← HR.out,aE hlt (by rw [bM HXX.out HYY.out,HQ.out];rfl)];rfl
    ·go_ret
     refine ⟨?_,aA hs.out.2 WQ.out⟩
     rw [← HR.out,aE hlt (by rw [bM HXX.out HYY.out,HQ.out,HRR.out];rfl)];rfl
    ·go_roundw
     case rel=>exact ⟨i + 1 + 1,by omega,by go_num,aL hs.out.1 (by rw [bM HXX.out HYY.out,HQ.out,HRR.out];rfl),aA hs.out.2 WQ.out⟩
     case measure=>simp [intOf];omega
  ·have e : j = k:=by omega
   have g1 : decide ((j : Int) < (k : Int)) = false:=by simp;omega
   have RT : Hid (R = true):=by show _ = _;rw [← HR.out,← e];exact hs.out.1
   have BW:=Hd hs.out.2
   clear hs
   go_wp2_with fail
   go_ret
   exact ⟨by rw [RT.out];rfl,BW.out⟩
theorem sH (l : List Bs) (hl : ∀ x ∈ l,x.length ≤ 9223372036854775807) (a : Option Addr) (k c : Nat) (w : World) (hx : aX w l (.slice a k c)) :
  Calls Tryz.prog 228 #[.slice a k c] w (Rt (.bool (dP l)) w):=by
 have hk:=hx.len
 have hlk : k ≤ 9223372036854775807:=by have:=le63 hk.2.2;omega
 have L1:=Hd hk.1
 have HX:=Hd hx
 have HL:=Hd hl
 obtain ⟨R,hR⟩ : ∃ R,dP l = R:=⟨_,rfl⟩
 have HR : Hid (aI k (dO l) = R):=by show _ = _;rw [← hR,hk.1];rfl
 rw [hR]
 clear hk hx hl hR
 go_enter Tryz.func228,Tryz.ntmps228
 go_wp2_with fail
 go_loopw [3] (fun i wr=>∃ j : Nat,j ≤ k ∧ i = .int .i64 j ∧ Hid (aI j (dO l) = true ∧ Below w.heap.size w wr)) (fun i _=>k - (intOf i).toNat)
 case atStart=>exact ⟨0,Nat.zero_le _,rfl,aN _,Below.refl _ _⟩
 case round =>
  obtain ⟨j,hj,rfl,hs⟩:=hrel
  by_cases hlt : j < k
  ·obtain ⟨x,hx⟩:=aH (l:=l) (j:=j) (by rw [← L1.out];exact hlt)
   obtain ⟨b,off,rfl,hc⟩:=jH HX.out hx
   have hK:=aC hs.out.2
   have c0:=cell_regrown (hK _ _ (hc j x hx))
   obtain ⟨q,hq⟩ : ∃ q,aY x = q:=⟨_,rfl⟩
   have cP : Hid (∀ d os,Calls Tryz.prog 216 #[str x] (grow (redrawn wr d) os) fun e w''=>e = .returned (.bool q) ∧ ∃ p : Regrown,w'' = grow (redrawn wr p.d) p.os):=fun d os=>by
    rw [← hq];exact Calls.regrown_of ((jL x _ (HL.out x (List.mem_of_getElem? hx))).mono fun e w' h=>⟨h.1,by rw [← h.2];exact Below.refl _ _⟩)
   have g1 : decide ((j : Int) < (k : Int)) = true:=by simp;omega
   have HQ:=Hd hq
   have HXX:=Hd hx
   cases j with
   | zero =>
    rw [Nat.add_zero] at c0
    clear hc hx hq hK
    cases q
    all_goals
     go_wp2_with fail
     refine wqb ?_
     repeat (go_big_quiet_step (first | (go_at_call 216;exact cP.out _ _)))
     refine wpQuiet_nil (qe fun wq WQ=>?_)
     go_wp2_with fail
    ·go_ret
     refine ⟨?_,aA hs.out.2 WQ.out⟩
     rw [← HR.out,aE hlt (by rw [cU HXX.out,HQ.out])];rfl
    ·go_roundw
     case rel=>exact ⟨1,by omega,by go_num,aL hs.out.1 (by rw [cU HXX.out,HQ.out]),aA hs.out.2 WQ.out⟩
     case measure=>simp [intOf];omega
   | succ i =>
    obtain ⟨y,hy⟩:=aH (l:=l) (j:=i) (by rw [← L1.out];omega)
    have d0:=cell_regrown (hK _ _ (hc i y hy))
    obtain ⟨r,hr⟩ : ∃ r,Op.bytesLess y x = r:=⟨_,rfl⟩
    have HYY:=Hd hy
    have HRR:=Hd hr
    have t0 : decide ((0 : Int) < (i : Int) + 1) = true:=decide_eq_true (by omega)
    have e0 : ((i : Int) + 1 - 1) = (i : Int):=by omega
    have t1 : Op.bytesLess (⟨y.toArray⟩ : ByteArray).toList (⟨x.toArray⟩ : ByteArray).toList = r:=by simpa using hr
    clear hc hx hq hK hy
    cases q <;> cases r
    all_goals
     go_wp2_with fail
     refine wqb ?_
     repeat (go_big_quiet_step (first | (go_at_call 216;exact cP.out _ _)))
     refine wpQuiet_nil (qe fun wq WQ=>?_)
     go_wp2_with fail
    ·go_ret
     refine ⟨?_,aA hs.out.2 WQ.out⟩
     rw [← HR.out,aE hlt (by rw [bM HXX.out HYY.out,HQ.out];rfl)];rfl
    ·go_ret
     refine ⟨?_,aA hs.out.2 WQ.out⟩
     rw [← HR.out,aE hlt (by rw [bM HXX.out HYY.out,HQ.out];rfl)];rfl
    ·go_ret
     refine ⟨?_,aA hs.out.2 WQ.out⟩
     rw [← HR.out,aE hlt (by rw [bM HXX.out HYY.out,HQ.out,HRR.out];rfl)];rfl
    ·go_roundw
     case rel=>exact ⟨i + 1 + 1,by omega,by go_num,aL hs.out.1 (by rw [bM HXX.out HYY.out,HQ.out,HRR.out];rfl),aA hs.out.2 WQ.out⟩
     case measure=>simp [intOf];omega
  ·have e : j = k:=by omega
   have g1 : decide ((j : Int) < (k : Int)) = false:=by simp;omega
   have RT : Hid (R = true):=by show _ = _;rw [← HR.out,← e];exact hs.out.1
   have BW:=Hd hs.out.2
   clear hs
   go_wp2_with fail
   go_ret
   exact ⟨by rw [RT.out];rfl,BW.out⟩
theorem tT (l : List Bs) (hl : ∀ x ∈ l,x.length ≤ 9223372036854775807) (a : Option Addr) (k c : Nat) (w : World) (hx : aX w l (.slice a k c)) :
  Calls Tryz.prog 343 #[.slice a k c] w (Rt (.bool (dP l)) w):=by
 have hk:=hx.len
 have hlk : k ≤ 9223372036854775807:=by have:=le63 hk.2.2;omega
 have L1:=Hd hk.1
 have HX:=Hd hx
 have HL:=Hd hl
 obtain ⟨R,hR⟩ : ∃ R,dP l = R:=⟨_,rfl⟩
 have HR : Hid (aI k (dO l) = R):=by show _ = _;rw [← hR,hk.1];rfl
 rw [hR]
 clear hk hx hl hR
 go_enter Tryz.func343,Tryz.ntmps343
 go_wp2_with fail
 go_loopw [7] (fun i wr=>∃ j : Nat,j ≤ k ∧ i = .int .i64 j ∧ Hid (aI j (dO l) = true ∧ Below w.heap.size w wr)) (fun i _=>k - (intOf i).toNat)
 case atStart=>exact ⟨0,Nat.zero_le _,rfl,aN _,Below.refl _ _⟩
 case round =>
  obtain ⟨j,hj,rfl,hs⟩:=hrel
  by_cases hlt : j < k
  ·obtain ⟨x,hx⟩:=aH (l:=l) (j:=j) (by rw [← L1.out];exact hlt)
   obtain ⟨b,off,rfl,hc⟩:=jH HX.out hx
   have hK:=aC hs.out.2
   have c0:=hK _ _ (hc j x hx)
   obtain ⟨q,hq⟩ : ∃ q,aY x = q:=⟨_,rfl⟩
   have cP : Hid (Calls Tryz.prog 198 #[str x] wr (Rt (.bool q) wr)):=by
    rw [← hq];exact fF x _ (HL.out x (List.mem_of_getElem? hx))
   have HQ:=Hd hq
   have HXX:=Hd hx
   cases j with
   | zero =>
    rw [Nat.add_zero] at c0
    clear hc hx hq hK
    cases q
    all_goals
     go_wp2_with (go_at_call 198;refine cP.out.mono ?_;rintro e w2 ⟨rfl,b2⟩;have B2:=Hd (aA hs.out.2 b2);clear b2)
    ·go_ret
     refine ⟨?_,B2.out⟩
     rw [← HR.out,aE hlt (by rw [cU HXX.out,HQ.out])];rfl
    ·go_roundw
     case rel=>exact ⟨1,by omega,by go_num,aL hs.out.1 (by rw [cU HXX.out,HQ.out]),B2.out⟩
     case measure=>simp [intOf];omega
   | succ i =>
    obtain ⟨y,hy⟩:=aH (l:=l) (j:=i) (by rw [← L1.out];omega)
    have d0':=Hd (hK _ _ (hc i y hy))
    obtain ⟨r,hr⟩ : ∃ r,Op.bytesLess y x = r:=⟨_,rfl⟩
    have HYY:=Hd hy
    have HRR:=Hd hr
    have t0 : decide ((0 : Int) < (i : Int) + 1) = true:=decide_eq_true (by omega)
    have e0 : ((i : Int) + 1 - 1) = (i : Int):=by omega
    have t1 : Op.bytesLess (⟨y.toArray⟩ : ByteArray).toList (⟨x.toArray⟩ : ByteArray).toList = r:=by simpa using hr
    clear hc hx hq hK hy
    cases q <;> cases r
    all_goals
     go_wp2_with (go_at_call 198;refine cP.out.mono ?_;rintro e w2 ⟨rfl,b2⟩;have B2:=Hd (aA hs.out.2 b2);have d0:=aC b2 _ _ d0'.out;clear b2)
    ·go_ret
     refine ⟨?_,B2.out⟩
     rw [← HR.out,aE hlt (by rw [bM HXX.out HYY.out,HQ.out];rfl)];rfl
    ·go_ret
     refine ⟨?_,B2.out⟩
     rw [← HR.out,aE hlt (by rw [bM HXX.out HYY.out,HQ.out];rfl)];rfl
    ·go_ret
     refine ⟨?_,B2.out⟩
     rw [← HR.out,aE hlt (by rw [bM HXX.out HYY.out,HQ.out,HRR.out];rfl)];rfl
    ·go_roundw
     case rel=>exact ⟨i + 1 + 1,by omega,by go_num,aL hs.out.1 (by rw [bM HXX.out HYY.out,HQ.out,HRR.out];rfl),B2.out⟩
     case measure=>simp [intOf];omega
  ·have e : j = k:=by omega
   have RT : Hid (R = true):=by show _ = _;rw [← HR.out,← e];exact hs.out.1
   have BW:=Hd hs.out.2
   clear hs
   go_wp2_with fail
   go_ret
   exact ⟨by rw [RT.out];rfl,BW.out⟩
theorem names14_c (m : Md) (hn : m.facts.length ≤ 1000) (ra fa ga ba : Option Addr) (rn rc fn fc gn gc bn bc : Nat) (w : World) (hx : aM w 3 (fasV m.facts) m.facts.length (.slice fa fn fc)) :
  Calls Tryz.prog 147 #[mdV m ra rn rc fa fn fc ga gn gc ba bn bc] w fun e w'=>∃ v,e = .returned v ∧ aD w.heap.size w' (m.facts.map Fa.name) v ∧ Below w.heap.size w w':=by
 have hk:=hx.len
 have hlk : fn ≤ 1000:=by omega
 have L1:=Hd hk.1
 have HX:=Hd hx
 obtain ⟨i0,hi0,hz0,hs0,hb0⟩:=info_parts fP
 have HB : Hid (Below w.heap.size w (w.alloc (.cells #[.int .u8 m.kind,.int .i64 m.size,.slice ra rn rc,.int .i64 m.loop,.slice fa fn fc,.slice ga gn gc,.slice ba bn bc] 34))):=bnew
 have NEW:=Hd (heap_alloc_new w (.cells #[.int .u8 m.kind,.int .i64 m.size,.slice ra rn rc,.int .i64 m.loop,.slice fa fn fc,.slice ga gn gc,.slice ba bn bc] 34))
 clear hk hx
 go_enter Tryz.func147,Tryz.ntmps147
 go_wp2_with fail
 go_loopw [3,4] (fun u i wr=>∃ j : Nat,j ≤ fn ∧ i = .int .i64 j ∧ Hid (aD (w.heap.size + 1) wr ((m.facts.take j).map Fa.name) u ∧ Below w.heap.size w wr ∧ wr.heap[w.heap.size]? = some (.cells #[.int .u8 m.kind,.int .i64 m.size,.slice ra rn rc,.int .i64 m.loop,.slice fa fn fc,.slice ga gn gc,.slice ba bn bc] 34 (0,0)))) (fun _ i _=>fn - (intOf i).toNat)
 case atStart=>exact ⟨0,Nat.zero_le _,rfl,World.ownsRow_nil _ _ _ _,HB.out,NEW.out⟩
 case round =>
  obtain ⟨j,hj,rfl,hs⟩:=hrel
  obtain ⟨⟨c0,c1,c2,c3,c4,c5,c6⟩,-⟩:=aK hs.out.2.2
  by_cases hlt : j < fn
  ·obtain ⟨T,hT⟩:=aH (l:=m.facts) (j:=j) (by rw [← L1.out];exact hlt)
   obtain ⟨b,off,rfl,p0,p1,p2⟩:=cL HX.out hT
   have hK:=aC hs.out.2.1
   have d0:=hK _ _ p0
   have M1:=Hd (cY Fa.name hT)
   have OWN:=Hd hs.out.1
   have BL:=Hd hs.out.2.1
   have ROW:=Hd hs.out.2.2
   have SZ:=(Array.getElem?_eq_some_iff.1 hs.out.2.2).1
   have LE : Hid (((m.facts.take j).map Fa.name).length ≤ 1000):=by show _ ≤ _;simp;omega
   clear hT hK p0 p1 p2 hs
   generalize (m.facts.take j).map Fa.name = M at *
   have C3 : Hid (M.length + 1 ≤ maxLen ∧ (M.length + 1) * 16 ≤ 140737488355328):=by
    have h1:=LE.out
    exact ⟨by unfold maxLen;omega,by omega⟩
   have C6 : Hid (w.heap.size + 1 ≤ (wr.alloc (.cells #[str T.name] 9)).heap.size):=by show _ ≤ _;simp;omega
   go_wp2_with (at_builtin;refine wpList_append_own _ rfl _ _ 36 rfl (w.heap.size + 1) 9 i0 (.string ⟨#[]⟩) 1 16 Tryz.underlying36 hi0 hz0 hs0 hb0 rfl (by decide) _ _ _ rfl (OWN.out.alloc _) ⟨wr.heap.size,0,none⟩ 1 1 [str T.name] rfl rfl (cell_one_new _ _ _) (by intro u hu;simp at hu;subst hu;rfl) C3.out.1 C3.out.2 C6.out ?_)
   intro v' w3 hown2 hg2 _
   have R : Hid (aD (w.heap.size + 1) w3 ((m.facts.take (j + 1)).map Fa.name) v' ∧ Below w.heap.size w w3 ∧ w3.heap[w.heap.size]? = some (.cells #[.int .u8 m.kind,.int .i64 m.size,.slice ra rn rc,.int .i64 m.loop,.slice (some ⟨b,off,none⟩) fn fc,.slice ga gn gc,.slice ba bn bc] 34 (0,0))):=by
    refine ⟨?_,(BL.out.alloc BL.out.size _).grown hg2 (by have:=C6.out;omega) (fun kk hkk=>by have:=(OWN.out.lt kk hkk).1;omega), ?_⟩
    ·rw [M1.out]
     unfold aD
     rw [List.length_append,List.map_append]
     exact hown2
    ·refine (hg2.block _ (by simp;omega) (fun e=>?_)).trans (kc bnew ROW.out)
     have:=(OWN.out.lt _ e.symm).1;omega
   clear hown2 hg2 SZ
   go_wp2_with fail
   go_roundw
   case rel=>exact ⟨j + 1,by omega,by go_num,R⟩
   case measure=>simp [intOf];omega
  ·have e : m.facts.take j = m.facts:=List.take_of_length_le (by rw [← L1.out];omega)
   have HO : Hid (aD (w.heap.size + 1) wr (m.facts.map Fa.name) u3):=by have:=hs.out.1;rw [e] at this;exact this
   have HB2:=Hd hs.out.2.1
   clear hs e
   go_wp2_with fail
   go_ret
   exact ⟨_,rfl,HO.out.mono (Nat.le_succ _),HB2.out⟩
theorem names13_c (m : Md) (hn : m.facts.length ≤ 1000) (ra fa ga ba : Option Addr) (rn rc fn fc gn gc bn bc : Nat) (w : World) (hx : aM w 3 (fasV m.facts) m.facts.length (.slice fa fn fc)) :
  Calls Tryz.prog 226 #[mdV m ra rn rc fa fn fc ga gn gc ba bn bc] w fun e w'=>∃ v,e = .returned v ∧ aD w.heap.size w' (m.facts.map Fa.name) v ∧ Below w.heap.size w w':=by
 have hk:=hx.len
 have hlk : fn ≤ 1000:=by omega
 have L1:=Hd hk.1
 have HX:=Hd hx
 obtain ⟨i0,hi0,hz0,hs0,hb0⟩:=info_parts fP
 have HB : Hid (Below w.heap.size w (w.alloc (.cells #[.int .u8 m.kind,.int .i64 m.size,.slice ra rn rc,.int .i64 m.loop,.slice fa fn fc,.slice ga gn gc,.slice ba bn bc] 34))):=bnew
 have NEW:=Hd (heap_alloc_new w (.cells #[.int .u8 m.kind,.int .i64 m.size,.slice ra rn rc,.int .i64 m.loop,.slice fa fn fc,.slice ga gn gc,.slice ba bn bc] 34))
 clear hk hx
 go_enter Tryz.func226,Tryz.ntmps226
 go_wp2_with fail
 go_loopw [3,4] (fun u i wr=>∃ j : Nat,j ≤ fn ∧ i = .int .i64 j ∧ Hid (aD (w.heap.size + 1) wr ((m.facts.take j).map Fa.name) u ∧ Below w.heap.size w wr ∧ wr.heap[w.heap.size]? = some (.cells #[.int .u8 m.kind,.int .i64 m.size,.slice ra rn rc,.int .i64 m.loop,.slice fa fn fc,.slice ga gn gc,.slice ba bn bc] 34 (0,0)))) (fun _ i _=>fn - (intOf i).toNat)
 case atStart=>exact ⟨0,Nat.zero_le _,rfl,World.ownsRow_nil _ _ _ _,HB.out,NEW.out⟩
 case round =>
  obtain ⟨j,hj,rfl,hs⟩:=hrel
  obtain ⟨⟨c0,c1,c2,c3,c4,c5,c6⟩,-⟩:=aK hs.out.2.2
  by_cases hlt : j < fn
  ·obtain ⟨T,hT⟩:=aH (l:=m.facts) (j:=j) (by rw [← L1.out];exact hlt)
   obtain ⟨b,off,rfl,p0,p1,p2⟩:=cL HX.out hT
   have hK:=aC hs.out.2.1
   have d0:=hK _ _ p0
   have M1:=Hd (cY Fa.name hT)
   have OWN:=Hd hs.out.1
   have BL:=Hd hs.out.2.1
   have ROW:=Hd hs.out.2.2
   have SZ:=(Array.getElem?_eq_some_iff.1 hs.out.2.2).1
   have LE : Hid (((m.facts.take j).map Fa.name).length ≤ 1000):=by show _ ≤ _;simp;omega
   clear hT hK p0 p1 p2 hs
   generalize (m.facts.take j).map Fa.name = M at *
   have C3 : Hid (M.length + 1 ≤ maxLen ∧ (M.length + 1) * 16 ≤ 140737488355328):=by
    have h1:=LE.out
    exact ⟨by unfold maxLen;omega,by omega⟩
   have C6 : Hid (w.heap.size + 1 ≤ (wr.alloc (.cells #[str T.name] 9)).heap.size):=by show _ ≤ _;simp;omega
   go_wp2_with (at_builtin;refine wpList_append_own _ rfl _ _ 36 rfl (w.heap.size + 1) 9 i0 (.string ⟨#[]⟩) 1 16 Tryz.underlying36 hi0 hz0 hs0 hb0 rfl (by decide) _ _ _ rfl (OWN.out.alloc _) ⟨wr.heap.size,0,none⟩ 1 1 [str T.name] rfl rfl (cell_one_new _ _ _) (by intro u hu;simp at hu;subst hu;rfl) C3.out.1 C3.out.2 C6.out ?_)
   intro v' w3 hown2 hg2 _
   have R : Hid (aD (w.heap.size + 1) w3 ((m.facts.take (j + 1)).map Fa.name) v' ∧ Below w.heap.size w w3 ∧ w3.heap[w.heap.size]? = some (.cells #[.int .u8 m.kind,.int .i64 m.size,.slice ra rn rc,.int .i64 m.loop,.slice (some ⟨b,off,none⟩) fn fc,.slice ga gn gc,.slice ba bn bc] 34 (0,0))):=by
    refine ⟨?_,(BL.out.alloc BL.out.size _).grown hg2 (by have:=C6.out;omega) (fun kk hkk=>by have:=(OWN.out.lt kk hkk).1;omega), ?_⟩
    ·rw [M1.out]
     unfold aD
     rw [List.length_append,List.map_append]
     exact hown2
    ·refine (hg2.block _ (by simp;omega) (fun e=>?_)).trans (kc bnew ROW.out)
     have:=(OWN.out.lt _ e.symm).1;omega
   clear hown2 hg2 SZ
   go_wp2_with fail
   go_roundw
   case rel=>exact ⟨j + 1,by omega,by go_num,R⟩
   case measure=>simp [intOf];omega
  ·have e : m.facts.take j = m.facts:=List.take_of_length_le (by rw [← L1.out];omega)
   have HO : Hid (aD (w.heap.size + 1) wr (m.facts.map Fa.name) u3):=by have:=hs.out.1;rw [e] at this;exact this
   have HB2:=Hd hs.out.2.1
   clear hs e
   go_wp2_with fail
   go_ret
   exact ⟨_,rfl,HO.out.mono (Nat.le_succ _),HB2.out⟩
theorem uC (m : Md) (hn : m.facts.length ≤ 1000) (ra fa ga ba : Option Addr) (rn rc fn fc gn gc bn bc : Nat) (w : World) (hx : aM w 3 (fasV m.facts) m.facts.length (.slice fa fn fc)) :
  Calls Tryz.prog 229 #[mdV m ra rn rc fa fn fc ga gn gc ba bn bc] w fun e w'=>∃ v,e = .returned v ∧ aD w.heap.size w' (m.facts.map Fa.name) v ∧ Below w.heap.size w w':=by
 have hk:=hx.len
 have hlk : fn ≤ 1000:=by omega
 have L1:=Hd hk.1
 have HX:=Hd hx
 obtain ⟨i0,hi0,hz0,hs0,hb0⟩:=info_parts fP
 have HB : Hid (Below w.heap.size w (w.alloc (.cells #[.int .u8 m.kind,.int .i64 m.size,.slice ra rn rc,.int .i64 m.loop,.slice fa fn fc,.slice ga gn gc,.slice ba bn bc] 34))):=bnew
 have NEW:=Hd (heap_alloc_new w (.cells #[.int .u8 m.kind,.int .i64 m.size,.slice ra rn rc,.int .i64 m.loop,.slice fa fn fc,.slice ga gn gc,.slice ba bn bc] 34))
 clear hk hx
 go_enter Tryz.func229,Tryz.ntmps229
 go_wp2_with fail
 go_loopw [3,4] (fun u i wr=>∃ j : Nat,j ≤ fn ∧ i = .int .i64 j ∧ Hid (aD (w.heap.size + 1) wr ((m.facts.take j).map Fa.name) u ∧ Below w.heap.size w wr ∧ wr.heap[w.heap.size]? = some (.cells #[.int .u8 m.kind,.int .i64 m.size,.slice ra rn rc,.int .i64 m.loop,.slice fa fn fc,.slice ga gn gc,.slice ba bn bc] 34 (0,0)))) (fun _ i _=>fn - (intOf i).toNat)
 case atStart=>exact ⟨0,Nat.zero_le _,rfl,World.ownsRow_nil _ _ _ _,HB.out,NEW.out⟩
 case round =>
  obtain ⟨j,hj,rfl,hs⟩:=hrel
  obtain ⟨⟨c0,c1,c2,c3,c4,c5,c6⟩,-⟩:=aK hs.out.2.2
  by_cases hlt : j < fn
  ·obtain ⟨T,hT⟩:=aH (l:=m.facts) (j:=j) (by rw [← L1.out];exact hlt)
   obtain ⟨b,off,rfl,p0,p1,p2⟩:=cL HX.out hT
   have hK:=aC hs.out.2.1
   have d0:=hK _ _ p0
   have M1:=Hd (cY Fa.name hT)
   have OWN:=Hd hs.out.1
   have BL:=Hd hs.out.2.1
   have ROW:=Hd hs.out.2.2
   have SZ:=(Array.getElem?_eq_some_iff.1 hs.out.2.2).1
   have LE : Hid (((m.facts.take j).map Fa.name).length ≤ 1000):=by show _ ≤ _;simp;omega
   clear hT hK p0 p1 p2 hs
   generalize (m.facts.take j).map Fa.name = M at *
   have C3 : Hid (M.length + 1 ≤ maxLen ∧ (M.length + 1) * 16 ≤ 140737488355328):=by
    have h1:=LE.out
    exact ⟨by unfold maxLen;omega,by omega⟩
   have C6 : Hid (w.heap.size + 1 ≤ (wr.alloc (.cells #[str T.name] 9)).heap.size):=by show _ ≤ _;simp;omega
   go_wp2_with (at_builtin;refine wpList_append_own _ rfl _ _ 36 rfl (w.heap.size + 1) 9 i0 (.string ⟨#[]⟩) 1 16 Tryz.underlying36 hi0 hz0 hs0 hb0 rfl (by decide) _ _ _ rfl (OWN.out.alloc _) ⟨wr.heap.size,0,none⟩ 1 1 [str T.name] rfl rfl (cell_one_new _ _ _) (by intro u hu;simp at hu;subst hu;rfl) C3.out.1 C3.out.2 C6.out ?_)
   intro v' w3 hown2 hg2 _
   have R : Hid (aD (w.heap.size + 1) w3 ((m.facts.take (j + 1)).map Fa.name) v' ∧ Below w.heap.size w w3 ∧ w3.heap[w.heap.size]? = some (.cells #[.int .u8 m.kind,.int .i64 m.size,.slice ra rn rc,.int .i64 m.loop,.slice (some ⟨b,off,none⟩) fn fc,.slice ga gn gc,.slice ba bn bc] 34 (0,0))):=by
    refine ⟨?_,(BL.out.alloc BL.out.size _).grown hg2 (by have:=C6.out;omega) (fun kk hkk=>by have:=(OWN.out.lt kk hkk).1;omega), ?_⟩
    ·rw [M1.out]
     unfold aD
     rw [List.length_append,List.map_append]
     exact hown2
    ·refine (hg2.block _ (by simp;omega) (fun e=>?_)).trans (kc bnew ROW.out)
     have:=(OWN.out.lt _ e.symm).1;omega
   clear hown2 hg2 SZ
   go_wp2_with fail
   go_roundw
   case rel=>exact ⟨j + 1,by omega,by go_num,R⟩
   case measure=>simp [intOf];omega
  ·have e : m.facts.take j = m.facts:=List.take_of_length_le (by rw [← L1.out];omega)
   have HO : Hid (aD (w.heap.size + 1) wr (m.facts.map Fa.name) u3):=by have:=hs.out.1;rw [e] at this;exact this
   have HB2:=Hd hs.out.2.1
   clear hs e
   go_wp2_with fail
   go_ret
   exact ⟨_,rfl,HO.out.mono (Nat.le_succ _),HB2.out⟩
end Go.Proofs.YtcandidgaegghaaGreatDoor
