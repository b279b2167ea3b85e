/- trace.Valid. Conditions: at most a thousand facts; names fit into memory. -/
import Derived.Test.YtcandidgaegghaaGreatDoorCpZ
import Derived.Test.YtcandidgaegghaaGreatDoorMdIZ
set_option maxRecDepth 10000
set_option linter.unusedSimpArgs false
set_option linter.unusedVariables false
namespace Go.Proofs.YtcandidgaegghaaGreatDoor
open Go Go.RowKit Go.Sort Ly
set_option maxHeartbeats 4000000
theorem mF {n : Nat} {P Q : Nat → Bool} : aI n (fun j=>P j && Q j) = (aI n P && aI n Q):=by
 rw [Bool.eq_iff_iff,Bool.and_eq_true,aT,aT,aT]
 constructor
 ·intro h
  exact ⟨fun j hj=>by have:=h j hj;simp only [Bool.and_eq_true] at this;exact this.1,fun j hj=>by have:=h j hj;simp only [Bool.and_eq_true] at this;exact this.2⟩
 ·rintro ⟨h1,h2⟩ j hj
  simp only [Bool.and_eq_true];exact ⟨h1 j hj,h2 j hj⟩
theorem iU {F : List Fa} {j : Nat} {f : Fa} (h : F[j]? = some f) : (F.map Fa.name)[j]? = some f.name:=by rw [List.getElem?_map,h];rfl
theorem sX {z : Int} (h0 : 0 ≤ z) (h5 : z ≤ 9) : IntKind.i64.wrap (2 ^ z.toNat) = 2 ^ z.toNat:=by
 rcases (show z = 0 ∨ z = 1 ∨ z = 2 ∨ z = 3 ∨ z = 4 ∨ z = 5 ∨ z = 6 ∨ z = 7 ∨ z = 8 ∨ z = 9 by omega) with rfl | rfl | rfl | rfl | rfl | rfl | rfl | rfl | rfl | rfl <;> rfl
theorem bQ {w : World} {b : Nat} {x0 x1 x2 : Value} (h : w.heap[b]? = some (.cells #[x0,x1,x2] 102 (0,0))) :
  (w.cell? ⟨b,0,none⟩ = some x0 ∧ w.cell? ⟨b,1,none⟩ = some x1 ∧ w.cell? ⟨b,2,none⟩ = some x2) ∧ True :=
 ⟨⟨(aJ h 0).trans rfl,(aJ h 1).trans rfl,(aJ h 2).trans rfl⟩,trivial⟩
theorem trace_c (F : List Fa) (hF : F.length ≤ 1000) (hl : ∀ x ∈ F,x.name.length ≤ 9223372036854775807) (z lo : Int) (ra fa ga ba : Option Addr) (rn rc fn fc gn gc bn bc : Nat) (hrn : rn ≤ maxLen) (hgn : gn ≤ maxLen) (hbn : bn ≤ maxLen) (w : World) (hx : aM w 3 (fasV F) F.length (.slice fa fn fc)) :
  Calls Tryz.prog 388 #[.agg #[.int .u8 5,.int .i64 z,.slice ra rn rc,.int .i64 lo,.slice fa fn fc,.slice ga gn gc,.slice ba bn bc]] w (Rt (.bool (dW F z lo rn gn bn)) w):=by
 have hk:=hx.len
 have hlk : fn ≤ 1000:=by omega
 have L1:=Hd hk.1
 have HX:=Hd hx
 have HL:=Hd hl
 have HB : Hid (Below w.heap.size w (w.alloc (mdR 5 z ra rn rc lo fa fn fc ga gn gc ba bn bc))):=bnew
 have NEW:=Hd (heap_alloc_new w (mdR 5 z ra rn rc lo fa fn fc ga gn gc ba bn bc))
 have r63:=le63 hrn
 have g63:=le63 hgn
 have b63:=le63 hbn
 clear hk hx hl
 have CS : (z < 1) ∨ (1 ≤ z ∧ 5 < z) ∨ (1 ≤ z ∧ z ≤ 5 ∧ lo < 0) ∨ (1 ≤ z ∧ z ≤ 5 ∧ 0 ≤ lo ∧ z ≤ lo) ∨ (1 ≤ z ∧ z ≤ 5 ∧ 0 ≤ lo ∧ lo < z):=by omega
 rcases CS with h1 | ⟨h1,h2⟩ | ⟨h1,h2,h3⟩ | ⟨h1,h2,h3,h4⟩ | ⟨h1,h2,h3,h4⟩
 ·have t1 : decide (z < 1) = true:=decide_eq_true h1
  have E : Hid (dW F z lo rn gn bn = false):=by show _ = _;unfold dW;rw [decide_eq_false (by omega)];rfl
  rw [E.out]
  clear E
  go_enter Tryz.func388,Tryz.ntmps388
  go_wp2_with fail
  go_ret
  exact ⟨rfl,HB.out⟩
 ·have t1 : decide (z < 1) = false:=decide_eq_false (by omega)
  have t2 : decide (5 < z) = true:=decide_eq_true h2
  have E : Hid (dW F z lo rn gn bn = false):=by show _ = _;unfold dW;rw [decide_eq_false (by omega)];rfl
  rw [E.out]
  clear E
  go_enter Tryz.func388,Tryz.ntmps388
  go_wp2_with fail
  go_ret
  exact ⟨rfl,HB.out⟩
 ·have t1 : decide (z < 1) = false:=decide_eq_false (by omega)
  have t2 : decide (5 < z) = false:=decide_eq_false (by omega)
  have t3 : decide (lo < 0) = true:=decide_eq_true h3
  have E : Hid (dW F z lo rn gn bn = false):=by show _ = _;unfold dW;rw [decide_eq_false (by omega)];rfl
  rw [E.out]
  clear E
  go_enter Tryz.func388,Tryz.ntmps388
  go_wp2_with fail
  go_ret
  exact ⟨rfl,HB.out⟩
 ·have t1 : decide (z < 1) = false:=decide_eq_false (by omega)
  have t2 : decide (5 < z) = false:=decide_eq_false (by omega)
  have t3 : decide (lo < 0) = false:=decide_eq_false (by omega)
  have t4 : decide (z ≤ lo) = true:=decide_eq_true h4
  have E : Hid (dW F z lo rn gn bn = false):=by show _ = _;unfold dW;rw [decide_eq_false (by omega)];rfl
  rw [E.out]
  clear E
  go_enter Tryz.func388,Tryz.ntmps388
  go_wp2_with fail
  go_ret
  exact ⟨rfl,HB.out⟩
 ·have t1 : decide (z < 1) = false:=decide_eq_false (by omega)
  have t2 : decide (5 < z) = false:=decide_eq_false (by omega)
  have t3 : decide (lo < 0) = false:=decide_eq_false (by omega)
  have t4 : decide (z ≤ lo) = false:=decide_eq_false (by omega)
  by_cases hz : rn = 0 ∧ gn = 0 ∧ bn = 0
  rotate_left
  ·have E : Hid (dW F z lo rn gn bn = false):=by show _ = _;unfold dW;rw [decide_eq_false (p:=rn = 0 ∧ gn = 0 ∧ bn = 0) hz];simp
   rw [E.out]
   have hz2 : 0 < rn ∨ (rn = 0 ∧ 0 < gn) ∨ (rn = 0 ∧ gn = 0 ∧ 0 < bn):=by omega
   clear E hz
   rcases hz2 with h5 | ⟨rfl,h5⟩ | ⟨rfl,rfl,h5⟩
   all_goals
    go_enter Tryz.func388,Tryz.ntmps388
    go_wp2_with fail
    go_ret
    exact ⟨rfl,HB.out⟩
  obtain ⟨rfl,rfl,rfl⟩:=hz
  obtain ⟨lim,hlim⟩ : ∃ lim : Int,(2 : Int) ^ z.toNat = lim:=⟨_,rfl⟩
  have hw : IntKind.i64.wrap ((2 : Int) ^ z.toNat) = lim:=by rw [sX (by omega) (by omega),hlim]
  obtain ⟨R,hR⟩ : ∃ R,aI F.length (fun j=>dO (F.map Fa.name) j && dK F lim j) = R:=⟨_,rfl⟩
  have TB : Hid (dW F z lo 0 0 0 = R):=by
   show _ = _
   rw [← hR,mF]
   unfold dW dP
   rw [decide_eq_true (by omega),hlim,List.length_map];simp
  have HR : Hid (aI fn (fun j=>dO (F.map Fa.name) j && dK F lim j) = R):=by show _ = _;rw [← hR,L1.out]
  rw [TB.out]
  clear hR TB hlim
  have z0 : 0 ≤ z:=by omega
  have z64 : z ≤ 64:=by omega
  go_enter Tryz.func388,Tryz.ntmps388
  go_wp2_with fail
  go_loopw [49] (fun i wr=>∃ j : Nat,j ≤ fn ∧ i = .int .i64 j ∧ Hid (aI j (fun j=>dO (F.map Fa.name) j && dK F lim j) = true ∧ Below w.heap.size w wr ∧ wr.heap[w.heap.size]? = some (mdR 5 z ra 0 rc lo fa fn fc ga 0 gc ba 0 bc))) (fun i _=>fn - (intOf i).toNat)
  case atStart=>exact ⟨0,Nat.zero_le _,rfl,aN _,HB.out,NEW.out⟩
  case round =>
   clear NEW HB
   obtain ⟨j,hj,rfl,hs⟩:=hrel
   by_cases hlt : j < fn
   ·obtain ⟨T,hT⟩:=aH (l:=F) (j:=j) (by rw [← L1.out];exact hlt)
    obtain ⟨b,off,rfl,p0,p1,p2⟩:=cL HX.out hT
    have hK:=aC hs.out.2.1
    have c0:=hK _ _ p0;have c1:=hK _ _ p1;have c2:=hK _ _ p2
    have FA:=Hd (dE (lim:=lim) hT)
    have RS:=Hd (iU hT)
    have TL:=HL.out T (List.mem_of_getElem? hT)
    have GET : Hid (∀ i y,F[i]? = some y → wr.cell? ⟨b,off + i * 3,none⟩ = some (str y.name)):=fun i y hy=>by
     obtain ⟨b',off',e,q0,-,-⟩:=cL HX.out hy
     cases e;exact hK _ _ q0
    obtain ⟨nm,ar,tr⟩:=T
    simp only [Fa.args,Fa.tru,Fa.name] at *
    obtain ⟨q,hq⟩ : ∃ q,aY nm = q:=⟨_,rfl⟩
    have HQ:=Hd hq
    have A1 : Hid (Below wr.heap.size wr (wr.alloc (.cells #[str nm,.int .i64 ar,.int .i64 tr] 102))):=bnew
    have B1 : Hid (Below w.heap.size w (wr.alloc (.cells #[str nm,.int .i64 ar,.int .i64 tr] 102))):=aA hs.out.2.1 A1.out
    have NEW1:=Hd (heap_alloc_new wr (.cells #[str nm,.int .i64 ar,.int .i64 tr] 102))
    have ROW1:=Hd (kc A1.out hs.out.2.2)
    obtain ⟨⟨e0,e1,e2⟩,-⟩:=bQ NEW1.out
    obtain ⟨⟨d0,d1,d2,d3,d4,d5,d6⟩,-⟩:=aK ROW1.out
    have m0:=cell_regrown e0;have m4:=cell_regrown d4
    have cP : Hid (∀ d os,Calls Tryz.prog 198 #[str nm] (grow (redrawn (wr.alloc (.cells #[str nm,.int .i64 ar,.int .i64 tr] 102)) d) os) fun e w''=>e = .returned (.bool q) ∧ ∃ p : Regrown,w'' = grow (redrawn (wr.alloc (.cells #[str nm,.int .i64 ar,.int .i64 tr] 102)) p.d) p.os):=fun d os=>by
     rw [← hq];exact Calls.regrown_of (fF nm _ TL)
    clear hT hK p0 p1 p2 hq e0 e1 e2 d0 d1 d2 d3 d4 d5 d6
    cases j with
    | zero =>
     rw [Nat.zero_mul,Nat.add_zero] at c0 c1 c2
     cases q
     ·have RT : Hid (R = false):=by show _ = _;rw [← HR.out,aE hlt (by rw [cU RS.out,HQ.out];rfl)]
      go_wp2_with fail
      refine wqb ?_
      repeat (go_big_quiet_step ((first | (go_at_call 198;exact cP.out _ _))))
      refine wpQuiet_nil (qe fun wq Bwq=>?_)
      go_wp2_with fail
      go_ret
      exact ⟨by rw [RT.out];rfl,aA B1.out Bwq.out⟩
     ·go_wp2_with fail
      refine wqb ?_
      repeat (go_big_quiet_step ((first | (go_at_call 198;exact cP.out _ _))))
      refine wpQuiet_nil (qe fun wq Bwq=>?_)
      go_wp2_with fail
      have E2:=Hd (kc Bwq.out NEW1.out)
      have RW2:=Hd (kc Bwq.out ROW1.out)
      have BW2:=Hd (aA B1.out Bwq.out)
      obtain ⟨⟨y0,y1,y2⟩,-⟩:=bQ E2.out
      obtain ⟨⟨v0,v1,v2,v3,v4,v5,v6⟩,-⟩:=aK RW2.out
      have z1:=cell_regrown y1;have z2:=cell_regrown y2;have s1:=cell_regrown v1
      have CS : ar ≠ 0 ∨ (ar = 0 ∧ tr < 0) ∨ (ar = 0 ∧ 0 ≤ tr ∧ lim ≤ tr) ∨ (ar = 0 ∧ 0 ≤ tr ∧ tr < lim):=by omega
      rcases CS with h5 | ⟨rfl,h5⟩ | ⟨rfl,h5,h6⟩ | ⟨rfl,h5,h6⟩
      ·have RT : Hid (R = false):=by show _ = _;rw [← HR.out,aE hlt (by rw [cU RS.out,HQ.out,FA.out];simp;omega)]
       have g2 : (ar != 0) = true:=by simpa using h5
       refine wqb ?_
       repeat (go_big_quiet_step (fail))
       refine wpQuiet_nil (qe fun wz Bwz=>?_)
       go_wp2_with fail
       go_ret
       exact ⟨by rw [RT.out];rfl,aA BW2.out Bwz.out⟩
      ·have RT : Hid (R = false):=by show _ = _;rw [← HR.out,aE hlt (by rw [cU RS.out,HQ.out,FA.out];simp;omega)]
       have g2 : decide (tr < 0) = true:=decide_eq_true h5
       refine wqb ?_
       repeat (go_big_quiet_step (fail))
       refine wpQuiet_nil (qe fun wz Bwz=>?_)
       go_wp2_with fail
       go_ret
       exact ⟨by rw [RT.out];rfl,aA BW2.out Bwz.out⟩
      ·have RT : Hid (R = false):=by show _ = _;rw [← HR.out,aE hlt (by rw [cU RS.out,HQ.out,FA.out];simp;omega)]
       have g2 : decide (tr < 0) = false:=decide_eq_false (by omega)
       have g3 : decide (lim ≤ tr) = true:=decide_eq_true h6
       refine wqb ?_
       repeat (go_big_quiet_step (fail))
       refine wpQuiet_nil (qe fun wz Bwz=>?_)
       go_wp2_with fail
       go_ret
       exact ⟨by rw [RT.out];rfl,aA BW2.out Bwz.out⟩
      ·have g2 : decide (tr < 0) = false:=decide_eq_false (by omega)
       have g3 : decide (lim ≤ tr) = false:=decide_eq_false (by omega)
       refine wqb ?_
       repeat (go_big_quiet_step (fail))
       refine wpQuiet_nil (qe fun wz Bwz=>?_)
       go_wp2_with fail
       go_roundw
       case rel=>exact ⟨1,by omega,by go_num,aL hs.out.1 (by rw [cU RS.out,HQ.out,FA.out];simp;omega),aA BW2.out Bwz.out,kc Bwz.out RW2.out⟩
       case measure=>simp [intOf];omega
    | succ i =>
     obtain ⟨Y,hY⟩:=aH (l:=F) (j:=i) (by rw [← L1.out];omega)
     have RY:=Hd (iU hY)
     have n0:=cell_regrown (aC A1.out _ _ (GET.out i Y hY))
     obtain ⟨y,yar,ytr⟩:=Y
     simp only [Fa.name] at *
     obtain ⟨r,hr⟩ : ∃ r,Op.bytesLess y nm = r:=⟨_,rfl⟩
     have HRR:=Hd hr
     have t0 : decide ((0 : Int) < (i : Int) + 1) = true:=decide_eq_true (by omega)
     have e0 : ((i : Int) + 1 - 1) = (i : Int):=by omega
     have t1 : Op.bytesLess (⟨y.toArray⟩ : ByteArray).toList (⟨nm.toArray⟩ : ByteArray).toList = r:=by simpa using hr
     clear hY
     by_cases hb : q = true ∧ r = true
     ·obtain ⟨rfl,rfl⟩:=hb
      go_wp2_with fail
      refine wqb ?_
      repeat (go_big_quiet_step ((first | (go_at_call 198;exact cP.out _ _))))
      refine wpQuiet_nil (qe fun wq Bwq=>?_)
      go_wp2_with fail
      have E2:=Hd (kc Bwq.out NEW1.out)
      have RW2:=Hd (kc Bwq.out ROW1.out)
      have BW2:=Hd (aA B1.out Bwq.out)
      obtain ⟨⟨y0,y1,y2⟩,-⟩:=bQ E2.out
      obtain ⟨⟨v0,v1,v2,v3,v4,v5,v6⟩,-⟩:=aK RW2.out
      have z1:=cell_regrown y1;have z2:=cell_regrown y2;have s1:=cell_regrown v1
      have CS : ar ≠ 0 ∨ (ar = 0 ∧ tr < 0) ∨ (ar = 0 ∧ 0 ≤ tr ∧ lim ≤ tr) ∨ (ar = 0 ∧ 0 ≤ tr ∧ tr < lim):=by omega
      rcases CS with h5 | ⟨rfl,h5⟩ | ⟨rfl,h5,h6⟩ | ⟨rfl,h5,h6⟩
      ·have RT : Hid (R = false):=by show _ = _;rw [← HR.out,aE hlt (by rw [bM RS.out RY.out,HQ.out,HRR.out,FA.out];simp;omega)]
       have g2 : (ar != 0) = true:=by simpa using h5
       refine wqb ?_
       repeat (go_big_quiet_step (fail))
       refine wpQuiet_nil (qe fun wz Bwz=>?_)
       go_wp2_with fail
       go_ret
       exact ⟨by rw [RT.out];rfl,aA BW2.out Bwz.out⟩
      ·have RT : Hid (R = false):=by show _ = _;rw [← HR.out,aE hlt (by rw [bM RS.out RY.out,HQ.out,HRR.out,FA.out];simp;omega)]
       have g2 : decide (tr < 0) = true:=decide_eq_true h5
       refine wqb ?_
       repeat (go_big_quiet_step (fail))
       refine wpQuiet_nil (qe fun wz Bwz=>?_)
       go_wp2_with fail
       go_ret
       exact ⟨by rw [RT.out];rfl,aA BW2.out Bwz.out⟩
      ·have RT : Hid (R = false):=by show _ = _;rw [← HR.out,aE hlt (by rw [bM RS.out RY.out,HQ.out,HRR.out,FA.out];simp;omega)]
       have g2 : decide (tr < 0) = false:=decide_eq_false (by omega)
       have g3 : decide (lim ≤ tr) = true:=decide_eq_true h6
       refine wqb ?_
       repeat (go_big_quiet_step (fail))
       refine wpQuiet_nil (qe fun wz Bwz=>?_)
       go_wp2_with fail
       go_ret
       exact ⟨by rw [RT.out];rfl,aA BW2.out Bwz.out⟩
      ·have g2 : decide (tr < 0) = false:=decide_eq_false (by omega)
       have g3 : decide (lim ≤ tr) = false:=decide_eq_false (by omega)
       refine wqb ?_
       repeat (go_big_quiet_step (fail))
       refine wpQuiet_nil (qe fun wz Bwz=>?_)
       go_wp2_with fail
       go_roundw
       case rel=>exact ⟨i + 1 + 1,by omega,by go_num,aL hs.out.1 (by rw [bM RS.out RY.out,HQ.out,HRR.out,FA.out];simp;omega),aA BW2.out Bwz.out,kc Bwz.out RW2.out⟩
       case measure=>simp [intOf];omega
     ·have RT : Hid (R = false):=by
       show _ = _
       rw [← HR.out,aE hlt (by rw [bM RS.out RY.out,HQ.out,HRR.out];cases q <;> cases r <;> simp at hb ⊢)]
      have hc : (q = false) ∨ (q = true ∧ r = false):=by cases q <;> cases r <;> simp at hb ⊢
      clear hb
      rcases hc with rfl | ⟨rfl,rfl⟩
      all_goals
       go_wp2_with fail
       refine wqb ?_
       repeat (go_big_quiet_step ((first | (go_at_call 198;exact cP.out _ _))))
       refine wpQuiet_nil (qe fun wq Bwq=>?_)
       go_wp2_with fail
       go_ret
       exact ⟨by rw [RT.out];rfl,aA B1.out Bwq.out⟩
   ·have e : j = fn:=by omega
    have RT : Hid (R = true):=by show _ = _;rw [← HR.out,← e];exact hs.out.1
    have BW:=Hd hs.out.2.1
    have g1 : decide ((j : Int) < (fn : Int)) = false:=by simp;omega
    clear hs
    go_wp2_with fail
    go_ret
    exact ⟨by rw [RT.out];rfl,BW.out⟩
open Go Go.RowKit Go.Sort Ly
set_option maxHeartbeats 4000000
def pD (l : List Int) (lim : Int) (j : Nat) : Bool :=
 match l[j]? with
 | none=>true
 | some x=>decide (0 ≤ x) && decide (x < lim)
theorem oG {l : List Int} {lim : Int} {j : Nat} {x : Int} (h : l[j]? = some x) : pD l lim j = (decide (0 ≤ x) && decide (x < lim)):=by simp [pD,h]
def relB (l : List Int) : Bool:=decide (1 ≤ l.length ∧ l.length ≤ 4) && aI l.length (pD l (2 ^ l.length))
theorem eX {n : Nat} (h : n ≤ 4) : IntKind.i64.wrap ((2 : Int) ^ n) = 2 ^ n:=by
 rcases (show n = 0 ∨ n = 1 ∨ n = 2 ∨ n = 3 ∨ n = 4 by omega) with rfl | rfl | rfl | rfl | rfl <;> rfl
theorem lU (l : List Int) (a : Option Addr) (k c : Nat) (w : World) (hx : aM w 1 (inV l) l.length (.slice a k c)) :
  Calls Tryz.prog 227 #[.slice a k c] w (Rt (.bool (relB l)) w):=by
 have hk:=hx.len
 have hlk : k ≤ 9223372036854775807:=by have:=le63 hk.2.2.1;omega
 have L1:=Hd hk.1
 have HX:=Hd hx
 clear hx
 by_cases h0 : k = 0
 ·subst h0
  have E : Hid (relB l = false):=by show _ = _;unfold relB;rw [decide_eq_false (by omega)];rfl
  rw [E.out]
  clear E hk
  go_enter Tryz.func227,Tryz.ntmps227
  go_wp2_with fail
  refine wp_loop_rounds 1 ?_
  rw [rounds_succ]
  go_wp2_with fail
  go_ret
  exact ⟨rfl,Below.refl _ _⟩
 by_cases h4 : 4 < k
 ·have E : Hid (relB l = false):=by show _ = _;unfold relB;rw [decide_eq_false (by omega)];rfl
  rw [E.out]
  clear E hk
  obtain ⟨x,hx⟩:=aH (l:=l) (j:=0) (by rw [← L1.out];omega)
  obtain ⟨b,off,rfl,p0⟩:=eS HX.out hx
  have t9 : decide ((4 : Int) < (k : Int)) = true:=decide_eq_true (by omega)
  have t8 : decide ((0 : Int) < (k : Int)) = true:=decide_eq_true (by omega)
  have g1 : (0 : Int) < (k : Int):=by omega
  clear hx p0
  go_enter Tryz.func227,Tryz.ntmps227
  go_wp2_with fail
  refine wp_loop_rounds 1 ?_
  rw [rounds_succ]
  go_wp2_with fail
  refine wqb ?_
  repeat (go_big_quiet_step (fail))
  refine wpQuiet_nil (qe fun wq Bwq=>?_)
  go_wp2_with fail
  go_ret
  exact ⟨rfl,Bwq.out⟩
 obtain ⟨lim,hlim⟩ : ∃ lim : Int,(2 : Int) ^ k = lim:=⟨_,rfl⟩
 have hw : IntKind.i64.wrap ((2 : Int) ^ k) = lim:=by rw [eX (by omega),hlim]
 have k64 : (k : Int) ≤ 64:=by omega
 have t8 : decide ((k : Int) < 1) = false:=decide_eq_false (by omega)
 have t9 : decide ((4 : Int) < (k : Int)) = false:=decide_eq_false (by omega)
 have t10 : decide ((1 : Int) ≤ (k : Int)) = true:=decide_eq_true (by omega)
 obtain ⟨R,hR⟩ : ∃ R,aI l.length (pD l lim) = R:=⟨_,rfl⟩
 have TB : Hid (relB l = R):=by show _ = _;rw [← hR];unfold relB;rw [decide_eq_true (by omega),← hk.1,hlim];rfl
 have HR : Hid (aI k (pD l lim) = R):=by show _ = _;rw [← hR,hk.1]
 rw [TB.out]
 clear hR TB hk hlim
 go_enter Tryz.func227,Tryz.ntmps227
 go_wp2_with fail
 go_loopw [3] (fun i wr=>∃ j : Nat,j ≤ k ∧ i = .int .i64 j ∧ Hid (aI j (pD l lim) = true ∧ Below w.heap.size w wr)) (fun i _=>k - (intOf i).toNat)
 case atStart=>exact ⟨0,Nat.zero_le _,rfl,aN _,Below.refl _ _⟩
 case round =>
  obtain ⟨j,hj,rfl,hs⟩:=hrel
  by_cases hlt : j < k
  ·obtain ⟨x,hx⟩:=aH (l:=l) (j:=j) (by rw [← L1.out];exact hlt)
   obtain ⟨b,off,rfl,p0⟩:=eS HX.out hx
   have hK:=aC hs.out.2
   have c0:=cell_regrown (hK _ _ p0)
   have RA:=Hd (oG (lim:=lim) hx)
   have g1 : decide ((j : Int) < (k : Int)) = true:=by simp;omega
   clear hx hK p0
   rcases (show x < 0 ∨ (0 ≤ x ∧ lim ≤ x) ∨ (0 ≤ x ∧ x < lim) by omega) with h5 | ⟨h5,h6⟩ | ⟨h5,h6⟩
   ·have g2 : decide (x < 0) = true:=decide_eq_true h5
    have RT : Hid (R = false):=by show _ = _;rw [← HR.out,aE hlt (by rw [RA.out];simp;omega)]
    go_wp2_with fail
    refine wqb ?_
    repeat (go_big_quiet_step (fail))
    refine wpQuiet_nil (qe fun wq Bwq=>?_)
    go_wp2_with fail
    go_ret
    exact ⟨by rw [RT.out];rfl,(aA hs.out.2 Bwq.out)⟩
   ·have g2 : decide (x < 0) = false:=decide_eq_false (by omega)
    have g3 : decide (lim ≤ x) = true:=decide_eq_true h6
    have RT : Hid (R = false):=by show _ = _;rw [← HR.out,aE hlt (by rw [RA.out];simp;omega)]
    go_wp2_with fail
    refine wqb ?_
    repeat (go_big_quiet_step (fail))
    refine wpQuiet_nil (qe fun wq Bwq=>?_)
    go_wp2_with fail
    go_ret
    exact ⟨by rw [RT.out];rfl,(aA hs.out.2 Bwq.out)⟩
   ·have g2 : decide (x < 0) = false:=decide_eq_false (by omega)
    have g3 : decide (lim ≤ x) = false:=decide_eq_false (by omega)
    go_wp2_with fail
    refine wqb ?_
    repeat (go_big_quiet_step (fail))
    refine wpQuiet_nil (qe fun wq Bwq=>?_)
    go_wp2_with fail
    go_roundw
    case rel=>exact ⟨j + 1,by omega,by go_num,aL hs.out.1 (by rw [RA.out];simp;omega),(aA hs.out.2 Bwq.out)⟩
    case measure=>simp [intOf];omega
  ·have e : j = k:=by omega
   have RT : Hid (R = true):=by show _ = _;rw [← HR.out,← e];exact hs.out.1
   have BW:=Hd hs.out.2
   have g1 : decide ((j : Int) < (k : Int)) = false:=by simp;omega
   clear hs
   go_wp2_with fail
   go_ret
   exact ⟨by rw [RT.out];rfl,BW.out⟩
theorem oE (l : List Int) (a : Option Addr) (k c : Nat) (w : World) (hx : aM w 1 (inV l) l.length (.slice a k c)) :
  Calls Tryz.prog 372 #[.slice a k c] w (Rt (.bool (relB l)) w):=by
 have hk:=hx.len
 have hlk : k ≤ 9223372036854775807:=by have:=le63 hk.2.2.1;omega
 have L1:=Hd hk.1
 have HX:=Hd hx
 clear hx
 by_cases h0 : k = 0
 ·subst h0
  have E : Hid (relB l = false):=by show _ = _;unfold relB;rw [decide_eq_false (by omega)];rfl
  rw [E.out]
  clear E hk
  go_enter Tryz.func372,Tryz.ntmps372
  go_wp2_with fail
  go_ret
  exact ⟨rfl,Below.refl _ _⟩
 by_cases h4 : 4 < k
 ·have E : Hid (relB l = false):=by show _ = _;unfold relB;rw [decide_eq_false (by omega)];rfl
  rw [E.out]
  clear E hk
  have t9 : decide ((4 : Int) < (k : Int)) = true:=decide_eq_true (by omega)
  have t8 : decide ((k : Int) < 1) = false:=decide_eq_false (by omega)
  go_enter Tryz.func372,Tryz.ntmps372
  go_wp2_with fail
  go_ret
  exact ⟨rfl,Below.refl _ _⟩
 obtain ⟨lim,hlim⟩ : ∃ lim : Int,(2 : Int) ^ k = lim:=⟨_,rfl⟩
 have hw : IntKind.i64.wrap ((2 : Int) ^ k) = lim:=by rw [eX (by omega),hlim]
 have k64 : (k : Int) ≤ 64:=by omega
 have t8 : decide ((k : Int) < 1) = false:=decide_eq_false (by omega)
 have t9 : decide ((4 : Int) < (k : Int)) = false:=decide_eq_false (by omega)
 have t10 : decide ((1 : Int) ≤ (k : Int)) = true:=decide_eq_true (by omega)
 obtain ⟨R,hR⟩ : ∃ R,aI l.length (pD l lim) = R:=⟨_,rfl⟩
 have TB : Hid (relB l = R):=by show _ = _;rw [← hR];unfold relB;rw [decide_eq_true (by omega),← hk.1,hlim];rfl
 have HR : Hid (aI k (pD l lim) = R):=by show _ = _;rw [← hR,hk.1]
 rw [TB.out]
 clear hR TB hk hlim
 go_enter Tryz.func372,Tryz.ntmps372
 go_wp2_with fail
 go_loopw [15] (fun i wr=>∃ j : Nat,j ≤ k ∧ i = .int .i64 j ∧ Hid (aI j (pD l lim) = true ∧ Below w.heap.size w wr)) (fun i _=>k - (intOf i).toNat)
 case atStart=>exact ⟨0,Nat.zero_le _,rfl,aN _,Below.refl _ _⟩
 case round =>
  obtain ⟨j,hj,rfl,hs⟩:=hrel
  by_cases hlt : j < k
  ·obtain ⟨x,hx⟩:=aH (l:=l) (j:=j) (by rw [← L1.out];exact hlt)
   obtain ⟨b,off,rfl,p0⟩:=eS HX.out hx
   have hK:=aC hs.out.2
   have c0:=hK _ _ p0
   have RA:=Hd (oG (lim:=lim) hx)
   have g1 : decide ((j : Int) < (k : Int)) = true:=by simp;omega
   clear hx hK p0
   rcases (show x < 0 ∨ (0 ≤ x ∧ lim ≤ x) ∨ (0 ≤ x ∧ x < lim) by omega) with h5 | ⟨h5,h6⟩ | ⟨h5,h6⟩
   ·have g2 : decide (x < 0) = true:=decide_eq_true h5
    have RT : Hid (R = false):=by show _ = _;rw [← HR.out,aE hlt (by rw [RA.out];simp;omega)]
    go_wp2_with fail
    go_ret
    exact ⟨by rw [RT.out];rfl,hs.out.2⟩
   ·have g2 : decide (x < 0) = false:=decide_eq_false (by omega)
    have g3 : decide (lim ≤ x) = true:=decide_eq_true h6
    have RT : Hid (R = false):=by show _ = _;rw [← HR.out,aE hlt (by rw [RA.out];simp;omega)]
    go_wp2_with fail
    go_ret
    exact ⟨by rw [RT.out];rfl,hs.out.2⟩
   ·have g2 : decide (x < 0) = false:=decide_eq_false (by omega)
    have g3 : decide (lim ≤ x) = false:=decide_eq_false (by omega)
    go_wp2_with fail
    go_roundw
    case rel=>exact ⟨j + 1,by omega,by go_num,aL hs.out.1 (by rw [RA.out];simp;omega),hs.out.2⟩
    case measure=>simp [intOf];omega
  ·have e : j = k:=by omega
   have RT : Hid (R = true):=by show _ = _;rw [← HR.out,← e];exact hs.out.1
   have BW:=Hd hs.out.2
   have g1 : decide ((j : Int) < (k : Int)) = false:=by simp;omega
   clear hs
   go_wp2_with fail
   go_ret
   exact ⟨by rw [RT.out];rfl,BW.out⟩
open Go Go.RowKit Go.Sort Ly
set_option maxHeartbeats 4000000
def dQ (l : List Int) (p q : Nat) : Bool :=
 match l[p]? with
 | none=>false
 | some x=>((x / 2 ^ q).tmod 2 == 1)
theorem oJ {l : List Int} {p q : Nat} {x : Int} (h : l[p]? = some x) : dQ l p q = ((x / 2 ^ q).tmod 2 == 1):=by simp [dQ,h]
theorem xK (l : List Int) (a : Option Addr) (k c : Nat) (w : World) (hx : aM w 1 (inV l) l.length (.slice a k c)) (hk4 : l.length ≤ 4) (p q : Nat) (hp : p < l.length) (hq : q ≤ 4) :
  Calls Tryz.prog 281 #[.slice a k c,.int .i64 p,.int .i64 q] w fun e w'=>e = .returned (.bool (dQ l p q)) ∧ w = w':=by
 obtain ⟨x,hxx⟩:=aH hp
 have hk:=hx.len.1
 obtain ⟨b,off,rfl,p0⟩:=eS hx hxx
 rw [oJ hxx]
 have k64 : (q : Int) ≤ 64:=by omega
 have pk : p < k:=by omega
 clear hx hxx hk hp hk4
 go_enter Tryz.func281,Tryz.ntmps281
 go_wp2_with fail
 go_ret
 exact ⟨rfl,rfl⟩
def trAt (l : List Int) (p q x : Nat) : Bool:=!(dQ l p q && dQ l q x) || dQ l p x
def tr2 (l : List Int) (p q : Nat) : Bool:=aI l.length (trAt l p q)
def tr1 (l : List Int) (p : Nat) : Bool:=dQ l p p && aI l.length (tr2 l p)
def ordB (l : List Int) : Bool:=aI l.length (tr1 l)
theorem fits3_c (l : List Int) (a : Option Addr) (k c : Nat) (w : World) (hx : aM w 1 (inV l) l.length (.slice a k c)) (hk4 : l.length ≤ 4) :
  Calls Tryz.prog 232 #[.slice a k c,.int .u8 3] w fun e w'=>e = .returned (.bool (ordB l)) ∧ w' = w:=by
 have hk:=hx.len.1
 have k4 : k ≤ 4:=by omega
 have L1:=Hd hk
 have S : Hid (∀ p q : Nat,p < k → q < k → Calls Tryz.prog 281 #[.slice a k c,.int .i64 p,.int .i64 q] w fun e w'=>e = .returned (.bool (dQ l p q)) ∧ w = w'):=fun p q hp hq=>xK l a k c w hx hk4 p q (by omega) (by omega)
 obtain ⟨R,hR⟩ : ∃ R,ordB l = R:=⟨_,rfl⟩
 have HR : Hid (aI k (tr1 l) = R):=by show _ = _;rw [← hR,hk];rfl
 rw [hR]
 clear hR hk hx hk4
 have y1 : bits BinOp.and IntKind.u8 3 1 = 1:=by kernel_rfl
 have y2 : bits BinOp.and IntKind.u8 3 4 = 0:=by kernel_rfl
 have y3 : bits BinOp.and IntKind.u8 3 2 = 2:=by kernel_rfl
 go_enter Tryz.func232,Tryz.ntmps232
 go_wp2_with fail
 go_loopw [5] (fun i wr=>∃ p : Nat,p ≤ k ∧ i = .int .i64 p ∧ w = wr ∧ Hid (aI p (tr1 l) = true)) (fun i _=>k - (intOf i).toNat)
 case atStart=>exact ⟨0,Nat.zero_le _,rfl,rfl,aN _⟩
 case round =>
  obtain ⟨p,hp,rfl,rfl,hs⟩:=hrel
  by_cases hlt : p < k
  ·have g1 : decide ((p : Int) < (k : Int)) = true:=by simp;omega
   obtain ⟨spp,hspp⟩ : ∃ b,dQ l p p = b:=⟨_,rfl⟩
   have SPP:=Hd hspp
   have CPP:=Hd (S.out p p hlt hlt)
   rw [hspp] at CPP
   clear hspp
   cases spp
   ·have RT : Hid (R = false):=by show _ = _;rw [← HR.out,aE hlt (by unfold tr1;rw [SPP.out];rfl)]
    go_wp2_with (go_at_call 281;refine CPP.out.mono ?_;rintro e w1 ⟨rfl,rfl⟩)
    go_ret
    exact ⟨by rw [RT.out];rfl,rfl⟩
   ·go_wp2_with (go_at_call 281;refine CPP.out.mono ?_;rintro e w1 ⟨rfl,rfl⟩)
    go_loopw [6] (fun i wx=>∃ q : Nat,q ≤ k ∧ i = .int .i64 q ∧ w = wx ∧ Hid (aI q (tr2 l p) = true)) (fun i _=>k - (intOf i).toNat)
    case atStart=>exact ⟨0,Nat.zero_le _,rfl,rfl,aN _⟩
    case round =>
     obtain ⟨q,hq,rfl,rfl,hs2⟩:=hrel
     by_cases hlq : q < k
     ·have g2 : decide ((q : Int) < (k : Int)) = true:=by simp;omega
      go_wp2_with fail
      go_loopw [7] (fun i wy=>∃ x : Nat,x ≤ k ∧ i = .int .i64 x ∧ w = wy ∧ Hid (aI x (trAt l p q) = true)) (fun i _=>k - (intOf i).toNat)
      case atStart=>exact ⟨0,Nat.zero_le _,rfl,rfl,aN _⟩
      case round =>
       obtain ⟨x,hx,rfl,rfl,hs3⟩:=hrel
       by_cases hlx : x < k
       ·have g3 : decide ((x : Int) < (k : Int)) = true:=by simp;omega
        obtain ⟨s1,h1⟩ : ∃ b,dQ l p q = b:=⟨_,rfl⟩
        obtain ⟨s2,h2⟩ : ∃ b,dQ l q x = b:=⟨_,rfl⟩
        obtain ⟨s3,h3⟩ : ∃ b,dQ l p x = b:=⟨_,rfl⟩
        have H1:=Hd h1
        have H2:=Hd h2
        have H3:=Hd h3
        have TA : Hid (trAt l p q x = (!(s1 && s2) || s3)):=by show _ = _;unfold trAt;rw [h1,h2,h3]
        clear h1 h2 h3
        by_cases hb : s1 = true ∧ s2 = true ∧ s3 = false
        ·obtain ⟨rfl,rfl,rfl⟩:=hb
         have NO2 : tr2 l p q = false:=by unfold tr2;rw [← L1.out];exact aE hlx TA.out
         have RT : Hid (R = false):=by
          show _ = _
          rw [← HR.out]
          exact aE hlt (by unfold tr1;rw [← L1.out,aE hlq NO2];simp)
         clear NO2
         go_wp2_with (go_at_call 281;refine (S.out _ _ (by assumption) (by assumption)).mono ?_;rintro e w1 ⟨rfl,rfl⟩;first | rw [H1.out] | rw [H2.out] | rw [H3.out])
         go_ret
         exact ⟨by rw [RT.out];rfl,rfl⟩
        ·have OK : Hid (trAt l p q x = true):=by show _ = _;rw [TA.out];cases s1 <;> cases s2 <;> cases s3 <;> simp at hb ⊢
         rcases (show s1 = false ∨ (s1 = true ∧ s2 = false) ∨ (s1 = true ∧ s2 = true ∧ s3 = true) by cases s1 <;> cases s2 <;> cases s3 <;> simp at hb ⊢) with rfl | ⟨rfl,rfl⟩ | ⟨rfl,rfl,rfl⟩
         all_goals
          clear hb
          go_wp2_with (go_at_call 281;refine (S.out _ _ (by assumption) (by assumption)).mono ?_;rintro e w1 ⟨rfl,rfl⟩;first | rw [H1.out] | rw [H2.out] | rw [H3.out])
          go_roundw
          case rel=>exact ⟨x + 1,by omega,by go_num,by trivial,aL hs3.out OK.out⟩
          case measure=>simp [intOf];omega
       ·have e : x = k:=by omega
        have g3 : decide ((x : Int) < (k : Int)) = false:=by simp;omega
        have OK : Hid (tr2 l p q = true):=by show _ = _;unfold tr2;rw [← L1.out,← e];exact hs3.out
        go_wp2_with fail
        go_roundw
        case rel=>exact ⟨q + 1,by omega,by go_num,by trivial,aL hs2.out OK.out⟩
        case measure=>simp [intOf];omega
     ·have e : q = k:=by omega
      have g2 : decide ((q : Int) < (k : Int)) = false:=by simp;omega
      have OK : Hid (tr1 l p = true):=by show _ = _;unfold tr1;rw [SPP.out,← L1.out,← e,hs2.out];rfl
      go_wp2_with fail
      go_roundw
      case rel=>exact ⟨p + 1,by omega,by go_num,by trivial,aL hs.out OK.out⟩
      case measure=>simp [intOf];omega
  ·have e : p = k:=by omega
   have RT : Hid (R = true):=by show _ = _;rw [← HR.out,← e];exact hs.out
   have g1 : decide ((p : Int) < (k : Int)) = false:=by simp;omega
   clear hs
   go_wp2_with fail
   go_ret
   exact ⟨by rw [RT.out];rfl,rfl⟩
end Go.Proofs.YtcandidgaegghaaGreatDoor
