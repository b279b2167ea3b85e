/- lyceumref13.Valid. Conditions: at most a thousand facts; names fit into memory. -/
import Derived.Test.YtcandidgaegghaaGreatDoorCpZ
import Derived.Test.YtcandidgaegghaaGreatDoorMdHZ
set_option maxRecDepth 10000
set_option linter.unusedSimpArgs false
set_option linter.unusedVariables false
namespace Go.Proofs.YtcandidgaegghaaGreatDoor
open Go Go.RowKit Go.Sort Ly
set_option maxHeartbeats 4000000
def dK (l : List Fa) (lim : Int) (j : Nat) : Bool :=
 match l[j]? with
 | none=>true
 | some f=>decide (f.args = 0) && (decide (0 ≤ f.tru) && decide (f.tru < lim))
theorem dE {l : List Fa} {lim : Int} {j : Nat} {f : Fa} (h : l[j]? = some f) : dK l lim j = (decide (f.args = 0) && (decide (0 ≤ f.tru) && decide (f.tru < lim))):=by simp [dK,h]
def dW (F : List Fa) (z lo : Int) (rn gn bn : Nat) : Bool :=
 decide (1 ≤ z ∧ z ≤ 5 ∧ 0 ≤ lo ∧ lo < z) && (dP (F.map Fa.name) && (decide (rn = 0 ∧ gn = 0 ∧ bn = 0) && aI F.length (dK F (2 ^ z.toNat))))
abbrev mdR (κ z : Int) (ra : Option Addr) (rn rc : Nat) (lo : Int) (fa : Option Addr) (fn fc : Nat) (ga : Option Addr) (gn gc : Nat) (ba : Option Addr) (bn bc : Nat) : Obj :=
 .cells #[.int .u8 κ,.int .i64 z,.slice ra rn rc,.int .i64 lo,.slice fa fn fc,.slice ga gn gc,.slice ba bn bc] 34
theorem traceRef_c (F : List Fa) (hF : F.length ≤ 1000) (hl : ∀ x ∈ F,x.name.length ≤ 9223372036854775807) (z lo : Int) (ra fa ga ba : Option Addr) (rn rc fn fc gn gc bn bc : Nat) (hrn : rn ≤ maxLen) (hgn : gn ≤ maxLen) (hbn : bn ≤ maxLen) (w : World) (hx : aM w 3 (fasV F) F.length (.slice fa fn fc)) :
  Calls Tryz.prog 149 #[.agg #[.int .u8 5,.int .i64 z,.slice ra rn rc,.int .i64 lo,.slice fa fn fc,.slice ga gn gc,.slice ba bn bc]] w (Rt (.bool (dW F z lo rn gn bn)) w):=by
 have hk:=hx.len
 have hlk : fn ≤ 1000:=by omega
 have L1:=Hd hk.1
 have HX:=Hd hx
 have HB : Hid (Below w.heap.size w (w.alloc (mdR 5 z ra rn rc lo fa fn fc ga gn gc ba bn bc))):=bnew
 have NEW:=Hd (heap_alloc_new w (mdR 5 z ra rn rc lo fa fn fc ga gn gc ba bn bc))
 obtain ⟨q,hq⟩ : ∃ q,dP (F.map Fa.name) = q:=⟨_,rfl⟩
 have N1 : Hid (∀ W,Below w.heap.size w W → Calls Tryz.prog 226 #[.agg #[.int .u8 5,.int .i64 z,.slice ra rn rc,.int .i64 lo,.slice fa fn fc,.slice ga gn gc,.slice ba bn bc]] W fun e w'=>∃ a n c,e = .returned (.slice a n c) ∧ aX w' (F.map Fa.name) (.slice a n c) ∧ Below W.heap.size W w'):=fun W hW =>
  (names13_c ⟨5,z,[],lo,F,[],[]⟩ hF ra fa ga ba rn rc fn fc gn gc bn bc W (hx.keep (aC hW))).mono fun e w' ⟨v,he,ho,b⟩=>by
   rcases ho.2 with ⟨rfl,h0⟩ | ⟨_,_,_,rfl,-⟩
   ·exact ⟨_,_,_,he,ho.strsAt,b⟩
   ·exact ⟨_,_,_,he,ho.strsAt,b⟩
 have N2 : Hid (∀ W a n c,aX W (F.map Fa.name) (.slice a n c) → Calls Tryz.prog 225 #[.slice a n c] W (Rt (.bool q) W)):=fun W a n c h=>by
  rw [← hq]
  exact rising13_c _ (fun x hx=>by obtain ⟨f,hf,rfl⟩:=List.mem_map.1 hx;exact hl f hf) _ _ _ _ h
 have r63:=le63 hrn
 have g63:=le63 hgn
 have b63:=le63 hbn
 clear hk hx hl
 have CS : (z < 1) ∨ (1 ≤ z ∧ 5 < z) ∨ (1 ≤ z ∧ z ≤ 5 ∧ lo < 0) ∨ (1 ≤ z ∧ z ≤ 5 ∧ 0 ≤ lo ∧ z ≤ lo) ∨ (1 ≤ z ∧ z ≤ 5 ∧ 0 ≤ lo ∧ lo < z):=by omega
 rcases CS with h1 | ⟨h1,h2⟩ | ⟨h1,h2,h3⟩ | ⟨h1,h2,h3,h4⟩ | ⟨h1,h2,h3,h4⟩
 ·have t1 : decide (z < 1) = true:=decide_eq_true h1
  have E : Hid (dW F z lo rn gn bn = false):=by show _ = _;unfold dW;rw [decide_eq_false (by omega)];rfl
  rw [E.out]
  clear E
  go_enter Tryz.func149,Tryz.ntmps149
  go_wp2_with fail
  go_ret
  exact ⟨rfl,HB.out⟩
 ·have t1 : decide (z < 1) = false:=decide_eq_false (by omega)
  have t2 : decide (5 < z) = true:=decide_eq_true h2
  have E : Hid (dW F z lo rn gn bn = false):=by show _ = _;unfold dW;rw [decide_eq_false (by omega)];rfl
  rw [E.out]
  clear E
  go_enter Tryz.func149,Tryz.ntmps149
  go_wp2_with fail
  go_ret
  exact ⟨rfl,HB.out⟩
 ·have t1 : decide (z < 1) = false:=decide_eq_false (by omega)
  have t2 : decide (5 < z) = false:=decide_eq_false (by omega)
  have t3 : decide (lo < 0) = true:=decide_eq_true h3
  have E : Hid (dW F z lo rn gn bn = false):=by show _ = _;unfold dW;rw [decide_eq_false (by omega)];rfl
  rw [E.out]
  clear E
  go_enter Tryz.func149,Tryz.ntmps149
  go_wp2_with fail
  go_ret
  exact ⟨rfl,HB.out⟩
 ·have t1 : decide (z < 1) = false:=decide_eq_false (by omega)
  have t2 : decide (5 < z) = false:=decide_eq_false (by omega)
  have t3 : decide (lo < 0) = false:=decide_eq_false (by omega)
  have t4 : decide (z ≤ lo) = true:=decide_eq_true h4
  have E : Hid (dW F z lo rn gn bn = false):=by show _ = _;unfold dW;rw [decide_eq_false (by omega)];rfl
  rw [E.out]
  clear E
  go_enter Tryz.func149,Tryz.ntmps149
  go_wp2_with fail
  go_ret
  exact ⟨rfl,HB.out⟩
 ·have t1 : decide (z < 1) = false:=decide_eq_false (by omega)
  have t2 : decide (5 < z) = false:=decide_eq_false (by omega)
  have t3 : decide (lo < 0) = false:=decide_eq_false (by omega)
  have t4 : decide (z ≤ lo) = false:=decide_eq_false (by omega)
  have TB : Hid (dW F z lo rn gn bn = (q && (decide (rn = 0 ∧ gn = 0 ∧ bn = 0) && aI F.length (dK F (2 ^ z.toNat))))):=by
   show _ = _;unfold dW;rw [decide_eq_true (by omega),hq];rfl
  rw [TB.out]
  clear hq
  cases q
  ·go_enter Tryz.func149,Tryz.ntmps149
   go_wp2_with (first | (go_at_call 226;refine (N1.out _ HB.out).mono ?_;rintro e w1 ⟨na,nn,nc,rfl,n1,b1⟩;have B1:=Hd (aA HB.out b1);have R1:=Hd (kc b1 NEW.out);have M1:=Hd n1;clear n1 b1) | (go_at_call 225;refine (N2.out _ _ _ _ M1.out).mono ?_;rintro e w2 ⟨rfl,b2⟩;have B2:=Hd (aA B1.out b2);have R2:=Hd (kc b2 R1.out);clear b2;obtain ⟨⟨c0,c1,c2,c3,c4,c5,c6⟩,-⟩:=aK R2.out))
   go_ret
   exact ⟨rfl,B2.out⟩
  by_cases hz : rn = 0 ∧ gn = 0 ∧ bn = 0
  rotate_left
  ·have E : Hid ((true && (decide (rn = 0 ∧ gn = 0 ∧ bn = 0) && aI F.length (dK F (2 ^ z.toNat)))) = false):=by show _ = _;rw [decide_eq_false hz];rfl
   rw [E.out]
   have hz2 : 0 < rn ∨ (rn = 0 ∧ 0 < gn) ∨ (rn = 0 ∧ gn = 0 ∧ 0 < bn):=by omega
   clear E hz TB
   rcases hz2 with h5 | ⟨rfl,h5⟩ | ⟨rfl,rfl,h5⟩
   all_goals
    go_enter Tryz.func149,Tryz.ntmps149
    go_wp2_with (first | (go_at_call 226;refine (N1.out _ HB.out).mono ?_;rintro e w1 ⟨na,nn,nc,rfl,n1,b1⟩;have B1:=Hd (aA HB.out b1);have R1:=Hd (kc b1 NEW.out);have M1:=Hd n1;clear n1 b1) | (go_at_call 225;refine (N2.out _ _ _ _ M1.out).mono ?_;rintro e w2 ⟨rfl,b2⟩;have B2:=Hd (aA B1.out b2);have R2:=Hd (kc b2 R1.out);clear b2;obtain ⟨⟨c0,c1,c2,c3,c4,c5,c6⟩,-⟩:=aK R2.out))
    go_ret
    exact ⟨rfl,B2.out⟩
  obtain ⟨rfl,rfl,rfl⟩:=hz
  obtain ⟨lim,hlim⟩ : ∃ lim : Int,(2 : Int) ^ z.toNat = lim:=⟨_,rfl⟩
  obtain ⟨R,hR⟩ : ∃ R,aI F.length (dK F (2 ^ z.toNat)) = R:=⟨_,rfl⟩
  have HR : Hid (aI fn (dK F lim) = R):=by show _ = _;rw [← hR,L1.out,hlim]
  have HLIM:=Hd hlim
  rw [hR]
  clear hR TB hlim
  rw [show ((true && (decide (0 = 0 ∧ 0 = 0 ∧ 0 = 0) && R)) : Bool) = R by simp]
  rcases (show z = 1 ∨ z = 2 ∨ z = 3 ∨ z = 4 ∨ z = 5 by omega) with rfl | rfl | rfl | rfl | rfl
  ·obtain rfl : lim = 2:=HLIM.out.symm
   go_enter Tryz.func149,Tryz.ntmps149
   go_wp2_with (first | (go_at_call 226;refine (N1.out _ HB.out).mono ?_;rintro e w1 ⟨na,nn,nc,rfl,n1,b1⟩;have B1:=Hd (aA HB.out b1);have R1:=Hd (kc b1 NEW.out);have M1:=Hd n1;clear n1 b1) | (go_at_call 225;refine (N2.out _ _ _ _ M1.out).mono ?_;rintro e w2 ⟨rfl,b2⟩;have B2:=Hd (aA B1.out b2);have R2:=Hd (kc b2 R1.out);clear b2;obtain ⟨⟨c0,c1,c2,c3,c4,c5,c6⟩,-⟩:=aK R2.out))
   go_loopw [3] (fun i wr=>∃ j : Nat,j ≤ fn ∧ i = .int .i64 j ∧ Hid (aI j (dK F 2) = true ∧ Below w.heap.size w wr ∧ wr.heap[w.heap.size]? = some (mdR 5 1 ra 0 rc lo fa fn fc ga 0 gc ba 0 bc))) (fun i _=>fn - (intOf i).toNat)
   case atStart=>exact ⟨0,Nat.zero_le _,rfl,aN _,B2.out,R2.out⟩
   case round =>
    clear c0 c1 c2 c3 c4 c5 c6 R1 R2 B1 B2 M1
    obtain ⟨j,hj,rfl,hs⟩:=hrel
    obtain ⟨⟨d0,d1,d2,d3,d4,d5,d6⟩,-⟩:=aK hs.out.2.2
    by_cases hlt : j < fn
    ·obtain ⟨T,hT⟩:=aH (l:=F) (j:=j) (by rw [← L1.out];exact hlt)
     obtain ⟨b,off,rfl,p0,p1,p2⟩:=cL HX.out hT
     have hK:=aC hs.out.2.1
     have c1:=cell_regrown (hK _ _ p1);have c2:=cell_regrown (hK _ _ p2)
     have FA:=Hd (dE (lim:=2) hT)
     obtain ⟨nm,ar,tr⟩:=T
     simp only [Fa.args,Fa.tru,Fa.name] at *
     have x1:=cell_regrown d1;have x4:=cell_regrown d4
     clear hT hK p0 p1 p2
     have CS : ar ≠ 0 ∨ (ar = 0 ∧ tr < 0) ∨ (ar = 0 ∧ 0 ≤ tr ∧ 2 ≤ tr) ∨ (ar = 0 ∧ 0 ≤ tr ∧ tr < 2):=by omega
     rcases CS with h5 | ⟨rfl,h5⟩ | ⟨rfl,h5,h6⟩ | ⟨rfl,h5,h6⟩
     ·have RT : Hid (R = false):=by show _ = _;rw [← HR.out,aE hlt (by rw [FA.out];simp;omega)]
      have g2 : (ar != 0) = true:=by simpa using h5
      go_wp2_with fail
      refine wqb ?_
      repeat (go_big_quiet_step (fail))
      refine wpQuiet_nil (qe fun wq WQ=>?_)
      go_wp2_with fail
      go_ret
      exact ⟨by rw [RT.out];rfl,aA hs.out.2.1 WQ.out⟩
     ·have RT : Hid (R = false):=by show _ = _;rw [← HR.out,aE hlt (by rw [FA.out];simp;omega)]
      have g2 : decide (tr < 0) = true:=decide_eq_true h5
      go_wp2_with fail
      refine wqb ?_
      repeat (go_big_quiet_step (fail))
      refine wpQuiet_nil (qe fun wq WQ=>?_)
      go_wp2_with fail
      go_ret
      exact ⟨by rw [RT.out];rfl,aA hs.out.2.1 WQ.out⟩
     ·have RT : Hid (R = false):=by show _ = _;rw [← HR.out,aE hlt (by rw [FA.out];simp;omega)]
      have g2 : decide (tr < 0) = false:=decide_eq_false (by omega)
      have g3 : decide (2 ≤ tr) = true:=decide_eq_true h6
      go_wp2_with fail
      refine wqb ?_
      repeat (go_big_quiet_step (fail))
      refine wpQuiet_nil (qe fun wq WQ=>?_)
      go_wp2_with fail
      go_ret
      exact ⟨by rw [RT.out];rfl,aA hs.out.2.1 WQ.out⟩
     ·have g2 : decide (tr < 0) = false:=decide_eq_false (by omega)
      have g3 : decide (2 ≤ tr) = false:=decide_eq_false (by omega)
      go_wp2_with fail
      refine wqb ?_
      repeat (go_big_quiet_step (fail))
      refine wpQuiet_nil (qe fun wq WQ=>?_)
      go_wp2_with fail
      go_roundw
      case rel=>exact ⟨j + 1,by omega,by go_num,aL hs.out.1 (by rw [FA.out];simp;omega),aA hs.out.2.1 WQ.out,kc WQ.out hs.out.2.2⟩
      case measure=>simp [intOf];omega
    ·have e : j = fn:=by omega
     have RT : Hid (R = true):=by show _ = _;rw [← HR.out,← e];exact hs.out.1
     have BW:=Hd hs.out.2.1
     have g1 : decide ((j : Int) < (fn : Int)) = false:=by simp;omega
     clear hs
     go_wp2_with fail
     go_ret
     exact ⟨by rw [RT.out];rfl,BW.out⟩
  ·obtain rfl : lim = 4:=HLIM.out.symm
   go_enter Tryz.func149,Tryz.ntmps149
   go_wp2_with (first | (go_at_call 226;refine (N1.out _ HB.out).mono ?_;rintro e w1 ⟨na,nn,nc,rfl,n1,b1⟩;have B1:=Hd (aA HB.out b1);have R1:=Hd (kc b1 NEW.out);have M1:=Hd n1;clear n1 b1) | (go_at_call 225;refine (N2.out _ _ _ _ M1.out).mono ?_;rintro e w2 ⟨rfl,b2⟩;have B2:=Hd (aA B1.out b2);have R2:=Hd (kc b2 R1.out);clear b2;obtain ⟨⟨c0,c1,c2,c3,c4,c5,c6⟩,-⟩:=aK R2.out))
   go_loopw [3] (fun i wr=>∃ j : Nat,j ≤ fn ∧ i = .int .i64 j ∧ Hid (aI j (dK F 4) = true ∧ Below w.heap.size w wr ∧ wr.heap[w.heap.size]? = some (mdR 5 2 ra 0 rc lo fa fn fc ga 0 gc ba 0 bc))) (fun i _=>fn - (intOf i).toNat)
   case atStart=>exact ⟨0,Nat.zero_le _,rfl,aN _,B2.out,R2.out⟩
   case round =>
    clear c0 c1 c2 c3 c4 c5 c6 R1 R2 B1 B2 M1
    obtain ⟨j,hj,rfl,hs⟩:=hrel
    obtain ⟨⟨d0,d1,d2,d3,d4,d5,d6⟩,-⟩:=aK hs.out.2.2
    by_cases hlt : j < fn
    ·obtain ⟨T,hT⟩:=aH (l:=F) (j:=j) (by rw [← L1.out];exact hlt)
     obtain ⟨b,off,rfl,p0,p1,p2⟩:=cL HX.out hT
     have hK:=aC hs.out.2.1
     have c1:=cell_regrown (hK _ _ p1);have c2:=cell_regrown (hK _ _ p2)
     have FA:=Hd (dE (lim:=4) hT)
     obtain ⟨nm,ar,tr⟩:=T
     simp only [Fa.args,Fa.tru,Fa.name] at *
     have x1:=cell_regrown d1;have x4:=cell_regrown d4
     clear hT hK p0 p1 p2
     have CS : ar ≠ 0 ∨ (ar = 0 ∧ tr < 0) ∨ (ar = 0 ∧ 0 ≤ tr ∧ 4 ≤ tr) ∨ (ar = 0 ∧ 0 ≤ tr ∧ tr < 4):=by omega
     rcases CS with h5 | ⟨rfl,h5⟩ | ⟨rfl,h5,h6⟩ | ⟨rfl,h5,h6⟩
     ·have RT : Hid (R = false):=by show _ = _;rw [← HR.out,aE hlt (by rw [FA.out];simp;omega)]
      have g2 : (ar != 0) = true:=by simpa using h5
      go_wp2_with fail
      refine wqb ?_
      repeat (go_big_quiet_step (fail))
      refine wpQuiet_nil (qe fun wq WQ=>?_)
      go_wp2_with fail
      go_ret
      exact ⟨by rw [RT.out];rfl,aA hs.out.2.1 WQ.out⟩
     ·have RT : Hid (R = false):=by show _ = _;rw [← HR.out,aE hlt (by rw [FA.out];simp;omega)]
      have g2 : decide (tr < 0) = true:=decide_eq_true h5
      go_wp2_with fail
      refine wqb ?_
      repeat (go_big_quiet_step (fail))
      refine wpQuiet_nil (qe fun wq WQ=>?_)
      go_wp2_with fail
      go_ret
      exact ⟨by rw [RT.out];rfl,aA hs.out.2.1 WQ.out⟩
     ·have RT : Hid (R = false):=by show _ = _;rw [← HR.out,aE hlt (by rw [FA.out];simp;omega)]
      have g2 : decide (tr < 0) = false:=decide_eq_false (by omega)
      have g3 : decide (4 ≤ tr) = true:=decide_eq_true h6
      go_wp2_with fail
      refine wqb ?_
      repeat (go_big_quiet_step (fail))
      refine wpQuiet_nil (qe fun wq WQ=>?_)
      go_wp2_with fail
      go_ret
      exact ⟨by rw [RT.out];rfl,aA hs.out.2.1 WQ.out⟩
     ·have g2 : decide (tr < 0) = false:=decide_eq_false (by omega)
      have g3 : decide (4 ≤ tr) = false:=decide_eq_false (by omega)
      go_wp2_with fail
      refine wqb ?_
      repeat (go_big_quiet_step (fail))
      refine wpQuiet_nil (qe fun wq WQ=>?_)
      go_wp2_with fail
      go_roundw
      case rel=>exact ⟨j + 1,by omega,by go_num,aL hs.out.1 (by rw [FA.out];simp;omega),aA hs.out.2.1 WQ.out,kc WQ.out hs.out.2.2⟩
      case measure=>simp [intOf];omega
    ·have e : j = fn:=by omega
     have RT : Hid (R = true):=by show _ = _;rw [← HR.out,← e];exact hs.out.1
     have BW:=Hd hs.out.2.1
     have g1 : decide ((j : Int) < (fn : Int)) = false:=by simp;omega
     clear hs
     go_wp2_with fail
     go_ret
     exact ⟨by rw [RT.out];rfl,BW.out⟩
  ·obtain rfl : lim = 8:=HLIM.out.symm
   go_enter Tryz.func149,Tryz.ntmps149
   go_wp2_with (first | (go_at_call 226;refine (N1.out _ HB.out).mono ?_;rintro e w1 ⟨na,nn,nc,rfl,n1,b1⟩;have B1:=Hd (aA HB.out b1);have R1:=Hd (kc b1 NEW.out);have M1:=Hd n1;clear n1 b1) | (go_at_call 225;refine (N2.out _ _ _ _ M1.out).mono ?_;rintro e w2 ⟨rfl,b2⟩;have B2:=Hd (aA B1.out b2);have R2:=Hd (kc b2 R1.out);clear b2;obtain ⟨⟨c0,c1,c2,c3,c4,c5,c6⟩,-⟩:=aK R2.out))
   go_loopw [3] (fun i wr=>∃ j : Nat,j ≤ fn ∧ i = .int .i64 j ∧ Hid (aI j (dK F 8) = true ∧ Below w.heap.size w wr ∧ wr.heap[w.heap.size]? = some (mdR 5 3 ra 0 rc lo fa fn fc ga 0 gc ba 0 bc))) (fun i _=>fn - (intOf i).toNat)
   case atStart=>exact ⟨0,Nat.zero_le _,rfl,aN _,B2.out,R2.out⟩
   case round =>
    clear c0 c1 c2 c3 c4 c5 c6 R1 R2 B1 B2 M1
    obtain ⟨j,hj,rfl,hs⟩:=hrel
    obtain ⟨⟨d0,d1,d2,d3,d4,d5,d6⟩,-⟩:=aK hs.out.2.2
    by_cases hlt : j < fn
    ·obtain ⟨T,hT⟩:=aH (l:=F) (j:=j) (by rw [← L1.out];exact hlt)
     obtain ⟨b,off,rfl,p0,p1,p2⟩:=cL HX.out hT
     have hK:=aC hs.out.2.1
     have c1:=cell_regrown (hK _ _ p1);have c2:=cell_regrown (hK _ _ p2)
     have FA:=Hd (dE (lim:=8) hT)
     obtain ⟨nm,ar,tr⟩:=T
     simp only [Fa.args,Fa.tru,Fa.name] at *
     have x1:=cell_regrown d1;have x4:=cell_regrown d4
     clear hT hK p0 p1 p2
     have CS : ar ≠ 0 ∨ (ar = 0 ∧ tr < 0) ∨ (ar = 0 ∧ 0 ≤ tr ∧ 8 ≤ tr) ∨ (ar = 0 ∧ 0 ≤ tr ∧ tr < 8):=by omega
     rcases CS with h5 | ⟨rfl,h5⟩ | ⟨rfl,h5,h6⟩ | ⟨rfl,h5,h6⟩
     ·have RT : Hid (R = false):=by show _ = _;rw [← HR.out,aE hlt (by rw [FA.out];simp;omega)]
      have g2 : (ar != 0) = true:=by simpa using h5
      go_wp2_with fail
      refine wqb ?_
      repeat (go_big_quiet_step (fail))
      refine wpQuiet_nil (qe fun wq WQ=>?_)
      go_wp2_with fail
      go_ret
      exact ⟨by rw [RT.out];rfl,aA hs.out.2.1 WQ.out⟩
     ·have RT : Hid (R = false):=by show _ = _;rw [← HR.out,aE hlt (by rw [FA.out];simp;omega)]
      have g2 : decide (tr < 0) = true:=decide_eq_true h5
      go_wp2_with fail
      refine wqb ?_
      repeat (go_big_quiet_step (fail))
      refine wpQuiet_nil (qe fun wq WQ=>?_)
      go_wp2_with fail
      go_ret
      exact ⟨by rw [RT.out];rfl,aA hs.out.2.1 WQ.out⟩
     ·have RT : Hid (R = false):=by show _ = _;rw [← HR.out,aE hlt (by rw [FA.out];simp;omega)]
      have g2 : decide (tr < 0) = false:=decide_eq_false (by omega)
      have g3 : decide (8 ≤ tr) = true:=decide_eq_true h6
      go_wp2_with fail
      refine wqb ?_
      repeat (go_big_quiet_step (fail))
      refine wpQuiet_nil (qe fun wq WQ=>?_)
      go_wp2_with fail
      go_ret
      exact ⟨by rw [RT.out];rfl,aA hs.out.2.1 WQ.out⟩
     ·have g2 : decide (tr < 0) = false:=decide_eq_false (by omega)
      have g3 : decide (8 ≤ tr) = false:=decide_eq_false (by omega)
      go_wp2_with fail
      refine wqb ?_
      repeat (go_big_quiet_step (fail))
      refine wpQuiet_nil (qe fun wq WQ=>?_)
      go_wp2_with fail
      go_roundw
      case rel=>exact ⟨j + 1,by omega,by go_num,aL hs.out.1 (by rw [FA.out];simp;omega),aA hs.out.2.1 WQ.out,kc WQ.out hs.out.2.2⟩
      case measure=>simp [intOf];omega
    ·have e : j = fn:=by omega
     have RT : Hid (R = true):=by show _ = _;rw [← HR.out,← e];exact hs.out.1
     have BW:=Hd hs.out.2.1
     have g1 : decide ((j : Int) < (fn : Int)) = false:=by simp;omega
     clear hs
     go_wp2_with fail
     go_ret
     exact ⟨by rw [RT.out];rfl,BW.out⟩
  ·obtain rfl : lim = 16:=HLIM.out.symm
   go_enter Tryz.func149,Tryz.ntmps149
   go_wp2_with (first | (go_at_call 226;refine (N1.out _ HB.out).mono ?_;rintro e w1 ⟨na,nn,nc,rfl,n1,b1⟩;have B1:=Hd (aA HB.out b1);have R1:=Hd (kc b1 NEW.out);have M1:=Hd n1;clear n1 b1) | (go_at_call 225;refine (N2.out _ _ _ _ M1.out).mono ?_;rintro e w2 ⟨rfl,b2⟩;have B2:=Hd (aA B1.out b2);have R2:=Hd (kc b2 R1.out);clear b2;obtain ⟨⟨c0,c1,c2,c3,c4,c5,c6⟩,-⟩:=aK R2.out))
   go_loopw [3] (fun i wr=>∃ j : Nat,j ≤ fn ∧ i = .int .i64 j ∧ Hid (aI j (dK F 16) = true ∧ Below w.heap.size w wr ∧ wr.heap[w.heap.size]? = some (mdR 5 4 ra 0 rc lo fa fn fc ga 0 gc ba 0 bc))) (fun i _=>fn - (intOf i).toNat)
   case atStart=>exact ⟨0,Nat.zero_le _,rfl,aN _,B2.out,R2.out⟩
   case round =>
    clear c0 c1 c2 c3 c4 c5 c6 R1 R2 B1 B2 M1
    obtain ⟨j,hj,rfl,hs⟩:=hrel
    obtain ⟨⟨d0,d1,d2,d3,d4,d5,d6⟩,-⟩:=aK hs.out.2.2
    by_cases hlt : j < fn
    ·obtain ⟨T,hT⟩:=aH (l:=F) (j:=j) (by rw [← L1.out];exact hlt)
     obtain ⟨b,off,rfl,p0,p1,p2⟩:=cL HX.out hT
     have hK:=aC hs.out.2.1
     have c1:=cell_regrown (hK _ _ p1);have c2:=cell_regrown (hK _ _ p2)
     have FA:=Hd (dE (lim:=16) hT)
     obtain ⟨nm,ar,tr⟩:=T
     simp only [Fa.args,Fa.tru,Fa.name] at *
     have x1:=cell_regrown d1;have x4:=cell_regrown d4
     clear hT hK p0 p1 p2
     have CS : ar ≠ 0 ∨ (ar = 0 ∧ tr < 0) ∨ (ar = 0 ∧ 0 ≤ tr ∧ 16 ≤ tr) ∨ (ar = 0 ∧ 0 ≤ tr ∧ tr < 16):=by omega
     rcases CS with h5 | ⟨rfl,h5⟩ | ⟨rfl,h5,h6⟩ | ⟨rfl,h5,h6⟩
     ·have RT : Hid (R = false):=by show _ = _;rw [← HR.out,aE hlt (by rw [FA.out];simp;omega)]
      have g2 : (ar != 0) = true:=by simpa using h5
      go_wp2_with fail
      refine wqb ?_
      repeat (go_big_quiet_step (fail))
      refine wpQuiet_nil (qe fun wq WQ=>?_)
      go_wp2_with fail
      go_ret
      exact ⟨by rw [RT.out];rfl,aA hs.out.2.1 WQ.out⟩
     ·have RT : Hid (R = false):=by show _ = _;rw [← HR.out,aE hlt (by rw [FA.out];simp;omega)]
      have g2 : decide (tr < 0) = true:=decide_eq_true h5
      go_wp2_with fail
      refine wqb ?_
      repeat (go_big_quiet_step (fail))
      refine wpQuiet_nil (qe fun wq WQ=>?_)
      go_wp2_with fail
      go_ret
      exact ⟨by rw [RT.out];rfl,aA hs.out.2.1 WQ.out⟩
     ·have RT : Hid (R = false):=by show _ = _;rw [← HR.out,aE hlt (by rw [FA.out];simp;omega)]
      have g2 : decide (tr < 0) = false:=decide_eq_false (by omega)
      have g3 : decide (16 ≤ tr) = true:=decide_eq_true h6
      go_wp2_with fail
      refine wqb ?_
      repeat (go_big_quiet_step (fail))
      refine wpQuiet_nil (qe fun wq WQ=>?_)
      go_wp2_with fail
      go_ret
      exact ⟨by rw [RT.out];rfl,aA hs.out.2.1 WQ.out⟩
     ·have g2 : decide (tr < 0) = false:=decide_eq_false (by omega)
      have g3 : decide (16 ≤ tr) = false:=decide_eq_false (by omega)
      go_wp2_with fail
      refine wqb ?_
      repeat (go_big_quiet_step (fail))
      refine wpQuiet_nil (qe fun wq WQ=>?_)
      go_wp2_with fail
      go_roundw
      case rel=>exact ⟨j + 1,by omega,by go_num,aL hs.out.1 (by rw [FA.out];simp;omega),aA hs.out.2.1 WQ.out,kc WQ.out hs.out.2.2⟩
      case measure=>simp [intOf];omega
    ·have e : j = fn:=by omega
     have RT : Hid (R = true):=by show _ = _;rw [← HR.out,← e];exact hs.out.1
     have BW:=Hd hs.out.2.1
     have g1 : decide ((j : Int) < (fn : Int)) = false:=by simp;omega
     clear hs
     go_wp2_with fail
     go_ret
     exact ⟨by rw [RT.out];rfl,BW.out⟩
  ·obtain rfl : lim = 32:=HLIM.out.symm
   go_enter Tryz.func149,Tryz.ntmps149
   go_wp2_with (first | (go_at_call 226;refine (N1.out _ HB.out).mono ?_;rintro e w1 ⟨na,nn,nc,rfl,n1,b1⟩;have B1:=Hd (aA HB.out b1);have R1:=Hd (kc b1 NEW.out);have M1:=Hd n1;clear n1 b1) | (go_at_call 225;refine (N2.out _ _ _ _ M1.out).mono ?_;rintro e w2 ⟨rfl,b2⟩;have B2:=Hd (aA B1.out b2);have R2:=Hd (kc b2 R1.out);clear b2;obtain ⟨⟨c0,c1,c2,c3,c4,c5,c6⟩,-⟩:=aK R2.out))
   go_loopw [3] (fun i wr=>∃ j : Nat,j ≤ fn ∧ i = .int .i64 j ∧ Hid (aI j (dK F 32) = true ∧ Below w.heap.size w wr ∧ wr.heap[w.heap.size]? = some (mdR 5 5 ra 0 rc lo fa fn fc ga 0 gc ba 0 bc))) (fun i _=>fn - (intOf i).toNat)
   case atStart=>exact ⟨0,Nat.zero_le _,rfl,aN _,B2.out,R2.out⟩
   case round =>
    clear c0 c1 c2 c3 c4 c5 c6 R1 R2 B1 B2 M1
    obtain ⟨j,hj,rfl,hs⟩:=hrel
    obtain ⟨⟨d0,d1,d2,d3,d4,d5,d6⟩,-⟩:=aK hs.out.2.2
    by_cases hlt : j < fn
    ·obtain ⟨T,hT⟩:=aH (l:=F) (j:=j) (by rw [← L1.out];exact hlt)
     obtain ⟨b,off,rfl,p0,p1,p2⟩:=cL HX.out hT
     have hK:=aC hs.out.2.1
     have c1:=cell_regrown (hK _ _ p1);have c2:=cell_regrown (hK _ _ p2)
     have FA:=Hd (dE (lim:=32) hT)
     obtain ⟨nm,ar,tr⟩:=T
     simp only [Fa.args,Fa.tru,Fa.name] at *
     have x1:=cell_regrown d1;have x4:=cell_regrown d4
     clear hT hK p0 p1 p2
     have CS : ar ≠ 0 ∨ (ar = 0 ∧ tr < 0) ∨ (ar = 0 ∧ 0 ≤ tr ∧ 32 ≤ tr) ∨ (ar = 0 ∧ 0 ≤ tr ∧ tr < 32):=by omega
     rcases CS with h5 | ⟨rfl,h5⟩ | ⟨rfl,h5,h6⟩ | ⟨rfl,h5,h6⟩
     ·have RT : Hid (R = false):=by show _ = _;rw [← HR.out,aE hlt (by rw [FA.out];simp;omega)]
      have g2 : (ar != 0) = true:=by simpa using h5
      go_wp2_with fail
      refine wqb ?_
      repeat (go_big_quiet_step (fail))
      refine wpQuiet_nil (qe fun wq WQ=>?_)
      go_wp2_with fail
      go_ret
      exact ⟨by rw [RT.out];rfl,aA hs.out.2.1 WQ.out⟩
     ·have RT : Hid (R = false):=by show _ = _;rw [← HR.out,aE hlt (by rw [FA.out];simp;omega)]
      have g2 : decide (tr < 0) = true:=decide_eq_true h5
      go_wp2_with fail
      refine wqb ?_
      repeat (go_big_quiet_step (fail))
      refine wpQuiet_nil (qe fun wq WQ=>?_)
      go_wp2_with fail
      go_ret
      exact ⟨by rw [RT.out];rfl,aA hs.out.2.1 WQ.out⟩
     ·have RT : Hid (R = false):=by show _ = _;rw [← HR.out,aE hlt (by rw [FA.out];simp;omega)]
      have g2 : decide (tr < 0) = false:=decide_eq_false (by omega)
      have g3 : decide (32 ≤ tr) = true:=decide_eq_true h6
      go_wp2_with fail
      refine wqb ?_
      repeat (go_big_quiet_step (fail))
      refine wpQuiet_nil (qe fun wq WQ=>?_)
      go_wp2_with fail
      go_ret
      exact ⟨by rw [RT.out];rfl,aA hs.out.2.1 WQ.out⟩
     ·have g2 : decide (tr < 0) = false:=decide_eq_false (by omega)
      have g3 : decide (32 ≤ tr) = false:=decide_eq_false (by omega)
      go_wp2_with fail
      refine wqb ?_
      repeat (go_big_quiet_step (fail))
      refine wpQuiet_nil (qe fun wq WQ=>?_)
      go_wp2_with fail
      go_roundw
      case rel=>exact ⟨j + 1,by omega,by go_num,aL hs.out.1 (by rw [FA.out];simp;omega),aA hs.out.2.1 WQ.out,kc WQ.out hs.out.2.2⟩
      case measure=>simp [intOf];omega
    ·have e : j = fn:=by omega
     have RT : Hid (R = true):=by show _ = _;rw [← HR.out,← e];exact hs.out.1
     have BW:=Hd hs.out.2.1
     have g1 : decide ((j : Int) < (fn : Int)) = false:=by simp;omega
     clear hs
     go_wp2_with fail
     go_ret
     exact ⟨by rw [RT.out];rfl,BW.out⟩
end Go.Proofs.YtcandidgaegghaaGreatDoor
