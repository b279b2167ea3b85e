/- lyceumref12.Valid. Conditions: the kind is 3 or 4; at most a thousand facts; names fit into memory. -/
import Derived.Test.YtcandidgaegghaaGreatDoorCpZ
import Derived.Test.YtcandidgaegghaaGreatDoorMdMZ
set_option maxRecDepth 10000
set_option linter.unusedSimpArgs false
set_option linter.unusedVariables false
namespace Go.Proofs.YtcandidgaegghaaGreatDoor
open Go Go.RowKit Go.Sort Ly
set_option maxHeartbeats 4000000
def zI (R : List Int) (F : List Fa) (j : Nat) : Bool :=
 match F[j]? with
 | none=>true
 | some f=>kL R f.tru
theorem lS {R : List Int} {F : List Fa} {j : Nat} {f : Fa} (h : F[j]? = some f) : zI R F j = kL R f.tru:=by simp [zI,h]
def frAt (κ : Int) (R : List Int) (F : List Fa) (lim : Int) (j : Nat) : Bool:=dK F lim j && (decide (κ = 4) || zI R F j)
def eC (κ : Int) (F : List Fa) (z lo : Int) (R : List Int) (gn bn : Nat) : Bool :=
 decide (z = R.length) && (relB R && (dP (F.map Fa.name) && (decide (gn = 0 ∧ bn = 0 ∧ lo = 0) && (aI F.length (frAt κ R F (2 ^ R.length)) && (decide (κ = 4) || ordR R)))))
theorem frameRef3_c (F : List Fa) (hF : F.length ≤ 1000) (hl : ∀ x ∈ F,x.name.length ≤ 9223372036854775807) (z lo : Int) (R : List Int) (ra fa ga ba : Option Addr) (rn rc fn fc gn gc bn bc : Nat) (hgn : gn ≤ maxLen) (hbn : bn ≤ maxLen) (w : World) (hx : aM w 3 (fasV F) F.length (.slice fa fn fc)) (hr : aM w 1 (inV R) R.length (.slice ra rn rc)) :
  Calls Tryz.prog 150 #[.agg #[.int .u8 3,.int .i64 z,.slice ra rn rc,.int .i64 lo,.slice fa fn fc,.slice ga gn gc,.slice ba bn bc]] w (Rt (.bool (eC 3 F z lo R gn bn)) w):=by
 have hk:=hx.len
 have hlk : fn ≤ 1000:=by omega
 have L1:=Hd hk.1
 have L2:=Hd hr.len.1
 have HX:=Hd hx
 have HR0:=Hd hr
 have r63 : rn ≤ 9223372036854775807:=le63 (Nat.le_trans (Nat.le_of_eq hr.len.1) (Nat.le_trans hr.len.2.1 hr.len.2.2.1))
 have HB : Hid (Below w.heap.size w (w.alloc (mdR 3 z ra rn rc lo fa fn fc ga gn gc ba bn bc))):=bnew
 have NEW:=Hd (heap_alloc_new w (mdR 3 z ra rn rc lo fa fn fc ga gn gc ba bn bc))
 obtain ⟨q,hq⟩ : ∃ q,dP (F.map Fa.name) = q:=⟨_,rfl⟩
 obtain ⟨rb,hrb⟩ : ∃ rb,relB R = rb:=⟨_,rfl⟩
 have N0 : Hid (∀ W,Below w.heap.size w W → Calls Tryz.prog 227 #[.slice ra rn rc] W (Rt (.bool rb) W)):=fun W hW=>by
  rw [← hrb];exact lU R _ _ _ W (hr.keep (aC hW))
 have N1 : Hid (∀ W,Below w.heap.size w W → Calls Tryz.prog 229 #[.agg #[.int .u8 3,.int .i64 z,.slice ra rn rc,.int .i64 lo,.slice fa fn fc,.slice ga gn gc,.slice ba bn bc]] W fun e w'=>∃ a n c,e = .returned (.slice a n c) ∧ aX w' (F.map Fa.name) (.slice a n c) ∧ Below W.heap.size W w'):=fun W hW =>
  (uC ⟨3,z,[],lo,F,[],[]⟩ hF ra fa ga ba rn rc fn fc gn gc bn bc W (hx.keep (aC hW))).mono fun e w' ⟨v,he,ho,b⟩=>by
   rcases ho.2 with ⟨rfl,h0⟩ | ⟨_,_,_,rfl,-⟩
   ·exact ⟨_,_,_,he,ho.strsAt,b⟩
   ·exact ⟨_,_,_,he,ho.strsAt,b⟩
 have N2 : Hid (∀ W a n c,aX W (F.map Fa.name) (.slice a n c) → Calls Tryz.prog 228 #[.slice a n c] W (Rt (.bool q) W)):=fun W a n c h=>by
  rw [← hq]
  exact sH _ (fun x hx=>by obtain ⟨f,hf,rfl⟩:=List.mem_map.1 hx;exact hl f hf) _ _ _ _ h
 have g63:=le63 hgn
 have b63:=le63 hbn
 have K4 : Hid (rb = true → 1 ≤ rn ∧ rn ≤ 4):=fun h=>by
  have:=(dA (hrb.trans h)).1
  rw [L2.out];exact this
 have TB : Hid (eC 3 F z lo R gn bn = (decide (z = rn) && (rb && (q && (decide (gn = 0 ∧ bn = 0 ∧ lo = 0) && (aI F.length (frAt 3 R F (2 ^ R.length)) && (decide ((3 : Int) = 4) || ordR R))))))):=by
  show _ = _;unfold eC;rw [hq,hrb,L2.out]
 have PQ : Hid (∀ t W,0 ≤ t → Below w.heap.size w W → rb = true → Calls Tryz.prog 230 #[.slice ra rn rc,.int .i64 t] W fun e w'=>e = .returned (.bool (kL R t)) ∧ w' = W):=fun t W ht hW h =>
  pC R t ra rn rc W (hr.keep (aC hW)) (dA (hrb.trans h)).1.2 ht
 have OQ : Hid (∀ W,Below w.heap.size w W → rb = true → Calls Tryz.prog 231 #[.slice ra rn rc] W fun e w'=>e = .returned (.bool (ordR R)) ∧ w' = W):=fun W hW h =>
  uE R ra rn rc W (hr.keep (aC hW)) (dA (hrb.trans h)).1.2
 obtain ⟨⟨c0,c1,c2,c3,c4,c5,c6⟩,-⟩:=aK NEW.out
 clear hk hx hl hr hq hrb
 by_cases hz : z = rn
 rotate_left
 ·have t1 : (z != (rn : Int)) = true:=by simpa using hz
  rw [TB.out,decide_eq_false hz]
  clear TB hz
  go_enter Tryz.func150,Tryz.ntmps150
  go_wp2_with fail
  go_ret
  exact ⟨rfl,HB.out⟩
 subst hz
 rw [TB.out,decide_eq_true rfl]
 clear TB
 cases rb
 ·clear N1 N2
  go_enter Tryz.func150,Tryz.ntmps150
  go_wp2_with (first | (go_at_call 229;refine (N1.out _ B0.out).mono ?_;rintro e w1 ⟨na,nn,nc,rfl,n1,b1⟩;have B1:=Hd (aA B0.out b1);have R1:=Hd (kc b1 R0.out);have M1:=Hd n1;clear n1 b1) | (go_at_call 228;refine (N2.out _ _ _ _ M1.out).mono ?_;rintro e w2 ⟨rfl,b2⟩;have B2:=Hd (aA B1.out b2);have R2:=Hd (kc b2 R1.out);clear b2;obtain ⟨⟨c0,c1,c2,c3,c4,c5,c6⟩,-⟩:=aK R2.out) | (go_at_call 227;refine (N0.out _ HB.out).mono ?_;rintro e w0 ⟨rfl,b0⟩;have B0:=Hd (aA HB.out b0);have R0:=Hd (kc b0 NEW.out);clear b0;obtain ⟨⟨c0,c1,c2,c3,c4,c5,c6⟩,-⟩:=aK R0.out))
  go_ret
  exact ⟨rfl,B0.out⟩
 cases q
 ·go_enter Tryz.func150,Tryz.ntmps150
  go_wp2_with (first | (go_at_call 229;refine (N1.out _ B0.out).mono ?_;rintro e w1 ⟨na,nn,nc,rfl,n1,b1⟩;have B1:=Hd (aA B0.out b1);have R1:=Hd (kc b1 R0.out);have M1:=Hd n1;clear n1 b1) | (go_at_call 228;refine (N2.out _ _ _ _ M1.out).mono ?_;rintro e w2 ⟨rfl,b2⟩;have B2:=Hd (aA B1.out b2);have R2:=Hd (kc b2 R1.out);clear b2;obtain ⟨⟨c0,c1,c2,c3,c4,c5,c6⟩,-⟩:=aK R2.out) | (go_at_call 227;refine (N0.out _ HB.out).mono ?_;rintro e w0 ⟨rfl,b0⟩;have B0:=Hd (aA HB.out b0);have R0:=Hd (kc b0 NEW.out);clear b0;obtain ⟨⟨c0,c1,c2,c3,c4,c5,c6⟩,-⟩:=aK R0.out))
  go_ret
  exact ⟨rfl,B2.out⟩
 by_cases hg : gn = 0 ∧ bn = 0 ∧ lo = 0
 rotate_left
 ·rw [decide_eq_false hg]
  have hz2 : 0 < gn ∨ (gn = 0 ∧ 0 < bn) ∨ (gn = 0 ∧ bn = 0 ∧ lo ≠ 0):=by omega
  clear hg
  rcases hz2 with h5 | ⟨rfl,h5⟩ | ⟨rfl,rfl,h5⟩
  ·have t2 : decide ((0 : Int) < (gn : Int)) = true:=decide_eq_true (by omega)
   go_enter Tryz.func150,Tryz.ntmps150
   go_wp2_with (first | (go_at_call 229;refine (N1.out _ B0.out).mono ?_;rintro e w1 ⟨na,nn,nc,rfl,n1,b1⟩;have B1:=Hd (aA B0.out b1);have R1:=Hd (kc b1 R0.out);have M1:=Hd n1;clear n1 b1) | (go_at_call 228;refine (N2.out _ _ _ _ M1.out).mono ?_;rintro e w2 ⟨rfl,b2⟩;have B2:=Hd (aA B1.out b2);have R2:=Hd (kc b2 R1.out);clear b2;obtain ⟨⟨c0,c1,c2,c3,c4,c5,c6⟩,-⟩:=aK R2.out) | (go_at_call 227;refine (N0.out _ HB.out).mono ?_;rintro e w0 ⟨rfl,b0⟩;have B0:=Hd (aA HB.out b0);have R0:=Hd (kc b0 NEW.out);clear b0;obtain ⟨⟨c0,c1,c2,c3,c4,c5,c6⟩,-⟩:=aK R0.out))
   go_ret
   exact ⟨rfl,B2.out⟩
  ·have t2 : decide ((0 : Int) < (bn : Int)) = true:=decide_eq_true (by omega)
   go_enter Tryz.func150,Tryz.ntmps150
   go_wp2_with (first | (go_at_call 229;refine (N1.out _ B0.out).mono ?_;rintro e w1 ⟨na,nn,nc,rfl,n1,b1⟩;have B1:=Hd (aA B0.out b1);have R1:=Hd (kc b1 R0.out);have M1:=Hd n1;clear n1 b1) | (go_at_call 228;refine (N2.out _ _ _ _ M1.out).mono ?_;rintro e w2 ⟨rfl,b2⟩;have B2:=Hd (aA B1.out b2);have R2:=Hd (kc b2 R1.out);clear b2;obtain ⟨⟨c0,c1,c2,c3,c4,c5,c6⟩,-⟩:=aK R2.out) | (go_at_call 227;refine (N0.out _ HB.out).mono ?_;rintro e w0 ⟨rfl,b0⟩;have B0:=Hd (aA HB.out b0);have R0:=Hd (kc b0 NEW.out);clear b0;obtain ⟨⟨c0,c1,c2,c3,c4,c5,c6⟩,-⟩:=aK R0.out))
   go_ret
   exact ⟨rfl,B2.out⟩
  ·have t2 : (lo != 0) = true:=by simpa using h5
   go_enter Tryz.func150,Tryz.ntmps150
   go_wp2_with (first | (go_at_call 229;refine (N1.out _ B0.out).mono ?_;rintro e w1 ⟨na,nn,nc,rfl,n1,b1⟩;have B1:=Hd (aA B0.out b1);have R1:=Hd (kc b1 R0.out);have M1:=Hd n1;clear n1 b1) | (go_at_call 228;refine (N2.out _ _ _ _ M1.out).mono ?_;rintro e w2 ⟨rfl,b2⟩;have B2:=Hd (aA B1.out b2);have R2:=Hd (kc b2 R1.out);clear b2;obtain ⟨⟨c0,c1,c2,c3,c4,c5,c6⟩,-⟩:=aK R2.out) | (go_at_call 227;refine (N0.out _ HB.out).mono ?_;rintro e w0 ⟨rfl,b0⟩;have B0:=Hd (aA HB.out b0);have R0:=Hd (kc b0 NEW.out);clear b0;obtain ⟨⟨c0,c1,c2,c3,c4,c5,c6⟩,-⟩:=aK R0.out))
   go_ret
   exact ⟨rfl,B2.out⟩
 obtain ⟨rfl,rfl,rfl⟩:=hg
 obtain ⟨k1,k4⟩:=K4.out rfl
 obtain ⟨lim,hlim⟩ : ∃ lim : Int,(2 : Int) ^ rn = lim:=⟨_,rfl⟩
 have hw : IntKind.i64.wrap ((2 : Int) ^ rn) = lim:=by rw [eX k4,hlim]
 have rk64 : (rn : Int) ≤ 64:=by omega
 obtain ⟨A,hA⟩ : ∃ A,aI F.length (frAt 3 R F (2 ^ R.length)) = A:=⟨_,rfl⟩
 have HA : Hid (aI fn (frAt 3 R F lim) = A):=by show _ = _;rw [← hA,L1.out,← L2.out,hlim]
 obtain ⟨od,hod⟩ : ∃ od,ordR R = od:=⟨_,rfl⟩
 rw [hA,hod,decide_eq_true (show (0 : Nat) = 0 ∧ (0 : Nat) = 0 ∧ (0 : Int) = 0 from ⟨rfl,rfl,rfl⟩)]
 replace OQ : Hid (∀ W,Below w.heap.size w W → Calls Tryz.prog 231 #[.slice ra rn rc] W fun e w'=>e = .returned (.bool od) ∧ w' = W):=fun W hW=>by rw [← hod];exact OQ.out W hW (by trivial)
 clear hA hlim hod
 go_enter Tryz.func150,Tryz.ntmps150
 go_wp2_with (first | (go_at_call 229;refine (N1.out _ B0.out).mono ?_;rintro e w1 ⟨na,nn,nc,rfl,n1,b1⟩;have B1:=Hd (aA B0.out b1);have R1:=Hd (kc b1 R0.out);have M1:=Hd n1;clear n1 b1) | (go_at_call 228;refine (N2.out _ _ _ _ M1.out).mono ?_;rintro e w2 ⟨rfl,b2⟩;have B2:=Hd (aA B1.out b2);have R2:=Hd (kc b2 R1.out);clear b2;obtain ⟨⟨c0,c1,c2,c3,c4,c5,c6⟩,-⟩:=aK R2.out) | (go_at_call 227;refine (N0.out _ HB.out).mono ?_;rintro e w0 ⟨rfl,b0⟩;have B0:=Hd (aA HB.out b0);have R0:=Hd (kc b0 NEW.out);clear b0;obtain ⟨⟨c0,c1,c2,c3,c4,c5,c6⟩,-⟩:=aK R0.out))
 go_loopw [3,4] (fun i u wr=>∃ j : Nat,j ≤ fn ∧ i = .int .i64 j ∧ (j = 0 ∧ u = undef ∨ ∃ ad,u = .pointer ad) ∧ Hid (aI j (frAt 3 R F lim) = true ∧ Below w.heap.size w wr ∧ wr.heap[w.heap.size]? = some (mdR 3 rn ra rn rc 0 fa fn fc ga 0 gc ba 0 bc))) (fun i _ _=>fn - (intOf i).toNat)
 case atStart=>exact ⟨0,Nat.zero_le _,rfl,.inl ⟨rfl,rfl⟩,aN _,B2.out,R2.out⟩
 case round =>
  clear c0 c1 c2 c3 c4 c5 c6 R1 R2 B1 B2 M1 R0 B0 NEW HB
  obtain ⟨j,hj,rfl,-,hs⟩:=hrel
  obtain ⟨⟨x0,x1,x2,x3,x4,x5,x6⟩,-⟩:=aK hs.out.2.2
  by_cases hlt : j < fn
  ·obtain ⟨T,hT⟩:=aH (l:=F) (j:=j) (by rw [← L1.out];exact hlt)
   obtain ⟨b,off,rfl,p0,p1,p2⟩:=cL HX.out hT
   have hK:=aC hs.out.2.1
   have c0:=hK _ _ p0;have c1:=hK _ _ p1;have c2:=hK _ _ p2
   have FA:=Hd (dE (lim:=lim) hT)
   have PS:=Hd (lS (R:=R) hT)
   obtain ⟨nm,ar,tr⟩:=T
   simp only [Fa.args,Fa.tru,Fa.name] at *
   have A1 : Hid (Below wr.heap.size wr (wr.alloc (.cells #[str nm,.int .i64 ar,.int .i64 tr] 102))):=bnew
   have B1 : Hid (Below w.heap.size w (wr.alloc (.cells #[str nm,.int .i64 ar,.int .i64 tr] 102))):=aA hs.out.2.1 A1.out
   have NEW1:=Hd (heap_alloc_new wr (.cells #[str nm,.int .i64 ar,.int .i64 tr] 102))
   have ROW1:=Hd (kc A1.out hs.out.2.2)
   obtain ⟨⟨e0,e1,e2⟩,-⟩:=bQ NEW1.out
   obtain ⟨⟨d0,d1,d2,d3,d4,d5,d6⟩,-⟩:=aK ROW1.out
   have m1:=cell_regrown e1;have m2:=cell_regrown e2;have y0:=cell_regrown d0;have y1:=cell_regrown d1;have y2:=cell_regrown d2
   clear hT hK p0 p1 p2
   rcases (show ar ≠ 0 ∨ (ar = 0 ∧ tr < 0) ∨ (ar = 0 ∧ 0 ≤ tr ∧ lim ≤ tr) ∨ (ar = 0 ∧ 0 ≤ tr ∧ tr < lim) by omega) with h5 | ⟨rfl,h5⟩ | ⟨rfl,h5,h6⟩ | ⟨rfl,h5,h6⟩
   ·have RT : Hid (A = false):=by show _ = _;rw [← HA.out,aE hlt (by unfold frAt;rw [FA.out];simp;omega)]
    have g2 : (ar != 0) = true:=by simpa using h5
    go_wp2_with fail
    refine wqb ?_
    repeat (go_big_quiet_step (fail))
    refine wpQuiet_nil (qe fun wq Bwq=>?_)
    go_wp2_with fail
    go_ret
    exact ⟨by rw [RT.out];rfl,aA B1.out Bwq.out⟩
   ·have RT : Hid (A = false):=by show _ = _;rw [← HA.out,aE hlt (by unfold frAt;rw [FA.out];simp;omega)]
    have g2 : decide (tr < 0) = true:=decide_eq_true h5
    go_wp2_with fail
    refine wqb ?_
    repeat (go_big_quiet_step (fail))
    refine wpQuiet_nil (qe fun wq Bwq=>?_)
    go_wp2_with fail
    go_ret
    exact ⟨by rw [RT.out];rfl,aA B1.out Bwq.out⟩
   ·have RT : Hid (A = false):=by show _ = _;rw [← HA.out,aE hlt (by unfold frAt;rw [FA.out];simp;omega)]
    have g2 : decide (tr < 0) = false:=decide_eq_false (by omega)
    have g3 : decide (lim ≤ tr) = true:=decide_eq_true h6
    go_wp2_with fail
    refine wqb ?_
    repeat (go_big_quiet_step (fail))
    refine wpQuiet_nil (qe fun wq Bwq=>?_)
    go_wp2_with fail
    go_ret
    exact ⟨by rw [RT.out];rfl,aA B1.out Bwq.out⟩
   ·obtain ⟨pq,hpq⟩ : ∃ pq,kL R tr = pq:=⟨_,rfl⟩
    have FR : Hid (frAt 3 R F lim j = pq):=by show _ = _;unfold frAt;rw [FA.out,PS.out,hpq];simp;omega
    have cP : Hid (∀ d os,Calls Tryz.prog 230 #[.slice ra rn rc,.int .i64 tr] (grow (redrawn (wr.alloc (.cells #[str nm,.int .i64 0,.int .i64 tr] 102)) d) os) fun e w''=>e = .returned (.bool pq) ∧ ∃ p : Regrown,w'' = grow (redrawn (wr.alloc (.cells #[str nm,.int .i64 0,.int .i64 tr] 102)) p.d) p.os):=fun d os=>by
     rw [← hpq]
     exact Calls.regrown_of ((PQ.out tr _ h5 (aA B1.out (below_regrown _ d os)) (by trivial)).mono fun e w' h=>⟨h.1,by rw [h.2];exact Below.refl _ _⟩)
    clear hpq
    have g2 : decide (tr < 0) = false:=decide_eq_false (by omega)
    have g3 : decide (lim ≤ tr) = false:=decide_eq_false (by omega)
    cases pq
    ·have RT : Hid (A = false):=by show _ = _;rw [← HA.out,aE hlt FR.out]
     go_wp2_with fail
     refine wqb ?_
     repeat (go_big_quiet_step ((go_at_call 230;exact cP.out _ _)))
     refine wpQuiet_nil (qe fun wq Bwq=>?_)
     go_wp2_with fail
     go_ret
     exact ⟨by rw [RT.out];rfl,aA B1.out Bwq.out⟩
    ·have OK:=FR
     go_wp2_with fail
     refine wqb ?_
     repeat (go_big_quiet_step ((go_at_call 230;exact cP.out _ _)))
     refine wpQuiet_nil (qe fun wq Bwq=>?_)
     go_wp2_with fail
     go_roundw
     case rel=>exact ⟨j + 1,by omega,by go_num,.inr ⟨_,rfl⟩,aL hs.out.1 OK.out,aA B1.out Bwq.out,kc Bwq.out ROW1.out⟩
     case measure=>simp [intOf];omega
  ·have e : j = fn:=by omega
   have RT : Hid (A = true):=by show _ = _;rw [← HA.out,← e];exact hs.out.1
   have BW:=Hd hs.out.2.1
   have g1 : decide ((j : Int) < (fn : Int)) = false:=by simp;omega
   clear hs
   go_wp2_with (go_at_call 231;refine (OQ.out _ BW.out).mono ?_;rintro e w4 ⟨rfl,rfl⟩)
   go_ret
   exact ⟨by rw [RT.out];rfl,BW.out⟩
theorem frameRef4_c (F : List Fa) (hF : F.length ≤ 1000) (hl : ∀ x ∈ F,x.name.length ≤ 9223372036854775807) (z lo : Int) (R : List Int) (ra fa ga ba : Option Addr) (rn rc fn fc gn gc bn bc : Nat) (hgn : gn ≤ maxLen) (hbn : bn ≤ maxLen) (w : World) (hx : aM w 3 (fasV F) F.length (.slice fa fn fc)) (hr : aM w 1 (inV R) R.length (.slice ra rn rc)) :
  Calls Tryz.prog 150 #[.agg #[.int .u8 4,.int .i64 z,.slice ra rn rc,.int .i64 lo,.slice fa fn fc,.slice ga gn gc,.slice ba bn bc]] w (Rt (.bool (eC 4 F z lo R gn bn)) w):=by
 have hk:=hx.len
 have hlk : fn ≤ 1000:=by omega
 have L1:=Hd hk.1
 have L2:=Hd hr.len.1
 have HX:=Hd hx
 have HR0:=Hd hr
 have r63 : rn ≤ 9223372036854775807:=le63 (Nat.le_trans (Nat.le_of_eq hr.len.1) (Nat.le_trans hr.len.2.1 hr.len.2.2.1))
 have HB : Hid (Below w.heap.size w (w.alloc (mdR 4 z ra rn rc lo fa fn fc ga gn gc ba bn bc))):=bnew
 have NEW:=Hd (heap_alloc_new w (mdR 4 z ra rn rc lo fa fn fc ga gn gc ba bn bc))
 obtain ⟨q,hq⟩ : ∃ q,dP (F.map Fa.name) = q:=⟨_,rfl⟩
 obtain ⟨rb,hrb⟩ : ∃ rb,relB R = rb:=⟨_,rfl⟩
 have N0 : Hid (∀ W,Below w.heap.size w W → Calls Tryz.prog 227 #[.slice ra rn rc] W (Rt (.bool rb) W)):=fun W hW=>by
  rw [← hrb];exact lU R _ _ _ W (hr.keep (aC hW))
 have N1 : Hid (∀ W,Below w.heap.size w W → Calls Tryz.prog 229 #[.agg #[.int .u8 4,.int .i64 z,.slice ra rn rc,.int .i64 lo,.slice fa fn fc,.slice ga gn gc,.slice ba bn bc]] W fun e w'=>∃ a n c,e = .returned (.slice a n c) ∧ aX w' (F.map Fa.name) (.slice a n c) ∧ Below W.heap.size W w'):=fun W hW =>
  (uC ⟨4,z,[],lo,F,[],[]⟩ hF ra fa ga ba rn rc fn fc gn gc bn bc W (hx.keep (aC hW))).mono fun e w' ⟨v,he,ho,b⟩=>by
   rcases ho.2 with ⟨rfl,h0⟩ | ⟨_,_,_,rfl,-⟩
   ·exact ⟨_,_,_,he,ho.strsAt,b⟩
   ·exact ⟨_,_,_,he,ho.strsAt,b⟩
 have N2 : Hid (∀ W a n c,aX W (F.map Fa.name) (.slice a n c) → Calls Tryz.prog 228 #[.slice a n c] W (Rt (.bool q) W)):=fun W a n c h=>by
  rw [← hq]
  exact sH _ (fun x hx=>by obtain ⟨f,hf,rfl⟩:=List.mem_map.1 hx;exact hl f hf) _ _ _ _ h
 have g63:=le63 hgn
 have b63:=le63 hbn
 have K4 : Hid (rb = true → 1 ≤ rn ∧ rn ≤ 4):=fun h=>by
  have:=(dA (hrb.trans h)).1
  rw [L2.out];exact this
 have TB : Hid (eC 4 F z lo R gn bn = (decide (z = rn) && (rb && (q && (decide (gn = 0 ∧ bn = 0 ∧ lo = 0) && (aI F.length (frAt 4 R F (2 ^ R.length)) && (decide ((4 : Int) = 4) || ordR R))))))):=by
  show _ = _;unfold eC;rw [hq,hrb,L2.out]
 have PQ : Hid (∀ t W,0 ≤ t → Below w.heap.size w W → rb = true → Calls Tryz.prog 230 #[.slice ra rn rc,.int .i64 t] W fun e w'=>e = .returned (.bool (kL R t)) ∧ w' = W):=fun t W ht hW h =>
  pC R t ra rn rc W (hr.keep (aC hW)) (dA (hrb.trans h)).1.2 ht
 have OQ : Hid (∀ W,Below w.heap.size w W → rb = true → Calls Tryz.prog 231 #[.slice ra rn rc] W fun e w'=>e = .returned (.bool (ordR R)) ∧ w' = W):=fun W hW h =>
  uE R ra rn rc W (hr.keep (aC hW)) (dA (hrb.trans h)).1.2
 obtain ⟨⟨c0,c1,c2,c3,c4,c5,c6⟩,-⟩:=aK NEW.out
 clear hk hx hl hr hq hrb
 by_cases hz : z = rn
 rotate_left
 ·have t1 : (z != (rn : Int)) = true:=by simpa using hz
  rw [TB.out,decide_eq_false hz]
  clear TB hz
  go_enter Tryz.func150,Tryz.ntmps150
  go_wp2_with fail
  go_ret
  exact ⟨rfl,HB.out⟩
 subst hz
 rw [TB.out,decide_eq_true rfl]
 clear TB
 cases rb
 ·clear N1 N2
  go_enter Tryz.func150,Tryz.ntmps150
  go_wp2_with (first | (go_at_call 229;refine (N1.out _ B0.out).mono ?_;rintro e w1 ⟨na,nn,nc,rfl,n1,b1⟩;have B1:=Hd (aA B0.out b1);have R1:=Hd (kc b1 R0.out);have M1:=Hd n1;clear n1 b1) | (go_at_call 228;refine (N2.out _ _ _ _ M1.out).mono ?_;rintro e w2 ⟨rfl,b2⟩;have B2:=Hd (aA B1.out b2);have R2:=Hd (kc b2 R1.out);clear b2;obtain ⟨⟨c0,c1,c2,c3,c4,c5,c6⟩,-⟩:=aK R2.out) | (go_at_call 227;refine (N0.out _ HB.out).mono ?_;rintro e w0 ⟨rfl,b0⟩;have B0:=Hd (aA HB.out b0);have R0:=Hd (kc b0 NEW.out);clear b0;obtain ⟨⟨c0,c1,c2,c3,c4,c5,c6⟩,-⟩:=aK R0.out))
  go_ret
  exact ⟨rfl,B0.out⟩
 cases q
 ·go_enter Tryz.func150,Tryz.ntmps150
  go_wp2_with (first | (go_at_call 229;refine (N1.out _ B0.out).mono ?_;rintro e w1 ⟨na,nn,nc,rfl,n1,b1⟩;have B1:=Hd (aA B0.out b1);have R1:=Hd (kc b1 R0.out);have M1:=Hd n1;clear n1 b1) | (go_at_call 228;refine (N2.out _ _ _ _ M1.out).mono ?_;rintro e w2 ⟨rfl,b2⟩;have B2:=Hd (aA B1.out b2);have R2:=Hd (kc b2 R1.out);clear b2;obtain ⟨⟨c0,c1,c2,c3,c4,c5,c6⟩,-⟩:=aK R2.out) | (go_at_call 227;refine (N0.out _ HB.out).mono ?_;rintro e w0 ⟨rfl,b0⟩;have B0:=Hd (aA HB.out b0);have R0:=Hd (kc b0 NEW.out);clear b0;obtain ⟨⟨c0,c1,c2,c3,c4,c5,c6⟩,-⟩:=aK R0.out))
  go_ret
  exact ⟨rfl,B2.out⟩
 by_cases hg : gn = 0 ∧ bn = 0 ∧ lo = 0
 rotate_left
 ·rw [decide_eq_false hg]
  have hz2 : 0 < gn ∨ (gn = 0 ∧ 0 < bn) ∨ (gn = 0 ∧ bn = 0 ∧ lo ≠ 0):=by omega
  clear hg
  rcases hz2 with h5 | ⟨rfl,h5⟩ | ⟨rfl,rfl,h5⟩
  ·have t2 : decide ((0 : Int) < (gn : Int)) = true:=decide_eq_true (by omega)
   go_enter Tryz.func150,Tryz.ntmps150
   go_wp2_with (first | (go_at_call 229;refine (N1.out _ B0.out).mono ?_;rintro e w1 ⟨na,nn,nc,rfl,n1,b1⟩;have B1:=Hd (aA B0.out b1);have R1:=Hd (kc b1 R0.out);have M1:=Hd n1;clear n1 b1) | (go_at_call 228;refine (N2.out _ _ _ _ M1.out).mono ?_;rintro e w2 ⟨rfl,b2⟩;have B2:=Hd (aA B1.out b2);have R2:=Hd (kc b2 R1.out);clear b2;obtain ⟨⟨c0,c1,c2,c3,c4,c5,c6⟩,-⟩:=aK R2.out) | (go_at_call 227;refine (N0.out _ HB.out).mono ?_;rintro e w0 ⟨rfl,b0⟩;have B0:=Hd (aA HB.out b0);have R0:=Hd (kc b0 NEW.out);clear b0;obtain ⟨⟨c0,c1,c2,c3,c4,c5,c6⟩,-⟩:=aK R0.out))
   go_ret
   exact ⟨rfl,B2.out⟩
  ·have t2 : decide ((0 : Int) < (bn : Int)) = true:=decide_eq_true (by omega)
   go_enter Tryz.func150,Tryz.ntmps150
   go_wp2_with (first | (go_at_call 229;refine (N1.out _ B0.out).mono ?_;rintro e w1 ⟨na,nn,nc,rfl,n1,b1⟩;have B1:=Hd (aA B0.out b1);have R1:=Hd (kc b1 R0.out);have M1:=Hd n1;clear n1 b1) | (go_at_call 228;refine (N2.out _ _ _ _ M1.out).mono ?_;rintro e w2 ⟨rfl,b2⟩;have B2:=Hd (aA B1.out b2);have R2:=Hd (kc b2 R1.out);clear b2;obtain ⟨⟨c0,c1,c2,c3,c4,c5,c6⟩,-⟩:=aK R2.out) | (go_at_call 227;refine (N0.out _ HB.out).mono ?_;rintro e w0 ⟨rfl,b0⟩;have B0:=Hd (aA HB.out b0);have R0:=Hd (kc b0 NEW.out);clear b0;obtain ⟨⟨c0,c1,c2,c3,c4,c5,c6⟩,-⟩:=aK R0.out))
   go_ret
   exact ⟨rfl,B2.out⟩
  ·have t2 : (lo != 0) = true:=by simpa using h5
   go_enter Tryz.func150,Tryz.ntmps150
   go_wp2_with (first | (go_at_call 229;refine (N1.out _ B0.out).mono ?_;rintro e w1 ⟨na,nn,nc,rfl,n1,b1⟩;have B1:=Hd (aA B0.out b1);have R1:=Hd (kc b1 R0.out);have M1:=Hd n1;clear n1 b1) | (go_at_call 228;refine (N2.out _ _ _ _ M1.out).mono ?_;rintro e w2 ⟨rfl,b2⟩;have B2:=Hd (aA B1.out b2);have R2:=Hd (kc b2 R1.out);clear b2;obtain ⟨⟨c0,c1,c2,c3,c4,c5,c6⟩,-⟩:=aK R2.out) | (go_at_call 227;refine (N0.out _ HB.out).mono ?_;rintro e w0 ⟨rfl,b0⟩;have B0:=Hd (aA HB.out b0);have R0:=Hd (kc b0 NEW.out);clear b0;obtain ⟨⟨c0,c1,c2,c3,c4,c5,c6⟩,-⟩:=aK R0.out))
   go_ret
   exact ⟨rfl,B2.out⟩
 obtain ⟨rfl,rfl,rfl⟩:=hg
 obtain ⟨k1,k4⟩:=K4.out rfl
 obtain ⟨lim,hlim⟩ : ∃ lim : Int,(2 : Int) ^ rn = lim:=⟨_,rfl⟩
 have hw : IntKind.i64.wrap ((2 : Int) ^ rn) = lim:=by rw [eX k4,hlim]
 have rk64 : (rn : Int) ≤ 64:=by omega
 obtain ⟨A,hA⟩ : ∃ A,aI F.length (frAt 4 R F (2 ^ R.length)) = A:=⟨_,rfl⟩
 have HA : Hid (aI fn (frAt 4 R F lim) = A):=by show _ = _;rw [← hA,L1.out,← L2.out,hlim]
 obtain ⟨od,hod⟩ : ∃ od,ordR R = od:=⟨_,rfl⟩
 rw [hA,hod,decide_eq_true (show (0 : Nat) = 0 ∧ (0 : Nat) = 0 ∧ (0 : Int) = 0 from ⟨rfl,rfl,rfl⟩)]
 replace OQ : Hid (∀ W,Below w.heap.size w W → Calls Tryz.prog 231 #[.slice ra rn rc] W fun e w'=>e = .returned (.bool od) ∧ w' = W):=fun W hW=>by rw [← hod];exact OQ.out W hW (by trivial)
 clear hA hlim hod
 go_enter Tryz.func150,Tryz.ntmps150
 go_wp2_with (first | (go_at_call 229;refine (N1.out _ B0.out).mono ?_;rintro e w1 ⟨na,nn,nc,rfl,n1,b1⟩;have B1:=Hd (aA B0.out b1);have R1:=Hd (kc b1 R0.out);have M1:=Hd n1;clear n1 b1) | (go_at_call 228;refine (N2.out _ _ _ _ M1.out).mono ?_;rintro e w2 ⟨rfl,b2⟩;have B2:=Hd (aA B1.out b2);have R2:=Hd (kc b2 R1.out);clear b2;obtain ⟨⟨c0,c1,c2,c3,c4,c5,c6⟩,-⟩:=aK R2.out) | (go_at_call 227;refine (N0.out _ HB.out).mono ?_;rintro e w0 ⟨rfl,b0⟩;have B0:=Hd (aA HB.out b0);have R0:=Hd (kc b0 NEW.out);clear b0;obtain ⟨⟨c0,c1,c2,c3,c4,c5,c6⟩,-⟩:=aK R0.out))
 go_loopw [3,4] (fun i u wr=>∃ j : Nat,j ≤ fn ∧ i = .int .i64 j ∧ (j = 0 ∧ u = undef ∨ ∃ ad,u = .pointer ad) ∧ Hid (aI j (frAt 4 R F lim) = true ∧ Below w.heap.size w wr ∧ wr.heap[w.heap.size]? = some (mdR 4 rn ra rn rc 0 fa fn fc ga 0 gc ba 0 bc))) (fun i _ _=>fn - (intOf i).toNat)
 case atStart=>exact ⟨0,Nat.zero_le _,rfl,.inl ⟨rfl,rfl⟩,aN _,B2.out,R2.out⟩
 case round =>
  clear c0 c1 c2 c3 c4 c5 c6 R1 R2 B1 B2 M1 R0 B0 NEW HB
  obtain ⟨j,hj,rfl,-,hs⟩:=hrel
  obtain ⟨⟨x0,x1,x2,x3,x4,x5,x6⟩,-⟩:=aK hs.out.2.2
  by_cases hlt : j < fn
  ·obtain ⟨T,hT⟩:=aH (l:=F) (j:=j) (by rw [← L1.out];exact hlt)
   obtain ⟨b,off,rfl,p0,p1,p2⟩:=cL HX.out hT
   have hK:=aC hs.out.2.1
   have c0:=hK _ _ p0;have c1:=hK _ _ p1;have c2:=hK _ _ p2
   have FA:=Hd (dE (lim:=lim) hT)
   have PS:=Hd (lS (R:=R) hT)
   obtain ⟨nm,ar,tr⟩:=T
   simp only [Fa.args,Fa.tru,Fa.name] at *
   have A1 : Hid (Below wr.heap.size wr (wr.alloc (.cells #[str nm,.int .i64 ar,.int .i64 tr] 102))):=bnew
   have B1 : Hid (Below w.heap.size w (wr.alloc (.cells #[str nm,.int .i64 ar,.int .i64 tr] 102))):=aA hs.out.2.1 A1.out
   have NEW1:=Hd (heap_alloc_new wr (.cells #[str nm,.int .i64 ar,.int .i64 tr] 102))
   have ROW1:=Hd (kc A1.out hs.out.2.2)
   obtain ⟨⟨e0,e1,e2⟩,-⟩:=bQ NEW1.out
   obtain ⟨⟨d0,d1,d2,d3,d4,d5,d6⟩,-⟩:=aK ROW1.out
   have m1:=cell_regrown e1;have m2:=cell_regrown e2;have y0:=cell_regrown d0;have y1:=cell_regrown d1;have y2:=cell_regrown d2
   clear hT hK p0 p1 p2
   rcases (show ar ≠ 0 ∨ (ar = 0 ∧ tr < 0) ∨ (ar = 0 ∧ 0 ≤ tr ∧ lim ≤ tr) ∨ (ar = 0 ∧ 0 ≤ tr ∧ tr < lim) by omega) with h5 | ⟨rfl,h5⟩ | ⟨rfl,h5,h6⟩ | ⟨rfl,h5,h6⟩
   ·have RT : Hid (A = false):=by show _ = _;rw [← HA.out,aE hlt (by unfold frAt;rw [FA.out];simp;omega)]
    have g2 : (ar != 0) = true:=by simpa using h5
    go_wp2_with fail
    refine wqb ?_
    repeat (go_big_quiet_step (fail))
    refine wpQuiet_nil (qe fun wq Bwq=>?_)
    go_wp2_with fail
    go_ret
    exact ⟨by rw [RT.out];rfl,aA B1.out Bwq.out⟩
   ·have RT : Hid (A = false):=by show _ = _;rw [← HA.out,aE hlt (by unfold frAt;rw [FA.out];simp;omega)]
    have g2 : decide (tr < 0) = true:=decide_eq_true h5
    go_wp2_with fail
    refine wqb ?_
    repeat (go_big_quiet_step (fail))
    refine wpQuiet_nil (qe fun wq Bwq=>?_)
    go_wp2_with fail
    go_ret
    exact ⟨by rw [RT.out];rfl,aA B1.out Bwq.out⟩
   ·have RT : Hid (A = false):=by show _ = _;rw [← HA.out,aE hlt (by unfold frAt;rw [FA.out];simp;omega)]
    have g2 : decide (tr < 0) = false:=decide_eq_false (by omega)
    have g3 : decide (lim ≤ tr) = true:=decide_eq_true h6
    go_wp2_with fail
    refine wqb ?_
    repeat (go_big_quiet_step (fail))
    refine wpQuiet_nil (qe fun wq Bwq=>?_)
    go_wp2_with fail
    go_ret
    exact ⟨by rw [RT.out];rfl,aA B1.out Bwq.out⟩
   ·have OK : Hid (frAt 4 R F lim j = true):=by show _ = _;unfold frAt;rw [FA.out];simp;omega
    have g2 : decide (tr < 0) = false:=decide_eq_false (by omega)
    have g3 : decide (lim ≤ tr) = false:=decide_eq_false (by omega)
    go_wp2_with fail
    refine wqb ?_
    repeat (go_big_quiet_step (fail))
    refine wpQuiet_nil (qe fun wq Bwq=>?_)
    go_wp2_with fail
    go_roundw
    case rel=>exact ⟨j + 1,by omega,by go_num,.inr ⟨_,rfl⟩,aL hs.out.1 OK.out,aA B1.out Bwq.out,kc Bwq.out ROW1.out⟩
    case measure=>simp [intOf];omega
  ·have e : j = fn:=by omega
   have RT : Hid (A = true):=by show _ = _;rw [← HA.out,← e];exact hs.out.1
   have BW:=Hd hs.out.2.1
   have g1 : decide ((j : Int) < (fn : Int)) = false:=by simp;omega
   clear hs
   go_wp2_with (go_at_call 231;refine (OQ.out _ BW.out).mono ?_;rintro e w4 ⟨rfl,rfl⟩)
   go_ret
   exact ⟨by rw [RT.out];rfl,BW.out⟩
open Go Go.RowKit Go.Sort Ly
set_option maxHeartbeats 4000000
theorem cond1_c (p : Nat) (hp : p < 4) (a : Option Addr) (k c : Nat) (w : World) : Calls Tryz.prog 377 #[.slice a k c,.int .i64 p] w fun e w'=>e = .returned (.int .i64 (2 ^ p)) ∧ w' = w:=by
 obtain ⟨v,hv⟩ : ∃ v : Int,(2 : Int) ^ p = v:=⟨_,rfl⟩
 have hw : IntKind.i64.wrap ((2 : Int) ^ p) = v:=by rw [eX (by omega),hv]
 have p64 : (p : Int) ≤ 64:=by omega
 rw [hv]
 clear hv
 go_enter Tryz.func377,Tryz.ntmps377
 go_wp2_with fail
 go_ret
 exact ⟨rfl,rfl⟩
theorem cond2_c (l : List Int) (hl : relB l = true) (p : Nat) (hp : p < l.length) (a : Option Addr) (k c : Nat) (w : World) (hx : aM w 1 (inV l) l.length (.slice a k c)) :
  Calls Tryz.prog 378 #[.slice a k c,.int .i64 p] w fun e w'=>e = .returned (.int .i64 (gT l p l.length)) ∧ w = w':=by
 have hk:=hx.len.1
 have k4 : k ≤ 4:=by have:=(dA hl).1.2;omega
 have L1:=Hd hk
 have RG:=Hd (dA hl).2
 obtain ⟨x,hxx⟩:=aH hp
 obtain ⟨b,off,rfl,p0⟩:=eS hx hxx
 have GET : Hid (∀ j y,l[j]? = some y → w.cell? ⟨b,off + j,none⟩ = some (.int .i64 y)):=fun j y hy=>by
  obtain ⟨b',off',e,q0⟩:=eS hx hy
  cases e;exact q0
 have hpk : p < k:=by omega
 have SB : Hid (∀ j,bitI x j = dQ l p j):=fun j=>pS hxx
 have X0 : 0 ≤ x:=by have:=(RG.out p hp).1;rwa [cW hxx] at this
 have k63 : k ≤ 9223372036854775807:=by omega
 clear hx hk hxx hl hp
 rw [← L1.out]
 go_enter Tryz.func378,Tryz.ntmps378
 go_wp2_with fail
 go_loopw [5,9] (fun n i wr=>∃ j : Nat,j ≤ k ∧ i = .int .i64 j ∧ n = .int .i64 (gT l p j) ∧ w = wr) (fun _ i _=>k - (intOf i).toNat)
 case atStart=>exact ⟨0,Nat.zero_le _,rfl,rfl,rfl⟩
 case round =>
  obtain ⟨j,hj,rfl,rfl,rfl⟩:=hrel
  by_cases hlt : j < k
  ·have g1 : decide ((j : Int) < (k : Int)) = true:=by simp;omega
   have j64 : (j : Int) ≤ 64:=by omega
   obtain ⟨y,hy⟩:=aH (l:=l) (j:=j) (by rw [← L1.out];exact hlt)
   have c0:=GET.out j y hy
   obtain ⟨s,hs⟩ : ∃ s,dQ l p j = s:=⟨_,rfl⟩
   have b1 : (bits .and .i64 (x / 2 ^ j) 1 == 1) = s:=by rw [oU X0,SB.out,hs]
   have GY:=Hd (cW hy)
   obtain ⟨n1,hn1⟩ : ∃ n1,gT l p (j + 1) = n1:=⟨_,rfl⟩
   have HS:=Hd hs
   obtain ⟨n0,hn0⟩ : ∃ n0,gT l p j = n0:=⟨_,rfl⟩
   have N1 : Hid (n1 = if s then bits .or .i64 n0 y else n0):=by show _ = _;rw [← hn1,gT,hs,GY.out,hn0]
   have HN1:=Hd hn1
   rw [hn0]
   clear hy hs hn1 hn0
   cases s
   ·go_wp2_with fail
    go_roundw
    case rel=>exact ⟨j + 1,by omega,by go_num,by rw [HN1.out,N1.out];rfl,by trivial⟩
    case measure=>simp [intOf];omega
   ·go_wp2_with fail
    go_roundw
    case rel=>exact ⟨j + 1,by omega,by go_num,by rw [HN1.out,N1.out];rfl,by trivial⟩
    case measure=>simp [intOf];omega
  ·have e : j = k:=by omega
   have g1 : decide ((j : Int) < (k : Int)) = false:=by simp;omega
   subst e
   go_wp2_with fail
   go_ret
   exact ⟨rfl,rfl⟩
abbrev vS : Value:=.agg #[.func (.func 377) #[] #[],.func (.func 378) #[] #[],.func (.func 379) #[] #[]]
theorem conditions_c (w : World) : Calls Tryz.prog 376 #[] w (Rt vS w):=by
 go_enter Tryz.func376,Tryz.ntmps376
 go_wp2_with fail
 refine bodyPost_ret (v:=vS) ?_ rfl ⟨rfl, ?_⟩
 ·simp [results,Tryz.results376,go_sem]
 ·exact bnew
theorem or0 {x : Int} (h0 : 0 ≤ x) (h1 : x < 16) : bits .or .i64 0 x = x:=by
 obtain ⟨a,h2,rfl⟩:=gG h0 h1
 rcases (show a = 0 ∨ a = 1 ∨ a = 2 ∨ a = 3 ∨ a = 4 ∨ a = 5 ∨ a = 6 ∨ a = 7 ∨ a = 8 ∨ a = 9 ∨ a = 10 ∨ a = 11 ∨ a = 12 ∨ a = 13 ∨ a = 14 ∨ a = 15 by omega) with rfl | rfl | rfl | rfl | rfl | rfl | rfl | rfl | rfl | rfl | rfl | rfl | rfl | rfl | rfl | rfl <;> kernel_rfl
theorem lacking3_c (l : List Int) (hl : relB l = true) (p : Nat) (hp : p < l.length) (a : Option Addr) (k c : Nat) (w : World) (hx : aM w 1 (inV l) l.length (.slice a k c)) :
  Calls Tryz.prog 375 #[.slice a k c,.int .u8 3,.int .i64 p] w (Rt (.int .i64 (kX l p)) w):=by
 have hk:=hx.len.1
 have r4:=(dA hl).1
 obtain ⟨x,hxx⟩:=aH hp
 obtain ⟨b,off,rfl,p0⟩:=eS hx hxx
 have pw : (0 : Int) ≤ 2 ^ p ∧ (2 : Int) ^ p < 16:=by
  rcases (show p = 0 ∨ p = 1 ∨ p = 2 ∨ p = 3 by omega) with rfl | rfl | rfl | rfl <;> decide
 have o1 : bits .or .i64 0 (2 ^ p) = 2 ^ p:=or0 pw.1 pw.2
 have TB : Hid (kX l p = bits .andNot .i64 (bits .or .i64 (2 ^ p) (gT l p l.length)) x):=by show _ = _;unfold kX;rw [cW hxx]
 rw [TB.out]
 have C1 : Hid (∀ W,Calls Tryz.prog 377 #[.slice (some ⟨b,off,none⟩) k c,.int .i64 p] W fun e w'=>e = .returned (.int .i64 (2 ^ p)) ∧ w' = W):=fun W=>cond1_c p (by omega) _ _ _ W
 have C2 : Hid (∀ W,Below w.heap.size w W → Calls Tryz.prog 378 #[.slice (some ⟨b,off,none⟩) k c,.int .i64 p] W fun e w'=>e = .returned (.int .i64 (gT l p l.length)) ∧ W = w'):=fun W hW=>cond2_c l hl p hp _ k c W (hx.keep (aC hW))
 obtain ⟨v1,hv1⟩ : ∃ v1 : Int,(2 : Int) ^ p = v1:=⟨_,rfl⟩
 obtain ⟨v2,hv2⟩ : ∃ v2 : Int,gT l p l.length = v2:=⟨_,rfl⟩
 rw [hv1] at C1 o1 ⊢
 rw [hv2] at C2 ⊢
 have hpk : p < k:=by omega
 have h0 : ∀ wx,(Instr.index 368 vS (.int .i64 0)).run Tryz.prog wx = .ok (.func (.func 377) #[] #[]) wx:=fun _=>by kernel_rfl
 have h1 : ∀ wx,(Instr.index 368 vS (.int .i64 1)).run Tryz.prog wx = .ok (.func (.func 378) #[] #[]) wx:=fun _=>by kernel_rfl
 have h2 : ∀ wx,(Instr.index 368 vS (.int .i64 2)).run Tryz.prog wx = .ok (.func (.func 379) #[] #[]) wx:=fun _=>by kernel_rfl
 have y1 : bits BinOp.and IntKind.u8 3 1 = 1:=by kernel_rfl
 have y2 : bits BinOp.and IntKind.u8 1 1 = 1:=by kernel_rfl
 have y3 : bits BinOp.and IntKind.u8 0 1 = 0:=by kernel_rfl
 clear hxx hx hl hp hk TB pw hv1 hv2
 go_enter Tryz.func375,Tryz.ntmps375
 go_wp2_with (go_at_call 376;refine (conditions_c _).mono ?_;rintro e w1 ⟨rfl,b1⟩;have B1:=Hd b1;have c0:=aC b1 _ _ p0;clear b1)
 refine wp_loop_rounds 4 ?_
 rw [rounds_succ];go_wp2_with (go_at_call 377;refine (C1.out _).mono ?_;rintro e w2 ⟨rfl,rfl⟩)
 rw [rounds_succ];go_wp2_with (go_at_call 378;refine (C2.out _ B1.out).mono ?_;rintro e w2 ⟨rfl,rfl⟩)
 rw [rounds_succ];go_wp2_with fail
 rw [rounds_succ];go_wp2_with fail
 go_ret
 exact ⟨rfl,B1.out⟩
theorem lacking0_c (p : Int) (a : Option Addr) (k c : Nat) (w : World) : Calls Tryz.prog 375 #[.slice a k c,.int .u8 0,.int .i64 p] w fun e w'=>e = .returned (.int .i64 0) ∧ w = w':=by
 go_enter Tryz.func375,Tryz.ntmps375
 go_wp2_with fail
 go_ret
 exact ⟨rfl,rfl⟩
theorem xA (a : Option Addr) (k c : Nat) (hk : k ≤ 4) (w : World) : Calls Tryz.prog 373 #[.int .u8 4,.int .u8 0,.slice a k c,.int .i64 ((k : Int) - 1)] w fun e w'=>e = .returned (.bool true) ∧ w = w':=by
 go_enter Tryz.func373,Tryz.ntmps373
 go_wp2_with fail
 go_loopw [11] (fun i wr=>∃ j : Nat,j ≤ k ∧ i = .int .i64 j ∧ w = wr) (fun i _=>k - (intOf i).toNat)
 case atStart=>exact ⟨0,Nat.zero_le _,rfl,rfl⟩
 case round =>
  obtain ⟨j,hj,rfl,rfl⟩:=hrel
  by_cases hlt : j < k
  ·have g1 : decide ((j : Int) ≤ (k : Int) - 1) = true:=by simp;omega
   go_wp2_with (go_at_call 375;refine (lacking0_c _ _ _ _ _).mono ?_;rintro e w1 ⟨rfl,rfl⟩)
   go_roundw
   case rel=>exact ⟨j + 1,by omega,by go_num,by trivial⟩
   case measure=>simp [intOf];omega
  ·have g1 : decide ((j : Int) ≤ (k : Int) - 1) = false:=by simp;omega
   go_wp2_with fail
   go_ret
   exact ⟨rfl,rfl⟩
theorem Fits_rel_c (l : List Int) (a : Option Addr) (k c : Nat) (w : World) (hx : aM w 1 (inV l) l.length (.slice a k c)) :
  Calls Tryz.prog 371 #[.slice a k c,.int .u8 0] w (Rt (.bool (relB l)) w):=by
 have R1:=Hd (oE l a k c w hx)
 obtain ⟨q,hq⟩ : ∃ q,relB l = q:=⟨_,rfl⟩
 rw [hq] at R1 ⊢
 have k4 : Hid (q = true → k ≤ 4):=fun h=>by have:=(dA (hq.trans h)).1.2;have:=hx.len.1;omega
 have k63 : k ≤ 9223372036854775807:=le63 (Nat.le_trans (Nat.le_of_eq hx.len.1) (Nat.le_trans hx.len.2.1 hx.len.2.2.1))
 clear hx hq
 cases q
 ·go_enter Tryz.func371,Tryz.ntmps371
  go_wp2_with (go_at_call 372;refine R1.out.mono ?_;rintro e w1 ⟨rfl,b1⟩;have B1:=Hd b1;clear b1)
  go_ret
  exact ⟨rfl,B1.out⟩
 ·have kk:=k4.out rfl
  go_enter Tryz.func371,Tryz.ntmps371
  go_wp2_with (first | (go_at_call 372;refine R1.out.mono ?_;rintro e w1 ⟨rfl,b1⟩;have B1:=Hd b1;clear b1) | (go_at_call 373;refine (xA _ _ _ kk _).mono ?_;rintro e w2 ⟨rfl,rfl⟩))
  go_ret
  exact ⟨rfl,B1.out⟩
theorem sC (l : List Int) (hl : relB l = true) (t : Int) (h0 : 0 ≤ t) (ht : t < 2 ^ l.length) (a : Option Addr) (k c : Nat) (w : World) (hx : aM w 1 (inV l) l.length (.slice a k c)) :
  Calls Tryz.prog 374 #[.slice a k c,.int .i64 t] w fun e w'=>e = .returned (.bool (kL l t)) ∧ w = w':=by
 rw [← pers_same hl h0 ht]
 have hk:=hx.len.1
 have k4 : k ≤ 4:=by have:=(dA hl).1.2;omega
 have L1:=Hd hk
 have HX:=Hd hx
 have k63 : k ≤ 9223372036854775807:=by omega
 obtain ⟨R,hR⟩ : ∃ R,aI l.length (jO l t) = R:=⟨_,rfl⟩
 have HR : Hid (aI k (jO l t) = R):=by show _ = _;rw [← hR,hk]
 have TB : Hid (zJ l t = R):=hR
 rw [TB.out]
 clear hR TB hk hx hl ht
 go_enter Tryz.func374,Tryz.ntmps374
 go_wp2_with fail
 go_loopw [9] (fun i wr=>∃ j : Nat,j ≤ k ∧ i = .int .i64 j ∧ w = wr ∧ Hid (aI j (jO l t) = true)) (fun i _=>k - (intOf i).toNat)
 case atStart=>exact ⟨0,Nat.zero_le _,rfl,rfl,aN _⟩
 case round =>
  obtain ⟨j,hj,rfl,rfl,hs⟩:=hrel
  by_cases hlt : j < k
  ·have g1 : decide ((j : Int) < (k : Int)) = true:=by simp;omega
   have j64 : (j : Int) ≤ 64:=by omega
   obtain ⟨y,hy⟩:=aH (l:=l) (j:=j) (by rw [← L1.out];exact hlt)
   obtain ⟨b,off,rfl,c0⟩:=eS HX.out hy
   obtain ⟨s1,h1⟩ : ∃ s,bitI t j = s:=⟨_,rfl⟩
   obtain ⟨s2,h2⟩ : ∃ s,(bits .andNot .i64 y t != 0) = s:=⟨_,rfl⟩
   have b1 : (bits .and .i64 (t / 2 ^ j) 1 == 1) = s1:=by rw [oU h0,h1]
   have TA : Hid (jO l t j = !(s1 && s2)):=by show _ = _;unfold jO;rw [cW hy,h1,h2]
   clear hy h1
   rcases (show s1 = false ∨ (s1 = true ∧ s2 = false) ∨ (s1 = true ∧ s2 = true) by cases s1 <;> cases s2 <;> simp) with rfl | ⟨rfl,rfl⟩ | ⟨rfl,rfl⟩
   ·have OK : Hid (jO l t j = true):=by show _ = _;rw [TA.out];rfl
    go_wp2_with fail
    go_roundw
    case rel=>exact ⟨j + 1,by omega,by go_num,by trivial,aL hs.out OK.out⟩
    case measure=>simp [intOf];omega
   ·have OK : Hid (jO l t j = true):=by show _ = _;rw [TA.out];rfl
    go_wp2_with fail
    go_roundw
    case rel=>exact ⟨j + 1,by omega,by go_num,by trivial,aL hs.out OK.out⟩
    case measure=>simp [intOf];omega
   ·have RT : Hid (R = false):=by show _ = _;rw [← HR.out];exact aE hlt (by rw [TA.out];rfl)
    go_wp2_with fail
    go_ret
    exact ⟨by rw [RT.out];rfl,rfl⟩
  ·have e : j = k:=by omega
   have RT : Hid (R = true):=by show _ = _;rw [← HR.out,← e];exact hs.out
   have g1 : decide ((j : Int) < (k : Int)) = false:=by simp;omega
   clear hs
   go_wp2_with fail
   go_ret
   exact ⟨by rw [RT.out];rfl,rfl⟩
end Go.Proofs.YtcandidgaegghaaGreatDoor
