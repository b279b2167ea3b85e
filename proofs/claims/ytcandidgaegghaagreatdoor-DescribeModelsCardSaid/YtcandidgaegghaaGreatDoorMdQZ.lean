/- frame.suits at the kind of force, frame.Valid, holds.frames.valid. Conditions: at most a thousand facts; names fit into memory. -/
import Derived.Test.YtcandidgaegghaaGreatDoorCpZ
import Derived.Test.YtcandidgaegghaaGreatDoorMdPZ
set_option maxRecDepth 10000
set_option linter.unusedSimpArgs false
set_option linter.unusedVariables false
namespace Go.Proofs.YtcandidgaegghaaGreatDoor
open Go Go.RowKit Go.Sort Ly
set_option maxHeartbeats 4000000
theorem suits3_c (l : List Int) (hl : relB l = true) (a : Option Addr) (k c : Nat) (w : World) (hx : aM w 1 (inV l) l.length (.slice a k c)) :
  Calls Tryz.prog 373 #[.int .u8 3,.int .u8 0,.slice a k c,.int .i64 ((k : Int) - 1)] w (Rt (.bool (ordR l)) w):=by
 rw [← ord_same hl]
 have hk:=hx.len.1
 have r4:=(dA hl).1
 have k4 : k ≤ 4:=by omega
 have k0 : 0 < k:=by omega
 have L1:=Hd hk
 have RG:=Hd (dA hl).2
 obtain ⟨x0,hx0⟩:=aH (l:=l) (j:=0) (by omega)
 obtain ⟨b,off,rfl,p0⟩:=eS hx hx0
 have GET : Hid (∀ W,Below w.heap.size w W → ∀ j y,l[j]? = some y → W.cell? ⟨b,off + j,none⟩ = some (.int .i64 y)):=fun W hW j y hy=>by
  obtain ⟨b',off',e,q0⟩:=eS hx hy
  cases e;exact aC hW _ _ q0
 have LK : Hid (∀ W p,p < k → Below w.heap.size w W → Calls Tryz.prog 375 #[.slice (some ⟨b,off,none⟩) k c,.int .u8 3,.int .i64 p] W (Rt (.int .i64 (kX l p)) W)):=fun W p hp hW=>lacking3_c l hl p (by omega) _ k c W (hx.keep (aC hW))
 obtain ⟨lim,hlim⟩ : ∃ lim : Int,(2 : Int) ^ k = lim:=⟨_,rfl⟩
 have hw : IntKind.i64.wrap ((2 : Int) ^ k) = lim:=by rw [eX k4,hlim]
 have lm : 1 ≤ lim ∧ lim ≤ 16:=by
  rw [← hlim]
  rcases (show k = 1 ∨ k = 2 ∨ k = 3 ∨ k = 4 by omega) with rfl | rfl | rfl | rfl <;> decide
 obtain ⟨lm1,lm2⟩:=lm
 have k64 : (k : Int) ≤ 64:=by omega
 have k63 : k ≤ 9223372036854775807:=by omega
 obtain ⟨A,hA⟩ : ∃ A,aI l.length (fun w=>aI w (iF l w)) = A:=⟨_,rfl⟩
 obtain ⟨C,hC⟩ : ∃ C,aI l.length (fun w=>kX l w == 0) = C:=⟨_,rfl⟩
 have HA : Hid (aI k (fun w=>aI w (iF l w)) = A):=by show _ = _;rw [← hA,hk]
 have HC : Hid (aI k (fun w=>kX l w == 0) = C):=by show _ = _;rw [← hC,hk]
 have TB : Hid (ordP l = (decide (x0 = lim - 1) && (A && C))):=by show _ = _;unfold ordP;rw [hA,hC,cW hx0,← hk,hlim]
 rw [TB.out]
 have m0:=cell_regrown p0
 rw [Nat.add_zero] at m0
 have y0 : bits BinOp.or IntKind.u8 0 3 = 3:=by kernel_rfl
 clear hA hC TB hk hx hl r4 hx0 p0 hlim
 by_cases hd : x0 = lim - 1
 rotate_left
 ·have t1 : (x0 != lim - 1) = true:=by simpa using hd
  rw [decide_eq_false hd]
  clear hd
  go_enter Tryz.func373,Tryz.ntmps373
  go_wp2_with fail
  refine wqb ?_
  repeat (go_big_quiet_step (fail))
  refine wpQuiet_nil (qe fun wq Bwq=>?_)
  go_wp2_with fail
  go_ret
  exact ⟨rfl,Bwq.out⟩
 have t1 : (x0 != lim - 1) = false:=by simpa using hd
 rw [decide_eq_true hd]
 clear hd
 go_enter Tryz.func373,Tryz.ntmps373
 go_wp2_with fail
 refine wqb ?_
 repeat (go_big_quiet_step (fail))
 refine wpQuiet_nil (qe fun wq Bwq=>?_)
 clear m0 t1
 go_wp2_with fail
 go_loopw [9] (fun i wr=>∃ p : Nat,p ≤ k ∧ i = .int .i64 p ∧ wq = wr ∧ Hid (aI p (fun w=>aI w (iF l w)) = true)) (fun i _=>k - (intOf i).toNat)
 case atStart=>exact ⟨0,Nat.zero_le _,rfl,rfl,aN _⟩
 case round =>
  obtain ⟨p,hp,rfl,rfl,hs⟩:=hrel
  by_cases hlt : p < k
  ·have g1 : decide ((p : Int) ≤ (k : Int) - 1) = true:=by simp;omega
   have p64 : (p : Int) ≤ 64:=by omega
   obtain ⟨xp,hxp⟩:=aH (l:=l) (j:=p) (by rw [← L1.out];exact hlt)
   have cp:=GET.out _ Bwq.out p xp hxp
   have xp0 : 0 ≤ xp:=by have:=(RG.out p (by rw [← L1.out];exact hlt)).1;rwa [cW hxp] at this
   have SP : Hid (∀ q,bitI xp q = dQ l p q):=fun q=>pS hxp
   clear hxp
   go_wp2_with fail
   go_loopw [10] (fun i wx=>∃ q : Nat,q ≤ p ∧ i = .int .i64 q ∧ wq = wx ∧ Hid (aI q (iF l p) = true)) (fun i _=>k - (intOf i).toNat)
   case atStart=>exact ⟨0,Nat.zero_le _,rfl,rfl,aN _⟩
   case round =>
    obtain ⟨q,hq,rfl,rfl,hs2⟩:=hrel
    by_cases hlq : q < p
    ·have g2 : decide ((q : Int) < (p : Int)) = true:=by simp;omega
     have q64 : (q : Int) ≤ 64:=by omega
     have hqk : q < k:=by omega
     obtain ⟨xq,hxq⟩:=aH (l:=l) (j:=q) (by rw [← L1.out];omega)
     have cq:=GET.out _ Bwq.out q xq hxq
     have xq0 : 0 ≤ xq:=by have:=(RG.out q (by rw [← L1.out];omega)).1;rwa [cW hxq] at this
     obtain ⟨s1,h1⟩ : ∃ b,dQ l p q = b:=⟨_,rfl⟩
     obtain ⟨s2,h2⟩ : ∃ b,dQ l q p = b:=⟨_,rfl⟩
     have b1 : (bits .and .i64 (xp / 2 ^ q) 1 == 1) = s1:=by rw [oU xp0,SP.out,h1]
     have b2 : (bits .and .i64 (xq / 2 ^ p) 1 == 1) = s2:=by rw [oU xq0,pS hxq,h2]
     have TA : Hid (iF l p q = !(s1 && s2)):=by show _ = _;unfold iF;rw [h1,h2]
     clear hxq h1 h2
     rcases (show s1 = false ∨ (s1 = true ∧ s2 = false) ∨ (s1 = true ∧ s2 = true) by cases s1 <;> cases s2 <;> simp) with rfl | ⟨rfl,rfl⟩ | ⟨rfl,rfl⟩
     ·have OK : Hid (iF l p q = true):=by show _ = _;rw [TA.out];rfl
      go_wp2_with fail
      go_roundw
      case rel=>exact ⟨q + 1,by omega,by go_num,by trivial,aL hs2.out OK.out⟩
      case measure=>simp [intOf];omega
     ·have OK : Hid (iF l p q = true):=by show _ = _;rw [TA.out];rfl
      go_wp2_with fail
      go_roundw
      case rel=>exact ⟨q + 1,by omega,by go_num,by trivial,aL hs2.out OK.out⟩
      case measure=>simp [intOf];omega
     ·have RT : Hid (A = false):=by
       show _ = _
       rw [← HA.out]
       exact aE hlt (aE hlq (by rw [TA.out];rfl))
      go_wp2_with fail
      go_ret
      exact ⟨by rw [RT.out];rfl,Bwq.out⟩
    ·have e : q = p:=by omega
     have g2 : decide ((q : Int) < (p : Int)) = false:=by simp;omega
     have OK : Hid (aI p (iF l p) = true):=by show _ = _;have h:=hs2.out;rw [e] at h;exact h
     go_wp2_with fail
     go_roundw
     case rel=>exact ⟨p + 1,by omega,by go_num,by trivial,aL hs.out OK.out⟩
     case measure=>simp [intOf];omega
  ·have e : p = k:=by omega
   have RT : Hid (A = true):=by show _ = _;rw [← HA.out,← e];exact hs.out
   have g1 : decide ((p : Int) ≤ (k : Int) - 1) = false:=by simp;omega
   clear hs e
   go_wp2_with fail
   go_loopw [11] (fun i wr=>∃ j : Nat,j ≤ k ∧ i = .int .i64 j ∧ Hid (aI j (fun w=>kX l w == 0) = true ∧ Below w.heap.size w wr)) (fun i _=>k - (intOf i).toNat)
   case atStart=>exact ⟨0,Nat.zero_le _,rfl,aN _,Bwq.out⟩
   case round =>
    obtain ⟨j,hj,rfl,hs⟩:=hrel
    by_cases hlj : j < k
    ·have g3 : decide ((j : Int) ≤ (k : Int) - 1) = true:=by simp;omega
     obtain ⟨v,hv⟩ : ∃ v,kX l j = v:=⟨_,rfl⟩
     have C1:=Hd (LK.out wr j hlj hs.out.2)
     rw [hv] at C1
     obtain ⟨s,hs2⟩ : ∃ s,(v != 0) = s:=⟨_,rfl⟩
     have TA : Hid ((kX l j == 0) = !s):=by show _ = _;rw [hv,← hs2];simp [bne]
     clear hv
     cases s
     ·go_wp2_with (go_at_call 375;refine C1.out.mono ?_;rintro e w3 ⟨rfl,b3⟩;have B3:=Hd (aA hs.out.2 b3);clear b3)
      go_roundw
      case rel=>exact ⟨j + 1,by omega,by go_num,aL hs.out.1 TA.out,B3.out⟩
      case measure=>simp [intOf];omega
     ·have RC : Hid (C = false):=by
       show _ = _
       rw [← HC.out]
       exact aE hlj TA.out
      go_wp2_with (go_at_call 375;refine C1.out.mono ?_;rintro e w3 ⟨rfl,b3⟩;have B3:=Hd (aA hs.out.2 b3);clear b3)
      go_ret
      exact ⟨by rw [RC.out];simp,B3.out⟩
    ·have e : j = k:=by omega
     have RC : Hid (C = true):=by show _ = _;rw [← HC.out,← e];exact hs.out.1
     have BW:=Hd hs.out.2
     have g3 : decide ((j : Int) ≤ (k : Int) - 1) = false:=by simp;omega
     clear hs
     go_wp2_with fail
     go_ret
     exact ⟨by rw [RT.out,RC.out];rfl,BW.out⟩
theorem frameV3_c (F : List Fa) (hF : F.length ≤ 1000) (hl : ∀ x ∈ F,x.name.length ≤ 9223372036854775807) (z lo : Int) (R : List Int) (ra fa ga ba : Option Addr) (rn rc fn fc gn gc bn bc : Nat) (hgn : gn ≤ maxLen) (hbn : bn ≤ maxLen) (w : World) (hx : aM w 3 (fasV F) F.length (.slice fa fn fc)) (hr : aM w 1 (inV R) R.length (.slice ra rn rc)) :
  Calls Tryz.prog 370 #[.agg #[.int .u8 3,.int .i64 z,.slice ra rn rc,.int .i64 lo,.slice fa fn fc,.slice ga gn gc,.slice ba bn bc]] w (Rt (.bool (eC 3 F z lo R gn bn)) w):=by
 have hk:=hx.len
 have hlk : fn ≤ 1000:=by omega
 have L1:=Hd hk.1
 have L2:=Hd hr.len.1
 have HX:=Hd hx
 have HL:=Hd hl
 have r63 : rn ≤ 9223372036854775807:=le63 (Nat.le_trans (Nat.le_of_eq hr.len.1) (Nat.le_trans hr.len.2.1 hr.len.2.2.1))
 have HB : Hid (Below w.heap.size w (w.alloc (mdR 3 z ra rn rc lo fa fn fc ga gn gc ba bn bc))):=bnew
 have NEW:=Hd (heap_alloc_new w (mdR 3 z ra rn rc lo fa fn fc ga gn gc ba bn bc))
 obtain ⟨rb,hrb⟩ : ∃ rb,relB R = rb:=⟨_,rfl⟩
 obtain ⟨od,hod⟩ : ∃ od,ordR R = od:=⟨_,rfl⟩
 have N0 : Hid (∀ W,Below w.heap.size w W → Calls Tryz.prog 372 #[.slice ra rn rc] W (Rt (.bool rb) W)):=fun W hW=>by
  rw [← hrb];exact oE R _ _ _ W (hr.keep (aC hW))
 have N3 : Hid (∀ W,Below w.heap.size w W → rb = true → Calls Tryz.prog 373 #[.int .u8 3,.int .u8 0,.slice ra rn rc,.int .i64 ((rn : Int) - 1)] W (Rt (.bool od) W)):=fun W hW h=>by
  rw [← hod];exact suits3_c R (hrb.trans h) ra rn rc W (hr.keep (aC hW))
 have g63:=le63 hgn
 have b63:=le63 hbn
 have K4 : Hid (rb = true → 1 ≤ rn ∧ rn ≤ 4):=fun h=>by
  have:=(dA (hrb.trans h)).1
  rw [L2.out];exact this
 obtain ⟨A,hA⟩ : ∃ A,aI F.length (fun j=>dO (F.map Fa.name) j && frAt 3 R F (2 ^ R.length) j) = A:=⟨_,rfl⟩
 have TB : Hid (eC 3 F z lo R gn bn = (decide (z = rn) && (rb && (decide (gn = 0 ∧ bn = 0 ∧ lo = 0) && (od && A))))):=by
  show _ = _
  rw [← hA,← hod,mF]
  unfold eC dP
  rw [hrb,L2.out,List.length_map]
  cases decide (z = R.length) <;> cases rb <;> cases decide (gn = 0 ∧ bn = 0 ∧ lo = 0) <;> simp [Bool.and_comm,Bool.and_assoc,Bool.and_left_comm]
 have PQ : Hid (∀ t W,0 ≤ t → t < 2 ^ rn → Below w.heap.size w W → rb = true → Calls Tryz.prog 374 #[.slice ra rn rc,.int .i64 t] W fun e w'=>e = .returned (.bool (kL R t)) ∧ W = w'):=fun t W ht ht2 hW h =>
  sC R (hrb.trans h) t ht (by rw [← L2.out];exact ht2) ra rn rc W (hr.keep (aC hW))
 obtain ⟨⟨c0,c1,c2,c3,c4,c5,c6⟩,-⟩:=aK NEW.out
 clear hk hx hl hr hrb hod
 rw [TB.out]
 clear TB
 cases rb
 ·go_enter Tryz.func370,Tryz.ntmps370
  go_wp2_with (first | (go_at_call 373;refine (N3.out _ B0.out (by trivial)).mono ?_;rintro e w3 ⟨rfl,b3⟩;have B3:=Hd (aA B0.out b3);have R3:=Hd (kc b3 R0.out);clear b3;obtain ⟨⟨d0,d1,d2,d3,d4,d5,d6⟩,-⟩:=aK R3.out) | (go_at_call 372;refine (N0.out _ HB.out).mono ?_;rintro e w0 ⟨rfl,b0⟩;have B0:=Hd (aA HB.out b0);have R0:=Hd (kc b0 NEW.out);clear b0;obtain ⟨⟨c0,c1,c2,c3,c4,c5,c6⟩,-⟩:=aK R0.out))
  go_ret
  exact ⟨by simp,B0.out⟩
 by_cases hz : z = rn
 rotate_left
 ·have t1 : (z != (rn : Int)) = true:=by simpa using hz
  rw [decide_eq_false hz]
  clear hz
  go_enter Tryz.func370,Tryz.ntmps370
  go_wp2_with (first | (go_at_call 373;refine (N3.out _ B0.out (by trivial)).mono ?_;rintro e w3 ⟨rfl,b3⟩;have B3:=Hd (aA B0.out b3);have R3:=Hd (kc b3 R0.out);clear b3;obtain ⟨⟨d0,d1,d2,d3,d4,d5,d6⟩,-⟩:=aK R3.out) | (go_at_call 372;refine (N0.out _ HB.out).mono ?_;rintro e w0 ⟨rfl,b0⟩;have B0:=Hd (aA HB.out b0);have R0:=Hd (kc b0 NEW.out);clear b0;obtain ⟨⟨c0,c1,c2,c3,c4,c5,c6⟩,-⟩:=aK R0.out))
  go_ret
  exact ⟨rfl,B0.out⟩
 subst hz
 rw [decide_eq_true rfl]
 obtain ⟨k1,k4⟩:=K4.out rfl
 by_cases hg : gn = 0 ∧ bn = 0 ∧ lo = 0
 rotate_left
 ·rw [decide_eq_false hg]
  have hz2 : 0 < gn ∨ (gn = 0 ∧ 0 < bn) ∨ (gn = 0 ∧ bn = 0 ∧ lo ≠ 0):=by omega
  clear hg
  rcases hz2 with h5 | ⟨rfl,h5⟩ | ⟨rfl,rfl,h5⟩
  ·have t2 : decide ((0 : Int) < (gn : Int)) = true:=decide_eq_true (by omega)
   go_enter Tryz.func370,Tryz.ntmps370
   go_wp2_with (first | (go_at_call 373;refine (N3.out _ B0.out (by trivial)).mono ?_;rintro e w3 ⟨rfl,b3⟩;have B3:=Hd (aA B0.out b3);have R3:=Hd (kc b3 R0.out);clear b3;obtain ⟨⟨d0,d1,d2,d3,d4,d5,d6⟩,-⟩:=aK R3.out) | (go_at_call 372;refine (N0.out _ HB.out).mono ?_;rintro e w0 ⟨rfl,b0⟩;have B0:=Hd (aA HB.out b0);have R0:=Hd (kc b0 NEW.out);clear b0;obtain ⟨⟨c0,c1,c2,c3,c4,c5,c6⟩,-⟩:=aK R0.out))
   go_ret
   exact ⟨rfl,B0.out⟩
  ·have t2 : decide ((0 : Int) < (bn : Int)) = true:=decide_eq_true (by omega)
   go_enter Tryz.func370,Tryz.ntmps370
   go_wp2_with (first | (go_at_call 373;refine (N3.out _ B0.out (by trivial)).mono ?_;rintro e w3 ⟨rfl,b3⟩;have B3:=Hd (aA B0.out b3);have R3:=Hd (kc b3 R0.out);clear b3;obtain ⟨⟨d0,d1,d2,d3,d4,d5,d6⟩,-⟩:=aK R3.out) | (go_at_call 372;refine (N0.out _ HB.out).mono ?_;rintro e w0 ⟨rfl,b0⟩;have B0:=Hd (aA HB.out b0);have R0:=Hd (kc b0 NEW.out);clear b0;obtain ⟨⟨c0,c1,c2,c3,c4,c5,c6⟩,-⟩:=aK R0.out))
   go_ret
   exact ⟨rfl,B0.out⟩
  ·have t2 : (lo != 0) = true:=by simpa using h5
   go_enter Tryz.func370,Tryz.ntmps370
   go_wp2_with (first | (go_at_call 373;refine (N3.out _ B0.out (by trivial)).mono ?_;rintro e w3 ⟨rfl,b3⟩;have B3:=Hd (aA B0.out b3);have R3:=Hd (kc b3 R0.out);clear b3;obtain ⟨⟨d0,d1,d2,d3,d4,d5,d6⟩,-⟩:=aK R3.out) | (go_at_call 372;refine (N0.out _ HB.out).mono ?_;rintro e w0 ⟨rfl,b0⟩;have B0:=Hd (aA HB.out b0);have R0:=Hd (kc b0 NEW.out);clear b0;obtain ⟨⟨c0,c1,c2,c3,c4,c5,c6⟩,-⟩:=aK R0.out))
   go_ret
   exact ⟨rfl,B0.out⟩
 obtain ⟨rfl,rfl,rfl⟩:=hg
 rw [decide_eq_true (show (0 : Nat) = 0 ∧ (0 : Nat) = 0 ∧ (0 : Int) = 0 from ⟨rfl,rfl,rfl⟩)]
 cases od
 ·go_enter Tryz.func370,Tryz.ntmps370
  go_wp2_with (first | (go_at_call 373;refine (N3.out _ B0.out (by trivial)).mono ?_;rintro e w3 ⟨rfl,b3⟩;have B3:=Hd (aA B0.out b3);have R3:=Hd (kc b3 R0.out);clear b3;obtain ⟨⟨d0,d1,d2,d3,d4,d5,d6⟩,-⟩:=aK R3.out) | (go_at_call 372;refine (N0.out _ HB.out).mono ?_;rintro e w0 ⟨rfl,b0⟩;have B0:=Hd (aA HB.out b0);have R0:=Hd (kc b0 NEW.out);clear b0;obtain ⟨⟨c0,c1,c2,c3,c4,c5,c6⟩,-⟩:=aK R0.out))
  go_ret
  exact ⟨rfl,B3.out⟩
 obtain ⟨lim,hlim⟩ : ∃ lim : Int,(2 : Int) ^ rn = lim:=⟨_,rfl⟩
 have hw : IntKind.i64.wrap ((2 : Int) ^ rn) = lim:=by rw [eX k4,hlim]
 have rk64 : (rn : Int) ≤ 64:=by omega
 rw [hlim] at PQ
 have HA : Hid (aI fn (fun j=>dO (F.map Fa.name) j && frAt 3 R F lim j) = A):=by show _ = _;rw [← hA,L1.out,← L2.out,hlim]
 clear hA hlim
 go_enter Tryz.func370,Tryz.ntmps370
 go_wp2_with (first | (go_at_call 373;refine (N3.out _ B0.out (by trivial)).mono ?_;rintro e w3 ⟨rfl,b3⟩;have B3:=Hd (aA B0.out b3);have R3:=Hd (kc b3 R0.out);clear b3;obtain ⟨⟨d0,d1,d2,d3,d4,d5,d6⟩,-⟩:=aK R3.out) | (go_at_call 372;refine (N0.out _ HB.out).mono ?_;rintro e w0 ⟨rfl,b0⟩;have B0:=Hd (aA HB.out b0);have R0:=Hd (kc b0 NEW.out);clear b0;obtain ⟨⟨c0,c1,c2,c3,c4,c5,c6⟩,-⟩:=aK R0.out))
 go_loopw [56] (fun i wr=>∃ j : Nat,j ≤ fn ∧ i = .int .i64 j ∧ Hid (aI j (fun j=>dO (F.map Fa.name) j && frAt 3 R F lim j) = true ∧ Below w.heap.size w wr ∧ wr.heap[w.heap.size]? = some (mdR 3 rn ra rn rc 0 fa fn fc ga 0 gc ba 0 bc))) (fun i _=>fn - (intOf i).toNat)
 case atStart=>exact ⟨0,Nat.zero_le _,rfl,aN _,B3.out,R3.out⟩
 case round =>
  clear c0 c1 c2 c3 c4 c5 c6 d0 d1 d2 d3 d4 d5 d6 R3 B3 R0 B0 NEW HB
  obtain ⟨j,hj,rfl,hs⟩:=hrel
  by_cases hlt : j < fn
  ·obtain ⟨T,hT⟩:=aH (l:=F) (j:=j) (by rw [← L1.out];exact hlt)
   obtain ⟨b,off,rfl,p0,p1,p2⟩:=cL HX.out hT
   have hK:=aC hs.out.2.1
   have c0:=hK _ _ p0;have c1:=hK _ _ p1;have c2:=hK _ _ p2
   have FA:=Hd (dE (lim:=lim) hT)
   have PS:=Hd (lS (R:=R) hT)
   have RS:=Hd (iU hT)
   have TL:=HL.out T (List.mem_of_getElem? hT)
   have GET : Hid (∀ i y,F[i]? = some y → wr.cell? ⟨b,off + i * 3,none⟩ = some (str y.name)):=fun i y hy=>by
    obtain ⟨b',off',e,q0,-,-⟩:=cL HX.out hy
    cases e;exact hK _ _ q0
   obtain ⟨nm,ar,tr⟩:=T
   simp only [Fa.args,Fa.tru,Fa.name] at *
   obtain ⟨q,hq⟩ : ∃ q,aY nm = q:=⟨_,rfl⟩
   have HQ:=Hd hq
   have A1 : Hid (Below wr.heap.size wr (wr.alloc (.cells #[str nm,.int .i64 ar,.int .i64 tr] 102))):=bnew
   have B1 : Hid (Below w.heap.size w (wr.alloc (.cells #[str nm,.int .i64 ar,.int .i64 tr] 102))):=aA hs.out.2.1 A1.out
   have NEW1:=Hd (heap_alloc_new wr (.cells #[str nm,.int .i64 ar,.int .i64 tr] 102))
   have ROW1:=Hd (kc A1.out hs.out.2.2)
   obtain ⟨⟨e0,e1,e2⟩,-⟩:=bQ NEW1.out
   obtain ⟨⟨d0,d1,d2,d3,d4,d5,d6⟩,-⟩:=aK ROW1.out
   have m0:=cell_regrown e0;have m4:=cell_regrown d4
   have cP : Hid (∀ d os,Calls Tryz.prog 198 #[str nm] (grow (redrawn (wr.alloc (.cells #[str nm,.int .i64 ar,.int .i64 tr] 102)) d) os) fun e w''=>e = .returned (.bool q) ∧ ∃ p : Regrown,w'' = grow (redrawn (wr.alloc (.cells #[str nm,.int .i64 ar,.int .i64 tr] 102)) p.d) p.os):=fun d os=>by
    rw [← hq];exact Calls.regrown_of (fF nm _ TL)
   clear hT hK p0 p1 p2 hq e0 e1 e2 d0 d1 d2 d3 d4 d5 d6
   obtain ⟨rz,hrz⟩ : ∃ rz,dO (F.map Fa.name) j = rz:=⟨_,rfl⟩
   have HRZ:=Hd hrz
   have TAIL : Hid (rz = true → ∀ wq,Below w.heap.size w wq → wq.heap[w.heap.size]? = some (mdR 3 rn ra rn rc 0 (some ⟨b,off,none⟩) fn fc ga 0 gc ba 0 bc) → True):=fun _ _ _ _=>trivial
   clear TAIL
   cases j with
   | zero =>
    rw [Nat.zero_mul,Nat.add_zero] at c0 c1 c2
    have QZ : Hid (rz = q):=by show _ = _;rw [← hrz,cU RS.out,HQ.out]
    clear hrz
    cases q
    ·have RT : Hid (A = false):=by show _ = _;rw [← HA.out,aE hlt (by rw [HRZ.out,QZ.out];rfl)]
     go_wp2_with fail
     refine wqb ?_
     repeat (go_big_quiet_step ((first | (go_at_call 198;exact cP.out _ _))))
     refine wpQuiet_nil (qe fun wq Bwq=>?_)
     go_wp2_with fail
     go_ret
     exact ⟨by rw [RT.out];rfl,aA B1.out Bwq.out⟩
    ·have QZ : Hid (rz = true):=QZ.out
     go_wp2_with fail
     refine wqb ?_
     repeat (go_big_quiet_step ((first | (go_at_call 198;exact cP.out _ _))))
     refine wpQuiet_nil (qe fun wq Bwq=>?_)
     go_wp2_with fail
     have E2:=Hd (kc Bwq.out NEW1.out)
     have RW2:=Hd (kc Bwq.out ROW1.out)
     have BW2:=Hd (aA B1.out Bwq.out)
     obtain ⟨⟨y0,y1,y2⟩,-⟩:=bQ E2.out
     obtain ⟨⟨v0,v1,v2,v3,v4,v5,v6⟩,-⟩:=aK RW2.out
     have z1:=cell_regrown y1;have z2:=cell_regrown y2;have s1:=cell_regrown v1
     have CS : ar ≠ 0 ∨ (ar = 0 ∧ tr < 0) ∨ (ar = 0 ∧ 0 ≤ tr ∧ lim ≤ tr) ∨ (ar = 0 ∧ 0 ≤ tr ∧ tr < lim):=by omega
     rcases CS with h5 | ⟨rfl,h5⟩ | ⟨rfl,h5,h6⟩ | ⟨rfl,h5,h6⟩
     ·have RT : Hid (A = false):=by show _ = _;rw [← HA.out,aE hlt (by rw [HRZ.out,QZ.out];unfold frAt;rw [FA.out];simp;omega)]
      have g2 : (ar != 0) = true:=by simpa using h5
      refine wqb ?_
      repeat (go_big_quiet_step (fail))
      refine wpQuiet_nil (qe fun wz Bwz=>?_)
      go_wp2_with fail
      go_ret
      exact ⟨by rw [RT.out];rfl,aA BW2.out Bwz.out⟩
     ·have RT : Hid (A = false):=by show _ = _;rw [← HA.out,aE hlt (by rw [HRZ.out,QZ.out];unfold frAt;rw [FA.out];simp;omega)]
      have g2 : decide (tr < 0) = true:=decide_eq_true h5
      refine wqb ?_
      repeat (go_big_quiet_step (fail))
      refine wpQuiet_nil (qe fun wz Bwz=>?_)
      go_wp2_with fail
      go_ret
      exact ⟨by rw [RT.out];rfl,aA BW2.out Bwz.out⟩
     ·have RT : Hid (A = false):=by show _ = _;rw [← HA.out,aE hlt (by rw [HRZ.out,QZ.out];unfold frAt;rw [FA.out];simp;omega)]
      have g2 : decide (tr < 0) = false:=decide_eq_false (by omega)
      have g3 : decide (lim ≤ tr) = true:=decide_eq_true h6
      refine wqb ?_
      repeat (go_big_quiet_step (fail))
      refine wpQuiet_nil (qe fun wz Bwz=>?_)
      go_wp2_with fail
      go_ret
      exact ⟨by rw [RT.out];rfl,aA BW2.out Bwz.out⟩
     ·have g2 : decide (tr < 0) = false:=decide_eq_false (by omega)
      have g3 : decide (lim ≤ tr) = false:=decide_eq_false (by omega)
      refine wqb ?_
      repeat (go_big_quiet_step (fail))
      refine wpQuiet_nil (qe fun wz Bwz=>?_)
      have BW3:=Hd (aA BW2.out Bwz.out)
      have RW3:=Hd (kc Bwz.out RW2.out)
      have E3:=Hd (kc Bwz.out E2.out)
      obtain ⟨⟨u0,u1,u2⟩,-⟩:=bQ E3.out
      obtain ⟨⟨n0,n1,n2,n3,n4,n5,n6⟩,-⟩:=aK RW3.out
      obtain ⟨pq,hpq⟩ : ∃ pq,kL R tr = pq:=⟨_,rfl⟩
      have FR : Hid ((dO (F.map Fa.name) (0) && frAt 3 R F lim (0)) = pq):=by show _ = _;rw [HRZ.out,QZ.out];unfold frAt;rw [FA.out,PS.out,hpq];simp;omega
      have PC:=Hd (PQ.out tr wz h5 h6 BW3.out (by trivial))
      rw [hpq] at PC
      clear hpq
      cases pq
      ·have RT : Hid (A = false):=by show _ = _;rw [← HA.out,aE hlt FR.out]
       go_wp2_with (go_at_call 374;refine PC.out.mono ?_;rintro e w5 ⟨rfl,rfl⟩)
       go_ret
       exact ⟨by rw [RT.out];rfl,BW3.out⟩
      ·go_wp2_with (go_at_call 374;refine PC.out.mono ?_;rintro e w5 ⟨rfl,rfl⟩)
       go_roundw
       case rel=>exact ⟨0 + 1,by omega,by go_num,aL hs.out.1 FR.out,BW3.out,RW3.out⟩
       case measure=>simp [intOf];omega
   | succ i =>
    obtain ⟨Y,hY⟩:=aH (l:=F) (j:=i) (by rw [← L1.out];omega)
    have RY:=Hd (iU hY)
    have n0:=cell_regrown (aC A1.out _ _ (GET.out i Y hY))
    obtain ⟨y,yar,ytr⟩:=Y
    simp only [Fa.name] at *
    obtain ⟨r,hr⟩ : ∃ r,Op.bytesLess y nm = r:=⟨_,rfl⟩
    have QZ : Hid (rz = (q && r)):=by show _ = _;rw [← hrz,bM RS.out RY.out,HQ.out,hr]
    have t0 : decide ((0 : Int) < (i : Int) + 1) = true:=decide_eq_true (by omega)
    have e0 : ((i : Int) + 1 - 1) = (i : Int):=by omega
    have t1 : Op.bytesLess (⟨y.toArray⟩ : ByteArray).toList (⟨nm.toArray⟩ : ByteArray).toList = r:=by simpa using hr
    clear hY hrz
    rcases (show q = false ∨ (q = true ∧ r = false) ∨ (q = true ∧ r = true) by cases q <;> cases r <;> simp) with rfl | ⟨rfl,rfl⟩ | ⟨rfl,rfl⟩
    ·have RT : Hid (A = false):=by show _ = _;rw [← HA.out,aE hlt (by rw [HRZ.out,QZ.out];rfl)]
     go_wp2_with fail
     refine wqb ?_
     repeat (go_big_quiet_step ((first | (go_at_call 198;exact cP.out _ _))))
     refine wpQuiet_nil (qe fun wq Bwq=>?_)
     go_wp2_with fail
     go_ret
     exact ⟨by rw [RT.out];rfl,aA B1.out Bwq.out⟩
    ·have RT : Hid (A = false):=by show _ = _;rw [← HA.out,aE hlt (by rw [HRZ.out,QZ.out];rfl)]
     go_wp2_with fail
     refine wqb ?_
     repeat (go_big_quiet_step ((first | (go_at_call 198;exact cP.out _ _))))
     refine wpQuiet_nil (qe fun wq Bwq=>?_)
     go_wp2_with fail
     go_ret
     exact ⟨by rw [RT.out];rfl,aA B1.out Bwq.out⟩
    ·have QZ : Hid (rz = true):=QZ.out
     go_wp2_with fail
     refine wqb ?_
     repeat (go_big_quiet_step ((first | (go_at_call 198;exact cP.out _ _))))
     refine wpQuiet_nil (qe fun wq Bwq=>?_)
     go_wp2_with fail
     have E2:=Hd (kc Bwq.out NEW1.out)
     have RW2:=Hd (kc Bwq.out ROW1.out)
     have BW2:=Hd (aA B1.out Bwq.out)
     obtain ⟨⟨y0,y1,y2⟩,-⟩:=bQ E2.out
     obtain ⟨⟨v0,v1,v2,v3,v4,v5,v6⟩,-⟩:=aK RW2.out
     have z1:=cell_regrown y1;have z2:=cell_regrown y2;have s1:=cell_regrown v1
     have CS : ar ≠ 0 ∨ (ar = 0 ∧ tr < 0) ∨ (ar = 0 ∧ 0 ≤ tr ∧ lim ≤ tr) ∨ (ar = 0 ∧ 0 ≤ tr ∧ tr < lim):=by omega
     rcases CS with h5 | ⟨rfl,h5⟩ | ⟨rfl,h5,h6⟩ | ⟨rfl,h5,h6⟩
     ·have RT : Hid (A = false):=by show _ = _;rw [← HA.out,aE hlt (by rw [HRZ.out,QZ.out];unfold frAt;rw [FA.out];simp;omega)]
      have g2 : (ar != 0) = true:=by simpa using h5
      refine wqb ?_
      repeat (go_big_quiet_step (fail))
      refine wpQuiet_nil (qe fun wz Bwz=>?_)
      go_wp2_with fail
      go_ret
      exact ⟨by rw [RT.out];rfl,aA BW2.out Bwz.out⟩
     ·have RT : Hid (A = false):=by show _ = _;rw [← HA.out,aE hlt (by rw [HRZ.out,QZ.out];unfold frAt;rw [FA.out];simp;omega)]
      have g2 : decide (tr < 0) = true:=decide_eq_true h5
      refine wqb ?_
      repeat (go_big_quiet_step (fail))
      refine wpQuiet_nil (qe fun wz Bwz=>?_)
      go_wp2_with fail
      go_ret
      exact ⟨by rw [RT.out];rfl,aA BW2.out Bwz.out⟩
     ·have RT : Hid (A = false):=by show _ = _;rw [← HA.out,aE hlt (by rw [HRZ.out,QZ.out];unfold frAt;rw [FA.out];simp;omega)]
      have g2 : decide (tr < 0) = false:=decide_eq_false (by omega)
      have g3 : decide (lim ≤ tr) = true:=decide_eq_true h6
      refine wqb ?_
      repeat (go_big_quiet_step (fail))
      refine wpQuiet_nil (qe fun wz Bwz=>?_)
      go_wp2_with fail
      go_ret
      exact ⟨by rw [RT.out];rfl,aA BW2.out Bwz.out⟩
     ·have g2 : decide (tr < 0) = false:=decide_eq_false (by omega)
      have g3 : decide (lim ≤ tr) = false:=decide_eq_false (by omega)
      refine wqb ?_
      repeat (go_big_quiet_step (fail))
      refine wpQuiet_nil (qe fun wz Bwz=>?_)
      have BW3:=Hd (aA BW2.out Bwz.out)
      have RW3:=Hd (kc Bwz.out RW2.out)
      have E3:=Hd (kc Bwz.out E2.out)
      obtain ⟨⟨u0,u1,u2⟩,-⟩:=bQ E3.out
      obtain ⟨⟨n0,n1,n2,n3,n4,n5,n6⟩,-⟩:=aK RW3.out
      obtain ⟨pq,hpq⟩ : ∃ pq,kL R tr = pq:=⟨_,rfl⟩
      have FR : Hid ((dO (F.map Fa.name) (i + 1) && frAt 3 R F lim (i + 1)) = pq):=by show _ = _;rw [HRZ.out,QZ.out];unfold frAt;rw [FA.out,PS.out,hpq];simp;omega
      have PC:=Hd (PQ.out tr wz h5 h6 BW3.out (by trivial))
      rw [hpq] at PC
      clear hpq
      cases pq
      ·have RT : Hid (A = false):=by show _ = _;rw [← HA.out,aE hlt FR.out]
       go_wp2_with (go_at_call 374;refine PC.out.mono ?_;rintro e w5 ⟨rfl,rfl⟩)
       go_ret
       exact ⟨by rw [RT.out];rfl,BW3.out⟩
      ·go_wp2_with (go_at_call 374;refine PC.out.mono ?_;rintro e w5 ⟨rfl,rfl⟩)
       go_roundw
       case rel=>exact ⟨i + 1 + 1,by omega,by go_num,aL hs.out.1 FR.out,BW3.out,RW3.out⟩
       case measure=>simp [intOf];omega
  ·have e : j = fn:=by omega
   have RT : Hid (A = true):=by show _ = _;rw [← HA.out,← e];exact hs.out.1
   have BW:=Hd hs.out.2.1
   have g1 : decide ((j : Int) < (fn : Int)) = false:=by simp;omega
   clear hs
   go_wp2_with fail
   go_ret
   exact ⟨by rw [RT.out];rfl,BW.out⟩
theorem framesV3_c (F : List Fa) (hF : F.length ≤ 1000) (hl : ∀ x ∈ F,x.name.length ≤ 9223372036854775807) (z lo : Int) (R : List Int) (ra fa ga ba : Option Addr) (rn rc fn fc gn gc bn bc : Nat) (hgn : gn ≤ maxLen) (hbn : bn ≤ maxLen) (w : World) (hx : aM w 3 (fasV F) F.length (.slice fa fn fc)) (hr : aM w 1 (inV R) R.length (.slice ra rn rc)) :
  Calls Tryz.prog 369 #[.agg #[.int .u8 3],.agg #[.int .u8 3,.int .i64 z,.slice ra rn rc,.int .i64 lo,.slice fa fn fc,.slice ga gn gc,.slice ba bn bc],.int .u8 0] w (Rt (.bool (eC 3 F z lo R gn bn)) w):=by
 have K2:=gY w (.cells #[.int .u8 3] 304) (mdR 3 z ra rn rc lo fa fn fc ga gn gc ba bn bc)
 have V:=Hd (frameV3_c F hF hl z lo R ra fa ga ba rn rc fn fc gn gc bn bc hgn hbn _ (hx.keep K2) (hr.keep K2))
 obtain ⟨q,hq⟩ : ∃ q,eC 3 F z lo R gn bn = q:=⟨_,rfl⟩
 rw [hq] at V ⊢
 clear K2 hx hr hq
 cases q
 all_goals
  go_enter Tryz.func369,Tryz.ntmps369
  go_wp2_with fail
  refine V.out.mono ?_
  rintro e w1 ⟨rfl,b1⟩
  obtain ⟨hc1,hf1⟩:=fG b1
  have B1 : Hid (Below w.heap.size w w1):=eY b1
  clear b1
  go_wp2_with fail
  go_ret
  exact ⟨rfl,B1.out⟩
theorem frameV4_c (F : List Fa) (hF : F.length ≤ 1000) (hl : ∀ x ∈ F,x.name.length ≤ 9223372036854775807) (z lo : Int) (R : List Int) (ra fa ga ba : Option Addr) (rn rc fn fc gn gc bn bc : Nat) (hgn : gn ≤ maxLen) (hbn : bn ≤ maxLen) (w : World) (hx : aM w 3 (fasV F) F.length (.slice fa fn fc)) (hr : aM w 1 (inV R) R.length (.slice ra rn rc)) :
  Calls Tryz.prog 370 #[.agg #[.int .u8 4,.int .i64 z,.slice ra rn rc,.int .i64 lo,.slice fa fn fc,.slice ga gn gc,.slice ba bn bc]] w (Rt (.bool (eC 4 F z lo R gn bn)) w):=by
 have hk:=hx.len
 have hlk : fn ≤ 1000:=by omega
 have L1:=Hd hk.1
 have L2:=Hd hr.len.1
 have HX:=Hd hx
 have HL:=Hd hl
 have r63 : rn ≤ 9223372036854775807:=le63 (Nat.le_trans (Nat.le_of_eq hr.len.1) (Nat.le_trans hr.len.2.1 hr.len.2.2.1))
 have HB : Hid (Below w.heap.size w (w.alloc (mdR 4 z ra rn rc lo fa fn fc ga gn gc ba bn bc))):=bnew
 have NEW:=Hd (heap_alloc_new w (mdR 4 z ra rn rc lo fa fn fc ga gn gc ba bn bc))
 obtain ⟨rb,hrb⟩ : ∃ rb,relB R = rb:=⟨_,rfl⟩
 obtain ⟨od,hod⟩ : ∃ od,true = od:=⟨_,rfl⟩
 have N0 : Hid (∀ W,Below w.heap.size w W → Calls Tryz.prog 372 #[.slice ra rn rc] W (Rt (.bool rb) W)):=fun W hW=>by
  rw [← hrb];exact oE R _ _ _ W (hr.keep (aC hW))
 have N3 : Hid (∀ W,Below w.heap.size w W → rb = true → Calls Tryz.prog 373 #[.int .u8 4,.int .u8 0,.slice ra rn rc,.int .i64 ((rn : Int) - 1)] W (Rt (.bool od) W)):=fun W hW h=>by
  rw [← hod];exact (xA ra rn rc (by have:=(dA (hrb.trans h)).1.2;have:=L2.out;omega) W).mono fun e w' h=>⟨h.1,by rw [← h.2];exact Below.refl _ _⟩
 have g63:=le63 hgn
 have b63:=le63 hbn
 have K4 : Hid (rb = true → 1 ≤ rn ∧ rn ≤ 4):=fun h=>by
  have:=(dA (hrb.trans h)).1
  rw [L2.out];exact this
 obtain ⟨A,hA⟩ : ∃ A,aI F.length (fun j=>dO (F.map Fa.name) j && frAt 4 R F (2 ^ R.length) j) = A:=⟨_,rfl⟩
 have TB : Hid (eC 4 F z lo R gn bn = (decide (z = rn) && (rb && (decide (gn = 0 ∧ bn = 0 ∧ lo = 0) && (od && A))))):=by
  show _ = _
  rw [← hA,← hod,mF]
  unfold eC dP
  rw [hrb,L2.out,List.length_map]
  cases decide (z = R.length) <;> cases rb <;> cases decide (gn = 0 ∧ bn = 0 ∧ lo = 0) <;> simp [Bool.and_comm,Bool.and_assoc,Bool.and_left_comm]
 have PQ : Hid (∀ t W,0 ≤ t → t < 2 ^ rn → Below w.heap.size w W → rb = true → Calls Tryz.prog 374 #[.slice ra rn rc,.int .i64 t] W fun e w'=>e = .returned (.bool (kL R t)) ∧ W = w'):=fun t W ht ht2 hW h =>
  sC R (hrb.trans h) t ht (by rw [← L2.out];exact ht2) ra rn rc W (hr.keep (aC hW))
 obtain ⟨⟨c0,c1,c2,c3,c4,c5,c6⟩,-⟩:=aK NEW.out
 clear hk hx hl hr hrb hod
 rw [TB.out]
 clear TB
 cases rb
 ·go_enter Tryz.func370,Tryz.ntmps370
  go_wp2_with (first | (go_at_call 373;refine (N3.out _ B0.out (by trivial)).mono ?_;rintro e w3 ⟨rfl,b3⟩;have B3:=Hd (aA B0.out b3);have R3:=Hd (kc b3 R0.out);clear b3;obtain ⟨⟨d0,d1,d2,d3,d4,d5,d6⟩,-⟩:=aK R3.out) | (go_at_call 372;refine (N0.out _ HB.out).mono ?_;rintro e w0 ⟨rfl,b0⟩;have B0:=Hd (aA HB.out b0);have R0:=Hd (kc b0 NEW.out);clear b0;obtain ⟨⟨c0,c1,c2,c3,c4,c5,c6⟩,-⟩:=aK R0.out))
  go_ret
  exact ⟨by simp,B0.out⟩
 by_cases hz : z = rn
 rotate_left
 ·have t1 : (z != (rn : Int)) = true:=by simpa using hz
  rw [decide_eq_false hz]
  clear hz
  go_enter Tryz.func370,Tryz.ntmps370
  go_wp2_with (first | (go_at_call 373;refine (N3.out _ B0.out (by trivial)).mono ?_;rintro e w3 ⟨rfl,b3⟩;have B3:=Hd (aA B0.out b3);have R3:=Hd (kc b3 R0.out);clear b3;obtain ⟨⟨d0,d1,d2,d3,d4,d5,d6⟩,-⟩:=aK R3.out) | (go_at_call 372;refine (N0.out _ HB.out).mono ?_;rintro e w0 ⟨rfl,b0⟩;have B0:=Hd (aA HB.out b0);have R0:=Hd (kc b0 NEW.out);clear b0;obtain ⟨⟨c0,c1,c2,c3,c4,c5,c6⟩,-⟩:=aK R0.out))
  go_ret
  exact ⟨rfl,B0.out⟩
 subst hz
 rw [decide_eq_true rfl]
 obtain ⟨k1,k4⟩:=K4.out rfl
 by_cases hg : gn = 0 ∧ bn = 0 ∧ lo = 0
 rotate_left
 ·rw [decide_eq_false hg]
  have hz2 : 0 < gn ∨ (gn = 0 ∧ 0 < bn) ∨ (gn = 0 ∧ bn = 0 ∧ lo ≠ 0):=by omega
  clear hg
  rcases hz2 with h5 | ⟨rfl,h5⟩ | ⟨rfl,rfl,h5⟩
  ·have t2 : decide ((0 : Int) < (gn : Int)) = true:=decide_eq_true (by omega)
   go_enter Tryz.func370,Tryz.ntmps370
   go_wp2_with (first | (go_at_call 373;refine (N3.out _ B0.out (by trivial)).mono ?_;rintro e w3 ⟨rfl,b3⟩;have B3:=Hd (aA B0.out b3);have R3:=Hd (kc b3 R0.out);clear b3;obtain ⟨⟨d0,d1,d2,d3,d4,d5,d6⟩,-⟩:=aK R3.out) | (go_at_call 372;refine (N0.out _ HB.out).mono ?_;rintro e w0 ⟨rfl,b0⟩;have B0:=Hd (aA HB.out b0);have R0:=Hd (kc b0 NEW.out);clear b0;obtain ⟨⟨c0,c1,c2,c3,c4,c5,c6⟩,-⟩:=aK R0.out))
   go_ret
   exact ⟨rfl,B0.out⟩
  ·have t2 : decide ((0 : Int) < (bn : Int)) = true:=decide_eq_true (by omega)
   go_enter Tryz.func370,Tryz.ntmps370
   go_wp2_with (first | (go_at_call 373;refine (N3.out _ B0.out (by trivial)).mono ?_;rintro e w3 ⟨rfl,b3⟩;have B3:=Hd (aA B0.out b3);have R3:=Hd (kc b3 R0.out);clear b3;obtain ⟨⟨d0,d1,d2,d3,d4,d5,d6⟩,-⟩:=aK R3.out) | (go_at_call 372;refine (N0.out _ HB.out).mono ?_;rintro e w0 ⟨rfl,b0⟩;have B0:=Hd (aA HB.out b0);have R0:=Hd (kc b0 NEW.out);clear b0;obtain ⟨⟨c0,c1,c2,c3,c4,c5,c6⟩,-⟩:=aK R0.out))
   go_ret
   exact ⟨rfl,B0.out⟩
  ·have t2 : (lo != 0) = true:=by simpa using h5
   go_enter Tryz.func370,Tryz.ntmps370
   go_wp2_with (first | (go_at_call 373;refine (N3.out _ B0.out (by trivial)).mono ?_;rintro e w3 ⟨rfl,b3⟩;have B3:=Hd (aA B0.out b3);have R3:=Hd (kc b3 R0.out);clear b3;obtain ⟨⟨d0,d1,d2,d3,d4,d5,d6⟩,-⟩:=aK R3.out) | (go_at_call 372;refine (N0.out _ HB.out).mono ?_;rintro e w0 ⟨rfl,b0⟩;have B0:=Hd (aA HB.out b0);have R0:=Hd (kc b0 NEW.out);clear b0;obtain ⟨⟨c0,c1,c2,c3,c4,c5,c6⟩,-⟩:=aK R0.out))
   go_ret
   exact ⟨rfl,B0.out⟩
 obtain ⟨rfl,rfl,rfl⟩:=hg
 rw [decide_eq_true (show (0 : Nat) = 0 ∧ (0 : Nat) = 0 ∧ (0 : Int) = 0 from ⟨rfl,rfl,rfl⟩)]
 cases od
 ·go_enter Tryz.func370,Tryz.ntmps370
  go_wp2_with (first | (go_at_call 373;refine (N3.out _ B0.out (by trivial)).mono ?_;rintro e w3 ⟨rfl,b3⟩;have B3:=Hd (aA B0.out b3);have R3:=Hd (kc b3 R0.out);clear b3;obtain ⟨⟨d0,d1,d2,d3,d4,d5,d6⟩,-⟩:=aK R3.out) | (go_at_call 372;refine (N0.out _ HB.out).mono ?_;rintro e w0 ⟨rfl,b0⟩;have B0:=Hd (aA HB.out b0);have R0:=Hd (kc b0 NEW.out);clear b0;obtain ⟨⟨c0,c1,c2,c3,c4,c5,c6⟩,-⟩:=aK R0.out))
  go_ret
  exact ⟨rfl,B3.out⟩
 obtain ⟨lim,hlim⟩ : ∃ lim : Int,(2 : Int) ^ rn = lim:=⟨_,rfl⟩
 have hw : IntKind.i64.wrap ((2 : Int) ^ rn) = lim:=by rw [eX k4,hlim]
 have rk64 : (rn : Int) ≤ 64:=by omega
 rw [hlim] at PQ
 have HA : Hid (aI fn (fun j=>dO (F.map Fa.name) j && frAt 4 R F lim j) = A):=by show _ = _;rw [← hA,L1.out,← L2.out,hlim]
 clear hA hlim
 go_enter Tryz.func370,Tryz.ntmps370
 go_wp2_with (first | (go_at_call 373;refine (N3.out _ B0.out (by trivial)).mono ?_;rintro e w3 ⟨rfl,b3⟩;have B3:=Hd (aA B0.out b3);have R3:=Hd (kc b3 R0.out);clear b3;obtain ⟨⟨d0,d1,d2,d3,d4,d5,d6⟩,-⟩:=aK R3.out) | (go_at_call 372;refine (N0.out _ HB.out).mono ?_;rintro e w0 ⟨rfl,b0⟩;have B0:=Hd (aA HB.out b0);have R0:=Hd (kc b0 NEW.out);clear b0;obtain ⟨⟨c0,c1,c2,c3,c4,c5,c6⟩,-⟩:=aK R0.out))
 go_loopw [56] (fun i wr=>∃ j : Nat,j ≤ fn ∧ i = .int .i64 j ∧ Hid (aI j (fun j=>dO (F.map Fa.name) j && frAt 4 R F lim j) = true ∧ Below w.heap.size w wr ∧ wr.heap[w.heap.size]? = some (mdR 4 rn ra rn rc 0 fa fn fc ga 0 gc ba 0 bc))) (fun i _=>fn - (intOf i).toNat)
 case atStart=>exact ⟨0,Nat.zero_le _,rfl,aN _,B3.out,R3.out⟩
 case round =>
  clear c0 c1 c2 c3 c4 c5 c6 d0 d1 d2 d3 d4 d5 d6 R3 B3 R0 B0 NEW HB
  obtain ⟨j,hj,rfl,hs⟩:=hrel
  by_cases hlt : j < fn
  ·obtain ⟨T,hT⟩:=aH (l:=F) (j:=j) (by rw [← L1.out];exact hlt)
   obtain ⟨b,off,rfl,p0,p1,p2⟩:=cL HX.out hT
   have hK:=aC hs.out.2.1
   have c0:=hK _ _ p0;have c1:=hK _ _ p1;have c2:=hK _ _ p2
   have FA:=Hd (dE (lim:=lim) hT)
   have PS:=Hd (lS (R:=R) hT)
   have RS:=Hd (iU hT)
   have TL:=HL.out T (List.mem_of_getElem? hT)
   have GET : Hid (∀ i y,F[i]? = some y → wr.cell? ⟨b,off + i * 3,none⟩ = some (str y.name)):=fun i y hy=>by
    obtain ⟨b',off',e,q0,-,-⟩:=cL HX.out hy
    cases e;exact hK _ _ q0
   obtain ⟨nm,ar,tr⟩:=T
   simp only [Fa.args,Fa.tru,Fa.name] at *
   obtain ⟨q,hq⟩ : ∃ q,aY nm = q:=⟨_,rfl⟩
   have HQ:=Hd hq
   have A1 : Hid (Below wr.heap.size wr (wr.alloc (.cells #[str nm,.int .i64 ar,.int .i64 tr] 102))):=bnew
   have B1 : Hid (Below w.heap.size w (wr.alloc (.cells #[str nm,.int .i64 ar,.int .i64 tr] 102))):=aA hs.out.2.1 A1.out
   have NEW1:=Hd (heap_alloc_new wr (.cells #[str nm,.int .i64 ar,.int .i64 tr] 102))
   have ROW1:=Hd (kc A1.out hs.out.2.2)
   obtain ⟨⟨e0,e1,e2⟩,-⟩:=bQ NEW1.out
   obtain ⟨⟨d0,d1,d2,d3,d4,d5,d6⟩,-⟩:=aK ROW1.out
   have m0:=cell_regrown e0;have m4:=cell_regrown d4
   have cP : Hid (∀ d os,Calls Tryz.prog 198 #[str nm] (grow (redrawn (wr.alloc (.cells #[str nm,.int .i64 ar,.int .i64 tr] 102)) d) os) fun e w''=>e = .returned (.bool q) ∧ ∃ p : Regrown,w'' = grow (redrawn (wr.alloc (.cells #[str nm,.int .i64 ar,.int .i64 tr] 102)) p.d) p.os):=fun d os=>by
    rw [← hq];exact Calls.regrown_of (fF nm _ TL)
   clear hT hK p0 p1 p2 hq e0 e1 e2 d0 d1 d2 d3 d4 d5 d6
   obtain ⟨rz,hrz⟩ : ∃ rz,dO (F.map Fa.name) j = rz:=⟨_,rfl⟩
   have HRZ:=Hd hrz
   have TAIL : Hid (rz = true → ∀ wq,Below w.heap.size w wq → wq.heap[w.heap.size]? = some (mdR 4 rn ra rn rc 0 (some ⟨b,off,none⟩) fn fc ga 0 gc ba 0 bc) → True):=fun _ _ _ _=>trivial
   clear TAIL
   cases j with
   | zero =>
    rw [Nat.zero_mul,Nat.add_zero] at c0 c1 c2
    have QZ : Hid (rz = q):=by show _ = _;rw [← hrz,cU RS.out,HQ.out]
    clear hrz
    cases q
    ·have RT : Hid (A = false):=by show _ = _;rw [← HA.out,aE hlt (by rw [HRZ.out,QZ.out];rfl)]
     go_wp2_with fail
     refine wqb ?_
     repeat (go_big_quiet_step ((first | (go_at_call 198;exact cP.out _ _))))
     refine wpQuiet_nil (qe fun wq Bwq=>?_)
     go_wp2_with fail
     go_ret
     exact ⟨by rw [RT.out];rfl,aA B1.out Bwq.out⟩
    ·have QZ : Hid (rz = true):=QZ.out
     go_wp2_with fail
     refine wqb ?_
     repeat (go_big_quiet_step ((first | (go_at_call 198;exact cP.out _ _))))
     refine wpQuiet_nil (qe fun wq Bwq=>?_)
     go_wp2_with fail
     have E2:=Hd (kc Bwq.out NEW1.out)
     have RW2:=Hd (kc Bwq.out ROW1.out)
     have BW2:=Hd (aA B1.out Bwq.out)
     obtain ⟨⟨y0,y1,y2⟩,-⟩:=bQ E2.out
     obtain ⟨⟨v0,v1,v2,v3,v4,v5,v6⟩,-⟩:=aK RW2.out
     have z1:=cell_regrown y1;have z2:=cell_regrown y2;have s1:=cell_regrown v1
     have CS : ar ≠ 0 ∨ (ar = 0 ∧ tr < 0) ∨ (ar = 0 ∧ 0 ≤ tr ∧ lim ≤ tr) ∨ (ar = 0 ∧ 0 ≤ tr ∧ tr < lim):=by omega
     rcases CS with h5 | ⟨rfl,h5⟩ | ⟨rfl,h5,h6⟩ | ⟨rfl,h5,h6⟩
     ·have RT : Hid (A = false):=by show _ = _;rw [← HA.out,aE hlt (by rw [HRZ.out,QZ.out];unfold frAt;rw [FA.out];simp;omega)]
      have g2 : (ar != 0) = true:=by simpa using h5
      refine wqb ?_
      repeat (go_big_quiet_step (fail))
      refine wpQuiet_nil (qe fun wz Bwz=>?_)
      go_wp2_with fail
      go_ret
      exact ⟨by rw [RT.out];rfl,aA BW2.out Bwz.out⟩
     ·have RT : Hid (A = false):=by show _ = _;rw [← HA.out,aE hlt (by rw [HRZ.out,QZ.out];unfold frAt;rw [FA.out];simp;omega)]
      have g2 : decide (tr < 0) = true:=decide_eq_true h5
      refine wqb ?_
      repeat (go_big_quiet_step (fail))
      refine wpQuiet_nil (qe fun wz Bwz=>?_)
      go_wp2_with fail
      go_ret
      exact ⟨by rw [RT.out];rfl,aA BW2.out Bwz.out⟩
     ·have RT : Hid (A = false):=by show _ = _;rw [← HA.out,aE hlt (by rw [HRZ.out,QZ.out];unfold frAt;rw [FA.out];simp;omega)]
      have g2 : decide (tr < 0) = false:=decide_eq_false (by omega)
      have g3 : decide (lim ≤ tr) = true:=decide_eq_true h6
      refine wqb ?_
      repeat (go_big_quiet_step (fail))
      refine wpQuiet_nil (qe fun wz Bwz=>?_)
      go_wp2_with fail
      go_ret
      exact ⟨by rw [RT.out];rfl,aA BW2.out Bwz.out⟩
     ·have g2 : decide (tr < 0) = false:=decide_eq_false (by omega)
      have g3 : decide (lim ≤ tr) = false:=decide_eq_false (by omega)
      refine wqb ?_
      repeat (go_big_quiet_step (fail))
      refine wpQuiet_nil (qe fun wz Bwz=>?_)
      have BW3:=Hd (aA BW2.out Bwz.out)
      have RW3:=Hd (kc Bwz.out RW2.out)
      have E3:=Hd (kc Bwz.out E2.out)
      obtain ⟨⟨u0,u1,u2⟩,-⟩:=bQ E3.out
      obtain ⟨⟨n0,n1,n2,n3,n4,n5,n6⟩,-⟩:=aK RW3.out
      have OK : Hid ((dO (F.map Fa.name) (0) && frAt 4 R F lim (0)) = true):=by show _ = _;rw [HRZ.out,QZ.out];unfold frAt;rw [FA.out];simp;omega
      go_wp2_with fail
      go_roundw
      case rel=>exact ⟨0 + 1,by omega,by go_num,aL hs.out.1 OK.out,BW3.out,RW3.out⟩
      case measure=>simp [intOf];omega
   | succ i =>
    obtain ⟨Y,hY⟩:=aH (l:=F) (j:=i) (by rw [← L1.out];omega)
    have RY:=Hd (iU hY)
    have n0:=cell_regrown (aC A1.out _ _ (GET.out i Y hY))
    obtain ⟨y,yar,ytr⟩:=Y
    simp only [Fa.name] at *
    obtain ⟨r,hr⟩ : ∃ r,Op.bytesLess y nm = r:=⟨_,rfl⟩
    have QZ : Hid (rz = (q && r)):=by show _ = _;rw [← hrz,bM RS.out RY.out,HQ.out,hr]
    have t0 : decide ((0 : Int) < (i : Int) + 1) = true:=decide_eq_true (by omega)
    have e0 : ((i : Int) + 1 - 1) = (i : Int):=by omega
    have t1 : Op.bytesLess (⟨y.toArray⟩ : ByteArray).toList (⟨nm.toArray⟩ : ByteArray).toList = r:=by simpa using hr
    clear hY hrz
    rcases (show q = false ∨ (q = true ∧ r = false) ∨ (q = true ∧ r = true) by cases q <;> cases r <;> simp) with rfl | ⟨rfl,rfl⟩ | ⟨rfl,rfl⟩
    ·have RT : Hid (A = false):=by show _ = _;rw [← HA.out,aE hlt (by rw [HRZ.out,QZ.out];rfl)]
     go_wp2_with fail
     refine wqb ?_
     repeat (go_big_quiet_step ((first | (go_at_call 198;exact cP.out _ _))))
     refine wpQuiet_nil (qe fun wq Bwq=>?_)
     go_wp2_with fail
     go_ret
     exact ⟨by rw [RT.out];rfl,aA B1.out Bwq.out⟩
    ·have RT : Hid (A = false):=by show _ = _;rw [← HA.out,aE hlt (by rw [HRZ.out,QZ.out];rfl)]
     go_wp2_with fail
     refine wqb ?_
     repeat (go_big_quiet_step ((first | (go_at_call 198;exact cP.out _ _))))
     refine wpQuiet_nil (qe fun wq Bwq=>?_)
     go_wp2_with fail
     go_ret
     exact ⟨by rw [RT.out];rfl,aA B1.out Bwq.out⟩
    ·have QZ : Hid (rz = true):=QZ.out
     go_wp2_with fail
     refine wqb ?_
     repeat (go_big_quiet_step ((first | (go_at_call 198;exact cP.out _ _))))
     refine wpQuiet_nil (qe fun wq Bwq=>?_)
     go_wp2_with fail
     have E2:=Hd (kc Bwq.out NEW1.out)
     have RW2:=Hd (kc Bwq.out ROW1.out)
     have BW2:=Hd (aA B1.out Bwq.out)
     obtain ⟨⟨y0,y1,y2⟩,-⟩:=bQ E2.out
     obtain ⟨⟨v0,v1,v2,v3,v4,v5,v6⟩,-⟩:=aK RW2.out
     have z1:=cell_regrown y1;have z2:=cell_regrown y2;have s1:=cell_regrown v1
     have CS : ar ≠ 0 ∨ (ar = 0 ∧ tr < 0) ∨ (ar = 0 ∧ 0 ≤ tr ∧ lim ≤ tr) ∨ (ar = 0 ∧ 0 ≤ tr ∧ tr < lim):=by omega
     rcases CS with h5 | ⟨rfl,h5⟩ | ⟨rfl,h5,h6⟩ | ⟨rfl,h5,h6⟩
     ·have RT : Hid (A = false):=by show _ = _;rw [← HA.out,aE hlt (by rw [HRZ.out,QZ.out];unfold frAt;rw [FA.out];simp;omega)]
      have g2 : (ar != 0) = true:=by simpa using h5
      refine wqb ?_
      repeat (go_big_quiet_step (fail))
      refine wpQuiet_nil (qe fun wz Bwz=>?_)
      go_wp2_with fail
      go_ret
      exact ⟨by rw [RT.out];rfl,aA BW2.out Bwz.out⟩
     ·have RT : Hid (A = false):=by show _ = _;rw [← HA.out,aE hlt (by rw [HRZ.out,QZ.out];unfold frAt;rw [FA.out];simp;omega)]
      have g2 : decide (tr < 0) = true:=decide_eq_true h5
      refine wqb ?_
      repeat (go_big_quiet_step (fail))
      refine wpQuiet_nil (qe fun wz Bwz=>?_)
      go_wp2_with fail
      go_ret
      exact ⟨by rw [RT.out];rfl,aA BW2.out Bwz.out⟩
     ·have RT : Hid (A = false):=by show _ = _;rw [← HA.out,aE hlt (by rw [HRZ.out,QZ.out];unfold frAt;rw [FA.out];simp;omega)]
      have g2 : decide (tr < 0) = false:=decide_eq_false (by omega)
      have g3 : decide (lim ≤ tr) = true:=decide_eq_true h6
      refine wqb ?_
      repeat (go_big_quiet_step (fail))
      refine wpQuiet_nil (qe fun wz Bwz=>?_)
      go_wp2_with fail
      go_ret
      exact ⟨by rw [RT.out];rfl,aA BW2.out Bwz.out⟩
     ·have g2 : decide (tr < 0) = false:=decide_eq_false (by omega)
      have g3 : decide (lim ≤ tr) = false:=decide_eq_false (by omega)
      refine wqb ?_
      repeat (go_big_quiet_step (fail))
      refine wpQuiet_nil (qe fun wz Bwz=>?_)
      have BW3:=Hd (aA BW2.out Bwz.out)
      have RW3:=Hd (kc Bwz.out RW2.out)
      have E3:=Hd (kc Bwz.out E2.out)
      obtain ⟨⟨u0,u1,u2⟩,-⟩:=bQ E3.out
      obtain ⟨⟨n0,n1,n2,n3,n4,n5,n6⟩,-⟩:=aK RW3.out
      have OK : Hid ((dO (F.map Fa.name) (i + 1) && frAt 4 R F lim (i + 1)) = true):=by show _ = _;rw [HRZ.out,QZ.out];unfold frAt;rw [FA.out];simp;omega
      go_wp2_with fail
      go_roundw
      case rel=>exact ⟨i + 1 + 1,by omega,by go_num,aL hs.out.1 OK.out,BW3.out,RW3.out⟩
      case measure=>simp [intOf];omega
  ·have e : j = fn:=by omega
   have RT : Hid (A = true):=by show _ = _;rw [← HA.out,← e];exact hs.out.1
   have BW:=Hd hs.out.2.1
   have g1 : decide ((j : Int) < (fn : Int)) = false:=by simp;omega
   clear hs
   go_wp2_with fail
   go_ret
   exact ⟨by rw [RT.out];rfl,BW.out⟩
theorem framesV4_c (F : List Fa) (hF : F.length ≤ 1000) (hl : ∀ x ∈ F,x.name.length ≤ 9223372036854775807) (z lo : Int) (R : List Int) (ra fa ga ba : Option Addr) (rn rc fn fc gn gc bn bc : Nat) (hgn : gn ≤ maxLen) (hbn : bn ≤ maxLen) (w : World) (hx : aM w 3 (fasV F) F.length (.slice fa fn fc)) (hr : aM w 1 (inV R) R.length (.slice ra rn rc)) :
  Calls Tryz.prog 369 #[.agg #[.int .u8 4],.agg #[.int .u8 4,.int .i64 z,.slice ra rn rc,.int .i64 lo,.slice fa fn fc,.slice ga gn gc,.slice ba bn bc],.int .u8 0] w (Rt (.bool (eC 4 F z lo R gn bn)) w):=by
 have K2:=gY w (.cells #[.int .u8 4] 304) (mdR 4 z ra rn rc lo fa fn fc ga gn gc ba bn bc)
 have V:=Hd (frameV4_c F hF hl z lo R ra fa ga ba rn rc fn fc gn gc bn bc hgn hbn _ (hx.keep K2) (hr.keep K2))
 have FT : Hid (∀ W,Below w.heap.size w W → Calls Tryz.prog 371 #[.slice ra rn rc,.int .u8 0] W (Rt (.bool (relB R)) W)):=fun W hW=>Fits_rel_c R ra rn rc W (hr.keep (aC hW))
 obtain ⟨q,hq⟩ : ∃ q,eC 4 F z lo R gn bn = q:=⟨_,rfl⟩
 have RB : Hid (q = true → relB R = true):=fun h=>by
  rw [h] at hq
  unfold eC at hq
  simp only [Bool.and_eq_true] at hq
  exact hq.2.1
 rw [hq] at V ⊢
 clear K2 hx hr hq
 cases q
 ·go_enter Tryz.func369,Tryz.ntmps369
  go_wp2_with fail
  refine V.out.mono ?_
  rintro e w1 ⟨rfl,b1⟩
  obtain ⟨hc1,hf1⟩:=fG b1
  have B1 : Hid (Below w.heap.size w w1):=eY b1
  clear b1
  go_wp2_with fail
  go_ret
  exact ⟨rfl,B1.out⟩
 ·rw [RB.out rfl] at FT
  go_enter Tryz.func369,Tryz.ntmps369
  go_wp2_with fail
  refine V.out.mono ?_
  rintro e w1 ⟨rfl,b1⟩
  obtain ⟨hc1,hf1⟩:=fG b1
  have B1 : Hid (Below w.heap.size w w1):=eY b1
  clear b1
  go_wp2_with (go_at_call 371;refine (FT.out _ B1.out).mono ?_;rintro e w2 ⟨rfl,b2⟩;have B2:=Hd (aA B1.out b2);clear b2)
  go_ret
  exact ⟨rfl,B2.out⟩
end Go.Proofs.YtcandidgaegghaaGreatDoor
