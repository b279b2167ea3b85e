/- slices.Equal at facts and their normal form, holds.valuations.valid. Conditions: at most a thousand facts; names fit into memory. -/
import Derived.Test.YtcandidgaegghaaGreatDoorCpZ
import Derived.Test.YtcandidgaegghaaGreatDoorNdAZ
import Derived.Test.YtcandidgaegghaaGreatDoorMdSBZ
set_option maxRecDepth 10000
set_option linter.unusedSimpArgs false
set_option linter.unusedVariables false
namespace Go.Proofs.YtcandidgaegghaaGreatDoor
open Go Go.RowKit Go.Sort Ly
set_option maxHeartbeats 4000000
theorem two_iff (t : Int) : t = t % 2 ↔ 0 ≤ t ∧ t < 2:=by omega
theorem norm_get {F : List Fa} {j : Nat} {f : Fa} (h : F[j]? = some f) : (jK F)[j]? = some ⟨f.name,0,f.tru % 2⟩:=by simp [jK,h]
theorem equalNorm_c (F : List Fa) (a b : Option Addr) (n c m d : Nat) (w : World) (hx : aM w 3 (fasV F) F.length (.slice a n c)) (hy : aM w 3 (fasV (jK F)) F.length (.slice b m d)) :
  Calls Tryz.prog 342 #[.slice a n c,.slice b m d] w (Rt (.bool (aI F.length (dK F 2))) w):=by
 have hk:=hx.len
 have hm : m = n:=by have:=hy.len.1;omega
 subst hm
 have L1:=Hd hk.1
 have HX:=Hd hx
 have HY : Hid (aM w 3 (fasV (jK F)) (jK F).length (.slice b m d)):=by have:=hy;rwa [show F.length = (jK F).length by simp [jK]] at this
 have k63 : m ≤ 9223372036854775807:=le63 (Nat.le_trans (Nat.le_of_eq hk.1) (Nat.le_trans hk.2.1 hk.2.2.1))
 obtain ⟨R,hR⟩ : ∃ R,aI F.length (dK F 2) = R:=⟨_,rfl⟩
 have HR : Hid (aI m (dK F 2) = R):=by show _ = _;rw [← hR,hk.1]
 rw [hR]
 clear hk hx hy hR
 go_enter Tryz.func342,Tryz.ntmps342
 go_wp2_with fail
 go_loopw [13] (fun i wr=>∃ j : Nat,j ≤ m ∧ i = .int .i64 j ∧ Hid (aI j (dK F 2) = true ∧ Below w.heap.size w wr)) (fun i _=>m - (intOf i).toNat)
 case atStart=>exact ⟨0,Nat.zero_le _,rfl,aN _,Below.refl _ _⟩
 case round =>
  obtain ⟨j,hj,rfl,hs⟩:=hrel
  by_cases hlt : j < m
  ·obtain ⟨T,hT⟩:=aH (l:=F) (j:=j) (by rw [← L1.out];exact hlt)
   obtain ⟨b1,o1,rfl,p0,p1,p2⟩:=cL HX.out hT
   obtain ⟨b2,o2,rfl,q0,q1,q2⟩:=cL HY.out (norm_get hT)
   have hK:=aC hs.out.2
   have c0:=cell_regrown (hK _ _ p0);have c1:=cell_regrown (hK _ _ p1);have c2:=cell_regrown (hK _ _ p2)
   have e0:=cell_regrown (hK _ _ q0);have e1:=cell_regrown (hK _ _ q1);have e2:=cell_regrown (hK _ _ q2)
   have FA:=Hd (dE (lim:=2) hT)
   obtain ⟨nm,ar,tr⟩:=T
   simp only [Fa.args,Fa.tru,Fa.name] at *
   have g1 : decide ((j : Int) < (m : Int)) = true:=by simp;omega
   obtain ⟨t2,ht2⟩ : ∃ t2,tr % 2 = t2:=⟨_,rfl⟩
   have TW:=Hd (two_iff tr)
   rw [ht2] at e2 TW
   clear hT hK p0 p1 p2 q0 q1 q2 ht2
   rcases (show ar ≠ 0 ∨ (ar = 0 ∧ tr ≠ t2) ∨ (ar = 0 ∧ tr = t2) by omega) with h5 | ⟨rfl,h5⟩ | ⟨rfl,h5⟩
   ·have RT : Hid (R = false):=by show _ = _;rw [← HR.out,aE hlt (by rw [FA.out];simp;omega)]
    have g2 : (ar == 0) = false:=by simpa using h5
    go_wp2_with fail
    refine wqb ?_
    repeat (go_big_quiet_step (fail))
    refine wpQuiet_nil (qe fun wq Bwq=>?_)
    go_wp2_with fail
    go_ret
    exact ⟨by rw [RT.out];rfl,aA hs.out.2 Bwq.out⟩
   ·have h6 : ¬ (0 ≤ tr ∧ tr < 2):=fun h=>h5 (TW.out.2 h)
    have RT : Hid (R = false):=by show _ = _;rw [← HR.out,aE hlt (by rw [FA.out];simp;omega)]
    have g2 : (tr == t2) = false:=by simpa using h5
    clear h6
    go_wp2_with fail
    refine wqb ?_
    repeat (go_big_quiet_step (fail))
    refine wpQuiet_nil (qe fun wq Bwq=>?_)
    go_wp2_with fail
    go_ret
    exact ⟨by rw [RT.out];rfl,aA hs.out.2 Bwq.out⟩
   ·have h6:=TW.out.1 h5
    have OK : Hid (dK F 2 j = true):=by show _ = _;rw [FA.out];simp;omega
    subst h5
    clear TW h6
    go_wp2_with fail
    refine wqb ?_
    repeat (go_big_quiet_step (fail))
    refine wpQuiet_nil (qe fun wq Bwq=>?_)
    go_wp2_with fail
    go_roundw
    case rel=>exact ⟨j + 1,by omega,by go_num,aL hs.out.1 OK.out,aA hs.out.2 Bwq.out⟩
    case measure=>simp [intOf];omega
  ·have e : j = m:=by omega
   have RT : Hid (R = true):=by show _ = _;rw [← HR.out,← e];exact hs.out.1
   have BW:=Hd hs.out.2
   have g1 : decide ((j : Int) < (m : Int)) = false:=by simp;omega
   clear hs e
   go_wp2_with fail
   go_ret
   exact ⟨by rw [RT.out];rfl,BW.out⟩
theorem valuationsValid_c (F : List Fa) (hF : F.length ≤ 1000) (hl : ∀ x ∈ F,x.name.length ≤ 9223372036854775807) (z lo : Int) (ra fa ga ba : Option Addr) (rn rc fn fc gn gc bn bc : Nat) (hrn : rn ≤ 1000) (hgn : gn ≤ 1000) (hbn : bn ≤ 1000) (w : World) (hx : aM w 3 (fasV F) F.length (.slice fa fn fc)) :
  Calls Tryz.prog 339 #[.agg #[],mdK 1 z ra rn rc lo fa fn fc ga gn gc ba bn bc,.int .u8 0] w (Rt (.bool (kF F z lo rn gn bn)) w):=by
 have HB : Hid (Below w.heap.size w ((w.alloc (.cells #[] 249)).alloc (mdR 1 z ra rn rc lo fa fn fc ga gn gc ba bn bc))):=bnew.alloc (by simp) _
 have MD : Hid (((w.alloc (.cells #[] 249)).alloc (mdR 1 z ra rn rc lo fa fn fc ga gn gc ba bn bc)).heap[w.heap.size + 1]? = some (mdR 1 z ra rn rc lo fa fn fc ga gn gc ba bn bc)):=by
  have:=heap_alloc_new (w.alloc (.cells #[] 249)) (mdR 1 z ra rn rc lo fa fn fc ga gn gc ba bn bc)
  rwa [World.size_alloc] at this
 have K2:=gY w (.cells #[] 249) (mdR 1 z ra rn rc lo fa fn fc ga gn gc ba bn bc)
 have L1:=Hd hx.len.1
 by_cases h12 : 12 < F.length
 ·have E : Hid (kF F z lo rn gn bn = false):=by show _ = _;unfold kF;rw [decide_eq_false (by omega)];simp
  have V:=Hd (valuation_no F h12 z lo ra fa ga ba rn rc fn fc gn gc bn bc _ (hx.keep K2))
  rw [E.out]
  clear E K2 hx h12 hl hF
  go_enter Tryz.func339,Tryz.ntmps339
  go_wp2_with fail
  refine V.out.mono ?_
  rintro e w1 ⟨rfl,b1⟩
  have B1:=Hd (aA HB.out b1)
  clear b1
  go_wp2_with fail
  go_ret
  exact ⟨rfl,B1.out⟩
 have h12 : F.length ≤ 12:=by omega
 have V:=Hd (valuation_c F h12 z lo ra fa ga ba rn rc fn fc gn gc bn bc _ (hx.keep K2))
 obtain ⟨q,hq⟩ : ∃ q,dP (F.map Fa.name) = q:=⟨_,rfl⟩
 obtain ⟨A,hA⟩ : ∃ A,aI F.length (dK F 2) = A:=⟨_,rfl⟩
 obtain ⟨D,hD⟩ : ∃ D,decide (z = 1 ∧ lo = 0 ∧ rn = 0 ∧ gn = 0 ∧ bn = 0 ∧ F.length ≤ 12) = D:=⟨_,rfl⟩
 have HD:=Hd hD
 have TB : kF F z lo rn gn bn = (A && (D && q)):=by unfold kF;rw [hA,hD,hq]
 rw [TB]
 have MN : Hid (q = false → ∀ W a n c v,aX W (F.map Fa.name) (.slice a n c) → Calls Tryz.prog 341 #[.slice a n c,.int .i64 v] W (Rt (.tuple #[.agg #[.int .u8 0,.int .i64 0,.slice none 0 0,.int .i64 0,.slice none 0 0,.slice none 0 0,.slice none 0 0],.int .i64 2]) W)):=fun h W a n c v hs =>
  truthModel_no (F.map Fa.name) (fun x hx=>by obtain ⟨f,hf,rfl⟩:=List.mem_map.1 hx;exact hl f hf) (by simpa using h12) (hq.trans h) v a n c W hs
 have MY : Hid (q = true → ∀ W a n c,aX W (F.map Fa.name) (.slice a n c) → Calls Tryz.prog 341 #[.slice a n c,.int .i64 (fH F fn)] W fun e w'=>∃ fa fc,e = .returned (.tuple #[.agg #[.int .u8 1,.int .i64 1,.slice none 0 0,.int .i64 0,.slice fa fn fc,.slice none 0 0,.slice none 0 0],.int .i64 0]) ∧ aM w' 3 (fasV (jK F)) F.length (.slice fa fn fc) ∧ Below W.heap.size W w'):=fun h W a n c hs=>by
  have en : n = fn:=by have:=hs.len.1;rw [List.length_map] at this;rw [this,L1.out]
  subst en
  have:=truthModel_c F h12 hl (hq.trans h) a n c W hs
  rw [L1.out] at this ⊢
  exact this
 have EQ : Hid (∀ W b m d,Below w.heap.size w W → aM W 3 (fasV (jK F)) F.length (.slice b m d) → Calls Tryz.prog 342 #[.slice fa fn fc,.slice b m d] W (Rt (.bool A) W)):=fun W b m d hW hy=>by
  rw [← hA];exact equalNorm_c F fa b fn fc m d W (hx.keep (aC hW)) hy
 clear K2 hx hl hF TB hq hA hD
 generalize fH F fn = v0 at *
 cases q
 ·replace MN:=Hd (MN.out rfl)
  clear MY
  go_enter Tryz.func339,Tryz.ntmps339
  go_wp2_with fail
  refine V.out.mono ?_
  rintro e w1 ⟨na,nn,nc,rfl,n1,b1⟩
  have B1:=Hd (aA HB.out b1)
  have N1:=Hd n1
  clear b1 n1
  go_wp2_with fail
  refine (MN.out _ _ _ _ _ N1.out).mono ?_
  rintro e w2 ⟨rfl,b2⟩
  have B2:=Hd (aA B1.out b2)
  clear b2
  go_wp2_with fail
  go_ret
  exact ⟨by simp,B2.out.alloc B2.out.size _⟩
 replace MY:=Hd (MY.out rfl)
 clear MN
 have DC : Hid (D = (decide (z = 1 ∧ lo = 0) && decide (rn = 0 ∧ gn = 0 ∧ bn = 0))):=by
  show _ = _
  rw [← HD.out,Bool.eq_iff_iff,Bool.and_eq_true,decide_eq_true_eq,decide_eq_true_eq,decide_eq_true_eq]
  exact ⟨fun h=>⟨⟨h.1,h.2.1⟩,h.2.2.1,h.2.2.2.1,h.2.2.2.2.1⟩,fun h=>⟨h.1.1,h.1.2,h.2.1,h.2.2.1,h.2.2.2,h12⟩⟩
 clear HD
 rcases (show z ≠ 1 ∨ (z = 1 ∧ lo ≠ 0) ∨ (z = 1 ∧ lo = 0) by omega) with h5 | ⟨rfl,h5⟩ | ⟨rfl,rfl⟩
 ·have t4 : (z != 1) = true:=by simpa using h5
  have DN : Hid (D = false):=by show _ = _;rw [DC.out,decide_eq_false (p:=z = 1 ∧ lo = 0) (by omega)];simp
  clear DC
  go_enter Tryz.func339,Tryz.ntmps339
  go_wp2_with fail
  refine V.out.mono ?_
  rintro e w1 ⟨na,nn,nc,rfl,n1,b1⟩
  have B1:=Hd (aA HB.out b1)
  have N1:=Hd n1
  have M1:=Hd (kc b1 MD.out)
  clear b1 n1
  go_wp2_with fail
  refine (MY.out _ _ _ _ N1.out).mono ?_
  rintro e w2 ⟨xa,xc,rfl,f2,b2⟩
  have B2:=Hd (aA B1.out b2)
  have M2:=Hd (kc b2 M1.out)
  have M3 : Hid ((w2.alloc (mdR 1 1 none 0 0 0 xa fn xc none 0 0 none 0 0)).heap[w.heap.size + 1]? = _):=kc bnew M2.out
  have N3:=Hd (heap_alloc_new w2 (mdR 1 1 none 0 0 0 xa fn xc none 0 0 none 0 0))
  have B3 : Hid (Below w.heap.size w (w2.alloc (mdR 1 1 none 0 0 0 xa fn xc none 0 0 none 0 0))):=B2.out.alloc B2.out.size _
  have F3:=Hd (f2.keep (aC ((Below.refl w2.heap.size w2).alloc (Nat.le_refl _) (mdR 1 1 none 0 0 0 xa fn xc none 0 0 none 0 0))))
  clear b2 f2
  obtain ⟨⟨c0,c1,c2,c3,c4,c5,c6⟩,-⟩:=aK M3.out
  obtain ⟨⟨d0,d1,d2,d3,d4,d5,d6⟩,-⟩:=aK N3.out
  go_wp2_with fail
  go_ret
  exact ⟨by rw [DN.out];simp,B3.out⟩
 ·have t4 : (lo != 0) = true:=by simpa using h5
  have DN : Hid (D = false):=by show _ = _;rw [DC.out,decide_eq_false (p:=(1 : Int) = 1 ∧ lo = 0) (by omega)];simp
  clear DC
  go_enter Tryz.func339,Tryz.ntmps339
  go_wp2_with fail
  refine V.out.mono ?_
  rintro e w1 ⟨na,nn,nc,rfl,n1,b1⟩
  have B1:=Hd (aA HB.out b1)
  have N1:=Hd n1
  have M1:=Hd (kc b1 MD.out)
  clear b1 n1
  go_wp2_with fail
  refine (MY.out _ _ _ _ N1.out).mono ?_
  rintro e w2 ⟨xa,xc,rfl,f2,b2⟩
  have B2:=Hd (aA B1.out b2)
  have M2:=Hd (kc b2 M1.out)
  have M3 : Hid ((w2.alloc (mdR 1 1 none 0 0 0 xa fn xc none 0 0 none 0 0)).heap[w.heap.size + 1]? = _):=kc bnew M2.out
  have N3:=Hd (heap_alloc_new w2 (mdR 1 1 none 0 0 0 xa fn xc none 0 0 none 0 0))
  have B3 : Hid (Below w.heap.size w (w2.alloc (mdR 1 1 none 0 0 0 xa fn xc none 0 0 none 0 0))):=B2.out.alloc B2.out.size _
  have F3:=Hd (f2.keep (aC ((Below.refl w2.heap.size w2).alloc (Nat.le_refl _) (mdR 1 1 none 0 0 0 xa fn xc none 0 0 none 0 0))))
  clear b2 f2
  obtain ⟨⟨c0,c1,c2,c3,c4,c5,c6⟩,-⟩:=aK M3.out
  obtain ⟨⟨d0,d1,d2,d3,d4,d5,d6⟩,-⟩:=aK N3.out
  go_wp2_with fail
  go_ret
  exact ⟨by rw [DN.out];simp,B3.out⟩
 ·cases A
  ·have t5 : True:=True.intro
   go_enter Tryz.func339,Tryz.ntmps339
   go_wp2_with fail
   refine V.out.mono ?_
   rintro e w1 ⟨na,nn,nc,rfl,n1,b1⟩
   have B1:=Hd (aA HB.out b1)
   have N1:=Hd n1
   have M1:=Hd (kc b1 MD.out)
   clear b1 n1
   go_wp2_with fail
   refine (MY.out _ _ _ _ N1.out).mono ?_
   rintro e w2 ⟨xa,xc,rfl,f2,b2⟩
   have B2:=Hd (aA B1.out b2)
   have M2:=Hd (kc b2 M1.out)
   have M3 : Hid ((w2.alloc (mdR 1 1 none 0 0 0 xa fn xc none 0 0 none 0 0)).heap[w.heap.size + 1]? = _):=kc bnew M2.out
   have N3:=Hd (heap_alloc_new w2 (mdR 1 1 none 0 0 0 xa fn xc none 0 0 none 0 0))
   have B3 : Hid (Below w.heap.size w (w2.alloc (mdR 1 1 none 0 0 0 xa fn xc none 0 0 none 0 0))):=B2.out.alloc B2.out.size _
   have F3:=Hd (f2.keep (aC ((Below.refl w2.heap.size w2).alloc (Nat.le_refl _) (mdR 1 1 none 0 0 0 xa fn xc none 0 0 none 0 0))))
   clear b2 f2
   obtain ⟨⟨c0,c1,c2,c3,c4,c5,c6⟩,-⟩:=aK M3.out
   obtain ⟨⟨d0,d1,d2,d3,d4,d5,d6⟩,-⟩:=aK N3.out
   go_wp2_with (go_at_call 342;refine (EQ.out _ _ _ _ B3.out F3.out).mono ?_;rintro e w4 ⟨rfl,b4⟩;have B4:=Hd (aA B3.out b4);have M4:=Hd (kc b4 M3.out);have N4:=Hd (kc b4 N3.out);clear b4;obtain ⟨⟨c0,c1,c2,c3,c4,c5,c6⟩,-⟩:=aK M4.out;obtain ⟨⟨d0,d1,d2,d3,d4,d5,d6⟩,-⟩:=aK N4.out)
   go_ret
   exact ⟨by rfl,B4.out⟩
  ·rcases (show 0 < rn ∨ (rn = 0 ∧ 0 < gn) ∨ (rn = 0 ∧ gn = 0 ∧ 0 < bn) ∨ (rn = 0 ∧ gn = 0 ∧ bn = 0) by omega) with h6 | ⟨rfl,h6⟩ | ⟨rfl,rfl,h6⟩ | ⟨rfl,rfl,rfl⟩
   ·have t5 : ((rn : Int) == 0) = false:=by simp;omega
    have DN : Hid (D = false):=by show _ = _;rw [DC.out,decide_eq_false (p:=rn = 0 ∧ gn = 0 ∧ bn = 0) (by omega)];simp
    clear DC
    go_enter Tryz.func339,Tryz.ntmps339
    go_wp2_with fail
    refine V.out.mono ?_
    rintro e w1 ⟨na,nn,nc,rfl,n1,b1⟩
    have B1:=Hd (aA HB.out b1)
    have N1:=Hd n1
    have M1:=Hd (kc b1 MD.out)
    clear b1 n1
    go_wp2_with fail
    refine (MY.out _ _ _ _ N1.out).mono ?_
    rintro e w2 ⟨xa,xc,rfl,f2,b2⟩
    have B2:=Hd (aA B1.out b2)
    have M2:=Hd (kc b2 M1.out)
    have M3 : Hid ((w2.alloc (mdR 1 1 none 0 0 0 xa fn xc none 0 0 none 0 0)).heap[w.heap.size + 1]? = _):=kc bnew M2.out
    have N3:=Hd (heap_alloc_new w2 (mdR 1 1 none 0 0 0 xa fn xc none 0 0 none 0 0))
    have B3 : Hid (Below w.heap.size w (w2.alloc (mdR 1 1 none 0 0 0 xa fn xc none 0 0 none 0 0))):=B2.out.alloc B2.out.size _
    have F3:=Hd (f2.keep (aC ((Below.refl w2.heap.size w2).alloc (Nat.le_refl _) (mdR 1 1 none 0 0 0 xa fn xc none 0 0 none 0 0))))
    clear b2 f2
    obtain ⟨⟨c0,c1,c2,c3,c4,c5,c6⟩,-⟩:=aK M3.out
    obtain ⟨⟨d0,d1,d2,d3,d4,d5,d6⟩,-⟩:=aK N3.out
    go_wp2_with (go_at_call 342;refine (EQ.out _ _ _ _ B3.out F3.out).mono ?_;rintro e w4 ⟨rfl,b4⟩;have B4:=Hd (aA B3.out b4);have M4:=Hd (kc b4 M3.out);have N4:=Hd (kc b4 N3.out);clear b4;obtain ⟨⟨c0,c1,c2,c3,c4,c5,c6⟩,-⟩:=aK M4.out;obtain ⟨⟨d0,d1,d2,d3,d4,d5,d6⟩,-⟩:=aK N4.out)
    go_ret
    exact ⟨by rw [DN.out];rfl,B4.out⟩
   ·have t5 : ((gn : Int) == 0) = false:=by simp;omega
    have DN : Hid (D = false):=by show _ = _;rw [DC.out,decide_eq_false (p:=(0 : Nat) = 0 ∧ gn = 0 ∧ bn = 0) (by omega)];simp
    clear DC
    go_enter Tryz.func339,Tryz.ntmps339
    go_wp2_with fail
    refine V.out.mono ?_
    rintro e w1 ⟨na,nn,nc,rfl,n1,b1⟩
    have B1:=Hd (aA HB.out b1)
    have N1:=Hd n1
    have M1:=Hd (kc b1 MD.out)
    clear b1 n1
    go_wp2_with fail
    refine (MY.out _ _ _ _ N1.out).mono ?_
    rintro e w2 ⟨xa,xc,rfl,f2,b2⟩
    have B2:=Hd (aA B1.out b2)
    have M2:=Hd (kc b2 M1.out)
    have M3 : Hid ((w2.alloc (mdR 1 1 none 0 0 0 xa fn xc none 0 0 none 0 0)).heap[w.heap.size + 1]? = _):=kc bnew M2.out
    have N3:=Hd (heap_alloc_new w2 (mdR 1 1 none 0 0 0 xa fn xc none 0 0 none 0 0))
    have B3 : Hid (Below w.heap.size w (w2.alloc (mdR 1 1 none 0 0 0 xa fn xc none 0 0 none 0 0))):=B2.out.alloc B2.out.size _
    have F3:=Hd (f2.keep (aC ((Below.refl w2.heap.size w2).alloc (Nat.le_refl _) (mdR 1 1 none 0 0 0 xa fn xc none 0 0 none 0 0))))
    clear b2 f2
    obtain ⟨⟨c0,c1,c2,c3,c4,c5,c6⟩,-⟩:=aK M3.out
    obtain ⟨⟨d0,d1,d2,d3,d4,d5,d6⟩,-⟩:=aK N3.out
    go_wp2_with (go_at_call 342;refine (EQ.out _ _ _ _ B3.out F3.out).mono ?_;rintro e w4 ⟨rfl,b4⟩;have B4:=Hd (aA B3.out b4);have M4:=Hd (kc b4 M3.out);have N4:=Hd (kc b4 N3.out);clear b4;obtain ⟨⟨c0,c1,c2,c3,c4,c5,c6⟩,-⟩:=aK M4.out;obtain ⟨⟨d0,d1,d2,d3,d4,d5,d6⟩,-⟩:=aK N4.out)
    go_ret
    exact ⟨by rw [DN.out];rfl,B4.out⟩
   ·have t5 : ((bn : Int) == 0) = false:=by simp;omega
    have DN : Hid (D = false):=by show _ = _;rw [DC.out,decide_eq_false (p:=(0 : Nat) = 0 ∧ (0 : Nat) = 0 ∧ bn = 0) (by omega)];simp
    clear DC
    go_enter Tryz.func339,Tryz.ntmps339
    go_wp2_with fail
    refine V.out.mono ?_
    rintro e w1 ⟨na,nn,nc,rfl,n1,b1⟩
    have B1:=Hd (aA HB.out b1)
    have N1:=Hd n1
    have M1:=Hd (kc b1 MD.out)
    clear b1 n1
    go_wp2_with fail
    refine (MY.out _ _ _ _ N1.out).mono ?_
    rintro e w2 ⟨xa,xc,rfl,f2,b2⟩
    have B2:=Hd (aA B1.out b2)
    have M2:=Hd (kc b2 M1.out)
    have M3 : Hid ((w2.alloc (mdR 1 1 none 0 0 0 xa fn xc none 0 0 none 0 0)).heap[w.heap.size + 1]? = _):=kc bnew M2.out
    have N3:=Hd (heap_alloc_new w2 (mdR 1 1 none 0 0 0 xa fn xc none 0 0 none 0 0))
    have B3 : Hid (Below w.heap.size w (w2.alloc (mdR 1 1 none 0 0 0 xa fn xc none 0 0 none 0 0))):=B2.out.alloc B2.out.size _
    have F3:=Hd (f2.keep (aC ((Below.refl w2.heap.size w2).alloc (Nat.le_refl _) (mdR 1 1 none 0 0 0 xa fn xc none 0 0 none 0 0))))
    clear b2 f2
    obtain ⟨⟨c0,c1,c2,c3,c4,c5,c6⟩,-⟩:=aK M3.out
    obtain ⟨⟨d0,d1,d2,d3,d4,d5,d6⟩,-⟩:=aK N3.out
    go_wp2_with (go_at_call 342;refine (EQ.out _ _ _ _ B3.out F3.out).mono ?_;rintro e w4 ⟨rfl,b4⟩;have B4:=Hd (aA B3.out b4);have M4:=Hd (kc b4 M3.out);have N4:=Hd (kc b4 N3.out);clear b4;obtain ⟨⟨c0,c1,c2,c3,c4,c5,c6⟩,-⟩:=aK M4.out;obtain ⟨⟨d0,d1,d2,d3,d4,d5,d6⟩,-⟩:=aK N4.out)
    go_ret
    exact ⟨by rw [DN.out];rfl,B4.out⟩
   ·have DN : Hid (D = true):=by show _ = _;rw [DC.out];rfl
    clear DC
    go_enter Tryz.func339,Tryz.ntmps339
    go_wp2_with fail
    refine V.out.mono ?_
    rintro e w1 ⟨na,nn,nc,rfl,n1,b1⟩
    have B1:=Hd (aA HB.out b1)
    have N1:=Hd n1
    have M1:=Hd (kc b1 MD.out)
    clear b1 n1
    go_wp2_with fail
    refine (MY.out _ _ _ _ N1.out).mono ?_
    rintro e w2 ⟨xa,xc,rfl,f2,b2⟩
    have B2:=Hd (aA B1.out b2)
    have M2:=Hd (kc b2 M1.out)
    have M3 : Hid ((w2.alloc (mdR 1 1 none 0 0 0 xa fn xc none 0 0 none 0 0)).heap[w.heap.size + 1]? = _):=kc bnew M2.out
    have N3:=Hd (heap_alloc_new w2 (mdR 1 1 none 0 0 0 xa fn xc none 0 0 none 0 0))
    have B3 : Hid (Below w.heap.size w (w2.alloc (mdR 1 1 none 0 0 0 xa fn xc none 0 0 none 0 0))):=B2.out.alloc B2.out.size _
    have F3:=Hd (f2.keep (aC ((Below.refl w2.heap.size w2).alloc (Nat.le_refl _) (mdR 1 1 none 0 0 0 xa fn xc none 0 0 none 0 0))))
    clear b2 f2
    obtain ⟨⟨c0,c1,c2,c3,c4,c5,c6⟩,-⟩:=aK M3.out
    obtain ⟨⟨d0,d1,d2,d3,d4,d5,d6⟩,-⟩:=aK N3.out
    go_wp2_with (go_at_call 342;refine (EQ.out _ _ _ _ B3.out F3.out).mono ?_;rintro e w4 ⟨rfl,b4⟩;have B4:=Hd (aA B3.out b4);have M4:=Hd (kc b4 M3.out);have N4:=Hd (kc b4 N3.out);clear b4;obtain ⟨⟨c0,c1,c2,c3,c4,c5,c6⟩,-⟩:=aK M4.out;obtain ⟨⟨d0,d1,d2,d3,d4,d5,d6⟩,-⟩:=aK N4.out)
    go_ret
    exact ⟨by rw [DN.out];rfl,B4.out⟩
open Go Go.RowKit Go.Sort Ly
set_option maxHeartbeats 8000000
theorem sigSound_c (F : List Fa) (G : List Fu) (B : List Bi) (nF : ∀ x ∈ F,x.name.length ≤ 9223372036854775807) (nG : ∀ x ∈ G,x.name.length ≤ 9223372036854775807) (nB : ∀ x ∈ B,x.name.length ≤ 9223372036854775807) (pa qa va : Option Addr) (pn pc qn qc vn vc : Nat) (w : World) (h : mE F G B (.slice pa pn pc) (.slice qa qn qc) (.slice va vn vc) w) :
  Calls Tryz.prog 222 #[.agg #[.slice pa pn pc,.slice qa qn qc,.slice va vn vc]] w (Rt (.bool (sigB (symF F) (symG G) (B.map Bi.name))) w):=by
 have lF : (symF F).length = F.length:=by simp [symF]
 have lG : (symG G).length = G.length:=by simp [symG]
 have lB : (B.map Bi.name).length = B.length:=by simp
 have L1 : Hid (pn = (symF F).length):=by have:=h.1.len.1;show _ = _;omega
 have L2 : Hid (qn = (symG G).length):=by have:=h.2.1.len.1;show _ = _;omega
 have L3 : Hid (vn = (B.map Bi.name).length):=by have:=h.2.2.len.1;show _ = _;omega
 have pk : pn ≤ 9223372036854775807:=le63 (Nat.le_trans (Nat.le_of_eq h.1.len.1) (Nat.le_trans h.1.len.2.1 h.1.len.2.2.1))
 have qk : qn ≤ 9223372036854775807:=le63 (Nat.le_trans (Nat.le_of_eq h.2.1.len.1) (Nat.le_trans h.2.1.len.2.1 h.2.1.len.2.2.1))
 have vk : vn ≤ 9223372036854775807:=le63 (Nat.le_trans (Nat.le_of_eq h.2.2.len.1) (Nat.le_trans h.2.2.len.2.1 h.2.2.len.2.2.1))
 have HP : Hid (aM w 2 (bisV (symF F)) (symF F).length (.slice pa pn pc)):=by have:=h.1;rwa [← lF] at this
 have HQ0 : Hid (aM w 2 (bisV (symG G)) (symG G).length (.slice qa qn qc)):=by have:=h.2.1;rwa [← lG] at this
 have HV : Hid (aX w (B.map Bi.name) (.slice va vn vc)):=tM h.2.2 lB.symm
 have NF : Hid (∀ x ∈ symF F,x.name.length ≤ 9223372036854775807):=fun x hx=>by obtain ⟨f,hf,rfl⟩:=List.mem_map.1 hx;exact nF f hf
 have NG : Hid (∀ x ∈ symG G,x.name.length ≤ 9223372036854775807):=fun x hx=>by obtain ⟨f,hf,rfl⟩:=List.mem_map.1 hx;exact nG f hf
 have NV : Hid (∀ x ∈ B.map Bi.name,x.length ≤ 9223372036854775807):=fun x hx=>by obtain ⟨f,hf,rfl⟩:=List.mem_map.1 hx;exact nB f hf
 have HB0 : Hid (Below w.heap.size w (w.alloc (.cells #[.slice pa pn pc,.slice qa qn qc,.slice va vn vc] 257))):=bnew
 have NEW:=Hd (heap_alloc_new w (.cells #[.slice pa pn pc,.slice qa qn qc,.slice va vn vc] 257))
 obtain ⟨A1,h1⟩ : ∃ s,aI (symF F).length (dI aY 2 (symF F)) = s:=⟨_,rfl⟩
 obtain ⟨A2,h2⟩ : ∃ s,aI (symG G).length (dI bZ 1 (symG G)) = s:=⟨_,rfl⟩
 obtain ⟨A3,h3⟩ : ∃ s,aI (B.map Bi.name).length (fL bR (B.map Bi.name)) = s:=⟨_,rfl⟩
 have HA1 : Hid (aI pn (dI aY 2 (symF F)) = A1):=by show _ = _;rw [← h1,L1.out]
 have HA2 : Hid (aI qn (dI bZ 1 (symG G)) = A2):=by show _ = _;rw [← h2,L2.out]
 have HA3 : Hid (aI vn (fL bR (B.map Bi.name)) = A3):=by show _ = _;rw [← h3,L3.out]
 have TB : sigB (symF F) (symG G) (B.map Bi.name) = (A1 && (A2 && A3)):=by unfold sigB;rw [h1,h2,h3]
 rw [TB]
 clear TB h1 h2 h3 h nF nG nB lF lG lB
 generalize B.map Bi.name = Vs at *
 go_enter Tryz.func222,Tryz.ntmps222
 go_wp2_with fail
 go_loopw [3] (fun i wr=>∃ j : Nat,j ≤ pn ∧ i = .int .i64 j ∧ Hid (aI j (dI aY 2 (symF F)) = true ∧ Below w.heap.size w wr ∧ wr.heap[w.heap.size]? = some (.cells #[.slice pa pn pc,.slice qa qn qc,.slice va vn vc] 257 (0,0)))) (fun i _=>pn - (intOf i).toNat)
 case atStart=>exact ⟨0,Nat.zero_le _,rfl,aN _,HB0.out,NEW.out⟩
 case round =>
  obtain ⟨j,hj,rfl,hs⟩:=hrel
  obtain ⟨x0,x1,x2,-⟩:=eN hs.out.2.2
  by_cases hlt : j < pn
  ·obtain ⟨T,hT⟩:=aH (l:=(symF F)) (j:=j) (by rw [← L1.out];exact hlt)
   obtain ⟨b,off,rfl,p0,p1⟩:=gE HP.out hT
   have hK:=aC hs.out.2.1
   have c0:=hK _ _ p0;have c1:=hK _ _ p1
   have TL:=NF.out T (List.mem_of_getElem? hT)
   have GET : Hid (∀ i y,(symF F)[i]? = some y → wr.cell? ⟨b,off + i * 2,none⟩ = some (str y.name) ∧ wr.cell? ⟨b,off + i * 2 + 1,none⟩ = some (.int .i64 y.at_)):=fun i y hy=>by
    obtain ⟨b',off',e,q0,q1⟩:=gE HP.out hy
    cases e;exact ⟨hK _ _ q0,hK _ _ q1⟩
   have HT:=Hd hT
   have SC:=Hd (fun y W=>zC y T W)
   obtain ⟨nm,ar⟩:=T
   simp only [Bi.at_,Bi.name] at *
   obtain ⟨q,hq⟩ : ∃ q,aY nm = q:=⟨_,rfl⟩
   have HQ:=Hd hq
   have A0 : Hid (Below wr.heap.size wr (wr.alloc (.cells #[str nm,.int .i64 ar] 308))):=bnew
   have B1 : Hid (Below w.heap.size w (wr.alloc (.cells #[str nm,.int .i64 ar] 308))):=aA hs.out.2.1 A0.out
   have NEW1:=Hd (heap_alloc_new wr (.cells #[str nm,.int .i64 ar] 308))
   have ROW1:=Hd (kc A0.out hs.out.2.2)
   obtain ⟨e0,e1⟩:=nC NEW1.out
   obtain ⟨d0,d1,d2,-⟩:=eN ROW1.out
   have m0:=cell_regrown e0;have m1:=cell_regrown e1;have y0:=cell_regrown d0
   have cP : Hid (∀ d os,Calls Tryz.prog 216 #[str nm] (grow (redrawn (wr.alloc (.cells #[str nm,.int .i64 ar] 308)) d) os) fun e w''=>e = .returned (.bool q) ∧ ∃ p : Regrown,w'' = grow (redrawn (wr.alloc (.cells #[str nm,.int .i64 ar] 308)) p.d) p.os):=fun d os=>by
    rw [← hq];exact Calls.regrown_of ((jL nm _ TL).mono fun e w' h=>⟨h.1,by rw [← h.2];exact Below.refl _ _⟩)
   have g1 : decide ((j : Int) < (pn : Int)) = true:=by simp;omega
   have RTN : Hid (dI aY 2 (symF F) j = false → A1 = false):=fun h=>by rw [← HA1.out];exact aE hlt h
   clear hT hK p0 p1 hq e0 e1 d0 d1 d2
   have SA : Hid (∃ s,dI aY 2 (symF F) j = ((q && (decide (0 ≤ ar) && decide (ar ≤ 2))) && s) ∧ (j = 0 → s = true)):=by
    cases j with
    | zero=>exact ⟨true,by rw [iW HT.out,HQ.out];simp,fun _=>rfl⟩
    | succ i =>
     obtain ⟨Y,hY⟩:=aH (l:=(symF F)) (j:=i) (by rw [← L1.out];omega)
     exact ⟨_,by rw [iV HT.out hY,HQ.out],fun h=>by omega⟩
   rcases (show q = false ∨ (q = true ∧ ar < 0) ∨ (q = true ∧ 0 ≤ ar ∧ 2 < ar) ∨ (q = true ∧ 0 ≤ ar ∧ ar ≤ 2) by cases q <;> simp <;> omega) with rfl | ⟨rfl,h5⟩ | ⟨rfl,h5,h6⟩ | ⟨rfl,h5,h6⟩
   ·have RT : Hid (A1 = false):=RTN.out (by obtain ⟨s,h,-⟩:=SA.out;rw [h];rfl)
    go_wp2_with fail
    refine wqb ?_
    repeat (go_big_quiet_step ((go_at_call 216;exact cP.out _ _)))
    refine wpQuiet_nil (qe fun wq Bwq=>?_)
    go_wp2_with fail
    go_ret
    exact ⟨by rw [RT.out];rfl,aA B1.out Bwq.out⟩
   ·have g2 : decide (ar < 0) = true:=decide_eq_true h5
    have RT : Hid (A1 = false):=RTN.out (by obtain ⟨s,h,-⟩:=SA.out;rw [h,decide_eq_false (by omega)];rfl)
    go_wp2_with fail
    refine wqb ?_
    repeat (go_big_quiet_step ((go_at_call 216;exact cP.out _ _)))
    refine wpQuiet_nil (qe fun wq Bwq=>?_)
    go_wp2_with fail
    go_ret
    exact ⟨by rw [RT.out];rfl,aA B1.out Bwq.out⟩
   ·have g2 : decide (ar < 0) = false:=decide_eq_false (by omega)
    have g3 : decide (2 < ar) = true:=decide_eq_true h6
    have RT : Hid (A1 = false):=RTN.out (by obtain ⟨s,h,-⟩:=SA.out;rw [h,decide_eq_false (p:=ar ≤ 2) (by omega)];simp)
    go_wp2_with fail
    refine wqb ?_
    repeat (go_big_quiet_step ((go_at_call 216;exact cP.out _ _)))
    refine wpQuiet_nil (qe fun wq Bwq=>?_)
    go_wp2_with fail
    go_ret
    exact ⟨by rw [RT.out];rfl,aA B1.out Bwq.out⟩
   ·have g2 : decide (ar < 0) = false:=decide_eq_false (by omega)
    have g3 : decide (2 < ar) = false:=decide_eq_false (by omega)
    have YES : Hid ((decide (0 ≤ ar) && decide (ar ≤ 2)) = true):=by show _ = _;rw [decide_eq_true h5,decide_eq_true h6];rfl
    cases j with
    | zero =>
     rw [Nat.zero_mul,Nat.add_zero] at c0 c1
     have QZ : Hid (dI aY 2 (symF F) 0 = true):=by show _ = _;rw [iW HT.out,HQ.out];exact YES.out
     go_wp2_with fail
     refine wqb ?_
     repeat (go_big_quiet_step ((go_at_call 216;exact cP.out _ _)))
     refine wpQuiet_nil (qe fun wq Bwq=>?_)
     go_wp2_with fail
     go_roundw
     case rel=>exact ⟨0 + 1,by omega,by go_num,aL hs.out.1 QZ.out,aA B1.out Bwq.out,kc Bwq.out ROW1.out⟩
     case measure=>simp [intOf];omega
    | succ i =>
     obtain ⟨Y,hY⟩:=aH (l:=(symF F)) (j:=i) (by rw [← L1.out];omega)
     obtain ⟨f0,f1⟩:=GET.out i Y hY
     have n0:=cell_regrown (aC A0.out _ _ f0)
     have n1:=cell_regrown (aC A0.out _ _ f1)
     obtain ⟨r,hr⟩ : ∃ r,iN Y ⟨nm,ar⟩ = r:=⟨_,rfl⟩
     have cC : Hid (∀ d os,Calls Tryz.prog 280 #[.agg #[str Y.name,.int .i64 Y.at_],.agg #[str nm,.int .i64 ar]] (grow (redrawn (wr.alloc (.cells #[str nm,.int .i64 ar] 308)) d) os) fun e w''=>e = .returned (.bool r) ∧ ∃ p : Regrown,w'' = grow (redrawn (wr.alloc (.cells #[str nm,.int .i64 ar] 308)) p.d) p.os):=fun d os=>by
      rw [← hr];exact Calls.regrown_of (SC.out Y _)
     have QZ : Hid (dI aY 2 (symF F) (i + 1) = r):=by show _ = _;rw [iV HT.out hY,HQ.out,hr,show (decide (0 ≤ ar) && decide (ar ≤ 2)) = true from YES.out];simp
     have t0 : decide ((0 : Int) < (i : Int) + 1) = true:=decide_eq_true (by omega)
     have e0 : ((i : Int) + 1 - 1) = (i : Int):=by omega
     obtain ⟨y,yar⟩:=Y
     simp only [Bi.at_,Bi.name] at *
     clear hY hr f0 f1 SC SA
     cases r
     ·have RT : Hid (A1 = false):=RTN.out QZ.out
      go_wp2_with fail
      refine wqb ?_
      repeat (go_big_quiet_step ((first | (go_at_call 216;exact cP.out _ _) | (go_at_call 280;exact cC.out _ _))))
      refine wpQuiet_nil (qe fun wq Bwq=>?_)
      go_wp2_with fail
      go_ret
      exact ⟨by rw [RT.out];rfl,aA B1.out Bwq.out⟩
     ·go_wp2_with fail
      refine wqb ?_
      repeat (go_big_quiet_step ((first | (go_at_call 216;exact cP.out _ _) | (go_at_call 280;exact cC.out _ _))))
      refine wpQuiet_nil (qe fun wq Bwq=>?_)
      go_wp2_with fail
      go_roundw
      case rel=>exact ⟨i + 1 + 1,by omega,by go_num,aL hs.out.1 QZ.out,aA B1.out Bwq.out,kc Bwq.out ROW1.out⟩
      case measure=>simp [intOf];omega
  ·have e : j = pn:=by omega
   have RT1 : Hid (A1 = true):=by show _ = _;rw [← HA1.out,← e];exact hs.out.1
   have BW1:=Hd hs.out.2.1
   have RW1:=Hd hs.out.2.2
   have g1 : decide ((j : Int) < (pn : Int)) = false:=by simp;omega
   clear hs e
   go_wp2_with fail
   go_loopw [5] (fun i wr=>∃ j : Nat,j ≤ qn ∧ i = .int .i64 j ∧ Hid (aI j (dI bZ 1 (symG G)) = true ∧ Below w.heap.size w wr ∧ wr.heap[w.heap.size]? = some (.cells #[.slice pa pn pc,.slice qa qn qc,.slice va vn vc] 257 (0,0)))) (fun i _=>qn - (intOf i).toNat)
   case atStart=>exact ⟨0,Nat.zero_le _,rfl,aN _,BW1.out,RW1.out⟩
   case round =>
    obtain ⟨j,hj,rfl,hs⟩:=hrel
    obtain ⟨x0,x1,x2,-⟩:=eN hs.out.2.2
    by_cases hlt : j < qn
    ·obtain ⟨T,hT⟩:=aH (l:=(symG G)) (j:=j) (by rw [← L2.out];exact hlt)
     obtain ⟨b,off,rfl,p0,p1⟩:=gE HQ0.out hT
     have hK:=aC hs.out.2.1
     have c0:=hK _ _ p0;have c1:=hK _ _ p1
     have TL:=NG.out T (List.mem_of_getElem? hT)
     have GET : Hid (∀ i y,(symG G)[i]? = some y → wr.cell? ⟨b,off + i * 2,none⟩ = some (str y.name) ∧ wr.cell? ⟨b,off + i * 2 + 1,none⟩ = some (.int .i64 y.at_)):=fun i y hy=>by
      obtain ⟨b',off',e,q0,q1⟩:=gE HQ0.out hy
      cases e;exact ⟨hK _ _ q0,hK _ _ q1⟩
     have HT:=Hd hT
     have SC:=Hd (fun y W=>zC y T W)
     obtain ⟨nm,ar⟩:=T
     simp only [Bi.at_,Bi.name] at *
     obtain ⟨q,hq⟩ : ∃ q,bZ nm = q:=⟨_,rfl⟩
     have HQ:=Hd hq
     have A0 : Hid (Below wr.heap.size wr (wr.alloc (.cells #[str nm,.int .i64 ar] 308))):=bnew
     have B1 : Hid (Below w.heap.size w (wr.alloc (.cells #[str nm,.int .i64 ar] 308))):=aA hs.out.2.1 A0.out
     have NEW1:=Hd (heap_alloc_new wr (.cells #[str nm,.int .i64 ar] 308))
     have ROW1:=Hd (kc A0.out hs.out.2.2)
     obtain ⟨e0,e1⟩:=nC NEW1.out
     obtain ⟨d0,d1,d2,-⟩:=eN ROW1.out
     have m0:=cell_regrown e0;have m1:=cell_regrown e1;have y0:=cell_regrown d1
     have cP : Hid (∀ d os,Calls Tryz.prog 215 #[str nm] (grow (redrawn (wr.alloc (.cells #[str nm,.int .i64 ar] 308)) d) os) fun e w''=>e = .returned (.bool q) ∧ ∃ p : Regrown,w'' = grow (redrawn (wr.alloc (.cells #[str nm,.int .i64 ar] 308)) p.d) p.os):=fun d os=>by
      rw [← hq];exact Calls.regrown_of ((Function2_c nm _ TL).mono fun e w' h=>⟨h.1,by rw [← h.2];exact Below.refl _ _⟩)
     have g1 : decide ((j : Int) < (qn : Int)) = true:=by simp;omega
     have RTN : Hid (dI bZ 1 (symG G) j = false → A2 = false):=fun h=>by rw [← HA2.out];exact aE hlt h
     clear hT hK p0 p1 hq e0 e1 d0 d1 d2
     have SA : Hid (∃ s,dI bZ 1 (symG G) j = ((q && (decide (0 ≤ ar) && decide (ar ≤ 1))) && s) ∧ (j = 0 → s = true)):=by
      cases j with
      | zero=>exact ⟨true,by rw [iW HT.out,HQ.out];simp,fun _=>rfl⟩
      | succ i =>
       obtain ⟨Y,hY⟩:=aH (l:=(symG G)) (j:=i) (by rw [← L2.out];omega)
       exact ⟨_,by rw [iV HT.out hY,HQ.out],fun h=>by omega⟩
     rcases (show q = false ∨ (q = true ∧ ar < 0) ∨ (q = true ∧ 0 ≤ ar ∧ 1 < ar) ∨ (q = true ∧ 0 ≤ ar ∧ ar ≤ 1) by cases q <;> simp <;> omega) with rfl | ⟨rfl,h5⟩ | ⟨rfl,h5,h6⟩ | ⟨rfl,h5,h6⟩
     ·have RT : Hid (A2 = false):=RTN.out (by obtain ⟨s,h,-⟩:=SA.out;rw [h];rfl)
      go_wp2_with fail
      refine wqb ?_
      repeat (go_big_quiet_step ((go_at_call 215;exact cP.out _ _)))
      refine wpQuiet_nil (qe fun wq Bwq=>?_)
      go_wp2_with fail
      go_ret
      exact ⟨by rw [RT.out,RT1.out];rfl,aA B1.out Bwq.out⟩
     ·have g2 : decide (ar < 0) = true:=decide_eq_true h5
      have RT : Hid (A2 = false):=RTN.out (by obtain ⟨s,h,-⟩:=SA.out;rw [h,decide_eq_false (by omega)];rfl)
      go_wp2_with fail
      refine wqb ?_
      repeat (go_big_quiet_step ((go_at_call 215;exact cP.out _ _)))
      refine wpQuiet_nil (qe fun wq Bwq=>?_)
      go_wp2_with fail
      go_ret
      exact ⟨by rw [RT.out,RT1.out];rfl,aA B1.out Bwq.out⟩
     ·have g2 : decide (ar < 0) = false:=decide_eq_false (by omega)
      have g3 : decide (1 < ar) = true:=decide_eq_true h6
      have RT : Hid (A2 = false):=RTN.out (by obtain ⟨s,h,-⟩:=SA.out;rw [h,decide_eq_false (p:=ar ≤ 1) (by omega)];simp)
      go_wp2_with fail
      refine wqb ?_
      repeat (go_big_quiet_step ((go_at_call 215;exact cP.out _ _)))
      refine wpQuiet_nil (qe fun wq Bwq=>?_)
      go_wp2_with fail
      go_ret
      exact ⟨by rw [RT.out,RT1.out];rfl,aA B1.out Bwq.out⟩
     ·have g2 : decide (ar < 0) = false:=decide_eq_false (by omega)
      have g3 : decide (1 < ar) = false:=decide_eq_false (by omega)
      have YES : Hid ((decide (0 ≤ ar) && decide (ar ≤ 1)) = true):=by show _ = _;rw [decide_eq_true h5,decide_eq_true h6];rfl
      cases j with
      | zero =>
       rw [Nat.zero_mul,Nat.add_zero] at c0 c1
       have QZ : Hid (dI bZ 1 (symG G) 0 = true):=by show _ = _;rw [iW HT.out,HQ.out];exact YES.out
       go_wp2_with fail
       refine wqb ?_
       repeat (go_big_quiet_step ((go_at_call 215;exact cP.out _ _)))
       refine wpQuiet_nil (qe fun wq Bwq=>?_)
       go_wp2_with fail
       go_roundw
       case rel=>exact ⟨0 + 1,by omega,by go_num,aL hs.out.1 QZ.out,aA B1.out Bwq.out,kc Bwq.out ROW1.out⟩
       case measure=>simp [intOf];omega
      | succ i =>
       obtain ⟨Y,hY⟩:=aH (l:=(symG G)) (j:=i) (by rw [← L2.out];omega)
       obtain ⟨f0,f1⟩:=GET.out i Y hY
       have n0:=cell_regrown (aC A0.out _ _ f0)
       have n1:=cell_regrown (aC A0.out _ _ f1)
       obtain ⟨r,hr⟩ : ∃ r,iN Y ⟨nm,ar⟩ = r:=⟨_,rfl⟩
       have cC : Hid (∀ d os,Calls Tryz.prog 280 #[.agg #[str Y.name,.int .i64 Y.at_],.agg #[str nm,.int .i64 ar]] (grow (redrawn (wr.alloc (.cells #[str nm,.int .i64 ar] 308)) d) os) fun e w''=>e = .returned (.bool r) ∧ ∃ p : Regrown,w'' = grow (redrawn (wr.alloc (.cells #[str nm,.int .i64 ar] 308)) p.d) p.os):=fun d os=>by
        rw [← hr];exact Calls.regrown_of (SC.out Y _)
       have QZ : Hid (dI bZ 1 (symG G) (i + 1) = r):=by show _ = _;rw [iV HT.out hY,HQ.out,hr,show (decide (0 ≤ ar) && decide (ar ≤ 1)) = true from YES.out];simp
       have t0 : decide ((0 : Int) < (i : Int) + 1) = true:=decide_eq_true (by omega)
       have e0 : ((i : Int) + 1 - 1) = (i : Int):=by omega
       obtain ⟨y,yar⟩:=Y
       simp only [Bi.at_,Bi.name] at *
       clear hY hr f0 f1 SC SA
       cases r
       ·have RT : Hid (A2 = false):=RTN.out QZ.out
        go_wp2_with fail
        refine wqb ?_
        repeat (go_big_quiet_step ((first | (go_at_call 215;exact cP.out _ _) | (go_at_call 280;exact cC.out _ _))))
        refine wpQuiet_nil (qe fun wq Bwq=>?_)
        go_wp2_with fail
        go_ret
        exact ⟨by rw [RT.out,RT1.out];rfl,aA B1.out Bwq.out⟩
       ·go_wp2_with fail
        refine wqb ?_
        repeat (go_big_quiet_step ((first | (go_at_call 215;exact cP.out _ _) | (go_at_call 280;exact cC.out _ _))))
        refine wpQuiet_nil (qe fun wq Bwq=>?_)
        go_wp2_with fail
        go_roundw
        case rel=>exact ⟨i + 1 + 1,by omega,by go_num,aL hs.out.1 QZ.out,aA B1.out Bwq.out,kc Bwq.out ROW1.out⟩
        case measure=>simp [intOf];omega
    ·have e : j = qn:=by omega
     have RT2 : Hid (A2 = true):=by show _ = _;rw [← HA2.out,← e];exact hs.out.1
     have BW1:=Hd hs.out.2.1
     have RW1:=Hd hs.out.2.2
     have g1 : decide ((j : Int) < (qn : Int)) = false:=by simp;omega
     clear hs e
     go_wp2_with fail
     go_loopw [7] (fun i wr=>∃ j : Nat,j ≤ vn ∧ i = .int .i64 j ∧ Hid (aI j (fL bR Vs) = true ∧ Below w.heap.size w wr ∧ wr.heap[w.heap.size]? = some (.cells #[.slice pa pn pc,.slice qa qn qc,.slice va vn vc] 257 (0,0)))) (fun i _=>vn - (intOf i).toNat)
     case atStart=>exact ⟨0,Nat.zero_le _,rfl,aN _,BW1.out,RW1.out⟩
     case round =>
      obtain ⟨j,hj,rfl,hs⟩:=hrel
      obtain ⟨x0,x1,x2,-⟩:=eN hs.out.2.2
      by_cases hlt : j < vn
      ·obtain ⟨x,hx⟩:=aH (l:=Vs) (j:=j) (by rw [← L3.out];exact hlt)
       obtain ⟨b,off,rfl,hc⟩:=jH HV.out hx
       have hK:=aC hs.out.2.1
       have c0:=cell_regrown (hK _ _ (hc j x hx))
       have y2:=cell_regrown x2
       obtain ⟨q,hq⟩ : ∃ q,bR x = q:=⟨_,rfl⟩
       have cP : Hid (∀ d os,Calls Tryz.prog 214 #[str x] (grow (redrawn wr d) os) fun e w''=>e = .returned (.bool q) ∧ ∃ p : Regrown,w'' = grow (redrawn wr p.d) p.os):=fun d os=>by
        rw [← hq];exact Calls.regrown_of ((Variable2_c x _ (NV.out x (List.mem_of_getElem? hx))).mono fun e w' h=>⟨h.1,by rw [← h.2];exact Below.refl _ _⟩)
       have g1 : decide ((j : Int) < (vn : Int)) = true:=by simp;omega
       have HQ:=Hd hq
       have HXX:=Hd hx
       cases j with
       | zero =>
        rw [Nat.add_zero] at c0
        have QZ : Hid (fL bR Vs 0 = q):=by show _ = _;rw [rA HXX.out,HQ.out]
        clear hc hx hq hK
        cases q
        ·have RT : Hid (A3 = false):=by show _ = _;rw [← HA3.out,aE hlt QZ.out]
         go_wp2_with fail
         refine wqb ?_
         repeat (go_big_quiet_step ((go_at_call 214;exact cP.out _ _)))
         refine wpQuiet_nil (qe fun wq Bwq=>?_)
         go_wp2_with fail
         go_ret
         exact ⟨by rw [RT.out,RT1.out,RT2.out];rfl,aA hs.out.2.1 Bwq.out⟩
        ·go_wp2_with fail
         refine wqb ?_
         repeat (go_big_quiet_step ((go_at_call 214;exact cP.out _ _)))
         refine wpQuiet_nil (qe fun wq Bwq=>?_)
         go_wp2_with fail
         go_roundw
         case rel=>exact ⟨0 + 1,by omega,by go_num,aL hs.out.1 QZ.out,aA hs.out.2.1 Bwq.out,kc Bwq.out hs.out.2.2⟩
         case measure=>simp [intOf];omega
       | succ i =>
        obtain ⟨y,hy⟩:=aH (l:=Vs) (j:=i) (by rw [← L3.out];omega)
        have d0:=cell_regrown (hK _ _ (hc i y hy))
        obtain ⟨r,hr⟩ : ∃ r,Op.bytesLess y x = r:=⟨_,rfl⟩
        have QZ : Hid (fL bR Vs (i + 1) = (q && r)):=by show _ = _;rw [qZ HXX.out hy,HQ.out,hr]
        have t0 : decide ((0 : Int) < (i : Int) + 1) = true:=decide_eq_true (by omega)
        have e0 : ((i : Int) + 1 - 1) = (i : Int):=by omega
        have t1 : Op.bytesLess (⟨y.toArray⟩ : ByteArray).toList (⟨x.toArray⟩ : ByteArray).toList = r:=by simpa using hr
        clear hc hx hq hK hy
        rcases (show q = false ∨ (q = true ∧ r = false) ∨ (q = true ∧ r = true) by cases q <;> cases r <;> simp) with rfl | ⟨rfl,rfl⟩ | ⟨rfl,rfl⟩
        ·have RT : Hid (A3 = false):=by show _ = _;rw [← HA3.out,aE hlt (by rw [QZ.out];rfl)]
         go_wp2_with fail
         refine wqb ?_
         repeat (go_big_quiet_step ((go_at_call 214;exact cP.out _ _)))
         refine wpQuiet_nil (qe fun wq Bwq=>?_)
         go_wp2_with fail
         go_ret
         exact ⟨by rw [RT.out,RT1.out,RT2.out];rfl,aA hs.out.2.1 Bwq.out⟩
        ·have RT : Hid (A3 = false):=by show _ = _;rw [← HA3.out,aE hlt (by rw [QZ.out];rfl)]
         go_wp2_with fail
         refine wqb ?_
         repeat (go_big_quiet_step ((go_at_call 214;exact cP.out _ _)))
         refine wpQuiet_nil (qe fun wq Bwq=>?_)
         go_wp2_with fail
         go_ret
         exact ⟨by rw [RT.out,RT1.out,RT2.out];rfl,aA hs.out.2.1 Bwq.out⟩
        ·go_wp2_with fail
         refine wqb ?_
         repeat (go_big_quiet_step ((go_at_call 214;exact cP.out _ _)))
         refine wpQuiet_nil (qe fun wq Bwq=>?_)
         go_wp2_with fail
         go_roundw
         case rel=>exact ⟨i + 1 + 1,by omega,by go_num,aL hs.out.1 (by rw [QZ.out];rfl),aA hs.out.2.1 Bwq.out,kc Bwq.out hs.out.2.2⟩
         case measure=>simp [intOf];omega
      ·have e : j = vn:=by omega
       have RT : Hid (A3 = true):=by show _ = _;rw [← HA3.out,← e];exact hs.out.1
       have BW:=Hd hs.out.2.1
       have g1 : decide ((j : Int) < (vn : Int)) = false:=by simp;omega
       clear hs e
       go_wp2_with fail
       go_ret
       exact ⟨by rw [RT.out,RT1.out,RT2.out];rfl,BW.out⟩
end Go.Proofs.YtcandidgaegghaaGreatDoor
