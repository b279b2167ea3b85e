/- lyceumref11.Valid. Conditions: at most a thousand facts, functions, binds and worlds; names fit into memory. -/
import Derived.Test.YtcandidgaegghaaGreatDoorCpZ
import Derived.Test.YtcandidgaegghaaGreatDoorMdSCZ
import Derived.Test.YtcandidgaegghaaGreatDoorMdWZ
set_option maxRecDepth 10000
set_option linter.unusedSimpArgs false
set_option linter.unusedVariables false
namespace Go.Proofs.YtcandidgaegghaaGreatDoor
open Go Go.RowKit Go.Sort Ly
set_option maxHeartbeats 8000000
theorem wX {F : List Fa} {G : List Bi} {V : List Bs} (h : sigB (symF F) G V = true) {j : Nat} {f : Fa} (hf : F[j]? = some f) : 0 ≤ f.args ∧ f.args ≤ 2:=by
 unfold sigB at h
 rw [Bool.and_eq_true,aT] at h
 have hj:=(List.getElem?_eq_some_iff.1 hf).1
 have:=h.1 j (by simpa [symF] using hj)
 have e : (symF F)[j]? = some ⟨f.name,f.args⟩:=by simp [symF,hf]
 unfold dI at this
 rw [e] at this
 simp only [Bool.and_eq_true,decide_eq_true_eq] at this
 exact ⟨this.1.2.1,this.1.2.2⟩
theorem wY {F : List Bi} {G : List Fu} {V : List Bs} (h : sigB F (symG G) V = true) {j : Nat} {f : Fu} (hf : G[j]? = some f) : 0 ≤ f.args ∧ f.args ≤ 1:=by
 unfold sigB at h
 rw [Bool.and_eq_true,Bool.and_eq_true,aT,aT] at h
 have hj:=(List.getElem?_eq_some_iff.1 hf).1
 have:=h.2.1 j (by simpa [symG] using hj)
 have e : (symG G)[j]? = some ⟨f.name,f.args⟩:=by simp [symG,hf]
 unfold dI at this
 rw [e] at this
 simp only [Bool.and_eq_true,decide_eq_true_eq] at this
 exact ⟨this.1.2.1,this.1.2.2⟩
theorem yK {z n : Int} (h1 : 1 ≤ z) (h3 : z ≤ 3) (hn : 0 ≤ n) (hn2 : n ≤ 2) : 1 ≤ powZ z n ∧ powZ z n ≤ 9:=by
 rcases (show z = 1 ∨ z = 2 ∨ z = 3 by omega) with rfl | rfl | rfl <;> rcases (show n = 0 ∨ n = 1 ∨ n = 2 by omega) with rfl | rfl | rfl <;> decide
theorem finRef_c (F : List Fa) (G : List Fu) (B : List Bi) (hF : F.length ≤ 1000) (hG : G.length ≤ 1000) (hB : B.length ≤ 1000) (nF : ∀ x ∈ F,x.name.length ≤ 9223372036854775807) (nG : ∀ x ∈ G,x.name.length ≤ 9223372036854775807) (nB : ∀ x ∈ B,x.name.length ≤ 9223372036854775807) (z lo : Int) (ra fa ga ba : Option Addr) (rn rc fn fc gn gc bn bc : Nat) (hrn : rn ≤ 1000) (w : World) (hx : aM w 3 (fasV F) F.length (.slice fa fn fc)) (hg : fZ w G (.slice ga gn gc)) (hy : aM w 2 (bisV B) B.length (.slice ba bn bc)) :
  Calls Tryz.prog 148 #[mdK 2 z ra rn rc lo fa fn fc ga gn gc ba bn bc] w (Rt (.bool (finB F G B z lo rn)) w):=by
 have L1:=Hd hx.len.1
 have L2:=Hd hg.len.1
 have L3:=Hd hy.len.1
 have fk : fn ≤ 1000:=by have:=L1.out;omega
 have gk : gn ≤ 1000:=by have:=L2.out;omega
 have bk : bn ≤ 1000:=by have:=L3.out;omega
 have HX:=Hd hx
 have HG:=Hd hg
 have HY:=Hd hy
 have HB : Hid (Below w.heap.size w (w.alloc (mdR 2 z ra rn rc lo fa fn fc ga gn gc ba bn bc))):=bnew
 have NEW:=Hd (heap_alloc_new w (mdR 2 z ra rn rc lo fa fn fc ga gn gc ba bn bc))
 obtain ⟨q,hq⟩ : ∃ q,sigB (symF F) (symG G) (B.map Bi.name) = q:=⟨_,rfl⟩
 have SG1 : Hid (∀ W,Below w.heap.size w W → Calls Tryz.prog 223 #[mdK 2 z ra rn rc lo fa fn fc ga gn gc ba bn bc] W fun e w'=>∃ pa pc qa qc va vc,e = .returned (.agg #[.slice pa fn pc,.slice qa gn qc,.slice va bn vc]) ∧ mE F G B (.slice pa fn pc) (.slice qa gn qc) (.slice va bn vc) w' ∧ Below W.heap.size W w'):=fun W hW =>
  sigOf_c F G B hF hG hB z lo ra fa ga ba rn rc fn fc gn gc bn bc W (hx.keep (aC hW)) (hg.keep (aC hW)) (hy.keep (aC hW))
 have SG2 : Hid (∀ W pa pc qa qc va vc,mE F G B (.slice pa fn pc) (.slice qa gn qc) (.slice va bn vc) W → Calls Tryz.prog 222 #[.agg #[.slice pa fn pc,.slice qa gn qc,.slice va bn vc]] W (Rt (.bool q) W)):=fun W pa pc qa qc va vc h=>by
  rw [← hq]
  exact sigSound_c F G B nF nG nB pa qa va fn pc gn qc bn vc W h
 obtain ⟨⟨c0,c1,c2,c3,c4,c5,c6⟩,-⟩:=aK NEW.out
 have SF : Hid (q = true → ∀ (j : Nat) f,F[j]? = some f → 0 ≤ f.args ∧ f.args ≤ 2):=fun h j f hf=>wX (hq.trans h) hf
 have SGG : Hid (q = true → ∀ (j : Nat) f,G[j]? = some f → 0 ≤ f.args ∧ f.args ≤ 1):=fun h j f hf=>wY (hq.trans h) hf
 obtain ⟨A1,hA1⟩ : ∃ A,aI F.length (iG z F) = A:=⟨_,rfl⟩
 obtain ⟨A2,hA2⟩ : ∃ A,aI G.length (iH z G) = A:=⟨_,rfl⟩
 obtain ⟨A3,hA3⟩ : ∃ A,aI B.length (jM z B) = A:=⟨_,rfl⟩
 have HA1 : Hid (aI fn (iG z F) = A1):=by show _ = _;rw [← hA1,L1.out]
 have HA2 : Hid (aI gn (iH z G) = A2):=by show _ = _;rw [← hA2,L2.out]
 have HA3 : Hid (aI bn (jM z B) = A3):=by show _ = _;rw [← hA3,L3.out]
 have TB : finB F G B z lo rn = (decide (1 ≤ z ∧ z ≤ 3 ∧ rn = 0 ∧ lo = 0) && (q && (A1 && (A2 && A3)))):=by unfold finB;rw [hq,hA1,hA2,hA3]
 rw [TB]
 clear hx hg hy hF hG hB nF nG nB hq hA1 hA2 hA3 TB
 by_cases hz : 1 ≤ z ∧ z ≤ 3 ∧ rn = 0 ∧ lo = 0
 rotate_left
 ·rw [decide_eq_false hz]
  rcases (show z < 1 ∨ (1 ≤ z ∧ 3 < z) ∨ (1 ≤ z ∧ z ≤ 3 ∧ 0 < rn) ∨ (1 ≤ z ∧ z ≤ 3 ∧ rn = 0 ∧ lo ≠ 0) by omega) with h1 | ⟨h1,h2⟩ | ⟨h1,h2,h3⟩ | ⟨h1,h2,rfl,h3⟩
  ·have t1 : decide (z < 1) = true:=decide_eq_true h1
   clear hz
   go_enter Tryz.func148,Tryz.ntmps148
   go_wp2_with fail
   go_ret
   exact ⟨rfl,HB.out⟩
  ·have t1 : decide (z < 1) = false:=decide_eq_false (by omega)
   have t2 : decide (3 < z) = true:=decide_eq_true h2
   clear hz
   go_enter Tryz.func148,Tryz.ntmps148
   go_wp2_with fail
   go_ret
   exact ⟨rfl,HB.out⟩
  ·have t1 : decide (z < 1) = false:=decide_eq_false (by omega)
   have t2 : decide (3 < z) = false:=decide_eq_false (by omega)
   have t3 : decide ((0 : Int) < (rn : Int)) = true:=decide_eq_true (by omega)
   clear hz
   go_enter Tryz.func148,Tryz.ntmps148
   go_wp2_with fail
   go_ret
   exact ⟨rfl,HB.out⟩
  ·have t1 : decide (z < 1) = false:=decide_eq_false (by omega)
   have t2 : decide (3 < z) = false:=decide_eq_false (by omega)
   have t3 : (lo != 0) = true:=by simpa using h3
   clear hz
   go_enter Tryz.func148,Tryz.ntmps148
   go_wp2_with fail
   go_ret
   exact ⟨rfl,HB.out⟩
 rw [decide_eq_true hz]
 obtain ⟨h1,h2,rfl,rfl⟩:=hz
 have t1 : decide (z < 1) = false:=decide_eq_false (by omega)
 have t2 : decide (3 < z) = false:=decide_eq_false (by omega)
 cases q
 ·go_enter Tryz.func148,Tryz.ntmps148
  go_wp2_with (first | (go_at_call 222;refine (SG2.out _ _ _ _ _ _ _ S1.out).mono ?_;rintro e w3 ⟨rfl,b3⟩;have B3:=Hd (aA B1.out b3);have R3:=Hd (kc b3 R1.out);clear b3;obtain ⟨⟨d0,d1,d2,d3,d4,d5,d6⟩,-⟩:=aK R3.out) | (go_at_call 223;refine (SG1.out _ HB.out).mono ?_;rintro e w1 ⟨pa,pc,qa,qc,va,vc,rfl,s1,b1⟩;have B1:=Hd (aA HB.out b1);have R1:=Hd (kc b1 NEW.out);have S1:=Hd s1;clear b1 s1))
  go_ret
  exact ⟨rfl,B3.out⟩
 have PW : Hid (∀ n W,0 ≤ n → n ≤ 2 → Calls Tryz.prog 224 #[.int .i64 z,.int .i64 n] W fun e w'=>e = .returned (.int .i64 (powZ z n)) ∧ W = w'):=fun n W hn hn2=>power11_c z n h1 h2 hn hn2 W
 have PI : Hid (∀ n,0 ≤ n → n ≤ 2 → 1 ≤ powZ z n ∧ powZ z n ≤ 9):=fun n hn hn2=>yK h1 h2 hn hn2
 replace SF:=Hd (SF.out rfl)
 replace SGG:=Hd (SGG.out rfl)
 go_enter Tryz.func148,Tryz.ntmps148
 go_wp2_with (first | (go_at_call 222;refine (SG2.out _ _ _ _ _ _ _ S1.out).mono ?_;rintro e w3 ⟨rfl,b3⟩;have B3:=Hd (aA B1.out b3);have R3:=Hd (kc b3 R1.out);clear b3;obtain ⟨⟨d0,d1,d2,d3,d4,d5,d6⟩,-⟩:=aK R3.out) | (go_at_call 223;refine (SG1.out _ HB.out).mono ?_;rintro e w1 ⟨pa,pc,qa,qc,va,vc,rfl,s1,b1⟩;have B1:=Hd (aA HB.out b1);have R1:=Hd (kc b1 NEW.out);have S1:=Hd s1;clear b1 s1))
 go_loopw [3] (fun i wr=>∃ j : Nat,j ≤ fn ∧ i = .int .i64 j ∧ Hid (aI j (iG z F) = true ∧ Below w.heap.size w wr ∧ wr.heap[w.heap.size]? = some (mdR 2 z ra 0 rc 0 fa fn fc ga gn gc ba bn bc))) (fun i _=>fn - (intOf i).toNat)
 case atStart=>exact ⟨0,Nat.zero_le _,rfl,aN _,B3.out,R3.out⟩
 case round =>
  clear c0 c1 c2 c3 c4 c5 c6 d0 d1 d2 d3 d4 d5 d6 B3 R3 B1 R1 S1 NEW HB
  obtain ⟨j,hj,rfl,hs⟩:=hrel
  obtain ⟨⟨x0,x1,x2,x3,x4,x5,x6⟩,-⟩:=aK hs.out.2.2
  by_cases hlt : j < fn
  ·obtain ⟨T,hT⟩:=aH (l:=F) (j:=j) (by rw [← L1.out];exact hlt)
   obtain ⟨b,off,rfl,p0,p1,p2⟩:=cL HX.out hT
   have hK:=aC hs.out.2.1
   have c0:=hK _ _ p0;have c1:=hK _ _ p1;have c2:=hK _ _ p2
   have FA:=Hd (lJ (z:=z) hT)
   have AR:=SF.out j T hT
   obtain ⟨nm,ar,tr⟩:=T
   simp only [Fa.args,Fa.tru,Fa.name] at *
   have A1' : Hid (Below wr.heap.size wr (wr.alloc (.cells #[str nm,.int .i64 ar,.int .i64 tr] 102))):=bnew
   have B1 : Hid (Below w.heap.size w (wr.alloc (.cells #[str nm,.int .i64 ar,.int .i64 tr] 102))):=aA hs.out.2.1 A1'.out
   have NEW1:=Hd (heap_alloc_new wr (.cells #[str nm,.int .i64 ar,.int .i64 tr] 102))
   have ROW1:=Hd (kc A1'.out hs.out.2.2)
   obtain ⟨⟨e0,e1,e2⟩,-⟩:=bQ NEW1.out
   obtain ⟨⟨d0,d1,d2,d3,d4,d5,d6⟩,-⟩:=aK ROW1.out
   have m1:=cell_regrown e1;have m2:=cell_regrown e2;have y1:=cell_regrown d1
   obtain ⟨P,hP⟩ : ∃ P,powZ z ar = P:=⟨_,rfl⟩
   have PIN:=PI.out ar AR.1 AR.2
   rw [hP] at PIN
   obtain ⟨pi1,pi2⟩:=PIN
   have pi0 : 0 ≤ P:=by omega
   have pi64 : P ≤ 64:=by omega
   obtain ⟨lim,hlim⟩ : ∃ lim : Int,(2 : Int) ^ P.toNat = lim:=⟨_,rfl⟩
   have hw : IntKind.i64.wrap ((2 : Int) ^ P.toNat) = lim:=by rw [sX pi0 (by omega),hlim]
   have FA2 : Hid (iG z F j = (decide (0 ≤ tr) && decide (tr < lim))):=by show _ = _;rw [FA.out,hP,hlim]
   have cP : Hid (∀ d os,Calls Tryz.prog 224 #[.int .i64 z,.int .i64 ar] (grow (redrawn (wr.alloc (.cells #[str nm,.int .i64 ar,.int .i64 tr] 102)) d) os) fun e w''=>e = .returned (.int .i64 P) ∧ ∃ p : Regrown,w'' = grow (redrawn (wr.alloc (.cells #[str nm,.int .i64 ar,.int .i64 tr] 102)) p.d) p.os):=fun d os=>by
    rw [← hP];exact Calls.regrown_of ((PW.out ar _ AR.1 AR.2).mono fun e w' h=>⟨h.1,by rw [← h.2];exact Below.refl _ _⟩)
   clear hT hK p0 p1 p2 e0 e1 e2 d0 d1 d2 d3 d4 d5 d6 hP hlim AR FA
   rcases (show tr < 0 ∨ (0 ≤ tr ∧ lim ≤ tr) ∨ (0 ≤ tr ∧ tr < lim) by omega) with h5 | ⟨h5,h6⟩ | ⟨h5,h6⟩
   ·have g2 : decide (tr < 0) = true:=decide_eq_true h5
    have RT : Hid (A1 = false):=by show _ = _;rw [← HA1.out,aE hlt (by rw [FA2.out];simp;omega)]
    go_wp2_with fail
    refine wqb ?_
    repeat (go_big_quiet_step (fail))
    refine wpQuiet_nil (qe fun wq Bwq=>?_)
    go_wp2_with fail
    go_ret
    exact ⟨by rw [RT.out];rfl,aA B1.out Bwq.out⟩
   ·have g2 : decide (tr < 0) = false:=decide_eq_false (by omega)
    have g3 : decide (lim ≤ tr) = true:=decide_eq_true h6
    have RT : Hid (A1 = false):=by show _ = _;rw [← HA1.out,aE hlt (by rw [FA2.out];simp;omega)]
    go_wp2_with fail
    refine wqb ?_
    repeat (go_big_quiet_step ((go_at_call 224;exact cP.out _ _)))
    refine wpQuiet_nil (qe fun wq Bwq=>?_)
    go_wp2_with fail
    go_ret
    exact ⟨by rw [RT.out];rfl,aA B1.out Bwq.out⟩
   ·have g2 : decide (tr < 0) = false:=decide_eq_false (by omega)
    have g3 : decide (lim ≤ tr) = false:=decide_eq_false (by omega)
    go_wp2_with fail
    refine wqb ?_
    repeat (go_big_quiet_step ((go_at_call 224;exact cP.out _ _)))
    refine wpQuiet_nil (qe fun wq Bwq=>?_)
    go_wp2_with fail
    go_roundw
    case rel=>exact ⟨j + 1,by omega,by go_num,aL hs.out.1 (by rw [FA2.out];simp;omega),aA B1.out Bwq.out,kc Bwq.out ROW1.out⟩
    case measure=>simp [intOf];omega
  ·have e : j = fn:=by omega
   have RT1 : Hid (A1 = true):=by show _ = _;rw [← HA1.out,← e];exact hs.out.1
   have BW1:=Hd hs.out.2.1
   have RW1:=Hd hs.out.2.2
   have g1 : decide ((j : Int) < (fn : Int)) = false:=by simp;omega
   clear hs e
   go_wp2_with fail
   go_loopw [5] (fun i wr=>∃ j : Nat,j ≤ gn ∧ i = .int .i64 j ∧ Hid (aI j (iH z G) = true ∧ Below w.heap.size w wr ∧ wr.heap[w.heap.size]? = some (mdR 2 z ra 0 rc 0 fa fn fc ga gn gc ba bn bc))) (fun i _=>gn - (intOf i).toNat)
   case atStart=>exact ⟨0,Nat.zero_le _,rfl,aN _,BW1.out,RW1.out⟩
   case round =>
    clear x0 x1 x2 x3 x4 x5 x6 BW1 RW1
    obtain ⟨j,hj,rfl,hs⟩:=hrel
    obtain ⟨⟨x0,x1,x2,x3,x4,x5,x6⟩,-⟩:=aK hs.out.2.2
    by_cases hlt : j < gn
    ·obtain ⟨T,hT⟩:=aH (l:=G) (j:=j) (by rw [← L2.out];exact hlt)
     obtain ⟨b,off,rfl,GG⟩:=HG.out.get (bG hT)
     obtain ⟨vx,vk,ve,p0,p1,p2,pv⟩:=GG j T hT
     clear GG
     have hK:=aC hs.out.2.1
     have c0:=hK _ _ p0;have c1:=hK _ _ p1;have c2:=hK _ _ p2
     have VL:=Hd pv.len.1
     have PV:=Hd pv
     have vk63 : vk ≤ 9223372036854775807:=le63 (Nat.le_trans (Nat.le_of_eq pv.len.1) (Nat.le_trans pv.len.2.1 pv.len.2.2.1))
     have FA:=Hd (lK (z:=z) hT)
     have AR:=SGG.out j T hT
     obtain ⟨nm,ar,vl⟩:=T
     simp only [Fu.args,Fu.value,Fu.name] at *
     have A1' : Hid (Below wr.heap.size wr (wr.alloc (.cells #[str nm,.int .i64 ar,.slice vx vk ve] 121))):=bnew
     have B1 : Hid (Below w.heap.size w (wr.alloc (.cells #[str nm,.int .i64 ar,.slice vx vk ve] 121))):=aA hs.out.2.1 A1'.out
     have NEW1:=Hd (heap_alloc_new wr (.cells #[str nm,.int .i64 ar,.slice vx vk ve] 121))
     have ROW1:=Hd (kc A1'.out hs.out.2.2)
     obtain ⟨e0,e1,e2,-⟩:=gZ NEW1.out
     obtain ⟨⟨d0,d1,d2,d3,d4,d5,d6⟩,-⟩:=aK ROW1.out
     have m1:=cell_regrown e1;have m2:=cell_regrown e2;have y1:=cell_regrown d1
     obtain ⟨P,hP⟩ : ∃ P,powZ z ar = P:=⟨_,rfl⟩
     have cP : Hid (∀ d os,Calls Tryz.prog 224 #[.int .i64 z,.int .i64 ar] (grow (redrawn (wr.alloc (.cells #[str nm,.int .i64 ar,.slice vx vk ve] 121)) d) os) fun e w''=>e = .returned (.int .i64 P) ∧ ∃ p : Regrown,w'' = grow (redrawn (wr.alloc (.cells #[str nm,.int .i64 ar,.slice vx vk ve] 121)) p.d) p.os):=fun d os=>by
      rw [← hP];exact Calls.regrown_of ((PW.out ar _ AR.1 (by omega)).mono fun e w' h=>⟨h.1,by rw [← h.2];exact Below.refl _ _⟩)
     have FA2 : Hid (iH z G j = (decide ((vk : Int) = P) && aI vk (inAt z vl))):=by show _ = _;rw [FA.out,hP,VL.out]
     obtain ⟨C,hC⟩ : ∃ C,aI vk (inAt z vl) = C:=⟨_,rfl⟩
     have HC:=Hd hC
     rw [hC] at FA2
     clear hT hK p0 p1 p2 pv e0 e1 e2 d0 d1 d2 d3 d4 d5 d6 hP AR FA hC
     by_cases hv : (vk : Int) = P
     rotate_left
     ·have g2 : ((vk : Int) != P) = true:=by simpa using hv
      have RT : Hid (A2 = false):=by show _ = _;rw [← HA2.out,aE hlt (by rw [FA2.out,decide_eq_false hv];rfl)]
      clear hv
      go_wp2_with fail
      refine wqb ?_
      repeat (go_big_quiet_step ((go_at_call 224;exact cP.out _ _)))
      refine wpQuiet_nil (qe fun wq Bwq=>?_)
      go_wp2_with fail
      go_ret
      exact ⟨by rw [RT.out,RT1.out];rfl,aA B1.out Bwq.out⟩
     have g2 : ((vk : Int) != P) = false:=by simpa using hv
     rw [decide_eq_true hv] at FA2
     clear hv
     go_wp2_with fail
     refine wqb ?_
     repeat (go_big_quiet_step ((go_at_call 224;exact cP.out _ _)))
     refine wpQuiet_nil (qe fun wq Bwq=>?_)
     have NEW2:=Hd (kc Bwq.out NEW1.out)
     have ROW2:=Hd (kc Bwq.out ROW1.out)
     have BW2:=Hd (aA B1.out Bwq.out)
     obtain ⟨e0,e1,e2,-⟩:=gZ NEW2.out
     obtain ⟨⟨d0,d1,d2,d3,d4,d5,d6⟩,-⟩:=aK ROW2.out
     clear m1 m2 y1 g2
     go_wp2_with fail
     go_loopw [7] (fun i wy=>∃ i2 : Nat,i2 ≤ vk ∧ i = .int .i64 i2 ∧ Hid (aI i2 (inAt z vl) = true ∧ Below wq.heap.size wq wy)) (fun i _=>vk - (intOf i).toNat)
     case atStart=>exact ⟨0,Nat.zero_le _,rfl,aN _,Below.refl _ _⟩
     case round =>
      clear c0 c1 c2 e0 e1 e2 d0 d1 d2 d3 d4 d5 d6
      obtain ⟨i2,hi2,rfl,hs2⟩:=hrel
      have NEW3:=Hd (kc hs2.out.2 NEW2.out)
      have ROW3:=Hd (kc hs2.out.2 ROW2.out)
      have BW3:=Hd (aA BW2.out hs2.out.2)
      obtain ⟨e0,e1,e2,-⟩:=gZ NEW3.out
      obtain ⟨⟨d0,d1,d2,d3,d4,d5,d6⟩,-⟩:=aK ROW3.out
      by_cases hli : i2 < vk
      ·obtain ⟨x,hxx⟩:=aH (l:=vl) (j:=i2) (by rw [← VL.out];exact hli)
       obtain ⟨vb,voff,rfl,c0⟩:=eS (PV.out.keep (aC BW3.out)) hxx
       have IA:=Hd (pW (z:=z) hxx)
       have r0:=cell_regrown c0;have r2:=cell_regrown e2;have y1:=cell_regrown d1
       have g3 : decide ((i2 : Int) < (vk : Int)) = true:=by simp;omega
       clear hxx
       rcases (show x < 0 ∨ (0 ≤ x ∧ z ≤ x) ∨ (0 ≤ x ∧ x < z) by omega) with h5 | ⟨h5,h6⟩ | ⟨h5,h6⟩
       ·have g2 : decide (x < 0) = true:=decide_eq_true h5
        have RC : Hid (C = false):=by show _ = _;rw [← HC.out,aE hli (by rw [IA.out];simp;omega)]
        have RT : Hid (A2 = false):=by show _ = _;rw [← HA2.out,aE hlt (by rw [FA2.out,RC.out];rfl)]
        go_wp2_with fail
        refine wqb ?_
        repeat (go_big_quiet_step (fail))
        refine wpQuiet_nil (qe fun wp Bwp=>?_)
        go_wp2_with fail
        go_ret
        exact ⟨by rw [RT.out,RT1.out];rfl,aA BW3.out Bwp.out⟩
       ·have g2 : decide (x < 0) = false:=decide_eq_false (by omega)
        have g4 : decide (z ≤ x) = true:=decide_eq_true h6
        have RC : Hid (C = false):=by show _ = _;rw [← HC.out,aE hli (by rw [IA.out];simp;omega)]
        have RT : Hid (A2 = false):=by show _ = _;rw [← HA2.out,aE hlt (by rw [FA2.out,RC.out];rfl)]
        go_wp2_with fail
        refine wqb ?_
        repeat (go_big_quiet_step (fail))
        refine wpQuiet_nil (qe fun wp Bwp=>?_)
        go_wp2_with fail
        go_ret
        exact ⟨by rw [RT.out,RT1.out];rfl,aA BW3.out Bwp.out⟩
       ·have g2 : decide (x < 0) = false:=decide_eq_false (by omega)
        have g4 : decide (z ≤ x) = false:=decide_eq_false (by omega)
        go_wp2_with fail
        refine wqb ?_
        repeat (go_big_quiet_step (fail))
        refine wpQuiet_nil (qe fun wp Bwp=>?_)
        go_wp2_with fail
        go_roundw
        case rel=>exact ⟨i2 + 1,by omega,by go_num,aL hs2.out.1 (by rw [IA.out];simp;omega),aA hs2.out.2 Bwp.out⟩
        case measure=>simp [intOf];omega
      ·have e : i2 = vk:=by omega
       have RC : Hid (C = true):=by show _ = _;rw [← HC.out,← e];exact hs2.out.1
       have g3 : decide ((i2 : Int) < (vk : Int)) = false:=by simp;omega
       clear hs2 e
       go_wp2_with fail
       go_roundw
       case rel=>exact ⟨j + 1,by omega,by go_num,aL hs.out.1 (by rw [FA2.out,RC.out];rfl),BW3.out,ROW3.out⟩
       case measure=>simp [intOf];omega
    ·have e : j = gn:=by omega
     have RT2 : Hid (A2 = true):=by show _ = _;rw [← HA2.out,← e];exact hs.out.1
     have BW1:=Hd hs.out.2.1
     have RW1:=Hd hs.out.2.2
     have g1 : decide ((j : Int) < (gn : Int)) = false:=by simp;omega
     clear hs e
     go_wp2_with fail
     go_loopw [8] (fun i wr=>∃ j : Nat,j ≤ bn ∧ i = .int .i64 j ∧ Hid (aI j (jM z B) = true ∧ Below w.heap.size w wr ∧ wr.heap[w.heap.size]? = some (mdR 2 z ra 0 rc 0 fa fn fc ga gn gc ba bn bc))) (fun i _=>bn - (intOf i).toNat)
     case atStart=>exact ⟨0,Nat.zero_le _,rfl,aN _,BW1.out,RW1.out⟩
     case round =>
      clear x0 x1 x2 x3 x4 x5 x6 BW1 RW1
      obtain ⟨j,hj,rfl,hs⟩:=hrel
      obtain ⟨⟨x0,x1,x2,x3,x4,x5,x6⟩,-⟩:=aK hs.out.2.2
      by_cases hlt : j < bn
      ·obtain ⟨T,hT⟩:=aH (l:=B) (j:=j) (by rw [← L3.out];exact hlt)
       obtain ⟨b,off,rfl,p0,p1⟩:=gE HY.out hT
       have hK:=aC hs.out.2.1
       have c0:=hK _ _ p0;have c1:=hK _ _ p1
       have FA:=Hd (lI (z:=z) hT)
       have BW2:=Hd hs.out.2.1
       obtain ⟨nm,x⟩:=T
       simp only [Bi.at_,Bi.name] at *
       have g1 : decide ((j : Int) < (bn : Int)) = true:=by simp;omega
       clear hT hK p0 p1
       have r1:=cell_regrown c1;have y1:=cell_regrown x1;have y6:=cell_regrown x6
       rcases (show x < 0 ∨ (0 ≤ x ∧ z ≤ x) ∨ (0 ≤ x ∧ x < z) by omega) with h5 | ⟨h5,h6⟩ | ⟨h5,h6⟩
       ·have g2 : decide (x < 0) = true:=decide_eq_true h5
        have RT : Hid (A3 = false):=by show _ = _;rw [← HA3.out,aE hlt (by rw [FA.out];simp;omega)]
        go_wp2_with fail
        refine wqb ?_
        repeat (go_big_quiet_step (fail))
        refine wpQuiet_nil (qe fun wp Bwp=>?_)
        go_wp2_with fail
        go_ret
        exact ⟨by rw [RT.out,RT1.out,RT2.out];rfl,aA BW2.out Bwp.out⟩
       ·have g2 : decide (x < 0) = false:=decide_eq_false (by omega)
        have g4 : decide (z ≤ x) = true:=decide_eq_true h6
        have RT : Hid (A3 = false):=by show _ = _;rw [← HA3.out,aE hlt (by rw [FA.out];simp;omega)]
        go_wp2_with fail
        refine wqb ?_
        repeat (go_big_quiet_step (fail))
        refine wpQuiet_nil (qe fun wp Bwp=>?_)
        go_wp2_with fail
        go_ret
        exact ⟨by rw [RT.out,RT1.out,RT2.out];rfl,aA BW2.out Bwp.out⟩
       ·have g2 : decide (x < 0) = false:=decide_eq_false (by omega)
        have g4 : decide (z ≤ x) = false:=decide_eq_false (by omega)
        go_wp2_with fail
        refine wqb ?_
        repeat (go_big_quiet_step (fail))
        refine wpQuiet_nil (qe fun wp Bwp=>?_)
        go_wp2_with fail
        go_roundw
        case rel=>exact ⟨j + 1,by omega,by go_num,aL hs.out.1 (by rw [FA.out];simp;omega),aA BW2.out Bwp.out,kc Bwp.out hs.out.2.2⟩
        case measure=>simp [intOf];omega
      ·have e : j = bn:=by omega
       have RT : Hid (A3 = true):=by show _ = _;rw [← HA3.out,← e];exact hs.out.1
       have BW:=Hd hs.out.2.1
       have g1 : decide ((j : Int) < (bn : Int)) = false:=by simp;omega
       clear hs
       go_wp2_with fail
       go_ret
       exact ⟨by rw [RT.out,RT1.out,RT2.out];rfl,BW.out⟩
open Go Go.RowKit Go.Sort Ly
set_option maxHeartbeats 8000000
theorem sigZ_fact {F : List Fa} {G : List Bi} {V : List Bs} (h : sigB (symF F) G V = true) {j : Nat} {f : Fa} (hf : F[j]? = some f) : 0 ≤ f.args ∧ f.args ≤ 2:=by
 unfold sigB at h
 rw [Bool.and_eq_true,aT] at h
 have hj:=(List.getElem?_eq_some_iff.1 hf).1
 have:=h.1 j (by simpa [symF] using hj)
 have e : (symF F)[j]? = some ⟨f.name,f.args⟩:=by simp [symF,hf]
 unfold dI at this
 rw [e] at this
 simp only [Bool.and_eq_true,decide_eq_true_eq] at this
 exact ⟨this.1.2.1,this.1.2.2⟩
theorem sigZ_func {F : List Bi} {G : List Fu} {V : List Bs} (h : sigB F (symG G) V = true) {j : Nat} {f : Fu} (hf : G[j]? = some f) : 0 ≤ f.args ∧ f.args ≤ 1:=by
 unfold sigB at h
 rw [Bool.and_eq_true,Bool.and_eq_true,aT,aT] at h
 have hj:=(List.getElem?_eq_some_iff.1 hf).1
 have:=h.2.1 j (by simpa [symG] using hj)
 have e : (symG G)[j]? = some ⟨f.name,f.args⟩:=by simp [symG,hf]
 unfold dI at this
 rw [e] at this
 simp only [Bool.and_eq_true,decide_eq_true_eq] at this
 exact ⟨this.1.2.1,this.1.2.2⟩
theorem powZZ_in {z n : Int} (h1 : 1 ≤ z) (h3 : z ≤ 3) (hn : 0 ≤ n) (hn2 : n ≤ 2) : 1 ≤ powZ z n ∧ powZ z n ≤ 9:=by
 rcases (show z = 1 ∨ z = 2 ∨ z = 3 by omega) with rfl | rfl | rfl <;> rcases (show n = 0 ∨ n = 1 ∨ n = 2 by omega) with rfl | rfl | rfl <;> decide
theorem zA (z x : Int) (g : Nat) (w : World) (h : w.cell? ⟨g,1,none⟩ = some (.int .i64 z)) : Calls Tryz.prog 355 #[.int .i64 x,one g] w fun e w'=>e = .returned (.bool (decide (0 ≤ x) && decide (x < z))) ∧ w = w':=by
 obtain ⟨d,hd⟩ : ∃ d,decide (0 ≤ x) = d:=⟨_,rfl⟩
 obtain ⟨d2,hd2⟩ : ∃ d2,decide (x < z) = d2:=⟨_,rfl⟩
 rw [hd,hd2]
 cases d
 all_goals
  go_enter Tryz.func355,Tryz.ntmps355
  go_wp2_with fail
  go_ret
  exact ⟨by simp [hd2],rfl⟩
theorem finV_c (F : List Fa) (G : List Fu) (B : List Bi) (hF : F.length ≤ 1000) (hG : G.length ≤ 1000) (hB : B.length ≤ 1000) (nF : ∀ x ∈ F,x.name.length ≤ 9223372036854775807) (nG : ∀ x ∈ G,x.name.length ≤ 9223372036854775807) (nB : ∀ x ∈ B,x.name.length ≤ 9223372036854775807) (z lo : Int) (ra fa ga ba : Option Addr) (rn rc fn fc gn gc bn bc : Nat) (hrn : rn ≤ 1000) (w : World) (hx : aM w 3 (fasV F) F.length (.slice fa fn fc)) (hg : fZ w G (.slice ga gn gc)) (hy : aM w 2 (bisV B) B.length (.slice ba bn bc)) :
  Calls Tryz.prog 352 #[mdK 2 z ra rn rc lo fa fn fc ga gn gc ba bn bc] w (Rt (.bool (finB F G B z lo rn)) w):=by
 have L1:=Hd hx.len.1
 have L2:=Hd hg.len.1
 have L3:=Hd hy.len.1
 have fk : fn ≤ 1000:=by have:=L1.out;omega
 have gk : gn ≤ 1000:=by have:=L2.out;omega
 have bk : bn ≤ 1000:=by have:=L3.out;omega
 have HX:=Hd hx
 have HG:=Hd hg
 have HY:=Hd hy
 have HB : Hid (Below w.heap.size w (w.alloc (mdR 2 z ra rn rc lo fa fn fc ga gn gc ba bn bc))):=bnew
 have NEW:=Hd (heap_alloc_new w (mdR 2 z ra rn rc lo fa fn fc ga gn gc ba bn bc))
 obtain ⟨q,hq⟩ : ∃ q,sigB (symF F) (symG G) (B.map Bi.name) = q:=⟨_,rfl⟩
 have SG1 : Hid (∀ W,Below w.heap.size w W → Calls Tryz.prog 354 #[mdK 2 z ra rn rc lo fa fn fc ga gn gc ba bn bc] W fun e w'=>∃ pa pc qa qc va vc,e = .returned (.agg #[.slice pa fn pc,.slice qa gn qc,.slice va bn vc]) ∧ mE F G B (.slice pa fn pc) (.slice qa gn qc) (.slice va bn vc) w' ∧ Below W.heap.size W w'):=fun W hW =>
  signature_c F G B hF hG hB z lo ra fa ga ba rn rc fn fc gn gc bn bc W (hx.keep (aC hW)) (hg.keep (aC hW)) (hy.keep (aC hW))
 have SG2 : Hid (∀ W pa pc qa qc va vc,mE F G B (.slice pa fn pc) (.slice qa gn qc) (.slice va bn vc) W → Calls Tryz.prog 353 #[.agg #[.slice pa fn pc,.slice qa gn qc,.slice va bn vc]] W (Rt (.bool q) W)):=fun W pa pc qa qc va vc h=>by
  rw [← hq]
  exact sigRight_c F G B nF nG nB pa qa va fn pc gn qc bn vc W h
 obtain ⟨⟨c0,c1,c2,c3,c4,c5,c6⟩,-⟩:=aK NEW.out
 have SF : Hid (q = true → ∀ (j : Nat) f,F[j]? = some f → 0 ≤ f.args ∧ f.args ≤ 2):=fun h j f hf=>sigZ_fact (hq.trans h) hf
 have SGG : Hid (q = true → ∀ (j : Nat) f,G[j]? = some f → 0 ≤ f.args ∧ f.args ≤ 1):=fun h j f hf=>sigZ_func (hq.trans h) hf
 obtain ⟨A1,hA1⟩ : ∃ A,aI F.length (iG z F) = A:=⟨_,rfl⟩
 obtain ⟨A2,hA2⟩ : ∃ A,aI G.length (iH z G) = A:=⟨_,rfl⟩
 obtain ⟨A3,hA3⟩ : ∃ A,aI B.length (jM z B) = A:=⟨_,rfl⟩
 have HA1 : Hid (aI fn (iG z F) = A1):=by show _ = _;rw [← hA1,L1.out]
 have HA2 : Hid (aI gn (iH z G) = A2):=by show _ = _;rw [← hA2,L2.out]
 have HA3 : Hid (aI bn (jM z B) = A3):=by show _ = _;rw [← hA3,L3.out]
 have TB : finB F G B z lo rn = (decide (1 ≤ z ∧ z ≤ 3 ∧ rn = 0 ∧ lo = 0) && (q && (A1 && (A2 && A3)))):=by unfold finB;rw [hq,hA1,hA2,hA3]
 rw [TB]
 clear hx hg hy hF hG hB nF nG nB hq hA1 hA2 hA3 TB
 by_cases hz : 1 ≤ z ∧ z ≤ 3 ∧ rn = 0 ∧ lo = 0
 rotate_left
 ·rw [decide_eq_false hz]
  rcases (show z < 1 ∨ (1 ≤ z ∧ 3 < z) ∨ (1 ≤ z ∧ z ≤ 3 ∧ 0 < rn) ∨ (1 ≤ z ∧ z ≤ 3 ∧ rn = 0 ∧ lo ≠ 0) by omega) with h1 | ⟨h1,h2⟩ | ⟨h1,h2,h3⟩ | ⟨h1,h2,rfl,h3⟩
  ·have t1 : decide (z < 1) = true:=decide_eq_true h1
   clear hz
   go_enter Tryz.func352,Tryz.ntmps352
   go_wp2_with fail
   go_ret
   exact ⟨rfl,HB.out⟩
  ·have t1 : decide (z < 1) = false:=decide_eq_false (by omega)
   have t2 : decide (3 < z) = true:=decide_eq_true h2
   clear hz
   go_enter Tryz.func352,Tryz.ntmps352
   go_wp2_with fail
   go_ret
   exact ⟨rfl,HB.out⟩
  ·have t1 : decide (z < 1) = false:=decide_eq_false (by omega)
   have t2 : decide (3 < z) = false:=decide_eq_false (by omega)
   have t3 : decide ((0 : Int) < (rn : Int)) = true:=decide_eq_true (by omega)
   clear hz
   go_enter Tryz.func352,Tryz.ntmps352
   go_wp2_with fail
   go_ret
   exact ⟨rfl,HB.out⟩
  ·have t1 : decide (z < 1) = false:=decide_eq_false (by omega)
   have t2 : decide (3 < z) = false:=decide_eq_false (by omega)
   have t3 : (lo != 0) = true:=by simpa using h3
   clear hz
   go_enter Tryz.func352,Tryz.ntmps352
   go_wp2_with fail
   go_ret
   exact ⟨rfl,HB.out⟩
 rw [decide_eq_true hz]
 obtain ⟨h1,h2,rfl,rfl⟩:=hz
 have t1 : decide (z < 1) = false:=decide_eq_false (by omega)
 have t2 : decide (3 < z) = false:=decide_eq_false (by omega)
 cases q
 ·go_enter Tryz.func352,Tryz.ntmps352
  go_wp2_with (first | (go_at_call 353;refine (SG2.out _ _ _ _ _ _ _ S1.out).mono ?_;rintro e w3 ⟨rfl,b3⟩;have B3:=Hd (aA B1.out b3);have R3:=Hd (kc b3 R1.out);clear b3;obtain ⟨⟨d0,d1,d2,d3,d4,d5,d6⟩,-⟩:=aK R3.out) | (go_at_call 354;refine (SG1.out _ HB.out).mono ?_;rintro e w1 ⟨pa,pc,qa,qc,va,vc,rfl,s1,b1⟩;have B1:=Hd (aA HB.out b1);have R1:=Hd (kc b1 NEW.out);have S1:=Hd s1;clear b1 s1))
  go_ret
  exact ⟨rfl,B3.out⟩
 have PW : Hid (∀ n W,0 ≤ n → n ≤ 2 → Calls Tryz.prog 356 #[.int .i64 z,.int .i64 n] W fun e w'=>e = .returned (.int .i64 (powZ z n)) ∧ W = w'):=fun n W hn hn2=>power_c z n h1 h2 hn hn2 W
 have PI : Hid (∀ n,0 ≤ n → n ≤ 2 → 1 ≤ powZ z n ∧ powZ z n ≤ 9):=fun n hn hn2=>powZZ_in h1 h2 hn hn2
 replace SF:=Hd (SF.out rfl)
 replace SGG:=Hd (SGG.out rfl)
 go_enter Tryz.func352,Tryz.ntmps352
 go_wp2_with (first | (go_at_call 353;refine (SG2.out _ _ _ _ _ _ _ S1.out).mono ?_;rintro e w3 ⟨rfl,b3⟩;have B3:=Hd (aA B1.out b3);have R3:=Hd (kc b3 R1.out);clear b3;obtain ⟨⟨d0,d1,d2,d3,d4,d5,d6⟩,-⟩:=aK R3.out) | (go_at_call 354;refine (SG1.out _ HB.out).mono ?_;rintro e w1 ⟨pa,pc,qa,qc,va,vc,rfl,s1,b1⟩;have B1:=Hd (aA HB.out b1);have R1:=Hd (kc b1 NEW.out);have S1:=Hd s1;clear b1 s1))
 go_loopw [46] (fun i wr=>∃ j : Nat,j ≤ fn ∧ i = .int .i64 j ∧ Hid (aI j (iG z F) = true ∧ Below w.heap.size w wr ∧ wr.heap[w.heap.size]? = some (mdR 2 z ra 0 rc 0 fa fn fc ga gn gc ba bn bc))) (fun i _=>fn - (intOf i).toNat)
 case atStart=>exact ⟨0,Nat.zero_le _,rfl,aN _,B3.out,R3.out⟩
 case round =>
  clear c0 c1 c2 c3 c4 c5 c6 d0 d1 d2 d3 d4 d5 d6 B3 R3 B1 R1 S1 NEW HB
  obtain ⟨j,hj,rfl,hs⟩:=hrel
  obtain ⟨⟨x0,x1,x2,x3,x4,x5,x6⟩,-⟩:=aK hs.out.2.2
  by_cases hlt : j < fn
  ·obtain ⟨T,hT⟩:=aH (l:=F) (j:=j) (by rw [← L1.out];exact hlt)
   obtain ⟨b,off,rfl,p0,p1,p2⟩:=cL HX.out hT
   have hK:=aC hs.out.2.1
   have c0:=hK _ _ p0;have c1:=hK _ _ p1;have c2:=hK _ _ p2
   have FA:=Hd (lJ (z:=z) hT)
   have AR:=SF.out j T hT
   obtain ⟨nm,ar,tr⟩:=T
   simp only [Fa.args,Fa.tru,Fa.name] at *
   have A1' : Hid (Below wr.heap.size wr (wr.alloc (.cells #[str nm,.int .i64 ar,.int .i64 tr] 102))):=bnew
   have B1 : Hid (Below w.heap.size w (wr.alloc (.cells #[str nm,.int .i64 ar,.int .i64 tr] 102))):=aA hs.out.2.1 A1'.out
   have NEW1:=Hd (heap_alloc_new wr (.cells #[str nm,.int .i64 ar,.int .i64 tr] 102))
   have ROW1:=Hd (kc A1'.out hs.out.2.2)
   obtain ⟨⟨e0,e1,e2⟩,-⟩:=bQ NEW1.out
   obtain ⟨⟨d0,d1,d2,d3,d4,d5,d6⟩,-⟩:=aK ROW1.out
   have m1:=cell_regrown e1;have m2:=cell_regrown e2;have y1:=cell_regrown d1
   obtain ⟨P,hP⟩ : ∃ P,powZ z ar = P:=⟨_,rfl⟩
   have PIN:=PI.out ar AR.1 AR.2
   rw [hP] at PIN
   obtain ⟨pi1,pi2⟩:=PIN
   have pi0 : 0 ≤ P:=by omega
   have pi64 : P ≤ 64:=by omega
   obtain ⟨lim,hlim⟩ : ∃ lim : Int,(2 : Int) ^ P.toNat = lim:=⟨_,rfl⟩
   have hw : IntKind.i64.wrap ((2 : Int) ^ P.toNat) = lim:=by rw [sX pi0 (by omega),hlim]
   have FA2 : Hid (iG z F j = (decide (0 ≤ tr) && decide (tr < lim))):=by show _ = _;rw [FA.out,hP,hlim]
   have cP : Hid (∀ d os,Calls Tryz.prog 356 #[.int .i64 z,.int .i64 ar] (grow (redrawn (wr.alloc (.cells #[str nm,.int .i64 ar,.int .i64 tr] 102)) d) os) fun e w''=>e = .returned (.int .i64 P) ∧ ∃ p : Regrown,w'' = grow (redrawn (wr.alloc (.cells #[str nm,.int .i64 ar,.int .i64 tr] 102)) p.d) p.os):=fun d os=>by
    rw [← hP];exact Calls.regrown_of ((PW.out ar _ AR.1 AR.2).mono fun e w' h=>⟨h.1,by rw [← h.2];exact Below.refl _ _⟩)
   clear hT hK p0 p1 p2 e0 e1 e2 d0 d1 d2 d3 d4 d5 d6 hP hlim AR FA
   rcases (show tr < 0 ∨ (0 ≤ tr ∧ lim ≤ tr) ∨ (0 ≤ tr ∧ tr < lim) by omega) with h5 | ⟨h5,h6⟩ | ⟨h5,h6⟩
   ·have g2 : decide (tr < 0) = true:=decide_eq_true h5
    have RT : Hid (A1 = false):=by show _ = _;rw [← HA1.out,aE hlt (by rw [FA2.out];simp;omega)]
    go_wp2_with fail
    refine wqb ?_
    repeat (go_big_quiet_step (fail))
    refine wpQuiet_nil (qe fun wq Bwq=>?_)
    go_wp2_with fail
    go_ret
    exact ⟨by rw [RT.out];rfl,aA B1.out Bwq.out⟩
   ·have g2 : decide (tr < 0) = false:=decide_eq_false (by omega)
    have g3 : decide (lim ≤ tr) = true:=decide_eq_true h6
    have RT : Hid (A1 = false):=by show _ = _;rw [← HA1.out,aE hlt (by rw [FA2.out];simp;omega)]
    go_wp2_with fail
    refine wqb ?_
    repeat (go_big_quiet_step ((go_at_call 356;exact cP.out _ _)))
    refine wpQuiet_nil (qe fun wq Bwq=>?_)
    go_wp2_with fail
    go_ret
    exact ⟨by rw [RT.out];rfl,aA B1.out Bwq.out⟩
   ·have g2 : decide (tr < 0) = false:=decide_eq_false (by omega)
    have g3 : decide (lim ≤ tr) = false:=decide_eq_false (by omega)
    go_wp2_with fail
    refine wqb ?_
    repeat (go_big_quiet_step ((go_at_call 356;exact cP.out _ _)))
    refine wpQuiet_nil (qe fun wq Bwq=>?_)
    go_wp2_with fail
    go_roundw
    case rel=>exact ⟨j + 1,by omega,by go_num,aL hs.out.1 (by rw [FA2.out];simp;omega),aA B1.out Bwq.out,kc Bwq.out ROW1.out⟩
    case measure=>simp [intOf];omega
  ·have e : j = fn:=by omega
   have RT1 : Hid (A1 = true):=by show _ = _;rw [← HA1.out,← e];exact hs.out.1
   have BW1:=Hd hs.out.2.1
   have RW1:=Hd hs.out.2.2
   have g1 : decide ((j : Int) < (fn : Int)) = false:=by simp;omega
   clear hs e
   go_wp2_with fail
   go_loopw [68] (fun i wr=>∃ j : Nat,j ≤ gn ∧ i = .int .i64 j ∧ Hid (aI j (iH z G) = true ∧ Below w.heap.size w wr ∧ wr.heap[w.heap.size]? = some (mdR 2 z ra 0 rc 0 fa fn fc ga gn gc ba bn bc))) (fun i _=>gn - (intOf i).toNat)
   case atStart=>exact ⟨0,Nat.zero_le _,rfl,aN _,BW1.out,RW1.out⟩
   case round =>
    clear x0 x1 x2 x3 x4 x5 x6 BW1 RW1
    obtain ⟨j,hj,rfl,hs⟩:=hrel
    obtain ⟨⟨x0,x1,x2,x3,x4,x5,x6⟩,-⟩:=aK hs.out.2.2
    by_cases hlt : j < gn
    ·obtain ⟨T,hT⟩:=aH (l:=G) (j:=j) (by rw [← L2.out];exact hlt)
     obtain ⟨b,off,rfl,GG⟩:=HG.out.get (bG hT)
     obtain ⟨vx,vk,ve,p0,p1,p2,pv⟩:=GG j T hT
     clear GG
     have hK:=aC hs.out.2.1
     have c0:=hK _ _ p0;have c1:=hK _ _ p1;have c2:=hK _ _ p2
     have VL:=Hd pv.len.1
     have PV:=Hd pv
     have vk63 : vk ≤ 9223372036854775807:=le63 (Nat.le_trans (Nat.le_of_eq pv.len.1) (Nat.le_trans pv.len.2.1 pv.len.2.2.1))
     have FA:=Hd (lK (z:=z) hT)
     have AR:=SGG.out j T hT
     obtain ⟨nm,ar,vl⟩:=T
     simp only [Fu.args,Fu.value,Fu.name] at *
     have A1' : Hid (Below wr.heap.size wr (wr.alloc (.cells #[str nm,.int .i64 ar,.slice vx vk ve] 121))):=bnew
     have B1 : Hid (Below w.heap.size w (wr.alloc (.cells #[str nm,.int .i64 ar,.slice vx vk ve] 121))):=aA hs.out.2.1 A1'.out
     have NEW1:=Hd (heap_alloc_new wr (.cells #[str nm,.int .i64 ar,.slice vx vk ve] 121))
     have ROW1:=Hd (kc A1'.out hs.out.2.2)
     obtain ⟨e0,e1,e2,-⟩:=gZ NEW1.out
     obtain ⟨⟨d0,d1,d2,d3,d4,d5,d6⟩,-⟩:=aK ROW1.out
     have m1:=cell_regrown e1;have m2:=cell_regrown e2;have y1:=cell_regrown d1
     obtain ⟨P,hP⟩ : ∃ P,powZ z ar = P:=⟨_,rfl⟩
     have cP : Hid (∀ d os,Calls Tryz.prog 356 #[.int .i64 z,.int .i64 ar] (grow (redrawn (wr.alloc (.cells #[str nm,.int .i64 ar,.slice vx vk ve] 121)) d) os) fun e w''=>e = .returned (.int .i64 P) ∧ ∃ p : Regrown,w'' = grow (redrawn (wr.alloc (.cells #[str nm,.int .i64 ar,.slice vx vk ve] 121)) p.d) p.os):=fun d os=>by
      rw [← hP];exact Calls.regrown_of ((PW.out ar _ AR.1 (by omega)).mono fun e w' h=>⟨h.1,by rw [← h.2];exact Below.refl _ _⟩)
     have FA2 : Hid (iH z G j = (decide ((vk : Int) = P) && aI vk (inAt z vl))):=by show _ = _;rw [FA.out,hP,VL.out]
     obtain ⟨C,hC⟩ : ∃ C,aI vk (inAt z vl) = C:=⟨_,rfl⟩
     have HC:=Hd hC
     rw [hC] at FA2
     clear hT hK p0 p1 p2 pv e0 e1 e2 d0 d1 d2 d3 d4 d5 d6 hP AR FA hC
     by_cases hv : (vk : Int) = P
     rotate_left
     ·have g2 : ((vk : Int) != P) = true:=by simpa using hv
      have RT : Hid (A2 = false):=by show _ = _;rw [← HA2.out,aE hlt (by rw [FA2.out,decide_eq_false hv];rfl)]
      clear hv
      go_wp2_with fail
      refine wqb ?_
      repeat (go_big_quiet_step ((go_at_call 356;exact cP.out _ _)))
      refine wpQuiet_nil (qe fun wq Bwq=>?_)
      go_wp2_with fail
      go_ret
      exact ⟨by rw [RT.out,RT1.out];rfl,aA B1.out Bwq.out⟩
     have g2 : ((vk : Int) != P) = false:=by simpa using hv
     rw [decide_eq_true hv] at FA2
     clear hv
     go_wp2_with fail
     refine wqb ?_
     repeat (go_big_quiet_step ((go_at_call 356;exact cP.out _ _)))
     refine wpQuiet_nil (qe fun wq Bwq=>?_)
     have NEW2:=Hd (kc Bwq.out NEW1.out)
     have ROW2:=Hd (kc Bwq.out ROW1.out)
     have BW2:=Hd (aA B1.out Bwq.out)
     obtain ⟨e0,e1,e2,-⟩:=gZ NEW2.out
     obtain ⟨⟨d0,d1,d2,d3,d4,d5,d6⟩,-⟩:=aK ROW2.out
     clear m1 m2 y1 g2
     go_wp2_with fail
     go_loopw [84] (fun i wy=>∃ i2 : Nat,i2 ≤ vk ∧ i = .int .i64 i2 ∧ Hid (aI i2 (inAt z vl) = true ∧ Below wq.heap.size wq wy)) (fun i _=>vk - (intOf i).toNat)
     case atStart=>exact ⟨0,Nat.zero_le _,rfl,aN _,Below.refl _ _⟩
     case round =>
      clear c0 c1 c2 e0 e1 e2 d0 d1 d2 d3 d4 d5 d6
      obtain ⟨i2,hi2,rfl,hs2⟩:=hrel
      have NEW3:=Hd (kc hs2.out.2 NEW2.out)
      have ROW3:=Hd (kc hs2.out.2 ROW2.out)
      have BW3:=Hd (aA BW2.out hs2.out.2)
      obtain ⟨e0,e1,e2,-⟩:=gZ NEW3.out
      obtain ⟨⟨d0,d1,d2,d3,d4,d5,d6⟩,-⟩:=aK ROW3.out
      by_cases hli : i2 < vk
      ·obtain ⟨x,hxx⟩:=aH (l:=vl) (j:=i2) (by rw [← VL.out];exact hli)
       obtain ⟨vb,voff,rfl,c0⟩:=eS (PV.out.keep (aC BW3.out)) hxx
       have IA:=Hd (pW (z:=z) hxx)
       have r0:=cell_regrown c0;have r2:=cell_regrown e2;have y1:=cell_regrown d1
       have g3 : decide ((i2 : Int) < (vk : Int)) = true:=by simp;omega
       clear hxx
       obtain ⟨s,hsd⟩ : ∃ s,(decide (0 ≤ x) && decide (x < z)) = s:=⟨_,rfl⟩
       rw [hsd] at IA
       have EL:=Hd (fun h=>zA z x w.heap.size wr h)
       rw [hsd] at EL
       clear hsd
       cases s
       ·have RC : Hid (C = false):=by show _ = _;rw [← HC.out,aE hli IA.out]
        have RT : Hid (A2 = false):=by show _ = _;rw [← HA2.out,aE hlt (by rw [FA2.out,RC.out];rfl)]
        go_wp2_with (go_at_call 355;refine (EL.out d1).mono ?_;rintro e w5 ⟨rfl,rfl⟩)
        go_ret
        exact ⟨by rw [RT.out,RT1.out];rfl,BW3.out⟩
       ·go_wp2_with (go_at_call 355;refine (EL.out d1).mono ?_;rintro e w5 ⟨rfl,rfl⟩)
        go_roundw
        case rel=>exact ⟨i2 + 1,by omega,by go_num,aL hs2.out.1 IA.out,hs2.out.2⟩
        case measure=>simp [intOf];omega
      ·have e : i2 = vk:=by omega
       have RC : Hid (C = true):=by show _ = _;rw [← HC.out,← e];exact hs2.out.1
       have g3 : decide ((i2 : Int) < (vk : Int)) = false:=by simp;omega
       clear hs2 e
       go_wp2_with fail
       go_roundw
       case rel=>exact ⟨j + 1,by omega,by go_num,aL hs.out.1 (by rw [FA2.out,RC.out];rfl),BW3.out,ROW3.out⟩
       case measure=>simp [intOf];omega
    ·have e : j = gn:=by omega
     have RT2 : Hid (A2 = true):=by show _ = _;rw [← HA2.out,← e];exact hs.out.1
     have BW1:=Hd hs.out.2.1
     have RW1:=Hd hs.out.2.2
     have g1 : decide ((j : Int) < (gn : Int)) = false:=by simp;omega
     clear hs e
     go_wp2_with fail
     go_loopw [97] (fun i wr=>∃ j : Nat,j ≤ bn ∧ i = .int .i64 j ∧ Hid (aI j (jM z B) = true ∧ Below w.heap.size w wr ∧ wr.heap[w.heap.size]? = some (mdR 2 z ra 0 rc 0 fa fn fc ga gn gc ba bn bc))) (fun i _=>bn - (intOf i).toNat)
     case atStart=>exact ⟨0,Nat.zero_le _,rfl,aN _,BW1.out,RW1.out⟩
     case round =>
      clear x0 x1 x2 x3 x4 x5 x6 BW1 RW1
      obtain ⟨j,hj,rfl,hs⟩:=hrel
      obtain ⟨⟨x0,x1,x2,x3,x4,x5,x6⟩,-⟩:=aK hs.out.2.2
      by_cases hlt : j < bn
      ·obtain ⟨T,hT⟩:=aH (l:=B) (j:=j) (by rw [← L3.out];exact hlt)
       obtain ⟨b,off,rfl,p0,p1⟩:=gE HY.out hT
       have hK:=aC hs.out.2.1
       have c0:=hK _ _ p0;have c1:=hK _ _ p1
       have FA:=Hd (lI (z:=z) hT)
       have BW2:=Hd hs.out.2.1
       obtain ⟨nm,x⟩:=T
       simp only [Bi.at_,Bi.name] at *
       have g1 : decide ((j : Int) < (bn : Int)) = true:=by simp;omega
       clear hT hK p0 p1
       obtain ⟨s,hsd⟩ : ∃ s,(decide (0 ≤ x) && decide (x < z)) = s:=⟨_,rfl⟩
       rw [hsd] at FA
       have A1' : Hid (Below wr.heap.size wr (wr.alloc (.cells #[str nm,.int .i64 x] 123))):=bnew
       have ROW1:=Hd (kc A1'.out hs.out.2.2)
       obtain ⟨⟨d0,d1,d2,d3,d4,d5,d6⟩,-⟩:=aK ROW1.out
       have EL:=Hd (fun h=>zA z x w.heap.size (wr.alloc (.cells #[str nm,.int .i64 x] 123)) h)
       rw [hsd] at EL
       clear hsd
       cases s
       ·have RT : Hid (A3 = false):=by show _ = _;rw [← HA3.out,aE hlt FA.out]
        go_wp2_with (go_at_call 355;refine (EL.out d1).mono ?_;rintro e w5 ⟨rfl,rfl⟩)
        go_ret
        exact ⟨by rw [RT.out,RT1.out,RT2.out];rfl,aA BW2.out A1'.out⟩
       ·go_wp2_with (go_at_call 355;refine (EL.out d1).mono ?_;rintro e w5 ⟨rfl,rfl⟩)
        go_roundw
        case rel=>exact ⟨j + 1,by omega,by go_num,aL hs.out.1 FA.out,aA BW2.out A1'.out,ROW1.out⟩
        case measure=>simp [intOf];omega
      ·have e : j = bn:=by omega
       have RT : Hid (A3 = true):=by show _ = _;rw [← HA3.out,← e];exact hs.out.1
       have BW:=Hd hs.out.2.1
       have g1 : decide ((j : Int) < (bn : Int)) = false:=by simp;omega
       clear hs
       go_wp2_with fail
       go_ret
       exact ⟨by rw [RT.out,RT1.out,RT2.out];rfl,BW.out⟩
end Go.Proofs.YtcandidgaegghaaGreatDoor
