/- The lines of a model of worlds or times: describe.Model. Conditions: the model is right; its names and masks are small. -/
import Derived.Test.YtcandidgaegghaaGreatDoorCpZ
import Derived.Test.YtcandidgaegghaaGreatDoorNdDZ
import Derived.Deep.RegionLaw
set_option maxRecDepth 10000
set_option linter.unusedSimpArgs false
set_option linter.unusedVariables false
namespace Go.Proofs.YtcandidgaegghaaGreatDoor
open Go Go.RowKit Go.Sort Ly
set_option maxHeartbeats 4000000
theorem model16_4 (F : List Fa) (R : List Int) (z lo : Int) (ok : kI F R) (hz : 0 ≤ z) (hz2 : z ≤ 1000000) (hlo : 0 ≤ lo) (hlo2 : lo ≤ 1000000) (ra fa ga ba : Option Addr) (rn rc fn fc gn gc bn bc : Nat) (w : World) (hx : aM w 3 (fasV F) F.length (.slice fa fn fc)) (hr : aM w 1 (inV R) R.length (.slice ra rn rc)) (hp : gP w)
  (hV : ∀ W,Below w.heap.size w W → Calls Tryz.prog 65 #[lgV 4 3326,mdK 4 z ra rn rc lo fa fn fc ga gn gc ba bn bc] W (Rt (.bool true) W)) :
  Calls Tryz.prog 16 #[mdK 4 z ra rn rc lo fa fn fc ga gn gc ba bn bc] w (eV ([Lib.itoa z ++ cE] ++ F.map bF ++ dV R) w):=by
 have L1:=Hd hx.len.1
 have L2:=Hd hr.len.1
 have fk : fn ≤ 12:=by have:=L1.out;have:=ok.fl;omega
 have rk : rn ≤ 8:=by have:=L2.out;have:=ok.rl;omega
 have HX:=Hd hx
 have HR:=Hd hr
 have HP:=Hd hp
 have HV:=Hd hV
 have OK:=Hd ok
 obtain ⟨i0,hi0,hz0,hs0,hb0⟩:=info_parts fP
 have BX : Hid ((w.alloc (mdR 4 z ra rn rc lo fa fn fc ga gn gc ba bn bc)).heap[w.heap.size]? = some (mdR 4 z ra rn rc lo fa fn fc ga gn gc ba bn bc)):=heap_alloc_new w _
 have WB : Hid (Below w.heap.size w (w.alloc (mdR 4 z ra rn rc lo fa fn fc ga gn gc ba bn bc))):=bnew
 have IL : Hid ((Lib.itoa z).length ≤ 7):=bC hz hz2
 have IL2 : Hid ((Lib.itoa lo).length ≤ 7):=bC hlo hlo2
 clear hx hr hp hV ok
 go_enter Tryz.func16,Tryz.ntmps16
 go_wp2_with fail
 generalize hW : w.alloc (mdR 4 z ra rn rc lo fa fn fc ga gn gc ba bn bc) = W at *
 clear hW
 have cA : Hid (∀ d os,Calls Tryz.prog 66 #[.int .u8 4] (grow (redrawn W d) os) fun e w''=>e = .returned (.int .u32 3326) ∧ ∃ p : Regrown,w'' = grow (redrawn W p.d) p.os):=fun d os=>Calls.regrown_of (hI 4 _)
 have cV : Hid (∀ d os,Calls Tryz.prog 65 #[lgV 4 3326,mdK 4 z ra rn rc lo fa fn fc ga gn gc ba bn bc] (grow (redrawn W d) os) fun e w''=>e = .returned (.bool true) ∧ ∃ p : Regrown,w'' = grow (redrawn W p.d) p.os):=fun d os =>
  Calls.regrown_of (HV.out _ (aA WB.out (below_regrown W d os)))
 obtain ⟨⟨k0,k1,k2,k3,k4,k5,k6⟩,-⟩:=aK BX.out
 have r0:=cell_regrown k0;have r1:=cell_regrown k1;have r2:=cell_regrown k2;have r3:=cell_regrown k3;have r4:=cell_regrown k4;have r5:=cell_regrown k5;have r6:=cell_regrown k6
 refine wqb ?_
 repeat (go_big_quiet_step (first | (go_at_call 66;exact cA.out _ _) | (go_at_call 65;exact cV.out _ _)))
 refine wpQuiet_nil ?_
 intro wq hw'
 have WQ : Hid (Below W.heap.size W wq):=by
  obtain ⟨⟨dq,osq⟩,hw''⟩:=hw'
  rw [hw''];exact below_regrown W dq osq
 clear hw' r0 r1 r2 r3 r4 r5 r6 cA cV k0 k1 k2 k3 k4 k5 k6
 have BQ:=Hd (aA WB.out WQ.out)
 have BXq:=Hd (kc WQ.out BX.out)
 obtain ⟨⟨k0,k1,k2,k3,k4,k5,k6⟩,-⟩:=aK BXq.out
 go_wp2_with fail
 refine (eH z hz hz2 _ (HP.out.below BQ.out)).mono ?_
 rintro e w1 ⟨rfl,b1⟩
 have B1:=Hd (aA BQ.out b1)
 have BX1:=Hd (kc b1 BXq.out)
 clear b1 k0 k1 k2 k3 k4 k5 k6
 obtain ⟨⟨k0,k1,k2,k3,k4,k5,k6⟩,-⟩:=aK BX1.out
 have il:=IL.out
 have il2:=IL2.out
 have z1 : w.heap.size < w1.heap.size:=(Array.getElem?_eq_some_iff.1 BX1.out).1
 go_wp2_with fail
 have SH : Hid (Value.string ((⟨(Lib.itoa z).toArray⟩ : ByteArray) ++ ⟨#[32,119,111,114,108,100,115]⟩) = str (Lib.itoa z ++ cE)):=by show _ = _;simp only [str,cE,Value.string.injEq];apply ByteArray.ext;simp
 have O2 : Hid (aD (w.heap.size + 1) (w1.alloc (.cells #[.string ((⟨(Lib.itoa z).toArray⟩ : ByteArray) ++ ⟨#[32,119,111,114,108,100,115]⟩)] 9)) [Lib.itoa z ++ cE] (.slice (some ⟨w1.heap.size,0,none⟩) 1 1)):=by
  have h:=(gI w1 (Lib.itoa z ++ cE)).mono (B':=w.heap.size + 1) (Array.getElem?_eq_some_iff.1 BX1.out).1
  show aD _ _ _ _
  rw [SH.out];exact h
 have B3 : Hid (Below w.heap.size w (w1.alloc (.cells #[.string ((⟨(Lib.itoa z).toArray⟩ : ByteArray) ++ ⟨#[32,119,111,114,108,100,115]⟩)] 9))):=B1.out.alloc B1.out.size _
 have BX3 : Hid ((w1.alloc (.cells #[.string ((⟨(Lib.itoa z).toArray⟩ : ByteArray) ++ ⟨#[32,119,111,114,108,100,115]⟩)] 9)).heap[w.heap.size]? = some (mdR 4 z ra rn rc lo fa fn fc ga gn gc ba bn bc)):=kc bnew BX1.out
 generalize Lib.itoa z ++ cE = hd at *
 go_loopw [5,53] (fun u i wr=>∃ j : Nat,j ≤ fn ∧ i = .int .i64 j ∧ Hid (aD (w.heap.size + 1) wr ([hd] ++ (F.take j).map bF) u ∧ Below w.heap.size w wr ∧ wr.heap[w.heap.size]? = some (mdR 4 z ra rn rc lo fa fn fc ga gn gc ba bn bc))) (fun _ i _=>fn - (intOf i).toNat)
 case atStart=>exact ⟨0,Nat.zero_le _,rfl,by simpa using O2.out,B3.out,BX3.out⟩
 case round =>
  clear O2 B3 BX3 B1 BX1 BQ BXq BX WB WQ SH il il2 IL IL2
  obtain ⟨j,hj,rfl,hs⟩:=hrel
  by_cases hlt : j < fn
  ·obtain ⟨T,hT⟩:=aH (l:=F) (j:=j) (by rw [← L1.out];exact hlt)
   obtain ⟨b,off,rfl,p0,p1,p2⟩:=cL HX.out hT
   have hK:=aC hs.out.2.1
   have c0:=hK _ _ p0;have c1:=hK _ _ p1;have c2:=hK _ _ p2
   have M1:=Hd (cY bF hT)
   have NL:=OK.out.nm T (List.mem_of_getElem? hT)
   have TT:=OK.out.t0 T (List.mem_of_getElem? hT)
   obtain ⟨nm,ar,tr⟩:=T
   simp only [Fa.args,Fa.tru,Fa.name] at *
   obtain ⟨tt0,tt1⟩:=TT
   have OW0:=Hd hs.out.1
   have BW:=Hd hs.out.2.1
   have ROW:=Hd hs.out.2.2
   have ws : w.heap.size < wr.heap.size:=(Array.getElem?_eq_some_iff.1 hs.out.2.2).1
   have LE : Hid (((F.take j).map bF).length ≤ 12):=by show _ ≤ _;simp;omega
   have LN : Hid (bF ⟨nm,ar,tr⟩ = nm ++ mwAt ++ numbers (bJ tr)):=rfl
   have NN:=cR tr
   have nl1 : ¬ 9223372036854775807 < List.length nm + 12:=by omega
   have BO:=Hd (fM tr)
   have A1 : Hid (Below wr.heap.size wr (wr.alloc (.cells #[str nm,.int .i64 ar,.int .i64 tr] 102)).drew):=bnew.drew
   have B0:=Hd (aA BW.out A1.out)
   have hS0 : (wr.alloc (.cells #[str nm,.int .i64 ar,.int .i64 tr] 102)).drew.heap[wr.heap.size]? = some (.cells #[str nm,.int .i64 ar,.int .i64 tr] 102):=heap_alloc_new wr _
   clear hT hK p0 p1 p2 hs
   generalize (F.take j).map bF = M at *
   have C3 : Hid (([hd] ++ M).length + 1 ≤ maxLen ∧ (([hd] ++ M).length + 1) * 16 ≤ 140737488355328):=by
    have h1:=LE.out
    simp only [List.length_append,List.length_cons,List.length_nil]
    exact ⟨by unfold maxLen;omega,by omega⟩
   go_wp2_with fail
   refine wp_region_held_drew (S:=fun w'=>w'.heap[wr.heap.size]? = some (.cells #[str nm,.int .i64 ar,.int .i64 tr] 102)) (by kernel_rfl) hS0 (fun hHeld=>?_)
   refine tk 0 ?_
   try simp only [Act.put,s1,s2,s3,s4,s5,s6]
   refine tk 1 ?_
   try simp only [Act.put,s1,s2,s3,s4,s5,s6]
   refine tk 2 ?_ (hv:=by intro w0 hSw;obtain ⟨⟨z0,z1,z2⟩,-⟩:=bQ hSw;go_simp;try with_reducible rfl)
   try simp only [Act.put,s1,s2,s3,s4,s5,s6]
   refine tk 3 ?_
   try simp only [Act.put,s1,s2,s3,s4,s5,s6]
   refine tk 4 ?_
   try simp only [Act.put,s1,s2,s3,s4,s5,s6]
   refine tk 5 ?_ (hv:=by intro w0 hSw;obtain ⟨⟨z0,z1,z2⟩,-⟩:=bQ hSw;go_simp;try with_reducible rfl)
   try simp only [Act.put,s1,s2,s3,s4,s5,s6]
   refine rd 6 (fun K hK=>?_)
   go_simp
   go_at_call 71
   refine (mG tr tt0 tt1 _).mono ?_
   rintro e w3 ⟨v3,rfl,i3,b3⟩
   obtain ⟨y,yn,yc,rfl⟩:=dF.slice i3
   have I3:=Hd i3
   have B3:=Hd (aA B0.out b3)
   have hSn:=kc b3 hS0
   have hS3:=hSn
   have Z3:=Hd b3
   clear i3 b3
   go_simp
   refine hK.out _ _ hSn (fun _=>?_)
   clear hK K
   try simp only [Act.put,s1,s2,s3,s4,s5,s6]
   refine rd 7 (fun K hK=>?_)
   go_simp
   go_at_call 70
   refine (fD (bJ tr) BO.out.1 (by have:=BO.out.2;omega) _ _ _ _ (HP.out.below B3.out) I3.out).mono ?_
   rintro e w4 ⟨rfl,b4⟩
   have B4:=Hd (aA B3.out b4)
   have hSn:=kc b4 hS3
   have Z4:=Hd (aA A1.out (aA Z3.out b4))
   have OW4:=Hd (aD.below (aD.below OW0.out A1.out) (aA Z3.out b4))
   have ROW4:=Hd (kc b4 (kc Z3.out (kc A1.out ROW.out)))
   have hS4:=hSn
   clear b4
   go_simp
   refine hK.out _ _ hSn (fun _=>?_)
   clear hK K
   try simp only [Act.put,s1,s2,s3,s4,s5,s6]
   obtain ⟨N,hN⟩ : ∃ N,numbers (bJ tr) = N:=⟨_,rfl⟩
   rw [hN] at NN LN
   simp only [hN]
   clear hN
   have SS : Hid (Value.string ((⟨nm.toArray⟩ : ByteArray) ++ ⟨#[32,105,115,32,116,114,117,101,32,97,116,32]⟩ ++ ⟨N.toArray⟩) = str (nm ++ mwAt ++ N)):=by show _ = _;simp only [str,mwAt,Value.string.injEq];apply ByteArray.ext;simp
   have nl2 : ¬ 9223372036854775807 < List.length nm + 12 + List.length N:=by omega
   have ws4 : w.heap.size < w4.heap.size:=(Array.getElem?_eq_some_iff.1 ROW4.out).1
   have wr4 : wr.heap.size < w4.heap.size:=(Array.getElem?_eq_some_iff.1 hS4).1
   refine tk 8 ?_
   try simp only [Act.put,s1,s2,s3,s4,s5,s6]
   refine rd 9 (fun K hK=>?_)
   go_simp
   refine hK.out _ _ ((heap_alloc_old _ _ wr4).trans hS4) (fun _=>?_)
   clear hK K
   try simp only [Act.put,s1,s2,s3,s4,s5,s6]
   refine rd 10 (fun K hK=>?_)
   refine aR rfl _ _ 36 rfl (w.heap.size + 1) 9 i0 (.string ⟨#[]⟩) 1 16 Tryz.underlying36 hi0 hz0 hs0 hb0 rfl (by decide) _ _ _ rfl (OW4.out.alloc _) ⟨w4.heap.size,0,none⟩ 1 1 [.string ((⟨nm.toArray⟩ : ByteArray) ++ ⟨#[32,105,115,32,116,114,117,101,32,97,116,32]⟩ ++ ⟨N.toArray⟩)] rfl rfl (cell_one_new _ _ _) (by intro u hu;simp at hu;subst hu;rfl) C3.out.1 C3.out.2 (by simp;omega) ?_
   intro v5 w5 hown2 hg2 _
   have hg5 : w5.heap[wr.heap.size]? = some (.cells #[str nm,.int .i64 ar,.int .i64 tr] 102):=(hg2.block _ (by simp;omega) (fun e=>by have:=(OW0.out.lt _ e.symm).2;omega)).trans ((heap_alloc_old _ _ wr4).trans hS4)
   have R : Hid (aD (w.heap.size + 1) w5 ([hd] ++ (F.take (j + 1)).map bF) v5 ∧ Below w.heap.size w w5 ∧ w5.heap[w.heap.size]? = some (mdR 4 z ra rn rc lo (some ⟨b,off,none⟩) fn fc ga gn gc ba bn bc)):=by
    refine ⟨?_,(B4.out.alloc B4.out.size _).grown hg2 (by simp;omega) (fun kk hkk=>by have:=(OW4.out.lt kk hkk).1;omega),(hg2.block _ (by simp;omega) (fun e=>by have:=(OW4.out.lt _ e.symm).1;omega)).trans ((heap_alloc_old _ _ ws4).trans ROW4.out)⟩
    rw [M1.out,LN.out,← List.append_assoc]
    unfold aD
    rw [List.length_append,List.map_append]
    rw [SS.out] at hown2
    exact hown2
   clear hown2 hg2
   refine hK.out _ _ hg5 (fun _=>?_)
   clear hK K
   try simp only [Act.put,s1,s2,s3,s4,s5,s6]
   refine rd 11 (fun K hK=>?_)
   go_simp
   refine hK.out _ _ hg5 (fun _=>?_)
   clear hK K
   try simp only [Act.put,s1,s2,s3,s4,s5,s6]
   refine wpAnyH_done (by kernel_rfl) ?_ _
   go_wp2_with fail
   go_roundw
   case rel=>exact ⟨j + 1,by omega,by go_num,R.out⟩
   case measure=>simp [intOf];omega
  ·have e : (F.take j) = F:=List.take_of_length_le (by rw [← L1.out];omega)
   have HS : Hid (aD (w.heap.size + 1) wr ([hd] ++ F.map bF) u5 ∧ Below w.heap.size w wr ∧ wr.heap[w.heap.size]? = some (mdR 4 z ra rn rc lo fa fn fc ga gn gc ba bn bc)):=by have h:=hs.out;rw [e] at h;exact h
   have g1 : decide ((j : Int) < (fn : Int)) = false:=by simp;omega
   obtain ⟨⟨k0,k1,k2,k3,k4,k5,k6⟩,-⟩:=aK HS.out.2.2
   have LF : Hid ((F.map bF).length ≤ 12):=by show _ ≤ _;rw [List.length_map,← L1.out];exact fk
   clear hs e hj
   generalize F.map bF = FL at *
   go_wp2_with fail
   go_loopw [5,72] (fun u i wx=>∃ j : Nat,j ≤ rn ∧ i = .int .i64 j ∧ Hid (aD (w.heap.size + 1) wx ([hd] ++ FL ++ (List.range j).map (aZ R)) u ∧ Below w.heap.size w wx)) (fun _ i _=>rn - (intOf i).toNat)
   case atStart=>exact ⟨0,Nat.zero_le _,rfl,by simpa using HS.out.1,HS.out.2.1⟩
   case round =>
    clear HS k0 k1 k2 k3 k4 k5 k6
    obtain ⟨j,hj,rfl,hs⟩:=hrel
    by_cases hlt : j < rn
    ·obtain ⟨x,hx⟩:=aH (l:=R) (j:=j) (by rw [← L2.out];exact hlt)
     obtain ⟨b,off,rfl,p0⟩:=eS HR.out hx
     have c0:=aC hs.out.2 _ _ p0
     have XR:=OK.out.r0 x (List.mem_of_getElem? hx)
     obtain ⟨xr0,xr1⟩:=XR
     have LN : Hid (aZ R j = Lib.itoa (j : Int) ++ fK ++ numbers (bJ x)):=by show _ = _;unfold aZ;rw [cW hx]
     have NN:=cR x
     have BO:=Hd (fM x)
     have IJ : Hid ((Lib.itoa (j : Int)).length ≤ 7):=bC (by omega) (by omega)
     have ij:=IJ.out
     have OW0:=Hd hs.out.1
     have BW:=Hd hs.out.2
     have M1 : Hid ((List.range (j + 1)).map (aZ R) = (List.range j).map (aZ R) ++ [aZ R j]):=by show _ = _;rw [List.range_succ,List.map_append];rfl
     have LE : Hid (((List.range j).map (aZ R)).length ≤ 8):=by show _ ≤ _;simp;omega
     have jb0 : (0 : Int) ≤ (j : Int):=by omega
     have jb1 : (j : Int) ≤ 1000000:=by omega
     clear hx p0 hs
     generalize (List.range j).map (aZ R) = M at *
     have C3 : Hid (([hd] ++ FL ++ M).length + 1 ≤ maxLen ∧ (([hd] ++ FL ++ M).length + 1) * 16 ≤ 140737488355328):=by
      have h1:=LE.out
      have h2:=LF.out
      simp only [List.length_append,List.length_cons,List.length_nil]
      exact ⟨by unfold maxLen;omega,by omega⟩
     have nl1 : ¬ 9223372036854775807 < List.length (Lib.itoa (j : Int)) + 6:=by omega
     have nl2 : ¬ 9223372036854775807 < List.length (Lib.itoa (j : Int)) + 6 + List.length (numbers (bJ x)):=by omega
     have SS : Hid (Value.string ((⟨(Lib.itoa (j : Int)).toArray⟩ : ByteArray) ++ ⟨#[32,115,101,101,115,32]⟩ ++ ⟨(numbers (bJ x)).toArray⟩) = str (Lib.itoa (j : Int) ++ fK ++ numbers (bJ x))):=by show _ = _;simp only [str,fK,Value.string.injEq];apply ByteArray.ext;simp
     go_wp2_with (first
      | (go_at_call 35;refine (eH (j : Int) jb0 jb1 _ (HP.out.below BW.out)).mono ?_;rintro e w3 ⟨rfl,b3⟩;have B3:=Hd (aA BW.out b3);have Z3:=Hd b3;clear b3)
      | (go_at_call 71;refine (mG x xr0 xr1 _).mono ?_;rintro e w4 ⟨v4,rfl,i4,b4⟩;obtain ⟨y,yn,yc,rfl⟩:=dF.slice i4;have I4:=Hd i4;have B4:=Hd (aA B3.out b4);have Z4:=Hd (aA Z3.out b4);clear i4 b4)
      | (go_at_call 70;refine (fD (bJ x) BO.out.1 (by have:=BO.out.2;omega) _ _ _ _ (HP.out.below B4.out) I4.out).mono ?_;rintro e w5 ⟨rfl,b5⟩;have B5:=Hd (aA B4.out b5);have OW5:=Hd (aD.below OW0.out (aA Z4.out b5));have C6 : Hid (w.heap.size + 1 ≤ (w5.alloc (.cells #[.string ((⟨(Lib.itoa (j : Int)).toArray⟩ : ByteArray) ++ ⟨#[32,115,101,101,115,32]⟩ ++ ⟨(numbers (bJ x)).toArray⟩)] 9)).heap.size):=(by have:=B5.out.size;show _ ≤ _;simp;omega);clear b5)
      | (at_builtin;refine wpList_append_own _ rfl _ _ 36 rfl (w.heap.size + 1) 9 i0 (.string ⟨#[]⟩) 1 16 Tryz.underlying36 hi0 hz0 hs0 hb0 rfl (by decide) _ _ _ rfl (OW5.out.alloc _) ⟨w5.heap.size,0,none⟩ 1 1 [.string ((⟨(Lib.itoa (j : Int)).toArray⟩ : ByteArray) ++ ⟨#[32,115,101,101,115,32]⟩ ++ ⟨(numbers (bJ x)).toArray⟩)] rfl rfl (cell_one_new _ _ _) (by intro u hu;simp at hu;subst hu;rfl) C3.out.1 C3.out.2 C6.out ?_))
     intro v' w6 hown2 hg2 _
     have R6 : Hid (aD (w.heap.size + 1) w6 ([hd] ++ FL ++ (List.range (j + 1)).map (aZ R)) v' ∧ Below w.heap.size w w6):=by
      refine ⟨?_,(B5.out.alloc B5.out.size _).grown hg2 (by have:=C6.out;omega) (fun kk hkk=>by have:=(OW5.out.lt kk hkk).1;omega)⟩
      rw [M1.out,LN.out,← List.append_assoc]
      rw [SS.out] at hown2
      have e9 : FL.length + M.length + 1 + 1 = FL.length + (M.length + 1) + 1:=by omega
      rw [e9] at hown2
      simpa [aD] using hown2
     clear hown2 hg2
     go_wp2_with fail
     go_roundw
     case rel=>exact ⟨j + 1,by omega,by go_num,R6⟩
     case measure=>simp [intOf];omega
    ·have e : j = rn:=by omega
     have HE : Hid (aD (w.heap.size + 1) wr ([hd] ++ FL ++ dV R) u5 ∧ Below w.heap.size w wr):=by
      have h:=hs.out
      rw [e,L2.out] at h
      exact h
     have g2 : decide ((j : Int) < (rn : Int)) = false:=by simp;omega
     clear hs e
     go_wp2_with fail
     go_ret2
     exact ⟨_,rfl,HE.out.1.mono (Nat.le_succ _),HE.out.2⟩
end Go.Proofs.YtcandidgaegghaaGreatDoor
