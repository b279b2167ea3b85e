/- The lines of a model of worlds or times: lyceumref41.Model. Conditions: the model is right; its names and masks are small. -/
import Derived.Test.YtcandidgaegghaaGreatDoorCpZ
import Derived.Test.YtcandidgaegghaaGreatDoorNdGZ
set_option maxRecDepth 10000
set_option linter.unusedSimpArgs false
set_option linter.unusedVariables false
namespace Go.Proofs.YtcandidgaegghaaGreatDoor
open Go Go.RowKit Go.Sort Ly
set_option maxHeartbeats 4000000
theorem model17_4 (F : List Fa) (R : List Int) (z lo : Int) (ok : kI F R) (hz : 0 ≤ z) (hz2 : z ≤ 1000000) (hlo : 0 ≤ lo) (hlo2 : lo ≤ 1000000) (ra fa ga ba : Option Addr) (rn rc fn fc gn gc bn bc : Nat) (hgn : gn = 0) (hbn : bn = 0) (w : World) (hx : aM w 3 (fasV F) F.length (.slice fa fn fc)) (hr : aM w 1 (inV R) R.length (.slice ra rn rc))
  (hV : ∀ W,Below w.heap.size w W → Calls Tryz.prog 72 #[lgV 4 0,mdK 4 z ra rn rc lo fa fn fc ga gn gc ba bn bc] W (Rt (.bool true) W)) :
  Calls Tryz.prog 17 #[mdK 4 z ra rn rc lo fa fn fc ga gn gc ba bn bc] w (eV ([Lib.itoa z ++ cE] ++ F.map bF ++ dV R) w):=by
 subst hgn hbn
 have L1:=Hd hx.len.1
 have L2:=Hd hr.len.1
 have fk : fn ≤ 12:=by have:=L1.out;have:=ok.fl;omega
 have rk : rn ≤ 8:=by have:=L2.out;have:=ok.rl;omega
 have HX:=Hd hx
 have HR:=Hd hr
 have HV:=Hd hV
 have OK:=Hd ok
 obtain ⟨i0,hi0,hz0,hs0,hb0⟩:=info_parts fP
 have BX : Hid ((w.alloc (mdR 4 z ra rn rc lo fa fn fc ga 0 gc ba 0 bc)).heap[w.heap.size]? = some (mdR 4 z ra rn rc lo fa fn fc ga 0 gc ba 0 bc)):=heap_alloc_new w _
 have WB : Hid (Below w.heap.size w (w.alloc (mdR 4 z ra rn rc lo fa fn fc ga 0 gc ba 0 bc))):=bnew
 have IL : Hid ((Lib.itoa z).length ≤ 7):=bC hz hz2
 have IL2 : Hid ((Lib.itoa lo).length ≤ 7):=bC hlo hlo2
 have il:=IL.out
 have il2:=IL2.out
 have DZ : Hid (∀ W,Calls Tryz.prog 73 #[.int .i64 z] W fun e w'=>e = .returned (str (Lib.itoa z)) ∧ W = w'):=fun W=>eB z hz hz2 W
 have DL : Hid (∀ W,Calls Tryz.prog 73 #[.int .i64 lo] W fun e w'=>e = .returned (str (Lib.itoa lo)) ∧ W = w'):=fun W=>eB lo hlo hlo2 W
 clear hx hr hV ok
 go_enter Tryz.func17,Tryz.ntmps17
 go_wp2_with (first | (go_at_call 72;refine (HV.out _ WB.out).mono ?_;rintro e w1 ⟨rfl,b1⟩;have B1:=Hd (aA WB.out b1);have BX1:=Hd (kc b1 BX.out);clear b1;obtain ⟨⟨k0,k1,k2,k3,k4,k5,k6⟩,-⟩:=aK BX1.out;have z1 : w.heap.size < w1.heap.size:=(Array.getElem?_eq_some_iff.1 BX1.out).1) | (go_at_call 73;refine (DZ.out _).mono ?_;rintro e w2 ⟨rfl,rfl⟩))
 have SH : Hid (Value.string ((⟨(Lib.itoa z).toArray⟩ : ByteArray) ++ ⟨#[32,119,111,114,108,100,115]⟩) = str (Lib.itoa z ++ cE)):=by show _ = _;simp only [str,cE,Value.string.injEq];apply ByteArray.ext;simp
 have O2 : Hid (aD (w.heap.size + 1) (w1.alloc (.cells #[.string ((⟨(Lib.itoa z).toArray⟩ : ByteArray) ++ ⟨#[32,119,111,114,108,100,115]⟩)] 9)) [Lib.itoa z ++ cE] (.slice (some ⟨w1.heap.size,0,none⟩) 1 1)):=by
  have h:=(gI w1 (Lib.itoa z ++ cE)).mono (B':=w.heap.size + 1) z1
  show aD _ _ _ _
  rw [SH.out];exact h
 have B3 : Hid (Below w.heap.size w (w1.alloc (.cells #[.string ((⟨(Lib.itoa z).toArray⟩ : ByteArray) ++ ⟨#[32,119,111,114,108,100,115]⟩)] 9))):=B1.out.alloc B1.out.size _
 have BX3 : Hid ((w1.alloc (.cells #[.string ((⟨(Lib.itoa z).toArray⟩ : ByteArray) ++ ⟨#[32,119,111,114,108,100,115]⟩)] 9)).heap[w.heap.size]? = some (mdR 4 z ra rn rc lo fa fn fc ga 0 gc ba 0 bc)):=kc bnew BX1.out
 generalize Lib.itoa z ++ cE = hd at *
 go_loopw [4,5] (fun u i wr=>∃ j : Nat,j ≤ fn ∧ i = .int .i64 j ∧ Hid (aD (w.heap.size + 1) wr ([hd] ++ (F.take j).map bF) u ∧ Below w.heap.size w wr ∧ wr.heap[w.heap.size]? = some (mdR 4 z ra rn rc lo fa fn fc ga 0 gc ba 0 bc))) (fun _ i _=>fn - (intOf i).toNat)
 case atStart=>exact ⟨0,Nat.zero_le _,rfl,by simpa using O2.out,B3.out,BX3.out⟩
 case round =>
  clear O2 B3 BX3 B1 BX1 BX WB SH il il2 IL IL2 k0 k1 k2 k3 k4 k5 k6
  obtain ⟨j,hj,rfl,hs⟩:=hrel
  obtain ⟨⟨k0,k1,k2,k3,k4,k5,k6⟩,-⟩:=aK hs.out.2.2
  by_cases hlt : j < fn
  ·obtain ⟨T,hT⟩:=aH (l:=F) (j:=j) (by rw [← L1.out];exact hlt)
   obtain ⟨b,off,rfl,p0,p1,p2⟩:=cL HX.out hT
   have hK:=aC hs.out.2.1
   have c0:=hK _ _ p0;have c1:=hK _ _ p1;have c2:=hK _ _ p2
   have M1:=Hd (cY bF hT)
   have NL:=OK.out.nm T (List.mem_of_getElem? hT)
   have TT:=OK.out.t0 T (List.mem_of_getElem? hT)
   obtain ⟨nm,ar,tr⟩:=T
   simp only [Fa.args,Fa.tru,Fa.name] at *
   obtain ⟨tt0,tt1⟩:=TT
   have OW0:=Hd hs.out.1
   have BW:=Hd hs.out.2.1
   have ROW:=Hd hs.out.2.2
   have ws : w.heap.size < wr.heap.size:=(Array.getElem?_eq_some_iff.1 hs.out.2.2).1
   have LE : Hid (((F.take j).map bF).length ≤ 12):=by show _ ≤ _;simp;omega
   have LN : Hid (bF ⟨nm,ar,tr⟩ = nm ++ mwAt ++ numbers (bJ tr)):=rfl
   have NN:=cR tr
   have nl1 : ¬ 9223372036854775807 < List.length nm + 12:=by omega
   have A0 : Hid (Below wr.heap.size wr (wr.alloc (.cells #[str nm,.int .i64 ar,.int .i64 tr] 102))):=bnew
   have A1 : Hid (Below wr.heap.size wr (wr.alloc (.cells #[str nm,.int .i64 ar,.int .i64 tr] 102)).drew):=A0.out.drew
   have B0:=Hd (aA BW.out A1.out)
   have hS0 : (wr.alloc (.cells #[str nm,.int .i64 ar,.int .i64 tr] 102)).drew.heap[wr.heap.size]? = some (.cells #[str nm,.int .i64 ar,.int .i64 tr] 102):=heap_alloc_new wr _
   have g1 : decide ((j : Int) < (fn : Int)) = true:=by simp;omega
   clear hT hK p0 p1 p2
   obtain ⟨⟨d0,d1,d2,d3,d4,d5,d6⟩,-⟩:=aK (kc A0.out hs.out.2.2)
   clear hs
   generalize (F.take j).map bF = M at *
   have C3 : Hid (([hd] ++ M).length + 1 ≤ maxLen ∧ (([hd] ++ M).length + 1) * 16 ≤ 140737488355328):=by
    have h1:=LE.out
    simp only [List.length_append,List.length_cons,List.length_nil]
    exact ⟨by unfold maxLen;omega,by omega⟩
   go_wp2_with fail
   clear d0 d1 d2 d3 d4 d5 d6
   refine wp_region_held_drew (S:=fun w'=>w'.heap[wr.heap.size]? = some (.cells #[str nm,.int .i64 ar,.int .i64 tr] 102)) (by kernel_rfl) hS0 (fun hHeld=>?_)
   refine tk 0 ?_
   try simp only [Act.put,s1,s2,s3,s4,s5,s6]
   refine tk 1 ?_
   try simp only [Act.put,s1,s2,s3,s4,s5,s6]
   refine tk 2 ?_ (hv:=by intro w0 hSw;obtain ⟨⟨z0,z1,z2⟩,-⟩:=bQ hSw;go_simp;try with_reducible rfl)
   try simp only [Act.put,s1,s2,s3,s4,s5,s6]
   refine tk 3 ?_
   try simp only [Act.put,s1,s2,s3,s4,s5,s6]
   refine tk 4 ?_
   try simp only [Act.put,s1,s2,s3,s4,s5,s6]
   refine tk 5 ?_ (hv:=by intro w0 hSw;obtain ⟨⟨z0,z1,z2⟩,-⟩:=bQ hSw;go_simp;try with_reducible rfl)
   try simp only [Act.put,s1,s2,s3,s4,s5,s6]
   refine rd 6 (fun K hK=>?_)
   go_simp
   go_at_call 75
   refine (kK tr tt0 _).mono ?_
   rintro e w3 ⟨y,yn,yc,rfl,i3,b3⟩
   have I3:=Hd i3
   have B3:=Hd (aA B0.out b3)
   have hSn:=kc b3 hS0
   have hS3:=hSn
   have Z3:=Hd b3
   clear i3 b3
   go_simp
   refine hK.out _ _ hSn (fun _=>?_)
   clear hK K
   try simp only [Act.put,s1,s2,s3,s4,s5,s6]
   refine rd 7 (fun K hK=>?_)
   go_simp
   go_at_call 74
   refine (lQ tr _ _ _ _ I3.out).mono ?_
   rintro e w4 ⟨rfl,rfl⟩
   have hSn:=hS3
   have Z4:=Hd (aA A1.out Z3.out)
   have OW4:=Hd (aD.below (aD.below OW0.out A1.out) Z3.out)
   have ROW4:=Hd (kc Z3.out (kc A1.out ROW.out))
   go_simp
   refine hK.out _ _ hSn (fun _=>?_)
   clear hK K
   try simp only [Act.put,s1,s2,s3,s4,s5,s6]
   obtain ⟨N,hN⟩ : ∃ N,numbers (bJ tr) = N:=⟨_,rfl⟩
   rw [hN] at NN LN
   simp only [hN]
   clear hN
   have SS : Hid (Value.string ((⟨nm.toArray⟩ : ByteArray) ++ ⟨#[32,105,115,32,116,114,117,101,32,97,116,32]⟩ ++ ⟨N.toArray⟩) = str (nm ++ mwAt ++ N)):=by show _ = _;simp only [str,mwAt,Value.string.injEq];apply ByteArray.ext;simp
   have nl2 : ¬ 9223372036854775807 < List.length nm + 12 + List.length N:=by omega
   have ws4 : w.heap.size < w3.heap.size:=(Array.getElem?_eq_some_iff.1 ROW4.out).1
   have wr4 : wr.heap.size < w3.heap.size:=(Array.getElem?_eq_some_iff.1 hS3).1
   refine tk 8 ?_
   try simp only [Act.put,s1,s2,s3,s4,s5,s6]
   refine rd 9 (fun K hK=>?_)
   go_simp
   refine hK.out _ _ ((heap_alloc_old _ _ wr4).trans hS3) (fun _=>?_)
   clear hK K
   try simp only [Act.put,s1,s2,s3,s4,s5,s6]
   refine rd 10 (fun K hK=>?_)
   refine aR rfl _ _ 36 rfl (w.heap.size + 1) 9 i0 (.string ⟨#[]⟩) 1 16 Tryz.underlying36 hi0 hz0 hs0 hb0 rfl (by decide) _ _ _ rfl (OW4.out.alloc _) ⟨w3.heap.size,0,none⟩ 1 1 [.string ((⟨nm.toArray⟩ : ByteArray) ++ ⟨#[32,105,115,32,116,114,117,101,32,97,116,32]⟩ ++ ⟨N.toArray⟩)] rfl rfl (cell_one_new _ _ _) (by intro u hu;simp at hu;subst hu;rfl) C3.out.1 C3.out.2 (by simp;omega) ?_
   intro v5 w5 hown2 hg2 _
   have hg5 : w5.heap[wr.heap.size]? = some (.cells #[str nm,.int .i64 ar,.int .i64 tr] 102):=(hg2.block _ (by simp;omega) (fun e=>by have:=(OW0.out.lt _ e.symm).2;omega)).trans ((heap_alloc_old _ _ wr4).trans hS3)
   have R5 : Hid (aD (w.heap.size + 1) w5 ([hd] ++ (F.take (j + 1)).map bF) v5 ∧ Below w.heap.size w w5 ∧ w5.heap[w.heap.size]? = some (mdR 4 z ra rn rc lo (some ⟨b,off,none⟩) fn fc ga 0 gc ba 0 bc)):=by
    refine ⟨?_,(B3.out.alloc B3.out.size _).grown hg2 (by simp;omega) (fun kk hkk=>by have:=(OW4.out.lt kk hkk).1;omega),(hg2.block _ (by simp;omega) (fun e=>by have:=(OW4.out.lt _ e.symm).1;omega)).trans ((heap_alloc_old _ _ ws4).trans ROW4.out)⟩
    rw [M1.out,LN.out,← List.append_assoc]
    unfold aD
    rw [List.length_append,List.map_append]
    rw [SS.out] at hown2
    exact hown2
   clear hown2 hg2
   refine hK.out _ _ hg5 (fun _=>?_)
   clear hK K
   try simp only [Act.put,s1,s2,s3,s4,s5,s6]
   refine rd 11 (fun K hK=>?_)
   go_simp
   refine hK.out _ _ hg5 (fun _=>?_)
   clear hK K
   try simp only [Act.put,s1,s2,s3,s4,s5,s6]
   refine wpAnyH_done (by kernel_rfl) ?_ _
   go_wp2_with fail
   go_roundw
   case rel=>exact ⟨j + 1,by omega,by go_num,R5.out⟩
   case measure=>simp [intOf];omega
  ·have e : (F.take j) = F:=List.take_of_length_le (by rw [← L1.out];omega)
   have HS : Hid (aD (w.heap.size + 1) wr ([hd] ++ F.map bF) u4 ∧ Below w.heap.size w wr ∧ wr.heap[w.heap.size]? = some (mdR 4 z ra rn rc lo fa fn fc ga 0 gc ba 0 bc)):=by have h:=hs.out;rw [e] at h;exact h
   have g1 : decide ((j : Int) < (fn : Int)) = false:=by simp;omega
   have LF : Hid ((F.map bF).length ≤ 12):=by show _ ≤ _;rw [List.length_map,← L1.out];exact fk
   clear hs e hj
   generalize F.map bF = FL at *
   go_wp2_with fail
   refine wp_loop_rounds 1 ?_
   rw [rounds_succ]
   go_wp2_with fail
   refine wp_loop_rounds 1 ?_
   rw [rounds_succ]
   go_wp2_with fail
   go_loopw [4,15] (fun u i wx=>∃ j : Nat,j ≤ rn ∧ i = .int .i64 j ∧ Hid (aD (w.heap.size + 1) wx ([hd] ++ FL ++ (List.range j).map (aZ R)) u ∧ Below w.heap.size w wx ∧ wx.heap[w.heap.size]? = some (mdR 4 z ra rn rc lo fa fn fc ga 0 gc ba 0 bc))) (fun _ i _=>rn - (intOf i).toNat)
   case atStart=>exact ⟨0,Nat.zero_le _,rfl,by simpa using HS.out.1,HS.out.2⟩
   case round =>
    clear HS k0 k1 k2 k3 k4 k5 k6
    obtain ⟨j,hj,rfl,hs⟩:=hrel
    obtain ⟨⟨k0,k1,k2,k3,k4,k5,k6⟩,-⟩:=aK hs.out.2.2
    by_cases hlt : j < rn
    ·obtain ⟨x,hx⟩:=aH (l:=R) (j:=j) (by rw [← L2.out];exact hlt)
     obtain ⟨b,off,rfl,p0⟩:=eS HR.out hx
     have bz : b < w.heap.size:=World.block_lt_of_cell? w _ p0
     have XR:=OK.out.r0 x (List.mem_of_getElem? hx)
     obtain ⟨xr0,xr1⟩:=XR
     have LN : Hid (aZ R j = Lib.itoa (j : Int) ++ fK ++ numbers (bJ x)):=by show _ = _;unfold aZ;rw [cW hx]
     have NN:=cR x
     have IJ : Hid ((Lib.itoa (j : Int)).length ≤ 7):=bC (by omega) (by omega)
     have ij:=IJ.out
     have OW0:=Hd hs.out.1
     have BW:=Hd hs.out.2.1
     have ROW:=Hd hs.out.2.2
     have ws : w.heap.size < wr.heap.size:=(Array.getElem?_eq_some_iff.1 hs.out.2.2).1
     have c0:=aC hs.out.2.1 _ _ p0
     have M1 : Hid ((List.range (j + 1)).map (aZ R) = (List.range j).map (aZ R) ++ [aZ R j]):=by show _ = _;rw [List.range_succ,List.map_append];rfl
     have LE : Hid (((List.range j).map (aZ R)).length ≤ 8):=by show _ ≤ _;simp;omega
     have DJ : Hid (∀ W,Calls Tryz.prog 73 #[.int .i64 (j : Int)] W fun e w'=>e = .returned (str (Lib.itoa (j : Int))) ∧ W = w'):=fun W=>eB j (by omega) (by omega) W
     have D1 : Hid (Below wr.heap.size wr wr.drew):=(Below.refl _ _).drew
     have hS0 : ∀ i,i < w.heap.size + 1 → wr.drew.heap[i]? = wr.heap[i]?:=fun _ _=>rfl
     have g1 : decide ((j : Int) < (rn : Int)) = true:=by simp;omega
     clear hx p0 hs
     generalize (List.range j).map (aZ R) = M at *
     have C3 : Hid (([hd] ++ FL ++ M).length + 1 ≤ maxLen ∧ (([hd] ++ FL ++ M).length + 1) * 16 ≤ 140737488355328):=by
      have h1:=LE.out
      have h2:=LF.out
      simp only [List.length_append,List.length_cons,List.length_nil]
      exact ⟨by unfold maxLen;omega,by omega⟩
     have nl1 : ¬ 9223372036854775807 < List.length (Lib.itoa (j : Int)) + 6:=by omega
     go_wp2_with fail
     refine wp_region_held_drew (S:=fun w'=>∀ i,i < w.heap.size + 1 → w'.heap[i]? = wr.heap[i]?) (by kernel_rfl) hS0 (fun hHeld=>?_)
     refine tk 0 ?_
     try simp only [Act.put,s1,s2,s3,s4,s5,s6]
     refine tk 1 ?_
     try simp only [Act.put,s1,s2,s3,s4,s5,s6]
     refine tk 4 ?_
     try simp only [Act.put,s1,s2,s3,s4,s5,s6]
     refine tk 5 ?_ (hv:=by intro w0 hSw;have z4:=(World.cell?_of_block (a:=⟨w.heap.size,2,none⟩) (hSw _ (by simp))).trans k2;go_simp;try with_reducible rfl)
     try simp only [Act.put,s1,s2,s3,s4,s5,s6]
     refine tk 6 ?_
     try simp only [Act.put,s1,s2,s3,s4,s5,s6]
     refine tk 7 ?_
     try simp only [Act.put,s1,s2,s3,s4,s5,s6]
     refine tk 8 ?_ (hv:=by intro w0 hSw;have z5:=(World.cell?_of_block (a:=⟨b,off + j,none⟩) (hSw _ (by simp;omega))).trans c0;go_simp;try with_reducible rfl)
     try simp only [Act.put,s1,s2,s3,s4,s5,s6]
     refine rd 2 (fun K hK=>?_)
     go_simp
     go_at_call 73
     refine (DJ.out _).mono ?_
     rintro e wd ⟨rfl,rfl⟩
     go_simp
     refine hK.out _ _ hS0 (fun _=>?_)
     clear hK K
     try simp only [Act.put,s1,s2,s3,s4,s5,s6]
     refine tk 3 ?_
     try simp only [Act.put,s1,s2,s3,s4,s5,s6]
     refine rd 9 (fun K hK=>?_)
     go_simp
     go_at_call 75
     refine (kK x xr0 _).mono ?_
     rintro e w3 ⟨y,yn,yc,rfl,i3,b3⟩
     have I3:=Hd i3
     have B3:=Hd (aA BW.out (aA D1.out b3))
     have Z3:=Hd (aA D1.out b3)
     have hS3 : ∀ i,i < w.heap.size + 1 → w3.heap[i]? = wr.heap[i]?:=fun i hi=>Z3.out.block i (by omega)
     clear i3 b3
     go_simp
     refine hK.out _ _ hS3 (fun _=>?_)
     clear hK K
     try simp only [Act.put,s1,s2,s3,s4,s5,s6]
     refine rd 10 (fun K hK=>?_)
     go_simp
     go_at_call 74
     refine (lQ x _ _ _ _ I3.out).mono ?_
     rintro e w4 ⟨rfl,rfl⟩
     go_simp
     refine hK.out _ _ hS3 (fun _=>?_)
     clear hK K
     try simp only [Act.put,s1,s2,s3,s4,s5,s6]
     have OW4:=Hd (aD.below OW0.out Z3.out)
     have ROW4:=Hd (kc Z3.out ROW.out)
     obtain ⟨N,hN⟩ : ∃ N,numbers (bJ x) = N:=⟨_,rfl⟩
     rw [hN] at NN LN
     simp only [hN]
     clear hN
     have SS : Hid (Value.string ((⟨(Lib.itoa (j : Int)).toArray⟩ : ByteArray) ++ ⟨#[32,115,101,101,115,32]⟩ ++ ⟨N.toArray⟩) = str (Lib.itoa (j : Int) ++ fK ++ N)):=by show _ = _;simp only [str,fK,Value.string.injEq];apply ByteArray.ext;simp
     have nl2 : ¬ 9223372036854775807 < List.length (Lib.itoa (j : Int)) + 6 + List.length N:=by omega
     have ws4 : w.heap.size < w3.heap.size:=(Array.getElem?_eq_some_iff.1 ROW4.out).1
     have hS4 : ∀ (o : Obj) (i : Nat),i < w.heap.size + 1 → (w3.alloc o).heap[i]? = wr.heap[i]?:=fun o i hi=>(heap_alloc_old _ _ (by omega)).trans (hS3 i hi)
     refine tk 11 ?_
     try simp only [Act.put,s1,s2,s3,s4,s5,s6]
     refine rd 12 (fun K hK=>?_)
     go_simp
     refine hK.out _ _ (hS4 _) (fun _=>?_)
     clear hK K
     try simp only [Act.put,s1,s2,s3,s4,s5,s6]
     refine rd 13 (fun K hK=>?_)
     refine aR rfl _ _ 36 rfl (w.heap.size + 1) 9 i0 (.string ⟨#[]⟩) 1 16 Tryz.underlying36 hi0 hz0 hs0 hb0 rfl (by decide) _ _ _ rfl (OW4.out.alloc _) ⟨w3.heap.size,0,none⟩ 1 1 [.string ((⟨(Lib.itoa (j : Int)).toArray⟩ : ByteArray) ++ ⟨#[32,115,101,101,115,32]⟩ ++ ⟨N.toArray⟩)] rfl rfl (cell_one_new _ _ _) (by intro u hu;simp at hu;subst hu;rfl) C3.out.1 C3.out.2 (by simp;omega) ?_
     intro v5 w5 hown2 hg2 _
     have hg5 : ∀ i,i < w.heap.size + 1 → w5.heap[i]? = wr.heap[i]?:=fun i hi=>(hg2.block _ (by simp;omega) (fun e=>by have:=(OW4.out.lt _ e.symm).1;omega)).trans (hS4 _ i hi)
     have R5 : Hid (aD (w.heap.size + 1) w5 ([hd] ++ FL ++ (List.range (j + 1)).map (aZ R)) v5 ∧ Below w.heap.size w w5 ∧ w5.heap[w.heap.size]? = some (mdR 4 z (some ⟨b,off,none⟩) rn rc lo fa fn fc ga 0 gc ba 0 bc)):=by
      refine ⟨?_,(B3.out.alloc B3.out.size _).grown hg2 (by simp;omega) (fun kk hkk=>by have:=(OW4.out.lt kk hkk).1;omega),(hg5 _ (by omega)).trans ROW.out⟩
      rw [M1.out,LN.out,← List.append_assoc]
      unfold aD
      rw [List.length_append,List.map_append]
      rw [SS.out] at hown2
      exact hown2
     clear hown2 hg2
     refine hK.out _ _ hg5 (fun _=>?_)
     clear hK K
     try simp only [Act.put,s1,s2,s3,s4,s5,s6]
     refine rd 14 (fun K hK=>?_)
     go_simp
     refine hK.out _ _ hg5 (fun _=>?_)
     clear hK K
     try simp only [Act.put,s1,s2,s3,s4,s5,s6]
     refine wpAnyH_done (by kernel_rfl) ?_ _
     go_wp2_with fail
     go_roundw
     case rel=>exact ⟨j + 1,by omega,by go_num,R5.out⟩
     case measure=>simp [intOf];omega
    ·have e : j = rn:=by omega
     have HE : Hid (aD (w.heap.size + 1) wr ([hd] ++ FL ++ dV R) u4 ∧ Below w.heap.size w wr):=by
      have h:=hs.out
      rw [e,L2.out] at h
      exact ⟨h.1,h.2.1⟩
     have g2 : decide ((j : Int) < (rn : Int)) = false:=by simp;omega
     clear hs e
     go_wp2_with fail
     go_ret2
     exact ⟨_,rfl,HE.out.1.mono (Nat.le_succ _),HE.out.2⟩
end Go.Proofs.YtcandidgaegghaaGreatDoor
