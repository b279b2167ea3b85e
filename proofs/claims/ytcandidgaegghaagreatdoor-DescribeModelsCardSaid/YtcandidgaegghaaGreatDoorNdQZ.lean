/- The lines of a structure: lyceumref41.Model. Conditions: the structure is right; its names are short. -/
import Derived.Test.YtcandidgaegghaaGreatDoorCpZ
import Derived.Test.YtcandidgaegghaaGreatDoorNdKZ
import Derived.Test.YtcandidgaegghaaGreatDoorNdGZ
set_option maxRecDepth 10000
set_option linter.unusedSimpArgs false
set_option linter.unusedVariables false
namespace Go.Proofs.YtcandidgaegghaaGreatDoor
open Go Go.RowKit Go.Sort Ly
set_option maxHeartbeats 8000000
def bV (z : Nat) (m : Int) (a b : Nat) : List (Int × Int):=((List.range b).filter fun b=>bitI m (a * z + b)).map fun (b : Nat)=>((a : Int),(b : Int))
theorem qX (z : Nat) (m : Int) : eD z m = (List.range z).flatMap fun a=>bV z m a z:=rfl
theorem rowPairs_yes {z : Nat} {m : Int} {a b : Nat} (h : bitI m (a * z + b) = true) : bV z m a (b + 1) = bV z m a b ++ [((a : Int),(b : Int))]:=by
 unfold bV
 rw [List.range_succ,List.filter_append,List.map_append]
 simp [h]
theorem rowPairs_no {z : Nat} {m : Int} {a b : Nat} (h : bitI m (a * z + b) = false) : bV z m a (b + 1) = bV z m a b:=by
 unfold bV
 rw [List.range_succ,List.filter_append,List.map_append]
 simp [h]
theorem pE (z : Nat) (m : Int) (a b : Nat) : (bV z m a b).length ≤ b:=by
 unfold bV
 rw [List.length_map]
 exact Nat.le_trans (List.length_filter_le _ _) (by simp)
theorem oI (z : Nat) (m : Int) : ∀ a : Nat,((List.range a).flatMap fun a=>bV z m a z).length ≤ a * z
 | 0=>by simp
 | a + 1=>by
  have h1:=oI z m a
  have h2:=pE z m a z
  rw [List.range_succ,List.flatMap_append,List.length_append,Nat.succ_mul]
  simp only [List.flatMap_cons,List.flatMap_nil,List.append_nil]
  omega
theorem rowsUp_succ (z : Nat) (m : Int) (a : Nat) : ((List.range (a + 1)).flatMap fun a=>bV z m a z) = ((List.range a).flatMap fun a=>bV z m a z) ++ bV z m a z:=by
 rw [List.range_succ,List.flatMap_append];simp
theorem oZ (l : List Fu) (h : ∀ f ∈ l,f.value.length ≤ 3) : (l.flatMap bB).length ≤ l.length * 3:=by
 induction l with
 | nil=>simp
 | cons f l ih =>
  have h2:=ih (fun g hg=>h g (by simp [hg]))
  have h3:=h f (by simp)
  simp only [List.flatMap_cons,List.length_append,List.length_cons,bB,List.length_map,List.length_range] at h2 ⊢
  omega
theorem model17_2 (F : List Fa) (G : List Fu) (B : List Bi) (zn : Nat) (ok : xL F G B zn) (lo : Int) (ra fa ga ba : Option Addr) (rn rc fn fc gn gc bn bc : Nat) (hrn : rn = 0) (w : World) (hx : aM w 3 (fasV F) F.length (.slice fa fn fc)) (hg : fZ w G (.slice ga gn gc)) (hy : aM w 2 (bisV B) B.length (.slice ba bn bc))
  (hV : ∀ W,Below w.heap.size w W → Calls Tryz.prog 72 #[lgV 2 0,mdK 2 zn ra rn rc lo fa fn fc ga gn gc ba bn bc] W (Rt (.bool true) W)) :
  Calls Tryz.prog 17 #[mdK 2 zn ra rn rc lo fa fn fc ga gn gc ba bn bc] w (eV ([Lib.itoa (zn : Int) ++ cO] ++ (F.map (bL zn) ++ G.flatMap bB ++ B.map cD)) w):=by
 subst hrn
 obtain ⟨Z,hZ⟩ : ∃ Z,[Lib.itoa (zn : Int) ++ cO] ++ (F.map (bL zn) ++ G.flatMap bB ++ B.map cD) = Z:=⟨_,rfl⟩
 rw [hZ]
 have HZ:=Hd hZ
 clear hZ
 have L1:=Hd hx.len.1
 have L2:=Hd hg.len.1
 have L3:=Hd hy.len.1
 have fk : fn ≤ 12:=by have:=L1.out;have:=ok.fl;omega
 have gk : gn ≤ 12:=by have:=L2.out;have:=ok.gl;omega
 have bk : bn ≤ 12:=by have:=L3.out;have:=ok.bl;omega
 have zb1:=ok.z1
 have zb3:=ok.z3
 have HX:=Hd hx
 have HG:=Hd hg
 have HY:=Hd hy
 have HV:=Hd hV
 have OK:=Hd ok
 obtain ⟨i0,hi0,hz0,hs0,hb0⟩:=info_parts fP
 have zi0 : (0 : Int) ≤ (zn : Int):=by omega
 have zi1 : (zn : Int) ≤ 1000000:=by omega
 have iz:=bC zi0 zi1
 have DZ : Hid (∀ W,Calls Tryz.prog 73 #[.int .i64 zn] W fun e w'=>e = .returned (str (Lib.itoa (zn : Int))) ∧ W = w'):=fun W=>eB zn zi0 zi1 W
 have BX : Hid ((w.alloc (mdR 2 zn ra 0 rc lo fa fn fc ga gn gc ba bn bc)).heap[w.heap.size]? = some (mdR 2 zn ra 0 rc lo fa fn fc ga gn gc ba bn bc)):=heap_alloc_new w _
 have WB : Hid (Below w.heap.size w (w.alloc (mdR 2 zn ra 0 rc lo fa fn fc ga gn gc ba bn bc))):=bnew
 clear hx hg hy hV ok
 go_enter Tryz.func17,Tryz.ntmps17
 go_wp2_with (first | (go_at_call 72;refine (HV.out _ WB.out).mono ?_;rintro e w1 ⟨rfl,b1⟩;have B1:=Hd (aA WB.out b1);have BX1:=Hd (kc b1 BX.out);clear b1;obtain ⟨⟨k0,k1,k2,k3,k4,k5,k6⟩,-⟩:=aK BX1.out;have z1 : w.heap.size < w1.heap.size:=(Array.getElem?_eq_some_iff.1 BX1.out).1) | (go_at_call 73;refine (DZ.out _).mono ?_;rintro e w2 ⟨rfl,rfl⟩))
 have SH : Hid (Value.string ((⟨(Lib.itoa (zn : Int)).toArray⟩ : ByteArray) ++ ⟨#[32,101,108,101,109,101,110,116,115]⟩) = str (Lib.itoa (zn : Int) ++ cO)):=by show _ = _;simp only [str,cO,Value.string.injEq];apply ByteArray.ext;simp
 have O2 : Hid (aD (w.heap.size + 1) (w1.alloc (.cells #[.string ((⟨(Lib.itoa (zn : Int)).toArray⟩ : ByteArray) ++ ⟨#[32,101,108,101,109,101,110,116,115]⟩)] 9)) [Lib.itoa (zn : Int) ++ cO] (.slice (some ⟨w1.heap.size,0,none⟩) 1 1)):=by
  have h:=(gI w1 (Lib.itoa (zn : Int) ++ cO)).mono (B':=w.heap.size + 1) z1
  show aD _ _ _ _
  rw [SH.out];exact h
 have B3 : Hid (Below w.heap.size w (w1.alloc (.cells #[.string ((⟨(Lib.itoa (zn : Int)).toArray⟩ : ByteArray) ++ ⟨#[32,101,108,101,109,101,110,116,115]⟩)] 9))):=B1.out.alloc B1.out.size _
 have BX3 : Hid ((w1.alloc (.cells #[.string ((⟨(Lib.itoa (zn : Int)).toArray⟩ : ByteArray) ++ ⟨#[32,101,108,101,109,101,110,116,115]⟩)] 9)).heap[w.heap.size]? = some (mdR 2 zn ra 0 rc lo fa fn fc ga gn gc ba bn bc)):=kc bnew BX1.out
 generalize Lib.itoa (zn : Int) ++ cO = hd at *
 go_loopw [4,5] (fun u i wr=>∃ j : Nat,j ≤ fn ∧ i = .int .i64 j ∧ Hid (aD (w.heap.size + 1) wr ([hd] ++ (F.take j).map (bL zn)) u ∧ Below w.heap.size w wr ∧ wr.heap[w.heap.size]? = some (mdR 2 zn ra 0 rc lo fa fn fc ga gn gc ba bn bc))) (fun _ i _=>fn - (intOf i).toNat)
 case atStart=>exact ⟨0,Nat.zero_le _,rfl,by simpa using O2.out,B3.out,BX3.out⟩
 case round =>
  clear O2 B3 BX3 B1 BX1 BX WB SH k0 k1 k2 k3 k4 k5 k6
  obtain ⟨j,hj,rfl,hs⟩:=hrel
  obtain ⟨⟨k0,k1,k2,k3,k4,k5,k6⟩,-⟩:=aK hs.out.2.2
  by_cases hlt : j < fn
  ·obtain ⟨T,hT⟩:=aH (l:=F) (j:=j) (by rw [← L1.out];exact hlt)
   obtain ⟨b,off,rfl,p0,p1,p2⟩:=cL HX.out hT
   have hK:=aC hs.out.2.1
   have c0:=hK _ _ p0;have c1:=hK _ _ p1;have c2:=hK _ _ p2
   have M1:=Hd (cY (bL zn) hT)
   have NL:=OK.out.nF T (List.mem_of_getElem? hT)
   have AF:=OK.out.aF T (List.mem_of_getElem? hT)
   obtain ⟨nm,ar,tr⟩:=T
   simp only [Fa.args,Fa.tru,Fa.name] at *
   have OW0:=Hd hs.out.1
   have BW:=Hd hs.out.2.1
   have ROW:=Hd hs.out.2.2
   have ws : w.heap.size < wr.heap.size:=(Array.getElem?_eq_some_iff.1 hs.out.2.2).1
   have LE : Hid (((F.take j).map (bL zn)).length ≤ 12):=by show _ ≤ _;simp;omega
   obtain ⟨ac,tt0,tt1,tt2⟩:=AF
   have tt3 : tr < 65536:=by omega
   have NN:=cR tr
   have A1 : Hid (Below wr.heap.size wr (wr.alloc (.cells #[str nm,.int .i64 ar,.int .i64 tr] 102))):=bnew
   have hR1 : Hid ((wr.alloc (.cells #[str nm,.int .i64 ar,.int .i64 tr] 102)).heap[wr.heap.size]? = some (.cells #[str nm,.int .i64 ar,.int .i64 tr] 102)):=heap_alloc_new wr _
   have ROW1:=Hd (kc A1.out hs.out.2.2)
   have g1 : decide ((j : Int) < (fn : Int)) = true:=by simp;omega
   clear hT hK p0 p1 p2 hs
   obtain ⟨⟨d0,d1,d2,d3,d4,d5,d6⟩,-⟩:=aK ROW1.out
   generalize (F.take j).map (bL zn) = M at *
   have C3 : Hid (([hd] ++ M).length + 1 ≤ maxLen ∧ (([hd] ++ M).length + 1) * 16 ≤ 140737488355328):=by
    have h1:=LE.out
    simp only [List.length_append,List.length_cons,List.length_nil]
    exact ⟨by unfold maxLen;omega,by omega⟩
   rcases ac with rfl | rfl | rfl
   ·by_cases ht : tr = 1
    ·have t1 : (tr == 1) = true:=by simpa using ht
     have LN : Hid (bL zn ⟨nm,0,tr⟩ = nm ++ kP):=by show _ = _;unfold bL;rw [if_pos (show (0 : Int) = 0 from rfl)];unfold cN;rw [if_pos ht]
     have SS : Hid (Value.string ((⟨nm.toArray⟩ : ByteArray) ++ ⟨#[32,105,115,32,116,114,117,101]⟩) = str (nm ++ kP)):=by show _ = _;simp only [str,kP,Value.string.injEq];apply ByteArray.ext;simp
     have C6 : Hid (w.heap.size + 1 ≤ ((wr.alloc (.cells #[str nm,.int .i64 0,.int .i64 tr] 102)).alloc (.cells #[.string ((⟨nm.toArray⟩ : ByteArray) ++ ⟨#[32,105,115,32,116,114,117,101]⟩)] 9)).heap.size):=by have:=BW.out.size;show _ ≤ _;simp;omega
     have CB : Hid (Below wr.heap.size wr ((wr.alloc (.cells #[str nm,.int .i64 0,.int .i64 tr] 102)).alloc (.cells #[.string ((⟨nm.toArray⟩ : ByteArray) ++ ⟨#[32,105,115,32,116,114,117,101]⟩)] 9))):=bnew.alloc (by simp) _
     clear ht
     go_wp2_with (at_builtin;refine wpList_append_own _ rfl _ _ 36 rfl (w.heap.size + 1) 9 i0 (.string ⟨#[]⟩) 1 16 Tryz.underlying36 hi0 hz0 hs0 hb0 rfl (by decide) _ _ _ rfl ((OW0.out.alloc _).alloc _) ⟨wr.heap.size + 1,0,none⟩ 1 1 [.string ((⟨nm.toArray⟩ : ByteArray) ++ ⟨#[32,105,115,32,116,114,117,101]⟩)] rfl rfl (news1' _ _ _) (by intro u hu;simp at hu;subst hu;rfl) C3.out.1 C3.out.2 C6.out ?_)
     intro v' w3 hown2 hg2 _
     have R : Hid (aD (w.heap.size + 1) w3 ([hd] ++ (F.take (j + 1)).map (bL zn)) v' ∧ Below w.heap.size w w3 ∧ w3.heap[w.heap.size]? = some (mdR 2 zn ra 0 rc lo (some ⟨b,off,none⟩) fn fc ga gn gc ba bn bc)):=by
      refine ⟨?_,(aA BW.out CB.out).grown hg2 (by have:=C6.out;omega) (fun kk hkk=>by have:=(OW0.out.lt kk hkk).1;omega),(hg2.block _ (by simp;omega) (fun e=>by have:=(OW0.out.lt _ e.symm).1;omega)).trans (kc CB.out ROW.out)⟩
      rw [M1.out,LN.out,← List.append_assoc [hd] M]
      rw [SS.out] at hown2
      simpa [aD] using hown2
     clear hown2 hg2
     go_wp2_with fail
     go_roundw
     case rel=>exact ⟨j + 1,by omega,by go_num,R⟩
     case measure=>simp [intOf];omega
    ·have t1 : (tr == 1) = false:=by simpa using ht
     have LN : Hid (bL zn ⟨nm,0,tr⟩ = nm ++ iY):=by show _ = _;unfold bL;rw [if_pos (show (0 : Int) = 0 from rfl)];unfold cN;rw [if_neg ht]
     have SS : Hid (Value.string ((⟨nm.toArray⟩ : ByteArray) ++ ⟨#[32,105,115,32,102,97,108,115,101]⟩) = str (nm ++ iY)):=by show _ = _;simp only [str,iY,Value.string.injEq];apply ByteArray.ext;simp
     have C6 : Hid (w.heap.size + 1 ≤ ((wr.alloc (.cells #[str nm,.int .i64 0,.int .i64 tr] 102)).alloc (.cells #[.string ((⟨nm.toArray⟩ : ByteArray) ++ ⟨#[32,105,115,32,102,97,108,115,101]⟩)] 9)).heap.size):=by have:=BW.out.size;show _ ≤ _;simp;omega
     have CB : Hid (Below wr.heap.size wr ((wr.alloc (.cells #[str nm,.int .i64 0,.int .i64 tr] 102)).alloc (.cells #[.string ((⟨nm.toArray⟩ : ByteArray) ++ ⟨#[32,105,115,32,102,97,108,115,101]⟩)] 9))):=bnew.alloc (by simp) _
     clear ht
     go_wp2_with (at_builtin;refine wpList_append_own _ rfl _ _ 36 rfl (w.heap.size + 1) 9 i0 (.string ⟨#[]⟩) 1 16 Tryz.underlying36 hi0 hz0 hs0 hb0 rfl (by decide) _ _ _ rfl ((OW0.out.alloc _).alloc _) ⟨wr.heap.size + 1,0,none⟩ 1 1 [.string ((⟨nm.toArray⟩ : ByteArray) ++ ⟨#[32,105,115,32,102,97,108,115,101]⟩)] rfl rfl (news1' _ _ _) (by intro u hu;simp at hu;subst hu;rfl) C3.out.1 C3.out.2 C6.out ?_)
     intro v' w3 hown2 hg2 _
     have R : Hid (aD (w.heap.size + 1) w3 ([hd] ++ (F.take (j + 1)).map (bL zn)) v' ∧ Below w.heap.size w w3 ∧ w3.heap[w.heap.size]? = some (mdR 2 zn ra 0 rc lo (some ⟨b,off,none⟩) fn fc ga gn gc ba bn bc)):=by
      refine ⟨?_,(aA BW.out CB.out).grown hg2 (by have:=C6.out;omega) (fun kk hkk=>by have:=(OW0.out.lt kk hkk).1;omega),(hg2.block _ (by simp;omega) (fun e=>by have:=(OW0.out.lt _ e.symm).1;omega)).trans (kc CB.out ROW.out)⟩
      rw [M1.out,LN.out,← List.append_assoc [hd] M]
      rw [SS.out] at hown2
      simpa [aD] using hown2
     clear hown2 hg2
     go_wp2_with fail
     go_roundw
     case rel=>exact ⟨j + 1,by omega,by go_num,R⟩
     case measure=>simp [intOf];omega
   ·have LN : Hid (bL zn ⟨nm,1,tr⟩ = nm ++ fW ++ numbers (bJ tr)):=by show _ = _;unfold bL;rw [if_neg (show ¬ (1 : Int) = 0 by decide),if_neg (show ¬ (1 : Int) = 2 by decide)]
    have nl1 : ¬ 9223372036854775807 < List.length nm + 10:=by omega
    go_wp2_with (go_at_call 75;refine (kK tr tt0 _).mono ?_;rintro e w3 ⟨y,yn,yc,rfl,i3,b3⟩;have I3:=Hd i3;have B3:=Hd (aA BW.out (aA A1.out b3));have Z3:=Hd (aA A1.out b3);have hS3:=Hd (kc b3 hR1.out);have ROW3:=Hd (kc b3 ROW1.out);clear i3 b3;obtain ⟨⟨x0,x1,x2⟩,-⟩:=bQ hS3.out)
    have hS0 : w3.drew.heap[wr.heap.size]? = some (.cells #[str nm,.int .i64 1,.int .i64 tr] 102):=hS3.out
    have I4 : Hid (aX w3.drew ((bJ tr).map Lib.itoa) (.slice y yn yc)):=I3.out.keep (aC ((Below.refl w3.heap.size w3).drew))
    refine wp_region_held_drew (S:=fun w'=>w'.heap[wr.heap.size]? = some (.cells #[str nm,.int .i64 1,.int .i64 tr] 102)) (by kernel_rfl) hS0 (fun hHeld=>?_)
    refine tk 0 ?_
    try simp only [Act.put,s1,s2,s3,s4,s5,s6]
    refine tk 1 ?_
    try simp only [Act.put,s1,s2,s3,s4,s5,s6]
    refine tk 2 ?_ (hv:=by intro w0 hSw;obtain ⟨⟨z0,z1,z2⟩,-⟩:=bQ hSw;go_simp;try with_reducible rfl)
    try simp only [Act.put,s1,s2,s3,s4,s5,s6]
    refine tk 3 ?_
    try simp only [Act.put,s1,s2,s3,s4,s5,s6]
    refine tk 4 ?_
    try simp only [Act.put,s1,s2,s3,s4,s5,s6]
    refine rd 5 (fun K hK=>?_)
    go_simp
    go_at_call 74
    refine (lQ tr _ _ _ _ I4.out).mono ?_
    rintro e w4 ⟨rfl,rfl⟩
    have hSn:=hS0
    have OW4 : Hid (aD (w.heap.size + 1) w3.drew ([hd] ++ M) u4):=aD.below OW0.out (Z3.out.drew)
    have B4:=Hd B3.out.drew
    have ROW4 : Hid (w3.drew.heap[w.heap.size]? = some (mdR 2 zn ra 0 rc lo (some ⟨b,off,none⟩) fn fc ga gn gc ba bn bc)):=ROW3.out
    go_simp
    refine hK.out _ _ hSn (fun _=>?_)
    clear hK K
    try simp only [Act.put,s1,s2,s3,s4,s5,s6]
    obtain ⟨N,hN⟩ : ∃ N,numbers (bJ tr) = N:=⟨_,rfl⟩
    rw [hN] at NN LN
    simp only [hN]
    clear hN
    have SS : Hid (Value.string ((⟨nm.toArray⟩ : ByteArray) ++ ⟨#[32,104,111,108,100,115,32,111,102,32]⟩ ++ ⟨N.toArray⟩) = str (nm ++ fW ++ N)):=by show _ = _;simp only [str,fW,Value.string.injEq];apply ByteArray.ext;simp
    have nl2 : ¬ 9223372036854775807 < List.length nm + 10 + List.length N:=by omega
    have ws4 : w.heap.size < w3.heap.size:=(Array.getElem?_eq_some_iff.1 ROW3.out).1
    have wr4 : wr.heap.size < w3.heap.size:=(Array.getElem?_eq_some_iff.1 hS3.out).1
    refine tk 6 ?_
    try simp only [Act.put,s1,s2,s3,s4,s5,s6]
    refine rd 7 (fun K hK=>?_)
    go_simp
    refine hK.out _ _ ((heap_alloc_old _ _ wr4).trans hS0) (fun _=>?_)
    clear hK K
    try simp only [Act.put,s1,s2,s3,s4,s5,s6]
    refine rd 8 (fun K hK=>?_)
    refine aR rfl _ _ 36 rfl (w.heap.size + 1) 9 i0 (.string ⟨#[]⟩) 1 16 Tryz.underlying36 hi0 hz0 hs0 hb0 rfl (by decide) _ _ _ rfl (OW4.out.alloc _) ⟨w3.heap.size,0,none⟩ 1 1 [.string ((⟨nm.toArray⟩ : ByteArray) ++ ⟨#[32,104,111,108,100,115,32,111,102,32]⟩ ++ ⟨N.toArray⟩)] rfl rfl (cell_one_new _ _ _) (by intro u hu;simp at hu;subst hu;rfl) C3.out.1 C3.out.2 (by simp;omega) ?_
    intro v5 w5 hown2 hg2 _
    have hg5 : w5.heap[wr.heap.size]? = some (.cells #[str nm,.int .i64 1,.int .i64 tr] 102):=(hg2.block _ (by simp;omega) (fun e=>by have:=(OW0.out.lt _ e.symm).2;omega)).trans ((heap_alloc_old _ _ wr4).trans hS0)
    have R : Hid (aD (w.heap.size + 1) w5 ([hd] ++ (F.take (j + 1)).map (bL zn)) v5 ∧ Below w.heap.size w w5 ∧ w5.heap[w.heap.size]? = some (mdR 2 zn ra 0 rc lo (some ⟨b,off,none⟩) fn fc ga gn gc ba bn bc)):=by
     refine ⟨?_,(B4.out.alloc B4.out.size _).grown hg2 (by simp;omega) (fun kk hkk=>by have:=(OW4.out.lt kk hkk).1;omega),(hg2.block _ (by simp;omega) (fun e=>by have:=(OW4.out.lt _ e.symm).1;omega)).trans ((heap_alloc_old _ _ ws4).trans ROW4.out)⟩
     rw [M1.out,LN.out,← List.append_assoc [hd] M]
     unfold aD
     rw [List.length_append,List.map_append]
     rw [SS.out] at hown2
     exact hown2
    clear hown2 hg2
    refine hK.out _ _ hg5 (fun _=>?_)
    clear hK K
    try simp only [Act.put,s1,s2,s3,s4,s5,s6]
    refine rd 9 (fun K hK=>?_)
    go_simp
    refine hK.out _ _ hg5 (fun _=>?_)
    clear hK K
    try simp only [Act.put,s1,s2,s3,s4,s5,s6]
    refine wpAnyH_done (by kernel_rfl) ?_ _
    go_wp2_with fail
    go_roundw
    case rel=>exact ⟨j + 1,by omega,by go_num,R.out⟩
    case measure=>simp [intOf];omega
   ·have LN : Hid (bL zn ⟨nm,2,tr⟩ = nm ++ fW ++ gQ ((eD zn tr).map bH)):=by show _ = _;unfold bL;rw [if_neg (show ¬ (2 : Int) = 0 by decide),if_pos (show (2 : Int) = 2 from rfl)]
    have nl1 : ¬ 9223372036854775807 < List.length nm + 10:=by omega
    have DG : Hid (∀ (n : Nat) W,n ≤ 3 → Calls Tryz.prog 73 #[.int .i64 n] W fun e w'=>e = .returned (str (Lib.itoa (n : Int))) ∧ W = w'):=fun n W hn=>eB n (by omega) (by omega) W
    clear tt2
    go_wp2_with (go_at_call 75;refine (kK tr tt0 _).mono ?_;rintro e w3 ⟨y,yn,yc,rfl,i3,b3⟩;have B3:=Hd (aA BW.out (aA A1.out b3));have Z3:=Hd (aA A1.out b3);have hS3:=Hd (kc b3 hR1.out);have ROW3:=Hd (kc b3 ROW1.out);clear i3 b3 d0 d1 d2 d3 d4 d5 d6 k0 k1 k2 k3 k4 k5 k6 c0 c1 c2;obtain ⟨⟨x0,x1,x2⟩,-⟩:=bQ hS3.out;obtain ⟨⟨k0,k1,k2,k3,k4,k5,k6⟩,-⟩:=aK ROW3.out)
    have OW3:=Hd (aD.below OW0.out Z3.out)
    have FB0 : Hid (∀ g,(u4 : Value).ownBlock = some g → w.heap.size + 1 ≤ g ∧ g < wr.heap.size):=fun g hg=>OW0.out.lt g hg
    have ws3 : w.heap.size < w3.heap.size:=(Array.getElem?_eq_some_iff.1 ROW3.out).1
    have wr3 : wr.heap.size < w3.heap.size:=(Array.getElem?_eq_some_iff.1 hS3.out).1
    clear OW0 BW ROW A1 hR1 ROW1 Z3
    generalize wr.heap.size = fb at *
    go_loopw [8,9] (fun u i wx=>∃ q : Nat,q ≤ zn ∧ i = .int .i64 q ∧ Hid (aD w3.heap.size wx (((List.range q).flatMap fun a=>bV zn tr a zn).map bH) u ∧ Below w3.heap.size w3 wx)) (fun _ i _=>zn - (intOf i).toNat)
    case atStart=>exact ⟨0,Nat.zero_le _,rfl,World.ownsRow_nil _ _ _ _,Below.refl _ _⟩
    case round =>
     clear k0 k1 k2 k3 k4 k5 k6 x0 x1 x2
     obtain ⟨q,hq,rfl,hs2⟩:=hrel
     obtain ⟨⟨x0,x1,x2⟩,-⟩:=bQ (kc hs2.out.2 hS3.out)
     obtain ⟨⟨k0,k1,k2,k3,k4,k5,k6⟩,-⟩:=aK (kc hs2.out.2 ROW3.out)
     by_cases hlq : q < zn
     ·have g5 : decide ((q : Int) < (zn : Int)) = true:=by simp;omega
      have LPA : Hid ((((List.range q).flatMap fun a=>bV zn tr a zn).map bH).length ≤ 9):=by
       have h1:=oI zn tr q
       have h2 : q * zn ≤ 3 * 3:=Nat.mul_le_mul (by omega) (by omega)
       show _ ≤ _
       rw [List.length_map]
       omega
      have SN2 : Hid ((((List.range (q + 1)).flatMap fun a=>bV zn tr a zn).map bH) = (((List.range q).flatMap fun a=>bV zn tr a zn).map bH) ++ (bV zn tr q zn).map bH):=by show _ = _;rw [rowsUp_succ,List.map_append]
      have HS2 : Hid (aD w3.heap.size wr (((List.range q).flatMap fun a=>bV zn tr a zn).map bH) u8 ∧ Below w3.heap.size w3 wr):=hs2.out
      clear hs2
      generalize ((List.range q).flatMap fun a=>bV zn tr a zn).map bH = PA at *
      go_wp2_with fail
      go_loopw [8,10] (fun u i wx=>∃ t : Nat,t ≤ zn ∧ i = .int .i64 t ∧ Hid (aD w3.heap.size wx (PA ++ (bV zn tr q t).map bH) u ∧ Below w3.heap.size w3 wx)) (fun _ i _=>zn - (intOf i).toNat)
      case atStart=>exact ⟨0,Nat.zero_le _,rfl,by simpa [bV] using HS2.out.1,HS2.out.2⟩
      case round =>
       clear HS2 k0 k1 k2 k3 k4 k5 k6 x0 x1 x2
       obtain ⟨t,ht,rfl,hs4⟩:=hrel
       obtain ⟨⟨x0,x1,x2⟩,-⟩:=bQ (kc hs4.out.2 hS3.out)
       obtain ⟨⟨k0,k1,k2,k3,k4,k5,k6⟩,-⟩:=aK (kc hs4.out.2 ROW3.out)
       by_cases hlt2 : t < zn
       ·have g6 : decide ((t : Int) < (zn : Int)) = true:=by simp;omega
        obtain ⟨p,hp⟩ : ∃ p,q * zn = p:=⟨_,rfl⟩
        obtain ⟨n,hn⟩ : ∃ n,p + t = n:=⟨_,rfl⟩
        have p9 : p ≤ 9:=by
         have h2 : q * zn ≤ 3 * 3:=Nat.mul_le_mul (by omega) (by omega)
         omega
        have wm : IntKind.i64.wrap ((q : Int) * (zn : Int)) = (p : Int):=by
         rw [show (q : Int) * (zn : Int) = (p : Int) by rw [← hp];simp]
         exact wrap_i64_small (by omega) (by omega)
        have wa : IntKind.i64.wrap ((p : Int) + (t : Int)) = (n : Int):=by
         rw [show (p : Int) + (t : Int) = (n : Int) by omega]
         exact wrap_i64_small (by omega) (by omega)
        have n64 : (n : Int) ≤ 64:=by omega
        have HN : Hid (q * zn + t = n):=by show _ = _;rw [hp];exact hn
        obtain ⟨s,hsb⟩ : ∃ s,bitI tr n = s:=⟨_,rfl⟩
        have b1 : ((tr / 2 ^ n).tmod 2 == 1) = s:=hsb
        have HSB:=Hd hsb
        clear hp hn hsb
        cases s
        ·have RN : Hid (bV zn tr q (t + 1) = bV zn tr q t):=rowPairs_no (by rw [HN.out];exact HSB.out)
         go_wp2_with fail
         go_roundw
         case rel=>exact ⟨t + 1,by omega,by go_num,by rw [RN.out];exact hs4.out⟩
         case measure=>simp [intOf];omega
        ·have RN : Hid (PA ++ (bV zn tr q (t + 1)).map bH = (PA ++ (bV zn tr q t).map bH) ++ [Lib.itoa (q : Int) ++ lR ++ Lib.itoa (t : Int)]):=by
          show _ = _
          rw [rowPairs_yes (by rw [HN.out];exact HSB.out),List.map_append,List.append_assoc]
          rfl
         have OW4:=Hd hs4.out.1
         have BW4:=Hd hs4.out.2
         have LQ:=pE zn tr q t
         have LM : Hid ((PA ++ (bV zn tr q t).map bH).length ≤ 12):=by
          have h1:=LPA.out
          show _ ≤ _
          rw [List.length_append,List.length_map]
          omega
         have q3 : q ≤ 3:=by omega
         have t3 : t ≤ 3:=by omega
         have iq:=bC (n:=(q : Int)) (by omega) (by omega)
         have it:=bC (n:=(t : Int)) (by omega) (by omega)
         have nl5 : ¬ 9223372036854775807 < List.length (Lib.itoa (q : Int)) + 6:=by omega
         have nl6 : ¬ 9223372036854775807 < List.length (Lib.itoa (q : Int)) + 6 + List.length (Lib.itoa (t : Int)):=by omega
         have SS : Hid (Value.string ((⟨(Lib.itoa (q : Int)).toArray⟩ : ByteArray) ++ ⟨#[32,119,105,116,104,32]⟩ ++ ⟨(Lib.itoa (t : Int)).toArray⟩) = str (Lib.itoa (q : Int) ++ lR ++ Lib.itoa (t : Int))):=by show _ = _;simp only [str,lR,Value.string.injEq];apply ByteArray.ext;simp
         have NW : Hid (∀ (j : Nat) (u : Value),([.string ((⟨(Lib.itoa (q : Int)).toArray⟩ : ByteArray) ++ ⟨#[32,119,105,116,104,32]⟩ ++ ⟨(Lib.itoa (t : Int)).toArray⟩)] : List Value)[j]? = some u → (wr.alloc (.cells #[.string ((⟨(Lib.itoa (q : Int)).toArray⟩ : ByteArray) ++ ⟨#[32,119,105,116,104,32]⟩ ++ ⟨(Lib.itoa (t : Int)).toArray⟩)] 9)).cell? ((⟨wr.heap.size,0,none⟩ : Addr).add j) = some u):=rZ _ _
         have C6 : Hid (w3.heap.size ≤ (wr.alloc (.cells #[.string ((⟨(Lib.itoa (q : Int)).toArray⟩ : ByteArray) ++ ⟨#[32,119,105,116,104,32]⟩ ++ ⟨(Lib.itoa (t : Int)).toArray⟩)] 9)).heap.size):=by have:=BW4.out.size;show _ ≤ _;simp;omega
         clear hs4 LQ
         generalize PA ++ (bV zn tr q t).map bH = M5 at *
         have C5 : Hid (M5.length + 1 ≤ maxLen ∧ (M5.length + 1) * 16 ≤ 140737488355328):=by have:=LM.out;exact ⟨by unfold maxLen;omega,by omega⟩
         go_wp2_with (first | (go_at_call 73;refine (DG.out _ _ (by first | exact q3 | exact t3)).mono ?_;rintro e wd ⟨rfl,rfl⟩) | (at_builtin;refine wpList_append_own _ rfl _ _ 36 rfl w3.heap.size 9 i0 (.string ⟨#[]⟩) 1 16 Tryz.underlying36 hi0 hz0 hs0 hb0 rfl (by decide) _ _ _ rfl (OW4.out.alloc _) ⟨wr.heap.size,0,none⟩ 1 1 [.string ((⟨(Lib.itoa (q : Int)).toArray⟩ : ByteArray) ++ ⟨#[32,119,105,116,104,32]⟩ ++ ⟨(Lib.itoa (t : Int)).toArray⟩)] rfl rfl NW.out (by intro u hu;simp at hu;subst hu;rfl) C5.out.1 C5.out.2 C6.out ?_))
         intro v' w5 hown2 hg2 _
         have R : Hid (aD w3.heap.size w5 (PA ++ (bV zn tr q (t + 1)).map bH) v' ∧ Below w3.heap.size w3 w5):=by
          refine ⟨?_,(BW4.out.alloc BW4.out.size _).grown hg2 C6.out (fun kk hkk=>(OW4.out.lt kk hkk).1)⟩
          rw [RN.out]
          unfold aD
          rw [List.length_append,List.map_append]
          rw [SS.out] at hown2
          exact hown2
         clear hown2 hg2
         go_wp2_with fail
         go_roundw
         case rel=>exact ⟨t + 1,by omega,by go_num,R.out⟩
         case measure=>simp [intOf];omega
       ·have e : t = zn:=by omega
        have R : Hid (aD w3.heap.size wr (PA ++ (bV zn tr q zn).map bH) u8 ∧ Below w3.heap.size w3 wr):=by have h:=hs4.out;rw [e] at h;exact h
        have g6 : decide ((t : Int) < (zn : Int)) = false:=by simp;omega
        clear hs4 e
        go_wp2_with fail
        go_roundw
        case rel=>exact ⟨q + 1,by omega,by go_num,by rw [SN2.out];exact R.out⟩
        case measure=>simp [intOf];omega
     ·have e : q = zn:=by omega
      have HS6 : Hid (aD w3.heap.size wr ((eD zn tr).map bH) u8 ∧ Below w3.heap.size w3 wr):=by
       have h:=hs2.out
       rw [e] at h
       rw [qX]
       exact h
      have LP : Hid ((eD zn tr).length ≤ 9):=by
       have h1:=oI zn tr zn
       have h2 : zn * zn ≤ 3 * 3:=Nat.mul_le_mul (by omega) (by omega)
       show _ ≤ _
       rw [qX]
       omega
      have PT : Hid (∀ x ∈ (eD zn tr).map bH,x ≠ [] ∧ x.length ≤ 20):=by
       intro x hx
       obtain ⟨p,hp,rfl⟩:=List.mem_map.1 hx
       have hb:=uK hp
       have h2:=bC hb.1 (show p.1 ≤ 1000000 by omega)
       have h3:=bC hb.2.2.1 (show p.2 ≤ 1000000 by omega)
       have h4 : lR.length = 6:=rfl
       refine ⟨fun h=>?_,by simp only [bH,List.length_append,h4];omega⟩
       have h5:=congrArg List.length h
       simp only [bH,List.length_append,h4,List.length_nil] at h5
       omega
      have LJ : Hid (∀ j,(bS fE (((eD zn tr).map bH).take j)).length ≤ 1000):=by
       intro j
       have h1:=lN fE 20 (((eD zn tr).map bH).take j) (fun x hx=>(PT.out x (List.mem_of_mem_take hx)).2)
       have h2:=LP.out
       have h4 : fE.length = 5:=rfl
       have h5 : (((eD zn tr).map bH).take j).length ≤ 9:=by rw [List.length_take,List.length_map];omega
       rw [h4] at h1
       have:=Nat.mul_le_mul_right (20 + 5) h5
       omega
      have NN : (gQ ((eD zn tr).map bH)).length ≤ 1000:=by
       unfold gQ
       split
       ·decide
       ·have:=LJ.out ((eD zn tr).map bH).length
        rwa [List.take_length] at this
      have BW6:=Hd (aA B3.out HS6.out.2)
      have hS6:=Hd (kc HS6.out.2 hS3.out)
      have ROW6:=Hd (kc HS6.out.2 ROW3.out)
      have OW6:=Hd (aD.below OW3.out HS6.out.2)
      have D6 : Hid (Below wr.heap.size wr wr.drew):=(Below.refl _ _).drew
      have g5 : decide ((q : Int) < (zn : Int)) = false:=by simp;omega
      have hS0 : wr.drew.heap[fb]? = some (.cells #[str nm,.int .i64 2,.int .i64 tr] 102):=hS6.out
      obtain ⟨N,hN⟩ : ∃ N,gQ ((eD zn tr).map bH) = N:=⟨_,rfl⟩
      have LC : Hid (∀ W,Below wr.heap.size wr W → Calls Tryz.prog 74 #[u8] W fun e w'=>e = .returned (str N) ∧ W = w'):=fun W hW=>by
       rw [← hN]
       obtain ⟨ya,yc,hu8⟩:=bN HS6.out.1
       have hst:=(aD.below HS6.out.1 hW).strsAt
       rw [hu8] at hst ⊢
       exact zD _ (fun x hx=>(PT.out x hx).1) (by rw [List.length_map];have:=LP.out;omega) (fun j=>Nat.le_trans (LJ.out j) (by decide)) (fun x hx=>Nat.le_trans (PT.out x hx).2 (by decide)) _ _ _ W hst
      rw [hN] at NN LN
      clear hs2 e hN
      go_wp2_with fail
      refine wp_region_held_drew (S:=fun w'=>w'.heap[fb]? = some (.cells #[str nm,.int .i64 2,.int .i64 tr] 102)) (by kernel_rfl) hS0 (fun hHeld=>?_)
      refine tk 0 ?_
      try simp only [Act.put,s1,s2,s3,s4,s5,s6]
      refine tk 1 ?_
      try simp only [Act.put,s1,s2,s3,s4,s5,s6]
      refine tk 2 ?_ (hv:=by intro w0 hSw;obtain ⟨⟨z0,z1,z2⟩,-⟩:=bQ hSw;go_simp;try with_reducible rfl)
      try simp only [Act.put,s1,s2,s3,s4,s5,s6]
      refine tk 3 ?_
      try simp only [Act.put,s1,s2,s3,s4,s5,s6]
      refine tk 4 ?_
      try simp only [Act.put,s1,s2,s3,s4,s5,s6]
      refine rd 5 (fun K hK=>?_)
      go_simp
      go_at_call 74
      refine (LC.out _ D6.out).mono ?_
      rintro e w4 ⟨rfl,rfl⟩
      have hSn:=hS0
      have OW4:=Hd (aD.below OW6.out D6.out)
      have B4:=Hd (aA BW6.out D6.out)
      have ROW4:=Hd (kc D6.out ROW6.out)
      go_simp
      refine hK.out _ _ hSn (fun _=>?_)
      clear hK K
      try simp only [Act.put,s1,s2,s3,s4,s5,s6]
      have SS : Hid (Value.string ((⟨nm.toArray⟩ : ByteArray) ++ ⟨#[32,104,111,108,100,115,32,111,102,32]⟩ ++ ⟨N.toArray⟩) = str (nm ++ fW ++ N)):=by show _ = _;simp only [str,fW,Value.string.injEq];apply ByteArray.ext;simp
      have nl2 : ¬ 9223372036854775807 < List.length nm + 10 + List.length N:=by omega
      have ws4 : w.heap.size < wr.heap.size:=(Array.getElem?_eq_some_iff.1 ROW6.out).1
      have wf4 : fb < wr.heap.size:=(Array.getElem?_eq_some_iff.1 hS6.out).1
      refine tk 6 ?_
      try simp only [Act.put,s1,s2,s3,s4,s5,s6]
      refine rd 7 (fun K hK=>?_)
      go_simp
      refine hK.out _ _ ((heap_alloc_old _ _ wf4).trans hS0) (fun _=>?_)
      clear hK K
      try simp only [Act.put,s1,s2,s3,s4,s5,s6]
      refine rd 8 (fun K hK=>?_)
      refine aR rfl _ _ 36 rfl (w.heap.size + 1) 9 i0 (.string ⟨#[]⟩) 1 16 Tryz.underlying36 hi0 hz0 hs0 hb0 rfl (by decide) _ _ _ rfl (OW4.out.alloc _) ⟨wr.heap.size,0,none⟩ 1 1 [.string ((⟨nm.toArray⟩ : ByteArray) ++ ⟨#[32,104,111,108,100,115,32,111,102,32]⟩ ++ ⟨N.toArray⟩)] rfl rfl (cell_one_new _ _ _) (by intro u hu;simp at hu;subst hu;rfl) C3.out.1 C3.out.2 (by simp;omega) ?_
      intro v5 w5 hown2 hg2 _
      have hg5 : w5.heap[fb]? = some (.cells #[str nm,.int .i64 2,.int .i64 tr] 102):=(hg2.block _ (by simp;omega) (fun e=>by have:=(FB0.out _ e.symm).2;omega)).trans ((heap_alloc_old _ _ wf4).trans hS0)
      have R : Hid (aD (w.heap.size + 1) w5 ([hd] ++ (F.take (j + 1)).map (bL zn)) v5 ∧ Below w.heap.size w w5 ∧ w5.heap[w.heap.size]? = some (mdR 2 zn ra 0 rc lo (some ⟨b,off,none⟩) fn fc ga gn gc ba bn bc)):=by
       refine ⟨?_,(B4.out.alloc B4.out.size _).grown hg2 (by simp;omega) (fun kk hkk=>by have:=(OW4.out.lt kk hkk).1;omega),(hg2.block _ (by simp;omega) (fun e=>by have:=(OW4.out.lt _ e.symm).1;omega)).trans ((heap_alloc_old _ _ ws4).trans ROW4.out)⟩
       rw [M1.out,LN.out,← List.append_assoc [hd] M]
       unfold aD
       rw [List.length_append,List.map_append]
       rw [SS.out] at hown2
       exact hown2
      clear hown2 hg2
      refine hK.out _ _ hg5 (fun _=>?_)
      clear hK K
      try simp only [Act.put,s1,s2,s3,s4,s5,s6]
      refine rd 9 (fun K hK=>?_)
      go_simp
      refine hK.out _ _ hg5 (fun _=>?_)
      clear hK K
      try simp only [Act.put,s1,s2,s3,s4,s5,s6]
      refine wpAnyH_done (by kernel_rfl) ?_ _
      go_wp2_with fail
      go_roundw
      case rel=>exact ⟨j + 1,by omega,by go_num,R.out⟩
      case measure=>simp [intOf];omega
  ·have e : F.take j = F:=List.take_of_length_le (by rw [← L1.out];omega)
   have HS : Hid (aD (w.heap.size + 1) wr ([hd] ++ F.map (bL zn)) u4 ∧ Below w.heap.size w wr ∧ wr.heap[w.heap.size]? = some (mdR 2 zn ra 0 rc lo fa fn fc ga gn gc ba bn bc)):=by have h:=hs.out;rw [e] at h;exact h
   have LF : Hid (([hd] ++ F.map (bL zn)).length ≤ 13):=by show _ ≤ _;simp only [List.length_append,List.length_cons,List.length_nil,List.length_map];rw [← L1.out];omega
   have g1 : decide ((j : Int) < (fn : Int)) = false:=by simp;omega
   clear hs e hj
   obtain ⟨FL,hFL⟩ : ∃ FL,[hd] ++ F.map (bL zn) = FL:=⟨_,rfl⟩
   have HFL:=Hd hFL
   rw [hFL] at HS LF
   clear hFL
   go_wp2_with fail
   go_loopw [4,11] (fun u i wr=>∃ j : Nat,j ≤ gn ∧ i = .int .i64 j ∧ Hid (aD (w.heap.size + 1) wr (FL ++ (G.take j).flatMap bB) u ∧ Below w.heap.size w wr ∧ wr.heap[w.heap.size]? = some (mdR 2 zn ra 0 rc lo fa fn fc ga gn gc ba bn bc))) (fun _ i _=>gn - (intOf i).toNat)
   case atStart=>exact ⟨0,Nat.zero_le _,rfl,by simpa using HS.out.1,HS.out.2⟩
   case round =>
    clear HS k0 k1 k2 k3 k4 k5 k6
    obtain ⟨j,hj,rfl,hs⟩:=hrel
    obtain ⟨⟨k0,k1,k2,k3,k4,k5,k6⟩,-⟩:=aK hs.out.2.2
    by_cases hlt : j < gn
    ·obtain ⟨T,hT⟩:=aH (l:=G) (j:=j) (by rw [← L2.out];exact hlt)
     obtain ⟨b,off,rfl,GG⟩:=HG.out.get (bG hT)
     obtain ⟨vx,vk,ve,p0,p1,p2,pv⟩:=GG j T hT
     clear GG
     have VL:=Hd pv.len.1
     have PV:=Hd pv
     have NL:=OK.out.nG T (List.mem_of_getElem? hT)
     have AG:=OK.out.aG T (List.mem_of_getElem? hT)
     have SN : Hid ((G.take (j + 1)).flatMap bB = (G.take j).flatMap bB ++ bB T):=by show _ = _;rw [List.take_add_one,hT];simp
     have LG : Hid (((G.take j).flatMap bB).length ≤ 36):=by
      show _ ≤ _
      have h2:=oZ (G.take j) (fun f hf=>by have:=(OK.out.aG f (List.mem_of_mem_take hf)).1;omega)
      have h3 : (G.take j).length ≤ 12:=by rw [List.length_take];omega
      omega
     have LFM : Hid ((FL ++ (G.take j).flatMap bB).length ≤ 49):=by have h1:=LG.out;have h2:=LF.out;show _ ≤ _;rw [List.length_append];omega
     have g1 : decide ((j : Int) < (gn : Int)) = true:=by simp;omega
     have zb : b < w.heap.size:=World.block_lt_of_cell? w _ p0
     have HS:=Hd hs.out
     have SNL : Hid (FL ++ (G.take (j + 1)).flatMap bB = FL ++ (G.take j).flatMap bB ++ bB T):=by show _ = _;rw [SN.out,List.append_assoc]
     clear SN LG hs hT
     obtain ⟨FM,hFM⟩ : ∃ FM,FL ++ (G.take j).flatMap bB = FM:=⟨_,rfl⟩
     rw [hFM] at LFM SNL HS
     clear hFM
     obtain ⟨nm,ar,vl⟩:=T
     simp only [Fu.args,Fu.value,Fu.name] at *
     obtain ⟨ac,av⟩:=AG
     have AV:=Hd av
     clear av
     have vk3 : vk ≤ 3:=by have:=VL.out;omega
     go_wp2_with fail
     go_loopw [4,12] (fun u i wx=>∃ q : Nat,q ≤ vk ∧ i = .int .i64 q ∧ Hid (aD (w.heap.size + 1) wx (FM ++ (List.range q).map (dY ⟨nm,ar,vl⟩)) u ∧ Below w.heap.size w wx ∧ wx.heap[w.heap.size]? = some (mdR 2 zn ra 0 rc lo fa fn fc (some ⟨b,off,none⟩) gn gc ba bn bc))) (fun _ i _=>vk - (intOf i).toNat)
     case atStart=>exact ⟨0,Nat.zero_le _,rfl,by simpa using HS.out.1,HS.out.2⟩
     case round =>
      clear HS k0 k1 k2 k3 k4 k5 k6
      obtain ⟨q,hq,rfl,hs2⟩:=hrel
      obtain ⟨⟨k0,k1,k2,k3,k4,k5,k6⟩,-⟩:=aK hs2.out.2.2
      have hK:=aC hs2.out.2.1
      have c0:=hK _ _ p0;have c1:=hK _ _ p1;have c2:=hK _ _ p2
      clear hK
      by_cases hlq : q < vk
      ·obtain ⟨x,hxx⟩:=aH (l:=vl) (j:=q) (by rw [← VL.out];exact hlq)
       obtain ⟨vb,vo,rfl,cv0⟩:=eS PV.out hxx
       have cv:=aC hs2.out.2.1 _ _ cv0
       have zv : vb < w.heap.size:=World.block_lt_of_cell? w _ cv0
       have XB:=AV.out x (List.mem_of_getElem? hxx)
       have M2 : Hid (FM ++ (List.range (q + 1)).map (dY ⟨nm,ar,vl⟩) = (FM ++ (List.range q).map (dY ⟨nm,ar,vl⟩)) ++ [dY ⟨nm,ar,vl⟩ q]):=by
        show _ = _
        rw [List.range_succ,List.map_append,List.append_assoc];rfl
       have ix:=bC XB.1 (show x ≤ 1000000 by omega)
       have iq:=bC (n:=(q : Int)) (by omega) (by omega)
       have xb1 : x ≤ 1000000:=by omega
       have DX : Hid (∀ W,Calls Tryz.prog 73 #[.int .i64 x] W fun e w'=>e = .returned (str (Lib.itoa x)) ∧ W = w'):=fun W=>eB x XB.1 xb1 W
       have DQ : Hid (∀ W,Calls Tryz.prog 73 #[.int .i64 (q : Int)] W fun e w'=>e = .returned (str (Lib.itoa (q : Int))) ∧ W = w'):=fun W=>eB q (by omega) (by omega) W
       have OW2:=Hd hs2.out.1
       have BW2:=Hd hs2.out.2.1
       have ROW2:=Hd hs2.out.2.2
       have ws2 : w.heap.size < wr.heap.size:=(Array.getElem?_eq_some_iff.1 hs2.out.2.2).1
       have LE2 : Hid ((FM ++ (List.range q).map (dY ⟨nm,ar,vl⟩)).length ≤ 60):=by
        have h1:=LFM.out
        show _ ≤ _
        rw [List.length_append,List.length_map,List.length_range];omega
       have hS0 : ∀ i,i < w.heap.size + 1 → wr.drew.heap[i]? = wr.heap[i]?:=fun _ _=>rfl
       have g6 : decide ((q : Int) < (vk : Int)) = true:=by simp;omega
       have GI : Hid (getI vl q = x):=cW hxx
       clear hxx cv0 hs2
       generalize FM ++ (List.range q).map (dY ⟨nm,ar,vl⟩) = M5 at *
       have C5 : Hid (M5.length + 1 ≤ maxLen ∧ (M5.length + 1) * 16 ≤ 140737488355328):=by
        have h1:=LE2.out
        exact ⟨by unfold maxLen;omega,by omega⟩
       rcases ac with ⟨rfl,hv1⟩ | ⟨rfl,hv3⟩
       ·have LN : Hid (dY ⟨nm,0,vl⟩ q = nm ++ mwIs ++ Lib.itoa x):=by show _ = _;unfold dY;simp only [GI.out];simp
        have nl1 : ¬ 9223372036854775807 < List.length nm:=by omega
        have nl2 : ¬ 9223372036854775807 < List.length nm + 4:=by omega
        have nl3 : ¬ 9223372036854775807 < List.length nm + 4 + List.length (Lib.itoa x):=by omega
        have SS : Hid (Value.string ((⟨nm.toArray⟩ : ByteArray) ++ ⟨#[]⟩ ++ ⟨#[32,105,115,32]⟩ ++ ⟨(Lib.itoa x).toArray⟩) = str (nm ++ mwIs ++ Lib.itoa x)):=by show _ = _;simp only [str,mwIs,Value.string.injEq];apply ByteArray.ext;simp
        have NW : Hid (∀ (j : Nat) (u : Value),([.string ((⟨nm.toArray⟩ : ByteArray) ++ ⟨#[]⟩ ++ ⟨#[32,105,115,32]⟩ ++ ⟨(Lib.itoa x).toArray⟩)] : List Value)[j]? = some u → (wr.drew.alloc (.cells #[.string ((⟨nm.toArray⟩ : ByteArray) ++ ⟨#[]⟩ ++ ⟨#[32,105,115,32]⟩ ++ ⟨(Lib.itoa x).toArray⟩)] 9)).cell? ((⟨wr.heap.size,0,none⟩ : Addr).add j) = some u):=rZ wr.drew _
        go_wp2_with fail
        refine wp_region_held_drew (S:=fun w'=>∀ i,i < w.heap.size + 1 → w'.heap[i]? = wr.heap[i]?) (by kernel_rfl) hS0 (fun hHeld=>?_)
        refine tk 0 ?_
        try simp only [Act.put,s1,s2,s3,s4,s5,s6]
        refine tk 1 ?_
        try simp only [Act.put,s1,s2,s3,s4,s5,s6]
        refine tk 2 ?_ (hv:=by intro w0 hSw;have z4:=(World.cell?_of_block (a:=⟨w.heap.size,5,none⟩) (hSw _ (by simp))).trans k5;go_simp;try with_reducible rfl)
        try simp only [Act.put,s1,s2,s3,s4,s5,s6]
        refine tk 3 ?_
        try simp only [Act.put,s1,s2,s3,s4,s5,s6]
        refine tk 4 ?_
        try simp only [Act.put,s1,s2,s3,s4,s5,s6]
        refine tk 5 ?_
        try simp only [Act.put,s1,s2,s3,s4,s5,s6]
        refine tk 6 ?_ (hv:=by intro w0 hSw;have z5:=(World.cell?_of_block (a:=⟨b,off + j * 3,none⟩) (hSw _ (by simp;omega))).trans c0;go_simp;try with_reducible rfl)
        try simp only [Act.put,s1,s2,s3,s4,s5,s6]
        refine tk 7 ?_
        try simp only [Act.put,s1,s2,s3,s4,s5,s6]
        refine tk 8 ?_
        try simp only [Act.put,s1,s2,s3,s4,s5,s6]
        refine tk 9 ?_
        try simp only [Act.put,s1,s2,s3,s4,s5,s6]
        refine tk 10 ?_
        try simp only [Act.put,s1,s2,s3,s4,s5,s6]
        refine tk 11 ?_ (hv:=by intro w0 hSw;have z4:=(World.cell?_of_block (a:=⟨w.heap.size,5,none⟩) (hSw _ (by simp))).trans k5;go_simp;try with_reducible rfl)
        try simp only [Act.put,s1,s2,s3,s4,s5,s6]
        refine tk 12 ?_
        try simp only [Act.put,s1,s2,s3,s4,s5,s6]
        refine tk 13 ?_
        try simp only [Act.put,s1,s2,s3,s4,s5,s6]
        refine tk 14 ?_
        try simp only [Act.put,s1,s2,s3,s4,s5,s6]
        refine tk 15 ?_ (hv:=by intro w0 hSw;have z5:=(World.cell?_of_block (a:=⟨b,off + j * 3 + 2,none⟩) (hSw _ (by simp;omega))).trans c2;go_simp;try with_reducible rfl)
        try simp only [Act.put,s1,s2,s3,s4,s5,s6]
        refine tk 16 ?_
        try simp only [Act.put,s1,s2,s3,s4,s5,s6]
        refine tk 17 ?_
        try simp only [Act.put,s1,s2,s3,s4,s5,s6]
        refine tk 18 ?_ (hv:=by intro w0 hSw;have z5:=(World.cell?_of_block (a:=⟨vb,vo + q,none⟩) (hSw _ (by simp;omega))).trans cv;go_simp;try with_reducible rfl)
        try simp only [Act.put,s1,s2,s3,s4,s5,s6]
        refine rd 19 (fun K hK=>?_)
        go_simp
        go_at_call 73
        refine (DX.out _).mono ?_
        rintro e wd ⟨rfl,rfl⟩
        have hSn:=hS0
        go_simp
        refine hK.out _ _ hSn (fun _=>?_)
        clear hK K
        try simp only [Act.put,s1,s2,s3,s4,s5,s6]
        refine tk 20 ?_
        try simp only [Act.put,s1,s2,s3,s4,s5,s6]
        have hS4 : ∀ o i,i < w.heap.size + 1 → (wr.drew.alloc o).heap[i]? = wr.heap[i]?:=fun o i hi=>heap_alloc_old _ _ (show i < wr.drew.heap.size by show i < wr.heap.size;omega)
        refine rd 21 (fun K hK=>?_)
        go_simp
        refine hK.out _ _ (hS4 _) (fun _=>?_)
        clear hK K
        try simp only [Act.put,s1,s2,s3,s4,s5,s6]
        refine rd 22 (fun K hK=>?_)
        refine aR rfl _ _ 36 rfl (w.heap.size + 1) 9 i0 (.string ⟨#[]⟩) 1 16 Tryz.underlying36 hi0 hz0 hs0 hb0 rfl (by decide) _ _ _ rfl ((aD.below OW2.out (Below.refl _ _).drew).alloc _) ⟨wr.heap.size,0,none⟩ 1 1 [.string ((⟨nm.toArray⟩ : ByteArray) ++ ⟨#[]⟩ ++ ⟨#[32,105,115,32]⟩ ++ ⟨(Lib.itoa x).toArray⟩)] rfl rfl NW.out (by intro u hu;simp at hu;subst hu;rfl) C5.out.1 C5.out.2 (by simp;omega) ?_
        intro v5 w5 hown2 hg2 _
        have hg5 : ∀ i,i < w.heap.size + 1 → w5.heap[i]? = wr.heap[i]?:=fun i hi=>(hg2.block _ (by simp;omega) (fun e=>by have:=(OW2.out.lt _ e.symm).1;omega)).trans (hS4 _ i hi)
        have R5 : Hid (aD (w.heap.size + 1) w5 (FM ++ (List.range (q + 1)).map (dY ⟨nm,0,vl⟩)) v5 ∧ Below w.heap.size w w5 ∧ w5.heap[w.heap.size]? = some (mdR 2 zn ra 0 rc lo fa fn fc (some ⟨b,off,none⟩) gn gc ba bn bc)):=by
         refine ⟨?_,(BW2.out.drew.alloc BW2.out.drew.size _).grown hg2 (by simp;omega) (fun kk hkk=>by have:=(OW2.out.lt kk hkk).1;omega),(hg5 _ (by omega)).trans ROW2.out⟩
         rw [M2.out,LN.out]
         unfold aD
         rw [List.length_append,List.map_append]
         rw [SS.out] at hown2
         exact hown2
        clear hown2 hg2
        refine hK.out _ _ hg5 (fun _=>?_)
        clear hK K
        try simp only [Act.put,s1,s2,s3,s4,s5,s6]
        refine rd 23 (fun K hK=>?_)
        go_simp
        refine hK.out _ _ hg5 (fun _=>?_)
        clear hK K
        try simp only [Act.put,s1,s2,s3,s4,s5,s6]
        refine wpAnyH_done (by kernel_rfl) ?_ _
        go_wp2_with fail
        go_roundw
        case rel=>exact ⟨q + 1,by omega,by go_num,R5.out⟩
        case measure=>simp [intOf];omega
       ·have LN : Hid (dY ⟨nm,1,vl⟩ q = nm ++ (mwOf ++ Lib.itoa (q : Int)) ++ mwIs ++ Lib.itoa x):=by show _ = _;unfold dY;simp only [GI.out];simp
        have nl1 : ¬ 9223372036854775807 < 4 + List.length (Lib.itoa (q : Int)):=by omega
        have nl2 : ¬ 9223372036854775807 < List.length nm + (4 + List.length (Lib.itoa (q : Int))):=by omega
        have nl3 : ¬ 9223372036854775807 < List.length nm + (4 + List.length (Lib.itoa (q : Int))) + 4:=by omega
        have nl4 : ¬ 9223372036854775807 < List.length nm + (4 + List.length (Lib.itoa (q : Int))) + 4 + List.length (Lib.itoa x):=by omega
        have SS : Hid (Value.string ((⟨nm.toArray⟩ : ByteArray) ++ (⟨#[32,111,102,32]⟩ ++ ⟨(Lib.itoa (q : Int)).toArray⟩) ++ ⟨#[32,105,115,32]⟩ ++ ⟨(Lib.itoa x).toArray⟩) = str (nm ++ (mwOf ++ Lib.itoa (q : Int)) ++ mwIs ++ Lib.itoa x)):=by show _ = _;simp only [str,mwOf,mwIs,Value.string.injEq];apply ByteArray.ext;simp
        have NW : Hid (∀ (j : Nat) (u : Value),([.string ((⟨nm.toArray⟩ : ByteArray) ++ (⟨#[32,111,102,32]⟩ ++ ⟨(Lib.itoa (q : Int)).toArray⟩) ++ ⟨#[32,105,115,32]⟩ ++ ⟨(Lib.itoa x).toArray⟩)] : List Value)[j]? = some u → (wr.drew.alloc (.cells #[.string ((⟨nm.toArray⟩ : ByteArray) ++ (⟨#[32,111,102,32]⟩ ++ ⟨(Lib.itoa (q : Int)).toArray⟩) ++ ⟨#[32,105,115,32]⟩ ++ ⟨(Lib.itoa x).toArray⟩)] 9)).cell? ((⟨wr.heap.size,0,none⟩ : Addr).add j) = some u):=rZ wr.drew _
        go_wp2_with (go_at_call 73;refine (DQ.out _).mono ?_;rintro e wq ⟨rfl,rfl⟩)
        refine wp_region_held_drew (S:=fun w'=>∀ i,i < w.heap.size + 1 → w'.heap[i]? = wr.heap[i]?) (by kernel_rfl) hS0 (fun hHeld=>?_)
        refine tk 0 ?_
        try simp only [Act.put,s1,s2,s3,s4,s5,s6]
        refine tk 1 ?_
        try simp only [Act.put,s1,s2,s3,s4,s5,s6]
        refine tk 2 ?_ (hv:=by intro w0 hSw;have z4:=(World.cell?_of_block (a:=⟨w.heap.size,5,none⟩) (hSw _ (by simp))).trans k5;go_simp;try with_reducible rfl)
        try simp only [Act.put,s1,s2,s3,s4,s5,s6]
        refine tk 3 ?_
        try simp only [Act.put,s1,s2,s3,s4,s5,s6]
        refine tk 4 ?_
        try simp only [Act.put,s1,s2,s3,s4,s5,s6]
        refine tk 5 ?_
        try simp only [Act.put,s1,s2,s3,s4,s5,s6]
        refine tk 6 ?_ (hv:=by intro w0 hSw;have z5:=(World.cell?_of_block (a:=⟨b,off + j * 3,none⟩) (hSw _ (by simp;omega))).trans c0;go_simp;try with_reducible rfl)
        try simp only [Act.put,s1,s2,s3,s4,s5,s6]
        refine tk 7 ?_
        try simp only [Act.put,s1,s2,s3,s4,s5,s6]
        refine tk 8 ?_
        try simp only [Act.put,s1,s2,s3,s4,s5,s6]
        refine tk 9 ?_
        try simp only [Act.put,s1,s2,s3,s4,s5,s6]
        refine tk 10 ?_
        try simp only [Act.put,s1,s2,s3,s4,s5,s6]
        refine tk 11 ?_ (hv:=by intro w0 hSw;have z4:=(World.cell?_of_block (a:=⟨w.heap.size,5,none⟩) (hSw _ (by simp))).trans k5;go_simp;try with_reducible rfl)
        try simp only [Act.put,s1,s2,s3,s4,s5,s6]
        refine tk 12 ?_
        try simp only [Act.put,s1,s2,s3,s4,s5,s6]
        refine tk 13 ?_
        try simp only [Act.put,s1,s2,s3,s4,s5,s6]
        refine tk 14 ?_
        try simp only [Act.put,s1,s2,s3,s4,s5,s6]
        refine tk 15 ?_ (hv:=by intro w0 hSw;have z5:=(World.cell?_of_block (a:=⟨b,off + j * 3 + 2,none⟩) (hSw _ (by simp;omega))).trans c2;go_simp;try with_reducible rfl)
        try simp only [Act.put,s1,s2,s3,s4,s5,s6]
        refine tk 16 ?_
        try simp only [Act.put,s1,s2,s3,s4,s5,s6]
        refine tk 17 ?_
        try simp only [Act.put,s1,s2,s3,s4,s5,s6]
        refine tk 18 ?_ (hv:=by intro w0 hSw;have z5:=(World.cell?_of_block (a:=⟨vb,vo + q,none⟩) (hSw _ (by simp;omega))).trans cv;go_simp;try with_reducible rfl)
        try simp only [Act.put,s1,s2,s3,s4,s5,s6]
        refine rd 19 (fun K hK=>?_)
        go_simp
        go_at_call 73
        refine (DX.out _).mono ?_
        rintro e wd ⟨rfl,rfl⟩
        have hSn:=hS0
        go_simp
        refine hK.out _ _ hSn (fun _=>?_)
        clear hK K
        try simp only [Act.put,s1,s2,s3,s4,s5,s6]
        refine tk 20 ?_
        try simp only [Act.put,s1,s2,s3,s4,s5,s6]
        have hS4 : ∀ o i,i < w.heap.size + 1 → (wr.drew.alloc o).heap[i]? = wr.heap[i]?:=fun o i hi=>heap_alloc_old _ _ (show i < wr.drew.heap.size by show i < wr.heap.size;omega)
        refine rd 21 (fun K hK=>?_)
        go_simp
        refine hK.out _ _ (hS4 _) (fun _=>?_)
        clear hK K
        try simp only [Act.put,s1,s2,s3,s4,s5,s6]
        refine rd 22 (fun K hK=>?_)
        refine aR rfl _ _ 36 rfl (w.heap.size + 1) 9 i0 (.string ⟨#[]⟩) 1 16 Tryz.underlying36 hi0 hz0 hs0 hb0 rfl (by decide) _ _ _ rfl ((aD.below OW2.out (Below.refl _ _).drew).alloc _) ⟨wr.heap.size,0,none⟩ 1 1 [.string ((⟨nm.toArray⟩ : ByteArray) ++ (⟨#[32,111,102,32]⟩ ++ ⟨(Lib.itoa (q : Int)).toArray⟩) ++ ⟨#[32,105,115,32]⟩ ++ ⟨(Lib.itoa x).toArray⟩)] rfl rfl NW.out (by intro u hu;simp at hu;subst hu;rfl) C5.out.1 C5.out.2 (by simp;omega) ?_
        intro v5 w5 hown2 hg2 _
        have hg5 : ∀ i,i < w.heap.size + 1 → w5.heap[i]? = wr.heap[i]?:=fun i hi=>(hg2.block _ (by simp;omega) (fun e=>by have:=(OW2.out.lt _ e.symm).1;omega)).trans (hS4 _ i hi)
        have R5 : Hid (aD (w.heap.size + 1) w5 (FM ++ (List.range (q + 1)).map (dY ⟨nm,1,vl⟩)) v5 ∧ Below w.heap.size w w5 ∧ w5.heap[w.heap.size]? = some (mdR 2 zn ra 0 rc lo fa fn fc (some ⟨b,off,none⟩) gn gc ba bn bc)):=by
         refine ⟨?_,(BW2.out.drew.alloc BW2.out.drew.size _).grown hg2 (by simp;omega) (fun kk hkk=>by have:=(OW2.out.lt kk hkk).1;omega),(hg5 _ (by omega)).trans ROW2.out⟩
         rw [M2.out,LN.out]
         unfold aD
         rw [List.length_append,List.map_append]
         rw [SS.out] at hown2
         exact hown2
        clear hown2 hg2
        refine hK.out _ _ hg5 (fun _=>?_)
        clear hK K
        try simp only [Act.put,s1,s2,s3,s4,s5,s6]
        refine rd 23 (fun K hK=>?_)
        go_simp
        refine hK.out _ _ hg5 (fun _=>?_)
        clear hK K
        try simp only [Act.put,s1,s2,s3,s4,s5,s6]
        refine wpAnyH_done (by kernel_rfl) ?_ _
        go_wp2_with fail
        go_roundw
        case rel=>exact ⟨q + 1,by omega,by go_num,R5.out⟩
        case measure=>simp [intOf];omega
      ·have e : q = vk:=by omega
       have R : Hid (aD (w.heap.size + 1) wr (FM ++ bB ⟨nm,ar,vl⟩) u4 ∧ Below w.heap.size w wr ∧ wr.heap[w.heap.size]? = some (mdR 2 zn ra 0 rc lo fa fn fc (some ⟨b,off,none⟩) gn gc ba bn bc)):=by
        have h:=hs2.out
        rw [e,VL.out] at h
        exact h
       have g6 : decide ((q : Int) < (vk : Int)) = false:=by simp;omega
       clear hs2 e
       go_wp2_with fail
       go_roundw
       case rel=>exact ⟨j + 1,by omega,by go_num,by rw [SNL.out];exact R.out⟩
       case measure=>simp [intOf];omega
    ·have e : G.take j = G:=List.take_of_length_le (by rw [← L2.out];omega)
     have HS : Hid (aD (w.heap.size + 1) wr (FL ++ G.flatMap bB) u4 ∧ Below w.heap.size w wr ∧ wr.heap[w.heap.size]? = some (mdR 2 zn ra 0 rc lo fa fn fc ga gn gc ba bn bc)):=by have h:=hs.out;rw [e] at h;exact h
     have LFM : Hid ((FL ++ G.flatMap bB).length ≤ 49):=by
      have h1:=oZ G (fun f hf=>by have:=(OK.out.aG f hf).1;omega)
      have h2:=LF.out
      have h3:=OK.out.gl
      show _ ≤ _;rw [List.length_append];omega
     have g1 : decide ((j : Int) < (gn : Int)) = false:=by simp;omega
     clear hs e hj LF
     obtain ⟨FM,hFM⟩ : ∃ FM,FL ++ G.flatMap bB = FM:=⟨_,rfl⟩
     have EZ : Hid (Z = FM ++ B.map cD):=by show _ = _;rw [← hFM,← HFL.out,← HZ.out];simp
     rw [hFM] at HS LFM
     clear hFM
     go_wp2_with fail
     go_loopw [4,14] (fun u i wr=>∃ j : Nat,j ≤ bn ∧ i = .int .i64 j ∧ Hid (aD (w.heap.size + 1) wr (FM ++ (B.take j).map cD) u ∧ Below w.heap.size w wr ∧ wr.heap[w.heap.size]? = some (mdR 2 zn ra 0 rc lo fa fn fc ga gn gc ba bn bc))) (fun _ i _=>bn - (intOf i).toNat)
     case atStart=>exact ⟨0,Nat.zero_le _,rfl,by simpa using HS.out.1,HS.out.2⟩
     case round =>
      clear HS k0 k1 k2 k3 k4 k5 k6
      obtain ⟨j,hj,rfl,hs⟩:=hrel
      obtain ⟨⟨k0,k1,k2,k3,k4,k5,k6⟩,-⟩:=aK hs.out.2.2
      by_cases hlt : j < bn
      ·obtain ⟨T,hT⟩:=aH (l:=B) (j:=j) (by rw [← L3.out];exact hlt)
       obtain ⟨b,off,rfl,p0,p1⟩:=gE HY.out hT
       have zb : b < w.heap.size:=World.block_lt_of_cell? w _ p0
       have hK:=aC hs.out.2.1
       have c0:=hK _ _ p0;have c1:=hK _ _ p1
       have M1 : Hid (FM ++ (B.take (j + 1)).map cD = (FM ++ (B.take j).map cD) ++ [cD T]):=by show _ = _;rw [cY cD hT,List.append_assoc]
       have NL:=OK.out.nB T (List.mem_of_getElem? hT)
       have AB:=OK.out.aB T (List.mem_of_getElem? hT)
       obtain ⟨nm,x⟩:=T
       simp only [Bi.at_,Bi.name] at *
       have LN : Hid (cD ⟨nm,x⟩ = nm ++ mwIs ++ Lib.itoa x):=rfl
       have OW2:=Hd hs.out.1
       have BW2:=Hd hs.out.2.1
       have ROW2:=Hd hs.out.2.2
       have ws2 : w.heap.size < wr.heap.size:=(Array.getElem?_eq_some_iff.1 hs.out.2.2).1
       have LE2 : Hid ((FM ++ (B.take j).map cD).length ≤ 62):=by
        have h1:=LFM.out
        show _ ≤ _
        rw [List.length_append,List.length_map,List.length_take];omega
       have ix:=bC AB.1 (show x ≤ 1000000 by omega)
       have xb1 : x ≤ 1000000:=by omega
       have DX : Hid (∀ W,Calls Tryz.prog 73 #[.int .i64 x] W fun e w'=>e = .returned (str (Lib.itoa x)) ∧ W = w'):=fun W=>eB x AB.1 xb1 W
       have hS0 : ∀ i,i < w.heap.size + 1 → wr.drew.heap[i]? = wr.heap[i]?:=fun _ _=>rfl
       have g1 : decide ((j : Int) < (bn : Int)) = true:=by simp;omega
       clear hT hK p0 p1 hs
       generalize FM ++ (B.take j).map cD = M5 at *
       have C5 : Hid (M5.length + 1 ≤ maxLen ∧ (M5.length + 1) * 16 ≤ 140737488355328):=by
        have h1:=LE2.out
        exact ⟨by unfold maxLen;omega,by omega⟩
       have nl2 : ¬ 9223372036854775807 < List.length nm + 4:=by omega
       have nl3 : ¬ 9223372036854775807 < List.length nm + 4 + List.length (Lib.itoa x):=by omega
       have SS : Hid (Value.string ((⟨nm.toArray⟩ : ByteArray) ++ ⟨#[32,105,115,32]⟩ ++ ⟨(Lib.itoa x).toArray⟩) = str (nm ++ mwIs ++ Lib.itoa x)):=by show _ = _;simp only [str,mwIs,Value.string.injEq];apply ByteArray.ext;simp
       have NW : Hid (∀ (j : Nat) (u : Value),([.string ((⟨nm.toArray⟩ : ByteArray) ++ ⟨#[32,105,115,32]⟩ ++ ⟨(Lib.itoa x).toArray⟩)] : List Value)[j]? = some u → (wr.drew.alloc (.cells #[.string ((⟨nm.toArray⟩ : ByteArray) ++ ⟨#[32,105,115,32]⟩ ++ ⟨(Lib.itoa x).toArray⟩)] 9)).cell? ((⟨wr.heap.size,0,none⟩ : Addr).add j) = some u):=rZ wr.drew _
       go_wp2_with fail
       refine wp_region_held_drew (S:=fun w'=>∀ i,i < w.heap.size + 1 → w'.heap[i]? = wr.heap[i]?) (by kernel_rfl) hS0 (fun hHeld=>?_)
       refine tk 0 ?_
       try simp only [Act.put,s1,s2,s3,s4,s5,s6]
       refine tk 1 ?_
       try simp only [Act.put,s1,s2,s3,s4,s5,s6]
       refine tk 2 ?_ (hv:=by intro w0 hSw;have z4:=(World.cell?_of_block (a:=⟨w.heap.size,6,none⟩) (hSw _ (by simp))).trans k6;go_simp;try with_reducible rfl)
       try simp only [Act.put,s1,s2,s3,s4,s5,s6]
       refine tk 3 ?_
       try simp only [Act.put,s1,s2,s3,s4,s5,s6]
       refine tk 4 ?_
       try simp only [Act.put,s1,s2,s3,s4,s5,s6]
       refine tk 5 ?_
       try simp only [Act.put,s1,s2,s3,s4,s5,s6]
       refine tk 6 ?_ (hv:=by intro w0 hSw;have z5:=(World.cell?_of_block (a:=⟨b,off + j * 2,none⟩) (hSw _ (by simp;omega))).trans c0;go_simp;try with_reducible rfl)
       try simp only [Act.put,s1,s2,s3,s4,s5,s6]
       refine tk 7 ?_
       try simp only [Act.put,s1,s2,s3,s4,s5,s6]
       refine tk 8 ?_
       try simp only [Act.put,s1,s2,s3,s4,s5,s6]
       refine tk 9 ?_ (hv:=by intro w0 hSw;have z4:=(World.cell?_of_block (a:=⟨w.heap.size,6,none⟩) (hSw _ (by simp))).trans k6;go_simp;try with_reducible rfl)
       try simp only [Act.put,s1,s2,s3,s4,s5,s6]
       refine tk 10 ?_
       try simp only [Act.put,s1,s2,s3,s4,s5,s6]
       refine tk 11 ?_
       try simp only [Act.put,s1,s2,s3,s4,s5,s6]
       refine tk 12 ?_
       try simp only [Act.put,s1,s2,s3,s4,s5,s6]
       refine tk 13 ?_ (hv:=by intro w0 hSw;have z5:=(World.cell?_of_block (a:=⟨b,off + j * 2 + 1,none⟩) (hSw _ (by simp;omega))).trans c1;go_simp;try with_reducible rfl)
       try simp only [Act.put,s1,s2,s3,s4,s5,s6]
       refine rd 14 (fun K hK=>?_)
       go_simp
       go_at_call 73
       refine (DX.out _).mono ?_
       rintro e wd ⟨rfl,rfl⟩
       have hSn:=hS0
       go_simp
       refine hK.out _ _ hSn (fun _=>?_)
       clear hK K
       try simp only [Act.put,s1,s2,s3,s4,s5,s6]
       refine tk 15 ?_
       try simp only [Act.put,s1,s2,s3,s4,s5,s6]
       have hS4 : ∀ o i,i < w.heap.size + 1 → (wr.drew.alloc o).heap[i]? = wr.heap[i]?:=fun o i hi=>heap_alloc_old _ _ (show i < wr.drew.heap.size by show i < wr.heap.size;omega)
       refine rd 16 (fun K hK=>?_)
       go_simp
       refine hK.out _ _ (hS4 _) (fun _=>?_)
       clear hK K
       try simp only [Act.put,s1,s2,s3,s4,s5,s6]
       refine rd 17 (fun K hK=>?_)
       refine aR rfl _ _ 36 rfl (w.heap.size + 1) 9 i0 (.string ⟨#[]⟩) 1 16 Tryz.underlying36 hi0 hz0 hs0 hb0 rfl (by decide) _ _ _ rfl ((aD.below OW2.out (Below.refl _ _).drew).alloc _) ⟨wr.heap.size,0,none⟩ 1 1 [.string ((⟨nm.toArray⟩ : ByteArray) ++ ⟨#[32,105,115,32]⟩ ++ ⟨(Lib.itoa x).toArray⟩)] rfl rfl NW.out (by intro u hu;simp at hu;subst hu;rfl) C5.out.1 C5.out.2 (by simp;omega) ?_
       intro v5 w5 hown2 hg2 _
       have hg5 : ∀ i,i < w.heap.size + 1 → w5.heap[i]? = wr.heap[i]?:=fun i hi=>(hg2.block _ (by simp;omega) (fun e=>by have:=(OW2.out.lt _ e.symm).1;omega)).trans (hS4 _ i hi)
       have R5 : Hid (aD (w.heap.size + 1) w5 (FM ++ (B.take (j + 1)).map cD) v5 ∧ Below w.heap.size w w5 ∧ w5.heap[w.heap.size]? = some (mdR 2 zn ra 0 rc lo fa fn fc ga gn gc (some ⟨b,off,none⟩) bn bc)):=by
        refine ⟨?_,(BW2.out.drew.alloc BW2.out.drew.size _).grown hg2 (by simp;omega) (fun kk hkk=>by have:=(OW2.out.lt kk hkk).1;omega),(hg5 _ (by omega)).trans ROW2.out⟩
        rw [M1.out,LN.out]
        unfold aD
        rw [List.length_append,List.map_append]
        rw [SS.out] at hown2
        exact hown2
       clear hown2 hg2
       refine hK.out _ _ hg5 (fun _=>?_)
       clear hK K
       try simp only [Act.put,s1,s2,s3,s4,s5,s6]
       refine rd 18 (fun K hK=>?_)
       go_simp
       refine hK.out _ _ hg5 (fun _=>?_)
       clear hK K
       try simp only [Act.put,s1,s2,s3,s4,s5,s6]
       refine wpAnyH_done (by kernel_rfl) ?_ _
       go_wp2_with fail
       go_roundw
       case rel=>exact ⟨j + 1,by omega,by go_num,R5.out⟩
       case measure=>simp [intOf];omega
      ·have e : B.take j = B:=List.take_of_length_le (by rw [← L3.out];omega)
       have HE : Hid (aD (w.heap.size + 1) wr (FM ++ B.map cD) u4 ∧ Below w.heap.size w wr):=by have h:=hs.out;rw [e] at h;exact ⟨h.1,h.2.1⟩
       have g1 : decide ((j : Int) < (bn : Int)) = false:=by simp;omega
       clear hs e
       go_wp2_with fail
       refine wp_loop_rounds 1 ?_
       rw [rounds_succ]
       go_wp2_with fail
       go_ret2
       exact ⟨_,rfl,by rw [EZ.out];exact HE.out.1.mono (Nat.le_succ _),HE.out.2⟩
end Go.Proofs.YtcandidgaegghaaGreatDoor
