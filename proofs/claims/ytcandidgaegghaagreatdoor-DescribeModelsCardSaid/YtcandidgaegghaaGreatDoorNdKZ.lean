/- The lines of a structure: describe.structure. Conditions: the structure is right; its names are short. -/
import Derived.Test.YtcandidgaegghaaGreatDoorCpZ
import Derived.Test.YtcandidgaegghaaGreatDoorNdDZ
set_option maxRecDepth 10000
set_option linter.unusedSimpArgs false
set_option linter.unusedVariables false
namespace Go.Proofs.YtcandidgaegghaaGreatDoor
open Go Go.RowKit Go.Sort Ly
set_option maxHeartbeats 8000000
structure xL (F : List Fa) (G : List Fu) (B : List Bi) (zn : Nat) : Prop where
 z1 : 1 ≤ zn
 z3 : zn ≤ 3
 fl : F.length ≤ 12
 gl : G.length ≤ 12
 bl : B.length ≤ 12
 nF : ∀ x ∈ F,x.name.length ≤ 1000
 nG : ∀ x ∈ G,x.name.length ≤ 1000
 nB : ∀ x ∈ B,x.name.length ≤ 1000
 aF : ∀ x ∈ F,(x.args = 0 ∨ x.args = 1 ∨ x.args = 2) ∧ 0 ≤ x.tru ∧ x.tru < 512 ∧ (x.args = 2 → x.tru < 2 ^ (zn * zn))
 aG : ∀ x ∈ G,(x.args = 0 ∧ x.value.length = 1 ∨ x.args = 1 ∧ x.value.length ≤ 3) ∧ ∀ y ∈ x.value,0 ≤ y ∧ y < 3
 aB : ∀ x ∈ B,0 ≤ x.at_ ∧ x.at_ < 3
theorem div_in {x : Int} {z : Nat} (h0 : 0 ≤ x) (h1 : x < (16 : Nat)) (hz : 1 ≤ z) : 0 ≤ x.tdiv (z : Int) ∧ x.tdiv (z : Int) ≤ 16:=by
 rw [Int.tdiv_eq_ediv_of_nonneg h0]
 have h2 : (0 : Int) < z:=by omega
 refine ⟨Int.ediv_nonneg h0 (by omega), ?_⟩
 have:=Int.ediv_le_self (z : Int) h0
 omega
theorem mod_in {x : Int} {z : Nat} (h0 : 0 ≤ x) (hz : 1 ≤ z) (hz3 : z ≤ 3) : 0 ≤ x.tmod (z : Int) ∧ x.tmod (z : Int) ≤ 16:=by
 rw [Int.tmod_eq_emod_of_nonneg h0]
 have h2 : (0 : Int) < z:=by omega
 have h3:=Int.emod_nonneg x (show (z : Int) ≠ 0 by omega)
 have h4:=Int.emod_lt_of_pos x h2
 omega
theorem uK {z : Nat} {m : Int} {p : Int × Int} (h : p ∈ eD z m) : 0 ≤ p.1 ∧ p.1 < z ∧ 0 ≤ p.2 ∧ p.2 < z:=by
 unfold eD at h
 simp only [List.mem_flatMap,List.mem_map,List.mem_filter,List.mem_range] at h
 obtain ⟨a,ha,b,⟨hb,_⟩,rfl⟩:=h
 simp only []
 omega
theorem flat_one {w : World} {b : Nat} {f : Fa} (h : w.heap[b]? = some (.cells #[str f.name,.int .i64 f.args,.int .i64 f.tru] 102)) : aM w 3 (fasV [f]) [f].length (.slice (some ⟨b,0,none⟩) 1 1):=by
 refine ⟨_,_,rfl,Nat.le_refl _,by decide,rfl,.inr ⟨b,0,rfl,fun j v hv=>?_⟩⟩
 obtain ⟨⟨c0,c1,c2⟩,-⟩:=bQ h
 have hj : j < 3:=by have:=(List.getElem?_eq_some_iff.1 hv).1;simpa [fasV,faV] using this
 rcases (show j = 0 ∨ j = 1 ∨ j = 2 by omega) with rfl | rfl | rfl
 ·simp [fasV,faV] at hv;subst hv;simpa using c0
 ·simp [fasV,faV] at hv;subst hv;simpa using c1
 ·simp [fasV,faV] at hv;subst hv;simpa using c2
theorem structure_c (F : List Fa) (G : List Fu) (B : List Bi) (zn : Nat) (ok : xL F G B zn) (lo : Int) (ra fa ga ba : Option Addr) (rn rc fn fc gn gc bn bc : Nat) (w : World) (hx : aM w 3 (fasV F) F.length (.slice fa fn fc)) (hg : fZ w G (.slice ga gn gc)) (hy : aM w 2 (bisV B) B.length (.slice ba bn bc)) (hp : gP w) :
  Calls Tryz.prog 69 #[mdK 2 zn ra rn rc lo fa fn fc ga gn gc ba bn bc] w (eL (F.map (bL zn) ++ G.flatMap bB ++ B.map cD) w):=by
 have L1:=Hd hx.len.1
 have L2:=Hd hg.len.1
 have L3:=Hd hy.len.1
 have fk : fn ≤ 12:=by have:=L1.out;have:=ok.fl;omega
 have gk : gn ≤ 12:=by have:=L2.out;have:=ok.gl;omega
 have bk : bn ≤ 12:=by have:=L3.out;have:=ok.bl;omega
 have zb1:=ok.z1
 have zb3:=ok.z3
 have HX:=Hd hx
 have HG:=Hd hg
 have HY:=Hd hy
 have HP:=Hd hp
 have OK:=Hd ok
 obtain ⟨i0,hi0,hz0,hs0,hb0⟩:=info_parts fP
 have BX : Hid ((w.alloc (mdR 2 zn ra rn rc lo fa fn fc ga gn gc ba bn bc)).heap[w.heap.size]? = some (mdR 2 zn ra rn rc lo fa fn fc ga gn gc ba bn bc)):=heap_alloc_new w _
 have WB : Hid (Below w.heap.size w (w.alloc (mdR 2 zn ra rn rc lo fa fn fc ga gn gc ba bn bc))):=bnew
 clear hx hg hy hp ok
 go_enter Tryz.func69,Tryz.ntmps69
 obtain ⟨⟨k0,k1,k2,k3,k4,k5,k6⟩,-⟩:=aK BX.out
 go_wp2_with fail
 go_loopw [3,18] (fun u i wr=>∃ j : Nat,j ≤ fn ∧ i = .int .i64 j ∧ Hid (aD (w.heap.size + 1) wr ((F.take j).map (bL zn)) u ∧ Below w.heap.size w wr ∧ wr.heap[w.heap.size]? = some (mdR 2 zn ra rn rc lo fa fn fc ga gn gc ba bn bc))) (fun _ i _=>fn - (intOf i).toNat)
 case atStart=>exact ⟨0,Nat.zero_le _,rfl,World.ownsRow_nil _ _ _ _,WB.out,BX.out⟩
 case round =>
  clear BX WB k0 k1 k2 k3 k4 k5 k6
  obtain ⟨j,hj,rfl,hs⟩:=hrel
  by_cases hlt : j < fn
  ·obtain ⟨T,hT⟩:=aH (l:=F) (j:=j) (by rw [← L1.out];exact hlt)
   obtain ⟨b,off,rfl,p0,p1,p2⟩:=cL HX.out hT
   have hK:=aC hs.out.2.1
   have c0:=hK _ _ p0;have c1:=hK _ _ p1;have c2:=hK _ _ p2
   have M1:=Hd (cY (bL zn) hT)
   have NL:=OK.out.nF T (List.mem_of_getElem? hT)
   have AF:=OK.out.aF T (List.mem_of_getElem? hT)
   obtain ⟨nm,ar,tr⟩:=T
   simp only [Fa.args,Fa.tru,Fa.name] at *
   have OW0:=Hd hs.out.1
   have BW:=Hd hs.out.2.1
   have ROW:=Hd hs.out.2.2
   have ws : w.heap.size < wr.heap.size:=(Array.getElem?_eq_some_iff.1 hs.out.2.2).1
   have LE : Hid (((F.take j).map (bL zn)).length ≤ 12):=by show _ ≤ _;simp;omega
   obtain ⟨xa,xc,hu⟩:=bN hs.out.1
   subst hu
   obtain ⟨ac,tt0,tt1,tt2⟩:=AF
   have tt3 : tr < 65536:=by omega
   have NN:=cR tr
   have BO:=Hd (fM tr)
   clear hT hK p0 p1 p2 hs
   generalize (F.take j).map (bL zn) = M at *
   have C3 : Hid (M.length + 1 ≤ maxLen ∧ (M.length + 1) * 16 ≤ 140737488355328):=by
    have h1:=LE.out
    exact ⟨by unfold maxLen;omega,by omega⟩
   rcases ac with rfl | rfl | rfl
   ·have LN : Hid (bL zn ⟨nm,0,tr⟩ = cN ⟨nm,0,tr⟩):=rfl
    have A0 : Hid (Below wr.heap.size wr ((wr.alloc (.cells #[str nm,.int .i64 0,.int .i64 tr] 102)).alloc (.cells #[str nm,.int .i64 0,.int .i64 tr] 102))):=bnew.alloc (by simp) _
    have NEW2 : Hid (((wr.alloc (.cells #[str nm,.int .i64 0,.int .i64 tr] 102)).alloc (.cells #[str nm,.int .i64 0,.int .i64 tr] 102)).heap[wr.heap.size + 1]? = some (.cells #[str nm,.int .i64 0,.int .i64 tr] 102)):=by
     have:=heap_alloc_new (wr.alloc (.cells #[str nm,.int .i64 0,.int .i64 tr] 102)) (.cells #[str nm,.int .i64 0,.int .i64 tr] 102)
     rwa [World.size_alloc] at this
    have TR : Hid (Calls Tryz.prog 67 #[.slice (some ⟨wr.heap.size + 1,0,none⟩) 1 1] ((wr.alloc (.cells #[str nm,.int .i64 0,.int .i64 tr] 102)).alloc (.cells #[str nm,.int .i64 0,.int .i64 tr] 102)) (eL [cN ⟨nm,0,tr⟩] ((wr.alloc (.cells #[str nm,.int .i64 0,.int .i64 tr] 102)).alloc (.cells #[str nm,.int .i64 0,.int .i64 tr] 102)))) :=
     xD [⟨nm,0,tr⟩] (by simp) (fun x hx=>by simp at hx;subst hx;simp only [];omega) _ 1 1 _ (flat_one (f:=⟨nm,0,tr⟩) NEW2.out)
    go_wp2_with (go_at_call 67;refine TR.out.mono ?_;rintro e w3 ⟨v3,rfl,o3,b3⟩;obtain ⟨y3,e3,rfl⟩:=bN o3;have O3:=Hd o3;have B3:=Hd (aA A0.out b3);clear o3 b3)
    have LS : Hid (eJ (w3.alloc (.cells #[.slice xa M.length xc,.slice y3 1 e3] 36)) [M,[cN ⟨nm,0,tr⟩]] (.slice (some ⟨w3.heap.size,0,none⟩) 2 2)):=by
     have n3:=heap_alloc_new w3 (.cells #[.slice xa M.length xc,.slice y3 1 e3] 36)
     have bz : Below w3.heap.size w3 (w3.alloc (.cells #[.slice xa M.length xc,.slice y3 1 e3] 36)):=bnew
     exact jR ((aJ n3 0).trans rfl) ((aJ n3 1).trans rfl) (aD.below (aD.below OW0.out B3.out) bz).strsAt (aD.below O3.out bz).strsAt
    have TOT : Hid (([M,[cN ⟨nm,0,tr⟩]] : List (List Bs)).flatten.length * 16 ≤ 140737488355328):=by
     have h1:=LE.out
     show _ ≤ _
     simp only [List.flatten_cons,List.flatten_nil,List.length_append,List.length_cons,List.length_nil]
     omega
    have B4 : Hid (Below w.heap.size w (w3.alloc (.cells #[.slice xa M.length xc,.slice y3 1 e3] 36))):=(aA BW.out B3.out).alloc (aA BW.out B3.out).size _
    have ROW4 : Hid ((w3.alloc (.cells #[.slice xa M.length xc,.slice y3 1 e3] 36)).heap[w.heap.size]? = some (mdR 2 zn ra rn rc lo (some ⟨b,off,none⟩) fn fc ga gn gc ba bn bc)):=kc bnew (kc B3.out ROW.out)
    refine (tV [M,[cN ⟨nm,0,tr⟩]] _ _ _ _ LS.out TOT.out).mono ?_
    rintro e w5 ⟨v5,rfl,o5,b5⟩
    have R : Hid (aD (w.heap.size + 1) w5 ((F.take (j + 1)).map (bL zn)) v5 ∧ Below w.heap.size w w5 ∧ w5.heap[w.heap.size]? = some (mdR 2 zn ra rn rc lo (some ⟨b,off,none⟩) fn fc ga gn gc ba bn bc)):=by
     refine ⟨?_,aA B4.out b5,kc b5 ROW4.out⟩
     rw [M1.out,LN.out]
     have h:=o5.mono (B':=w.heap.size + 1) (Array.getElem?_eq_some_iff.1 ROW4.out).1
     simpa using h
    clear o5 b5
    go_wp2_with fail
    go_roundw
    case rel=>exact ⟨j + 1,by omega,by go_num,R⟩
    case measure=>simp [intOf];omega
   ·have LN : Hid (bL zn ⟨nm,1,tr⟩ = nm ++ fW ++ numbers (bJ tr)):=by show _ = _;unfold bL;rw [if_neg (show ¬ (1 : Int) = 0 by decide),if_neg (show ¬ (1 : Int) = 2 by decide)]
    have A1 : Hid (Below wr.heap.size wr (wr.alloc (.cells #[str nm,.int .i64 1,.int .i64 tr] 102)).drew):=bnew.drew
    have B0:=Hd (aA BW.out A1.out)
    have hS0 : (wr.alloc (.cells #[str nm,.int .i64 1,.int .i64 tr] 102)).drew.heap[wr.heap.size]? = some (.cells #[str nm,.int .i64 1,.int .i64 tr] 102):=heap_alloc_new wr _
    have nl1 : ¬ 9223372036854775807 < List.length nm + 10:=by omega
    go_wp2_with fail
    refine wp_region_held_drew (S:=fun w'=>w'.heap[wr.heap.size]? = some (.cells #[str nm,.int .i64 1,.int .i64 tr] 102)) (by kernel_rfl) hS0 (fun hHeld=>?_)
    refine tk 0 ?_
    try simp only [Act.put,s1,s2,s3,s4,s5,s6]
    refine tk 1 ?_
    try simp only [Act.put,s1,s2,s3,s4,s5,s6]
    refine tk 2 ?_ (hv:=by intro w0 hSw;obtain ⟨⟨z0,z1,z2⟩,-⟩:=bQ hSw;go_simp;try with_reducible rfl)
    try simp only [Act.put,s1,s2,s3,s4,s5,s6]
    refine tk 3 ?_
    try simp only [Act.put,s1,s2,s3,s4,s5,s6]
    refine tk 4 ?_
    try simp only [Act.put,s1,s2,s3,s4,s5,s6]
    refine tk 5 ?_ (hv:=by intro w0 hSw;obtain ⟨⟨z0,z1,z2⟩,-⟩:=bQ hSw;go_simp;try with_reducible rfl)
    try simp only [Act.put,s1,s2,s3,s4,s5,s6]
    refine rd 6 (fun K hK=>?_)
    go_simp
    go_at_call 71
    refine (mG tr tt0 tt3 _).mono ?_
    rintro e w3 ⟨v3,rfl,i3,b3⟩
    obtain ⟨y,yn,yc,rfl⟩:=dF.slice i3
    have I3:=Hd i3
    have B3:=Hd (aA B0.out b3)
    have hSn:=kc b3 hS0
    have hS3:=hSn
    have Z3:=Hd b3
    clear i3 b3
    go_simp
    refine hK.out _ _ hSn (fun _=>?_)
    clear hK K
    try simp only [Act.put,s1,s2,s3,s4,s5,s6]
    refine rd 7 (fun K hK=>?_)
    go_simp
    go_at_call 70
    refine (fD (bJ tr) BO.out.1 (by have:=BO.out.2;omega) _ _ _ _ (HP.out.below B3.out) I3.out).mono ?_
    rintro e w4 ⟨rfl,b4⟩
    have B4:=Hd (aA B3.out b4)
    have hSn:=kc b4 hS3
    have Z4:=Hd (aA A1.out (aA Z3.out b4))
    have OW4:=Hd (aD.below (aD.below OW0.out A1.out) (aA Z3.out b4))
    have ROW4:=Hd (kc b4 (kc Z3.out (kc A1.out ROW.out)))
    have hS4:=hSn
    clear b4
    go_simp
    refine hK.out _ _ hSn (fun _=>?_)
    clear hK K
    try simp only [Act.put,s1,s2,s3,s4,s5,s6]
    obtain ⟨N,hN⟩ : ∃ N,numbers (bJ tr) = N:=⟨_,rfl⟩
    rw [hN] at NN LN
    simp only [hN]
    clear hN
    have SS : Hid (Value.string ((⟨nm.toArray⟩ : ByteArray) ++ ⟨#[32,104,111,108,100,115,32,111,102,32]⟩ ++ ⟨N.toArray⟩) = str (nm ++ fW ++ N)):=by show _ = _;simp only [str,fW,Value.string.injEq];apply ByteArray.ext;simp
    have nl2 : ¬ 9223372036854775807 < List.length nm + 10 + List.length N:=by omega
    have ws4 : w.heap.size < w4.heap.size:=(Array.getElem?_eq_some_iff.1 ROW4.out).1
    have wr4 : wr.heap.size < w4.heap.size:=(Array.getElem?_eq_some_iff.1 hS4).1
    refine tk 8 ?_
    try simp only [Act.put,s1,s2,s3,s4,s5,s6]
    refine rd 9 (fun K hK=>?_)
    go_simp
    refine hK.out _ _ ((heap_alloc_old _ _ wr4).trans hS4) (fun _=>?_)
    clear hK K
    try simp only [Act.put,s1,s2,s3,s4,s5,s6]
    refine rd 10 (fun K hK=>?_)
    refine aR rfl _ _ 36 rfl (w.heap.size + 1) 9 i0 (.string ⟨#[]⟩) 1 16 Tryz.underlying36 hi0 hz0 hs0 hb0 rfl (by decide) _ _ _ rfl (OW4.out.alloc _) ⟨w4.heap.size,0,none⟩ 1 1 [.string ((⟨nm.toArray⟩ : ByteArray) ++ ⟨#[32,104,111,108,100,115,32,111,102,32]⟩ ++ ⟨N.toArray⟩)] rfl rfl (cell_one_new _ _ _) (by intro u hu;simp at hu;subst hu;rfl) C3.out.1 C3.out.2 (by simp;omega) ?_
    intro v5 w5 hown2 hg2 _
    have hg5 : w5.heap[wr.heap.size]? = some (.cells #[str nm,.int .i64 1,.int .i64 tr] 102):=(hg2.block _ (by simp;omega) (fun e=>by have:=(OW0.out.lt _ e.symm).2;omega)).trans ((heap_alloc_old _ _ wr4).trans hS4)
    have R : Hid (aD (w.heap.size + 1) w5 ((F.take (j + 1)).map (bL zn)) v5 ∧ Below w.heap.size w w5 ∧ w5.heap[w.heap.size]? = some (mdR 2 zn ra rn rc lo (some ⟨b,off,none⟩) fn fc ga gn gc ba bn bc)):=by
     refine ⟨?_,(B4.out.alloc B4.out.size _).grown hg2 (by simp;omega) (fun kk hkk=>by have:=(OW4.out.lt kk hkk).1;omega),(hg2.block _ (by simp;omega) (fun e=>by have:=(OW4.out.lt _ e.symm).1;omega)).trans ((heap_alloc_old _ _ ws4).trans ROW4.out)⟩
     rw [M1.out,LN.out]
     unfold aD
     rw [List.length_append,List.map_append]
     rw [SS.out] at hown2
     exact hown2
    clear hown2 hg2
    refine hK.out _ _ hg5 (fun _=>?_)
    clear hK K
    try simp only [Act.put,s1,s2,s3,s4,s5,s6]
    refine rd 11 (fun K hK=>?_)
    go_simp
    refine hK.out _ _ hg5 (fun _=>?_)
    clear hK K
    try simp only [Act.put,s1,s2,s3,s4,s5,s6]
    refine wpAnyH_done (by kernel_rfl) ?_ _
    go_wp2_with fail
    go_roundw
    case rel=>exact ⟨j + 1,by omega,by go_num,R.out⟩
    case measure=>simp [intOf];omega
   ·have LN : Hid (bL zn ⟨nm,2,tr⟩ = nm ++ fW ++ gQ ((eD zn tr).map bH)):=by show _ = _;unfold bL;rw [if_neg (show ¬ (2 : Int) = 0 by decide),if_pos (show (2 : Int) = 2 from rfl)]
    have PB:=Hd (pairs_bits zb3 tt0 (tt2 rfl))
    clear tt2
    have A1 : Hid (Below wr.heap.size wr (wr.alloc (.cells #[str nm,.int .i64 2,.int .i64 tr] 102))):=bnew
    have B0:=Hd (aA BW.out A1.out)
    have hS0 : Hid ((wr.alloc (.cells #[str nm,.int .i64 2,.int .i64 tr] 102)).heap[wr.heap.size]? = some (.cells #[str nm,.int .i64 2,.int .i64 tr] 102)):=heap_alloc_new wr _
    have nl1 : ¬ 9223372036854775807 < List.length nm + 10:=by omega
    go_wp2_with (go_at_call 71;refine (mG tr tt0 tt3 _).mono ?_;rintro e w3 ⟨v3,rfl,i3,b3⟩;obtain ⟨y,yn,yc,rfl⟩:=dF.slice i3;have I3:=Hd i3;have YN:=Hd i3.len.1;have B3:=Hd (aA B0.out b3);have Z3:=Hd (aA A1.out b3);have hS3:=Hd (kc b3 hS0.out);have ROW3:=Hd (kc b3 (kc A1.out ROW.out));clear i3 b3)
    have yk : yn ≤ 16:=by have:=YN.out;have:=BO.out.2;omega
    have OW3:=Hd (aD.below OW0.out Z3.out)
    have FB0 : Hid (∀ g,(Value.slice xa M.length xc).ownBlock = some g → w.heap.size + 1 ≤ g ∧ g < wr.heap.size):=fun g hg=>OW0.out.lt g hg
    have ws3 : w.heap.size < w3.heap.size:=(Array.getElem?_eq_some_iff.1 ROW3.out).1
    have wr3 : wr.heap.size < w3.heap.size:=(Array.getElem?_eq_some_iff.1 hS3.out).1
    clear OW0 BW ROW A1 B0 hS0 Z3
    generalize wr.heap.size = fb at *
    go_loopw [6,28] (fun u i wx=>∃ q : Nat,q ≤ yn ∧ i = .int .i64 q ∧ Hid (aD w3.heap.size wx (((bJ tr).take q).map fun n=>bH (n.tdiv (zn : Int),n.tmod (zn : Int))) u ∧ Below w3.heap.size w3 wx)) (fun _ i _=>yn - (intOf i).toNat)
    case atStart=>exact ⟨0,Nat.zero_le _,rfl,World.ownsRow_nil _ _ _ _,Below.refl _ _⟩
    case round =>
     obtain ⟨q,hq,rfl,hs2⟩:=hrel
     by_cases hlq : q < yn
     ·obtain ⟨x,hxx⟩:=aH (l:=bJ tr) (j:=q) (by rw [← YN.out];exact hlq)
      obtain ⟨yb,yo,rfl,hc⟩:=I3.out.get (bG hxx)
      have c5:=aC hs2.out.2 _ _ (hc q x hxx)
      have XB:=rM tr 16 x (List.mem_of_getElem? hxx)
      have M2:=Hd (cY (fun n : Int=>bH (n.tdiv (zn : Int),n.tmod (zn : Int))) hxx)
      have OW2:=Hd hs2.out.1
      have BW2:=Hd hs2.out.2
      have ROW5:=Hd (kc hs2.out.2 ROW3.out)
      have ws5 : w.heap.size < wr.heap.size:=(Array.getElem?_eq_some_iff.1 ROW5.out).1
      have LE2 : Hid ((((bJ tr).take q).map fun n=>bH (n.tdiv (zn : Int),n.tmod (zn : Int))).length ≤ 16):=by show _ ≤ _;simp;omega
      obtain ⟨d1,hd1⟩ : ∃ d1,x.tdiv (zn : Int) = d1:=⟨_,rfl⟩
      obtain ⟨d2,hd2⟩ : ∃ d2,x.tmod (zn : Int) = d2:=⟨_,rfl⟩
      have e1 : 0 ≤ d1 ∧ d1 ≤ 16:=by rw [← hd1];exact div_in XB.1 XB.2 zb1
      have e2 : 0 ≤ d2 ∧ d2 ≤ 16:=by rw [← hd2];exact mod_in XB.1 zb1 zb3
      have PT : Hid ((fun n : Int=>bH (n.tdiv (zn : Int),n.tmod (zn : Int))) x = Lib.itoa d1 ++ lR ++ Lib.itoa d2):=by show _ = _;simp only [bH,hd1,hd2]
      have i1:=bC e1.1 (show d1 ≤ 1000000 by omega)
      have i2:=bC e2.1 (show d2 ≤ 1000000 by omega)
      have zq : ((zn : Int) == 0) = false:=by simp;omega
      have zq2 : (zn : Int) ≠ 0:=by omega
      have zq3 : ¬ zn = 0:=by omega
      have wq1 : IntKind.i64.wrap (x.tdiv (zn : Int)) = d1:=by rw [hd1];exact wrap_i64_small (by omega) (by omega)
      have wq2 : IntKind.i64.wrap (x.tmod (zn : Int)) = d2:=by rw [hd2];exact wrap_i64_small (by omega) (by omega)
      have wq3 : IntKind.i64.wrap d1 = d1:=wrap_i64_small (by omega) (by omega)
      have wq4 : IntKind.i64.wrap d2 = d2:=wrap_i64_small (by omega) (by omega)
      have hS5 : wr.drew.heap[w.heap.size]? = some (mdR 2 zn ra rn rc lo (some ⟨b,off,none⟩) fn fc ga gn gc ba bn bc):=ROW5.out
      have D1 : Hid (Below wr.heap.size wr wr.drew):=(Below.refl _ _).drew
      have B5:=Hd (aA B3.out BW2.out)
      clear hxx hc hs2
      generalize ((bJ tr).take q).map (fun n=>bH (n.tdiv (zn : Int),n.tmod (zn : Int))) = M5 at *
      have C5 : Hid (M5.length + 1 ≤ maxLen ∧ (M5.length + 1) * 16 ≤ 140737488355328):=by
       have h1:=LE2.out
       exact ⟨by unfold maxLen;omega,by omega⟩
      have nl5 : ¬ 9223372036854775807 < List.length (Lib.itoa d1) + 6:=by omega
      have nl6 : ¬ 9223372036854775807 < List.length (Lib.itoa d1) + 6 + List.length (Lib.itoa d2):=by omega
      go_wp2_with fail
      refine wp_region_held_drew (S:=fun w'=>w'.heap[w.heap.size]? = some (mdR 2 zn ra rn rc lo (some ⟨b,off,none⟩) fn fc ga gn gc ba bn bc)) (by kernel_rfl) hS5 (fun hHeld=>?_)
      refine tk 0 ?_
      try simp only [Act.put,s1,s2,s3,s4,s5,s6]
      refine tk 1 ?_
      try simp only [Act.put,s1,s2,s3,s4,s5,s6]
      refine tk 2 ?_
      try simp only [Act.put,s1,s2,s3,s4,s5,s6]
      refine tk 3 ?_ (hv:=by intro w0 hSw;obtain ⟨⟨z0,z1,z2,z3,z4,z5,z6⟩,-⟩:=aK hSw;go_simp;try with_reducible rfl)
      try simp only [Act.put,s1,s2,s3,s4,s5,s6]
      refine tk 4 ?_
      try simp only [Act.put,s1,s2,s3,s4,s5,s6]
      refine tk 7 ?_
      try simp only [Act.put,s1,s2,s3,s4,s5,s6]
      refine tk 8 ?_
      try simp only [Act.put,s1,s2,s3,s4,s5,s6]
      refine tk 9 ?_ (hv:=by intro w0 hSw;obtain ⟨⟨z0,z1,z2,z3,z4,z5,z6⟩,-⟩:=aK hSw;go_simp;try with_reducible rfl)
      try simp only [Act.put,s1,s2,s3,s4,s5,s6]
      refine tk 10 ?_
      try simp only [Act.put,s1,s2,s3,s4,s5,s6]
      refine rd 5 (fun K hK=>?_)
      go_simp
      go_at_call 35
      refine (eH d1 e1.1 (by omega) _ (HP.out.below (aA B5.out D1.out))).mono ?_
      rintro e w7 ⟨rfl,b7⟩
      have B7:=Hd (aA D1.out b7)
      have hSn:=kc b7 hS5
      have hS7:=hSn
      clear b7
      go_simp
      refine hK.out _ _ hSn (fun _=>?_)
      clear hK K
      try simp only [Act.put,s1,s2,s3,s4,s5,s6]
      refine tk 6 ?_
      try simp only [Act.put,s1,s2,s3,s4,s5,s6]
      refine rd 11 (fun K hK=>?_)
      go_simp
      go_at_call 35
      refine (eH d2 e2.1 (by omega) _ (HP.out.below (aA B5.out B7.out))).mono ?_
      rintro e w8 ⟨rfl,b8⟩
      have B8:=Hd (aA B7.out b8)
      have hSn:=kc b8 hS7
      have hS8:=hSn
      have OW8:=Hd (aD.below OW2.out B8.out)
      have ws8 : w.heap.size < w8.heap.size:=(Array.getElem?_eq_some_iff.1 hSn).1
      clear b8
      go_simp
      refine hK.out _ _ hSn (fun _=>?_)
      clear hK K
      try simp only [Act.put,s1,s2,s3,s4,s5,s6]
      have SS : Hid (Value.string ((⟨(Lib.itoa d1).toArray⟩ : ByteArray) ++ ⟨#[32,119,105,116,104,32]⟩ ++ ⟨(Lib.itoa d2).toArray⟩) = str (Lib.itoa d1 ++ lR ++ Lib.itoa d2)):=by show _ = _;simp only [str,lR,Value.string.injEq];apply ByteArray.ext;simp
      refine tk 12 ?_
      try simp only [Act.put,s1,s2,s3,s4,s5,s6]
      refine rd 13 (fun K hK=>?_)
      go_simp
      refine hK.out _ _ ((heap_alloc_old _ _ ws8).trans hS8) (fun _=>?_)
      clear hK K
      try simp only [Act.put,s1,s2,s3,s4,s5,s6]
      refine rd 14 (fun K hK=>?_)
      refine aR rfl _ _ 36 rfl w3.heap.size 9 i0 (.string ⟨#[]⟩) 1 16 Tryz.underlying36 hi0 hz0 hs0 hb0 rfl (by decide) _ _ _ rfl (OW8.out.alloc _) ⟨w8.heap.size,0,none⟩ 1 1 [.string ((⟨(Lib.itoa d1).toArray⟩ : ByteArray) ++ ⟨#[32,119,105,116,104,32]⟩ ++ ⟨(Lib.itoa d2).toArray⟩)] rfl rfl (cell_one_new _ _ _) (by intro u hu;simp at hu;subst hu;rfl) C5.out.1 C5.out.2 (by have:=BW2.out.size;have:=B8.out.size;simp;omega) ?_
      intro v5 w5 hown2 hg2 _
      have hg9 : w5.heap[w.heap.size]? = some (mdR 2 zn ra rn rc lo (some ⟨b,off,none⟩) fn fc ga gn gc ba bn bc):=(hg2.block _ (by simp;omega) (fun e=>by have:=(OW8.out.lt _ e.symm).1;omega)).trans ((heap_alloc_old _ _ ws8).trans hS8)
      have R9 : Hid (aD w3.heap.size w5 (((bJ tr).take (q + 1)).map fun n=>bH (n.tdiv (zn : Int),n.tmod (zn : Int))) v5 ∧ Below w3.heap.size w3 w5):=by
       refine ⟨?_,((aA BW2.out B8.out).alloc (by have:=BW2.out.size;have:=B8.out.size;omega) _).grown hg2 (by have:=BW2.out.size;have:=B8.out.size;simp;omega) (fun kk hkk=>(OW8.out.lt kk hkk).1)⟩
       rw [M2.out,PT.out]
       unfold aD
       rw [List.length_append,List.map_append]
       rw [SS.out] at hown2
       exact hown2
      clear hown2 hg2
      refine hK.out _ _ hg9 (fun _=>?_)
      clear hK K
      try simp only [Act.put,s1,s2,s3,s4,s5,s6]
      refine rd 15 (fun K hK=>?_)
      go_simp
      refine hK.out _ _ hg9 (fun _=>?_)
      clear hK K
      try simp only [Act.put,s1,s2,s3,s4,s5,s6]
      refine wpAnyH_done (by kernel_rfl) ?_ _
      go_wp2_with fail
      go_roundw
      case rel=>exact ⟨q + 1,by omega,by go_num,R9.out⟩
      case measure=>simp [intOf];omega
     ·have e : (bJ tr).take q = bJ tr:=List.take_of_length_le (by rw [← YN.out];omega)
      have HS6 : Hid (aD w3.heap.size wr ((eD zn tr).map bH) u6 ∧ Below w3.heap.size w3 wr):=by
       have h:=hs2.out
       rw [e] at h
       rw [← PB.out,List.map_map]
       exact h
      have LP : Hid ((eD zn tr).length ≤ 16):=by show _ ≤ _;rw [← PB.out,List.length_map];exact BO.out.2
      have LJ : Hid ((bS fE ((eD zn tr).map bH)).length ≤ 1000):=by
       have h1:=lN fE 20 ((eD zn tr).map bH) (fun x hx=>by
        obtain ⟨p,hp,rfl⟩:=List.mem_map.1 hx
        have hb:=uK hp
        have h2:=bC hb.1 (show p.1 ≤ 1000000 by omega)
        have h3:=bC hb.2.2.1 (show p.2 ≤ 1000000 by omega)
        have h4 : lR.length = 6:=rfl
        simp only [bH,List.length_append,h4]
        omega)
       have h2:=LP.out
       have h4 : fE.length = 5:=rfl
       rw [List.length_map,h4] at h1
       have:=Nat.mul_le_mul_right (20 + 5) h2
       show _ ≤ _
       omega
      have LQ : Hid (((eD zn tr).map bH).length ≤ 1000000 ∧ (bS fE ((eD zn tr).map bH)).length ≤ 140737488355328):=by
       have h1:=LP.out
       have h2:=LJ.out
       exact ⟨by rw [List.length_map];omega,by omega⟩
      have NN : (gQ ((eD zn tr).map bH)).length ≤ 1000:=by
       unfold gQ
       split
       ·decide
       ·exact LJ.out
      have BW6:=Hd (aA B3.out HS6.out.2)
      have hS6:=Hd (kc HS6.out.2 hS3.out)
      have ROW6:=Hd (kc HS6.out.2 ROW3.out)
      have OW6:=Hd (aD.below OW3.out HS6.out.2)
      have D6 : Hid (Below wr.heap.size wr wr.drew):=(Below.refl _ _).drew
      have g6 : decide ((q : Int) < (yn : Int)) = false:=by simp;omega
      have hS0 : wr.drew.heap[fb]? = some (.cells #[str nm,.int .i64 2,.int .i64 tr] 102):=hS6.out
      obtain ⟨N,hN⟩ : ∃ N,gQ ((eD zn tr).map bH) = N:=⟨_,rfl⟩
      have LC : Hid (∀ W,Below wr.heap.size wr W → Calls Tryz.prog 144 #[u6] W (Rt (str N) W)):=fun W hW=>by
       rw [← hN];exact wI (aD.below HS6.out.1 hW) LQ.out.1 LQ.out.2
      rw [hN] at NN LN
      clear hs2 e hN
      go_wp2_with fail
      refine wp_region_held_drew (S:=fun w'=>w'.heap[fb]? = some (.cells #[str nm,.int .i64 2,.int .i64 tr] 102)) (by kernel_rfl) hS0 (fun hHeld=>?_)
      refine tk 0 ?_
      try simp only [Act.put,s1,s2,s3,s4,s5,s6]
      refine tk 1 ?_
      try simp only [Act.put,s1,s2,s3,s4,s5,s6]
      refine tk 2 ?_ (hv:=by intro w0 hSw;obtain ⟨⟨z0,z1,z2⟩,-⟩:=bQ hSw;go_simp;try with_reducible rfl)
      try simp only [Act.put,s1,s2,s3,s4,s5,s6]
      refine tk 3 ?_
      try simp only [Act.put,s1,s2,s3,s4,s5,s6]
      refine tk 4 ?_
      try simp only [Act.put,s1,s2,s3,s4,s5,s6]
      refine rd 5 (fun K hK=>?_)
      go_simp
      go_at_call 144
      refine (LC.out _ D6.out).mono ?_
      rintro e w4 ⟨rfl,b4⟩
      have B4:=Hd (aA BW6.out (aA D6.out b4))
      have hSn:=kc b4 hS0
      have OW4:=Hd (aD.below OW6.out (aA D6.out b4))
      have ROW4:=Hd (kc b4 (kc D6.out ROW6.out))
      have hS4:=hSn
      clear b4
      go_simp
      refine hK.out _ _ hSn (fun _=>?_)
      clear hK K
      try simp only [Act.put,s1,s2,s3,s4,s5,s6]
      have SS : Hid (Value.string ((⟨nm.toArray⟩ : ByteArray) ++ ⟨#[32,104,111,108,100,115,32,111,102,32]⟩ ++ ⟨N.toArray⟩) = str (nm ++ fW ++ N)):=by show _ = _;simp only [str,fW,Value.string.injEq];apply ByteArray.ext;simp
      have nl2 : ¬ 9223372036854775807 < List.length nm + 10 + List.length N:=by omega
      have ws4 : w.heap.size < w4.heap.size:=(Array.getElem?_eq_some_iff.1 ROW4.out).1
      have wf4 : fb < w4.heap.size:=(Array.getElem?_eq_some_iff.1 hS4).1
      refine tk 6 ?_
      try simp only [Act.put,s1,s2,s3,s4,s5,s6]
      refine rd 7 (fun K hK=>?_)
      go_simp
      refine hK.out _ _ ((heap_alloc_old _ _ wf4).trans hS4) (fun _=>?_)
      clear hK K
      try simp only [Act.put,s1,s2,s3,s4,s5,s6]
      refine rd 8 (fun K hK=>?_)
      refine aR rfl _ _ 36 rfl (w.heap.size + 1) 9 i0 (.string ⟨#[]⟩) 1 16 Tryz.underlying36 hi0 hz0 hs0 hb0 rfl (by decide) _ _ _ rfl (OW4.out.alloc _) ⟨w4.heap.size,0,none⟩ 1 1 [.string ((⟨nm.toArray⟩ : ByteArray) ++ ⟨#[32,104,111,108,100,115,32,111,102,32]⟩ ++ ⟨N.toArray⟩)] rfl rfl (cell_one_new _ _ _) (by intro u hu;simp at hu;subst hu;rfl) C3.out.1 C3.out.2 (by simp;omega) ?_
      intro v5 w5 hown2 hg2 _
      have hg5 : w5.heap[fb]? = some (.cells #[str nm,.int .i64 2,.int .i64 tr] 102):=(hg2.block _ (by simp;omega) (fun e=>by have:=(FB0.out _ e.symm).2;omega)).trans ((heap_alloc_old _ _ wf4).trans hS4)
      have R : Hid (aD (w.heap.size + 1) w5 ((F.take (j + 1)).map (bL zn)) v5 ∧ Below w.heap.size w w5 ∧ w5.heap[w.heap.size]? = some (mdR 2 zn ra rn rc lo (some ⟨b,off,none⟩) fn fc ga gn gc ba bn bc)):=by
       refine ⟨?_,(B4.out.alloc B4.out.size _).grown hg2 (by simp;omega) (fun kk hkk=>by have:=(OW4.out.lt kk hkk).1;omega),(hg2.block _ (by simp;omega) (fun e=>by have:=(OW4.out.lt _ e.symm).1;omega)).trans ((heap_alloc_old _ _ ws4).trans ROW4.out)⟩
       rw [M1.out,LN.out]
       unfold aD
       rw [List.length_append,List.map_append]
       rw [SS.out] at hown2
       exact hown2
      clear hown2 hg2
      refine hK.out _ _ hg5 (fun _=>?_)
      clear hK K
      try simp only [Act.put,s1,s2,s3,s4,s5,s6]
      refine rd 9 (fun K hK=>?_)
      go_simp
      refine hK.out _ _ hg5 (fun _=>?_)
      clear hK K
      try simp only [Act.put,s1,s2,s3,s4,s5,s6]
      refine wpAnyH_done (by kernel_rfl) ?_ _
      go_wp2_with fail
      go_roundw
      case rel=>exact ⟨j + 1,by omega,by go_num,R.out⟩
      case measure=>simp [intOf];omega
  ·have e : F.take j = F:=List.take_of_length_le (by rw [← L1.out];omega)
   have HS : Hid (aD (w.heap.size + 1) wr (F.map (bL zn)) u3 ∧ Below w.heap.size w wr ∧ wr.heap[w.heap.size]? = some (mdR 2 zn ra rn rc lo fa fn fc ga gn gc ba bn bc)):=by have h:=hs.out;rw [e] at h;exact h
   have LF : Hid ((F.map (bL zn)).length ≤ 12):=by show _ ≤ _;rw [List.length_map,← L1.out];exact fk
   have g1 : decide ((j : Int) < (fn : Int)) = false:=by simp;omega
   obtain ⟨⟨k0,k1,k2,k3,k4,k5,k6⟩,-⟩:=aK HS.out.2.2
   clear hs e hj
   generalize F.map (bL zn) = FL at *
   go_wp2_with fail
   go_loopw [3,82] (fun u i wr=>∃ j : Nat,j ≤ gn ∧ i = .int .i64 j ∧ Hid (aD (w.heap.size + 1) wr (FL ++ (G.take j).flatMap bB) u ∧ Below w.heap.size w wr ∧ wr.heap[w.heap.size]? = some (mdR 2 zn ra rn rc lo fa fn fc ga gn gc ba bn bc))) (fun _ i _=>gn - (intOf i).toNat)
   case atStart=>exact ⟨0,Nat.zero_le _,rfl,by simpa using HS.out.1,HS.out.2⟩
   case round =>
    clear HS k0 k1 k2 k3 k4 k5 k6
    obtain ⟨j,hj,rfl,hs⟩:=hrel
    by_cases hlt : j < gn
    ·obtain ⟨T,hT⟩:=aH (l:=G) (j:=j) (by rw [← L2.out];exact hlt)
     obtain ⟨b,off,rfl,GG⟩:=HG.out.get (bG hT)
     obtain ⟨vx,vk,ve,p0,p1,p2,pv⟩:=GG j T hT
     clear GG
     have hK:=aC hs.out.2.1
     have c0:=hK _ _ p0;have c1:=hK _ _ p1;have c2:=hK _ _ p2
     have VL:=Hd pv.len.1
     have PV:=Hd pv
     have NL:=OK.out.nG T (List.mem_of_getElem? hT)
     have AG:=OK.out.aG T (List.mem_of_getElem? hT)
     have SN : Hid ((G.take (j + 1)).flatMap bB = (G.take j).flatMap bB ++ bB T):=by show _ = _;rw [List.take_add_one,hT];simp
     have OW0:=Hd hs.out.1
     have BW:=Hd hs.out.2.1
     have ROW:=Hd hs.out.2.2
     have ws : w.heap.size < wr.heap.size:=(Array.getElem?_eq_some_iff.1 hs.out.2.2).1
     have LG : Hid (((G.take j).flatMap bB).length ≤ 36):=by
      show _ ≤ _
      have h1 : ∀ l : List Fu,(∀ f ∈ l,f.value.length ≤ 3) → (l.flatMap bB).length ≤ l.length * 3:=by
       intro l hl
       induction l with
       | nil=>simp
       | cons f l ih =>
        have h2:=ih (fun g hg=>hl g (by simp [hg]))
        have h3:=hl f (by simp)
        simp only [List.flatMap_cons,List.length_append,List.length_cons,bB,List.length_map,List.length_range] at h2 ⊢
        omega
      have h2:=h1 (G.take j) (fun f hf=>by have:=(OK.out.aG f (List.mem_of_mem_take hf)).1;omega)
      have h3 : (G.take j).length ≤ 12:=by rw [List.length_take];omega
      omega
     obtain ⟨nm,ar,vl⟩:=T
     simp only [Fu.args,Fu.value,Fu.name] at *
     obtain ⟨ac,av⟩:=AG
     have AV:=Hd av
     clear hT hK p0 p1 p2 pv hs av
     generalize (G.take j).flatMap bB = M at *
     rcases ac with ⟨rfl,hv1⟩ | ⟨rfl,hv3⟩
     ·obtain ⟨x,hxx⟩:=aH (l:=vl) (j:=0) (by omega)
      obtain ⟨vb,vo,rfl,cv0⟩:=eS PV.out hxx
      have vz0 : vb < w.heap.size:=World.block_lt_of_cell? w _ cv0
      have cv:=aC BW.out _ _ cv0
      rw [Nat.add_zero] at cv
      clear cv0
      have XB:=AV.out x (List.mem_of_getElem? hxx)
      have LN : Hid (bB ⟨nm,0,vl⟩ = [nm ++ mwIs ++ Lib.itoa x]):=by
       show _ = _
       unfold bB
       simp only [hv1]
       simp [dY,cW hxx]
      have ix:=bC XB.1 (show x ≤ 1000000 by omega)
      have xb1 : x ≤ 1000000:=by omega
      have vz : (vb : Nat) < wr.heap.size:=by omega
      obtain rfl : vk = 1:=by have:=VL.out;omega
      have A1 : Hid (Below wr.heap.size wr (wr.alloc (.cells #[str nm,.int .i64 0,.slice (some ⟨vb,vo,none⟩) 1 ve] 121)).drew):=bnew.drew
      have B0:=Hd (aA BW.out A1.out)
      have hS0 : (wr.alloc (.cells #[str nm,.int .i64 0,.slice (some ⟨vb,vo,none⟩) 1 ve] 121)).drew.heap[wr.heap.size]? = some (.cells #[str nm,.int .i64 0,.slice (some ⟨vb,vo,none⟩) 1 ve] 121) ∧ (wr.alloc (.cells #[str nm,.int .i64 0,.slice (some ⟨vb,vo,none⟩) 1 ve] 121)).drew.heap[vb]? = wr.heap[vb]?:=⟨heap_alloc_new wr _,A1.out.block vb vz⟩
      have nl1 : ¬ 9223372036854775807 < List.length nm + 4:=by omega
      have nl2 : ¬ 9223372036854775807 < List.length nm + 4 + List.length (Lib.itoa x):=by omega
      have C3 : Hid ((FL ++ M).length + 1 ≤ maxLen ∧ ((FL ++ M).length + 1) * 16 ≤ 140737488355328):=by
       have h1:=LG.out
       have h2:=LF.out
       rw [List.length_append]
       exact ⟨by unfold maxLen;omega,by omega⟩
      clear hxx
      go_wp2_with fail
      refine wp_region_held_drew (S:=fun w'=>w'.heap[wr.heap.size]? = some (.cells #[str nm,.int .i64 0,.slice (some ⟨vb,vo,none⟩) 1 ve] 121) ∧ w'.heap[vb]? = wr.heap[vb]?) (by kernel_rfl) hS0 (fun hHeld=>?_)
      refine tk 0 ?_
      try simp only [Act.put,s1,s2,s3,s4,s5,s6]
      refine tk 1 ?_
      try simp only [Act.put,s1,s2,s3,s4,s5,s6]
      refine tk 2 ?_ (hv:=by intro w0 hSw;obtain ⟨z0,z1,z2,-⟩:=gZ hSw.1;go_simp;try with_reducible rfl)
      try simp only [Act.put,s1,s2,s3,s4,s5,s6]
      refine tk 3 ?_
      try simp only [Act.put,s1,s2,s3,s4,s5,s6]
      refine tk 4 ?_
      try simp only [Act.put,s1,s2,s3,s4,s5,s6]
      refine tk 5 ?_ (hv:=by intro w0 hSw;obtain ⟨z0,z1,z2,-⟩:=gZ hSw.1;go_simp;try with_reducible rfl)
      try simp only [Act.put,s1,s2,s3,s4,s5,s6]
      refine tk 6 ?_
      try simp only [Act.put,s1,s2,s3,s4,s5,s6]
      refine tk 7 ?_ (hv:=by intro w0 hSw;have z5:=(World.cell?_of_block (a:=⟨vb,vo,none⟩) hSw.2).trans cv;go_simp;try with_reducible rfl)
      try simp only [Act.put,s1,s2,s3,s4,s5,s6]
      refine rd 8 (fun K hK=>?_)
      go_simp
      go_at_call 35
      refine (eH x XB.1 xb1 _ (HP.out.below B0.out)).mono ?_
      rintro e w4 ⟨rfl,b4⟩
      have B4:=Hd (aA B0.out b4)
      have hSn : w4.heap[wr.heap.size]? = some (.cells #[str nm,.int .i64 0,.slice (some ⟨vb,vo,none⟩) 1 ve] 121) ∧ w4.heap[vb]? = wr.heap[vb]?:=⟨kc b4 hS0.1,(b4.block vb (by simp;omega)).trans hS0.2⟩
      have OW4:=Hd (aD.below (aD.below OW0.out A1.out) b4)
      have ROW4:=Hd (kc b4 (kc A1.out ROW.out))
      have hS4:=hSn
      clear b4
      go_simp
      refine hK.out _ _ hSn (fun _=>?_)
      clear hK K
      try simp only [Act.put,s1,s2,s3,s4,s5,s6]
      have SS : Hid (Value.string ((⟨nm.toArray⟩ : ByteArray) ++ ⟨#[32,105,115,32]⟩ ++ ⟨(Lib.itoa x).toArray⟩) = str (nm ++ mwIs ++ Lib.itoa x)):=by show _ = _;simp only [str,mwIs,Value.string.injEq];apply ByteArray.ext;simp
      have ws4 : w.heap.size < w4.heap.size:=(Array.getElem?_eq_some_iff.1 ROW4.out).1
      have wr4 : wr.heap.size < w4.heap.size:=(Array.getElem?_eq_some_iff.1 hS4.1).1
      have hSA : ∀ o : Obj,(w4.alloc o).heap[wr.heap.size]? = some (.cells #[str nm,.int .i64 0,.slice (some ⟨vb,vo,none⟩) 1 ve] 121) ∧ (w4.alloc o).heap[vb]? = wr.heap[vb]?:=fun o=>⟨(heap_alloc_old _ _ wr4).trans hS4.1,(heap_alloc_old _ _ (by omega)).trans hS4.2⟩
      refine tk 9 ?_
      try simp only [Act.put,s1,s2,s3,s4,s5,s6]
      refine rd 10 (fun K hK=>?_)
      go_simp
      refine hK.out _ _ (hSA _) (fun _=>?_)
      clear hK K
      try simp only [Act.put,s1,s2,s3,s4,s5,s6]
      refine rd 11 (fun K hK=>?_)
      refine aR rfl _ _ 36 rfl (w.heap.size + 1) 9 i0 (.string ⟨#[]⟩) 1 16 Tryz.underlying36 hi0 hz0 hs0 hb0 rfl (by decide) _ _ _ rfl (OW4.out.alloc _) ⟨w4.heap.size,0,none⟩ 1 1 [.string ((⟨nm.toArray⟩ : ByteArray) ++ ⟨#[32,105,115,32]⟩ ++ ⟨(Lib.itoa x).toArray⟩)] rfl rfl (cell_one_new _ _ _) (by intro u hu;simp at hu;subst hu;rfl) C3.out.1 C3.out.2 (by simp;omega) ?_
      intro v5 w5 hown2 hg2 _
      have hg5 : w5.heap[wr.heap.size]? = some (.cells #[str nm,.int .i64 0,.slice (some ⟨vb,vo,none⟩) 1 ve] 121):=(hg2.block _ (by simp;omega) (fun e=>by have:=(OW0.out.lt _ e.symm).2;omega)).trans (hSA _).1
      have R : Hid (aD (w.heap.size + 1) w5 (FL ++ (G.take (j + 1)).flatMap bB) v5 ∧ Below w.heap.size w w5 ∧ w5.heap[w.heap.size]? = some (mdR 2 zn ra rn rc lo fa fn fc (some ⟨b,off,none⟩) gn gc ba bn bc)):=by
       refine ⟨?_,(B4.out.alloc B4.out.size _).grown hg2 (by simp;omega) (fun kk hkk=>by have:=(OW4.out.lt kk hkk).1;omega),(hg2.block _ (by simp;omega) (fun e=>by have:=(OW4.out.lt _ e.symm).1;omega)).trans ((heap_alloc_old _ _ ws4).trans ROW4.out)⟩
       rw [SN.out,LN.out,← List.append_assoc]
       unfold aD
       rw [List.length_append,List.map_append]
       rw [SS.out] at hown2
       exact hown2
      have hv5 : w5.heap[vb]? = wr.heap[vb]?:=(hg2.block _ (by simp;omega) (fun e=>by have:=(OW4.out.lt _ e.symm).1;omega)).trans (hSA _).2
      clear hown2 hg2
      refine hK.out _ _ ⟨hg5,hv5⟩ (fun _=>?_)
      clear hK K
      try simp only [Act.put,s1,s2,s3,s4,s5,s6]
      refine rd 12 (fun K hK=>?_)
      go_simp
      refine hK.out _ _ ⟨hg5,hv5⟩ (fun _=>?_)
      clear hK K
      try simp only [Act.put,s1,s2,s3,s4,s5,s6]
      refine wpAnyH_done (by kernel_rfl) ?_ _
      go_wp2_with fail
      go_roundw
      case rel=>exact ⟨j + 1,by omega,by go_num,R.out⟩
      case measure=>simp [intOf];omega
     ·have A1 : Hid (Below wr.heap.size wr (wr.alloc (.cells #[str nm,.int .i64 1,.slice vx vk ve] 121))):=bnew
      have B0:=Hd (aA BW.out A1.out)
      have hR0 : Hid ((wr.alloc (.cells #[str nm,.int .i64 1,.slice vx vk ve] 121)).heap[wr.heap.size]? = some (.cells #[str nm,.int .i64 1,.slice vx vk ve] 121)):=heap_alloc_new wr _
      have ROW0:=Hd (kc A1.out ROW.out)
      have OWa:=Hd (aD.below OW0.out A1.out)
      obtain ⟨e0,e1,e2,-⟩:=gZ hR0.out
      have vk3 : vk ≤ 3:=by have:=VL.out;omega
      have FB0 : Hid (∀ g,(u3 : Value).ownBlock = some g → w.heap.size + 1 ≤ g ∧ g < wr.heap.size):=fun g hg=>OW0.out.lt g hg
      go_wp2_with fail
      generalize hwa : wr.alloc (.cells #[str nm,.int .i64 1,.slice vx vk ve] 121) = wa at *
      have saz : wr.heap.size < wa.heap.size:=by rw [← hwa];simp
      clear hwa e0 e1 e2 A1 BW ROW OW0
      generalize wr.heap.size = fb at *
      have LM0 : Hid ((FL ++ M).length ≤ 48):=by have h1:=LG.out;have h2:=LF.out;show _ ≤ _;rw [List.length_append];omega
      obtain ⟨FM,hFM⟩ : ∃ FM,FL ++ M = FM:=⟨_,rfl⟩
      have HFM:=Hd hFM
      rw [hFM] at LM0 OWa
      clear hFM
      go_loopw [3,104] (fun u i wx=>∃ q : Nat,q ≤ vk ∧ i = .int .i64 q ∧ Hid (aD (w.heap.size + 1) wx (FM ++ (List.range q).map (dY ⟨nm,1,vl⟩)) u ∧ Below w.heap.size w wx ∧ wx.heap[w.heap.size]? = some (mdR 2 zn ra rn rc lo fa fn fc (some ⟨b,off,none⟩) gn gc ba bn bc) ∧ wx.heap[fb]? = some (.cells #[str nm,.int .i64 1,.slice vx vk ve] 121) ∧ (∀ g,u.ownBlock = some g → g ≠ fb))) (fun _ i _=>vk - (intOf i).toNat)
      case atStart=>exact ⟨0,Nat.zero_le _,rfl,by simpa using OWa.out,B0.out,ROW0.out,hR0.out,fun g hg=>by have:=FB0.out g hg;omega⟩
      case round =>
       clear OWa B0 ROW0 hR0 FB0
       obtain ⟨q,hq,rfl,hs2⟩:=hrel
       by_cases hlq : q < vk
       ·obtain ⟨x,hxx⟩:=aH (l:=vl) (j:=q) (by rw [← VL.out];exact hlq)
        obtain ⟨vb,vo,rfl,cv0⟩:=eS PV.out hxx
        have cv:=aC hs2.out.2.1 _ _ cv0
        have XB:=AV.out x (List.mem_of_getElem? hxx)
        have M2 : Hid ((List.range (q + 1)).map (dY ⟨nm,1,vl⟩) = (List.range q).map (dY ⟨nm,1,vl⟩) ++ [nm ++ (mwOf ++ Lib.itoa (q : Int)) ++ mwIs ++ Lib.itoa x]):=by
         show _ = _
         rw [List.range_succ,List.map_append]
         simp [dY,cW hxx]
        have ix:=bC XB.1 (show x ≤ 1000000 by omega)
        have iq:=bC (n:=(q : Int)) (by omega) (by omega)
        have xb1 : x ≤ 1000000:=by omega
        have qb0 : (0 : Int) ≤ (q : Int):=by omega
        have qb1 : (q : Int) ≤ 1000000:=by omega
        have OW2:=Hd hs2.out.1
        have BW2:=Hd hs2.out.2.1
        have ROW2:=Hd hs2.out.2.2.1
        have hF:=hs2.out.2.2.2.1
        have NB:=Hd hs2.out.2.2.2.2
        have D1 : Hid (Below wr.heap.size wr wr.drew):=(Below.refl _ _).drew
        have LE2 : Hid (((List.range q).map (dY ⟨nm,1,vl⟩)).length ≤ 3):=by show _ ≤ _;simp;omega
        clear hxx cv0 hs2
        generalize (List.range q).map (dY ⟨nm,1,vl⟩) = M5 at *
        have C5 : Hid ((FM ++ M5).length + 1 ≤ maxLen ∧ ((FM ++ M5).length + 1) * 16 ≤ 140737488355328):=by
         have h1:=LE2.out
         have h2:=LM0.out
         rw [List.length_append]
         exact ⟨by unfold maxLen;omega,by omega⟩
        have nl1 : ¬ 9223372036854775807 < List.length nm + 4:=by omega
        have nl2 : ¬ 9223372036854775807 < List.length nm + 4 + List.length (Lib.itoa (q : Int)):=by omega
        have nl3 : ¬ 9223372036854775807 < List.length nm + 4 + List.length (Lib.itoa (q : Int)) + 4:=by omega
        have nl4 : ¬ 9223372036854775807 < List.length nm + 4 + List.length (Lib.itoa (q : Int)) + 4 + List.length (Lib.itoa x):=by omega
        have hS0 : wr.drew.heap[fb]? = some (.cells #[str nm,.int .i64 1,.slice (some ⟨vb,vo,none⟩) vk ve] 121):=hF
        go_wp2_with fail
        refine wp_region_held_drew (S:=fun w'=>w'.heap[fb]? = some (.cells #[str nm,.int .i64 1,.slice (some ⟨vb,vo,none⟩) vk ve] 121)) (by kernel_rfl) hS0 (fun hHeld=>?_)
        refine tk 0 ?_
        try simp only [Act.put,s1,s2,s3,s4,s5,s6]
        refine tk 1 ?_
        try simp only [Act.put,s1,s2,s3,s4,s5,s6]
        refine tk 2 ?_ (hv:=by intro w0 hSw;obtain ⟨z0,z1,z2,-⟩:=gZ hSw;go_simp;try with_reducible rfl)
        try simp only [Act.put,s1,s2,s3,s4,s5,s6]
        refine tk 3 ?_
        try simp only [Act.put,s1,s2,s3,s4,s5,s6]
        refine tk 4 ?_
        try simp only [Act.put,s1,s2,s3,s4,s5,s6]
        refine tk 8 ?_
        try simp only [Act.put,s1,s2,s3,s4,s5,s6]
        refine rd 5 (fun K hK=>?_)
        go_simp
        go_at_call 35
        refine (eH (q : Int) qb0 qb1 _ (HP.out.below (aA BW2.out D1.out))).mono ?_
        rintro e w7 ⟨rfl,b7⟩
        have B7:=Hd (aA D1.out b7)
        have hSn:=kc b7 hS0
        have hS7:=hSn
        clear b7
        go_simp
        refine hK.out _ _ hSn (fun _=>?_)
        clear hK K
        try simp only [Act.put,s1,s2,s3,s4,s5,s6]
        refine tk 6 ?_
        try simp only [Act.put,s1,s2,s3,s4,s5,s6]
        refine tk 7 ?_
        try simp only [Act.put,s1,s2,s3,s4,s5,s6]
        refine rd 9 (fun K hK=>?_)
        go_simp
        go_at_call 35
        refine (eH x XB.1 xb1 _ (HP.out.below (aA BW2.out B7.out))).mono ?_
        rintro e w8 ⟨rfl,b8⟩
        have B8:=Hd (aA B7.out b8)
        have hSn:=kc b8 hS7
        have hS8:=hSn
        have OW8:=Hd (aD.below OW2.out B8.out)
        have ROW8:=Hd (kc B8.out ROW2.out)
        have ws8 : w.heap.size < w8.heap.size:=(Array.getElem?_eq_some_iff.1 ROW8.out).1
        have wf8 : fb < w8.heap.size:=(Array.getElem?_eq_some_iff.1 hSn).1
        clear b8
        go_simp
        refine hK.out _ _ hSn (fun _=>?_)
        clear hK K
        try simp only [Act.put,s1,s2,s3,s4,s5,s6]
        have SS : Hid (Value.string ((⟨nm.toArray⟩ : ByteArray) ++ ⟨#[32,111,102,32]⟩ ++ ⟨(Lib.itoa (q : Int)).toArray⟩ ++ ⟨#[32,105,115,32]⟩ ++ ⟨(Lib.itoa x).toArray⟩) = str (nm ++ (mwOf ++ Lib.itoa (q : Int)) ++ mwIs ++ Lib.itoa x)):=by show _ = _;simp only [str,mwOf,mwIs,Value.string.injEq];apply ByteArray.ext;simp
        have NW : Hid (∀ (j : Nat) (u : Value),([.string ((⟨nm.toArray⟩ : ByteArray) ++ ⟨#[32,111,102,32]⟩ ++ ⟨(Lib.itoa (q : Int)).toArray⟩ ++ ⟨#[32,105,115,32]⟩ ++ ⟨(Lib.itoa x).toArray⟩)] : List Value)[j]? = some u → (w8.alloc (.cells #[.string ((⟨nm.toArray⟩ : ByteArray) ++ ⟨#[32,111,102,32]⟩ ++ ⟨(Lib.itoa (q : Int)).toArray⟩ ++ ⟨#[32,105,115,32]⟩ ++ ⟨(Lib.itoa x).toArray⟩)] 9)).cell? ((⟨w8.heap.size,0,none⟩ : Addr).add j) = some u):=rZ _ _
        refine tk 10 ?_
        try simp only [Act.put,s1,s2,s3,s4,s5,s6]
        refine rd 11 (fun K hK=>?_)
        go_simp
        refine hK.out _ _ ((heap_alloc_old _ _ wf8).trans hS8) (fun _=>?_)
        clear hK K
        try simp only [Act.put,s1,s2,s3,s4,s5,s6]
        refine rd 12 (fun K hK=>?_)
        refine aR rfl _ _ 36 rfl (w.heap.size + 1) 9 i0 (.string ⟨#[]⟩) 1 16 Tryz.underlying36 hi0 hz0 hs0 hb0 rfl (by decide) _ _ _ rfl (OW8.out.alloc _) ⟨w8.heap.size,0,none⟩ 1 1 [.string ((⟨nm.toArray⟩ : ByteArray) ++ ⟨#[32,111,102,32]⟩ ++ ⟨(Lib.itoa (q : Int)).toArray⟩ ++ ⟨#[32,105,115,32]⟩ ++ ⟨(Lib.itoa x).toArray⟩)] rfl rfl NW.out (by intro u hu;simp at hu;subst hu;rfl) C5.out.1 C5.out.2 (by simp;omega) ?_
        intro v5 w5 hown2 hg2 hat2
        have hg9 : w5.heap[fb]? = some (.cells #[str nm,.int .i64 1,.slice (some ⟨vb,vo,none⟩) vk ve] 121):=(hg2.block _ (by simp;omega) (fun e=>absurd rfl (NB.out _ e.symm))).trans ((heap_alloc_old _ _ wf8).trans hS8)
        have R9 : Hid (aD (w.heap.size + 1) w5 (FM ++ (List.range (q + 1)).map (dY ⟨nm,1,vl⟩)) v5 ∧ Below w.heap.size w w5 ∧ w5.heap[w.heap.size]? = some (mdR 2 zn ra rn rc lo fa fn fc (some ⟨b,off,none⟩) gn gc ba bn bc) ∧ w5.heap[fb]? = some (.cells #[str nm,.int .i64 1,.slice (some ⟨vb,vo,none⟩) vk ve] 121) ∧ (∀ g,v5.ownBlock = some g → g ≠ fb)):=by
         refine ⟨?_,((aA BW2.out B8.out).alloc (aA BW2.out B8.out).size _).grown hg2 (by simp;omega) (fun kk hkk=>by have:=(OW8.out.lt kk hkk).1;omega),(hg2.block _ (by simp;omega) (fun e=>by have:=(OW8.out.lt _ e.symm).1;omega)).trans ((heap_alloc_old _ _ ws8).trans ROW8.out),hg9,fun g hg=>?_⟩
         ·rw [M2.out,← List.append_assoc FM M5]
          unfold aD
          rw [List.length_append,List.map_append]
          rw [SS.out] at hown2
          exact hown2
         ·rcases hat2 with h | h
          ·rw [h] at hg;exact NB.out g hg
          ·rw [h] at hg;cases hg;simp;omega
        clear hown2 hg2 hat2
        refine hK.out _ _ hg9 (fun _=>?_)
        clear hK K
        try simp only [Act.put,s1,s2,s3,s4,s5,s6]
        refine rd 13 (fun K hK=>?_)
        go_simp
        refine hK.out _ _ hg9 (fun _=>?_)
        clear hK K
        try simp only [Act.put,s1,s2,s3,s4,s5,s6]
        refine wpAnyH_done (by kernel_rfl) ?_ _
        go_wp2_with fail
        go_roundw
        case rel=>exact ⟨q + 1,by omega,by go_num,R9.out⟩
        case measure=>simp [intOf];omega
       ·have e : q = vk:=by omega
        have R : Hid (aD (w.heap.size + 1) wr (FM ++ bB ⟨nm,1,vl⟩) u3 ∧ Below w.heap.size w wr ∧ wr.heap[w.heap.size]? = some (mdR 2 zn ra rn rc lo fa fn fc (some ⟨b,off,none⟩) gn gc ba bn bc)):=by
         have h:=hs2.out
         rw [e,VL.out] at h
         exact ⟨h.1,h.2.1,h.2.2.1⟩
        have g3 : decide ((q : Int) < (vk : Int)) = false:=by simp;omega
        clear hs2 e
        go_wp2_with fail
        go_roundw
        case rel=>exact ⟨j + 1,by omega,by go_num,by rw [SN.out,← List.append_assoc,HFM.out];exact R.out⟩
        case measure=>simp [intOf];omega
    ·have e : G.take j = G:=List.take_of_length_le (by rw [← L2.out];omega)
     have HS : Hid (aD (w.heap.size + 1) wr (FL ++ G.flatMap bB) u3 ∧ Below w.heap.size w wr ∧ wr.heap[w.heap.size]? = some (mdR 2 zn ra rn rc lo fa fn fc ga gn gc ba bn bc)):=by have h:=hs.out;rw [e] at h;exact h
     have LG : Hid ((G.flatMap bB).length ≤ 36):=by
      show _ ≤ _
      have h1 : ∀ l : List Fu,(∀ f ∈ l,f.value.length ≤ 3) → (l.flatMap bB).length ≤ l.length * 3:=by
       intro l hl
       induction l with
       | nil=>simp
       | cons f l ih =>
        have h2:=ih (fun g hg=>hl g (by simp [hg]))
        have h3:=hl f (by simp)
        simp only [List.flatMap_cons,List.length_append,List.length_cons,bB,List.length_map,List.length_range] at h2 ⊢
        omega
      have h2:=h1 G (fun f hf=>by have:=(OK.out.aG f hf).1;omega)
      have h3:=OK.out.gl
      omega
     have LM0 : Hid ((FL ++ G.flatMap bB).length ≤ 48):=by have h1:=LG.out;have h2:=LF.out;show _ ≤ _;rw [List.length_append];omega
     have g1 : decide ((j : Int) < (gn : Int)) = false:=by simp;omega
     obtain ⟨⟨k0,k1,k2,k3,k4,k5,k6⟩,-⟩:=aK HS.out.2.2
     clear hs e hj LG LF
     generalize FL ++ G.flatMap bB = FM at *
     go_wp2_with fail
     go_loopw [3,127] (fun u i wr=>∃ j : Nat,j ≤ bn ∧ i = .int .i64 j ∧ Hid (aD (w.heap.size + 1) wr (FM ++ (B.take j).map cD) u ∧ Below w.heap.size w wr)) (fun _ i _=>bn - (intOf i).toNat)
     case atStart=>exact ⟨0,Nat.zero_le _,rfl,by simpa using HS.out.1,HS.out.2.1⟩
     case round =>
      clear HS k0 k1 k2 k3 k4 k5 k6
      obtain ⟨j,hj,rfl,hs⟩:=hrel
      by_cases hlt : j < bn
      ·obtain ⟨T,hT⟩:=aH (l:=B) (j:=j) (by rw [← L3.out];exact hlt)
       obtain ⟨b,off,rfl,p0,p1⟩:=gE HY.out hT
       have hK:=aC hs.out.2
       have c0:=hK _ _ p0;have c1:=hK _ _ p1
       have M1:=Hd (cY cD hT)
       have NL:=OK.out.nB T (List.mem_of_getElem? hT)
       have AB:=OK.out.aB T (List.mem_of_getElem? hT)
       obtain ⟨nm,x⟩:=T
       simp only [Bi.at_,Bi.name] at *
       have LN : Hid (cD ⟨nm,x⟩ = nm ++ mwIs ++ Lib.itoa x):=rfl
       have OW0:=Hd hs.out.1
       have BW:=Hd hs.out.2
       have BS:=BW.out.size
       have LE : Hid (((B.take j).map cD).length ≤ 12):=by show _ ≤ _;simp;omega
       have ix:=bC AB.1 (show x ≤ 1000000 by omega)
       have xb1 : x ≤ 1000000:=by omega
       clear hT hK p0 p1 hs
       generalize (B.take j).map cD = M at *
       have C3 : Hid ((FM ++ M).length + 1 ≤ maxLen ∧ ((FM ++ M).length + 1) * 16 ≤ 140737488355328):=by
        have h1:=LE.out
        have h2:=LM0.out
        rw [List.length_append]
        exact ⟨by unfold maxLen;omega,by omega⟩
       have A1 : Hid (Below wr.heap.size wr (wr.alloc (.cells #[str nm,.int .i64 x] 123)).drew):=bnew.drew
       have B0:=Hd (aA BW.out A1.out)
       have hS0 : (wr.alloc (.cells #[str nm,.int .i64 x] 123)).drew.heap[wr.heap.size]? = some (.cells #[str nm,.int .i64 x] 123):=heap_alloc_new wr _
       have nl1 : ¬ 9223372036854775807 < List.length nm + 4:=by omega
       have nl2 : ¬ 9223372036854775807 < List.length nm + 4 + List.length (Lib.itoa x):=by omega
       go_wp2_with fail
       refine wp_region_held_drew (S:=fun w'=>w'.heap[wr.heap.size]? = some (.cells #[str nm,.int .i64 x] 123)) (by kernel_rfl) hS0 (fun hHeld=>?_)
       refine tk 0 ?_
       try simp only [Act.put,s1,s2,s3,s4,s5,s6]
       refine tk 1 ?_
       try simp only [Act.put,s1,s2,s3,s4,s5,s6]
       refine tk 2 ?_ (hv:=by intro w0 hSw;obtain ⟨z0,z1⟩:=nC hSw;go_simp;try with_reducible rfl)
       try simp only [Act.put,s1,s2,s3,s4,s5,s6]
       refine tk 3 ?_
       try simp only [Act.put,s1,s2,s3,s4,s5,s6]
       refine tk 4 ?_
       try simp only [Act.put,s1,s2,s3,s4,s5,s6]
       refine tk 5 ?_ (hv:=by intro w0 hSw;obtain ⟨z0,z1⟩:=nC hSw;go_simp;try with_reducible rfl)
       try simp only [Act.put,s1,s2,s3,s4,s5,s6]
       refine rd 6 (fun K hK=>?_)
       go_simp
       go_at_call 35
       refine (eH x AB.1 xb1 _ (HP.out.below B0.out)).mono ?_
       rintro e w4 ⟨rfl,b4⟩
       have B4:=Hd (aA B0.out b4)
       have hSn:=kc b4 hS0
       have OW4:=Hd (aD.below (aD.below OW0.out A1.out) b4)
       have hS4:=hSn
       clear b4
       go_simp
       refine hK.out _ _ hSn (fun _=>?_)
       clear hK K
       try simp only [Act.put,s1,s2,s3,s4,s5,s6]
       have SS : Hid (Value.string ((⟨nm.toArray⟩ : ByteArray) ++ ⟨#[32,105,115,32]⟩ ++ ⟨(Lib.itoa x).toArray⟩) = str (nm ++ mwIs ++ Lib.itoa x)):=by show _ = _;simp only [str,mwIs,Value.string.injEq];apply ByteArray.ext;simp
       have wr4 : wr.heap.size < w4.heap.size:=(Array.getElem?_eq_some_iff.1 hS4).1
       refine tk 7 ?_
       try simp only [Act.put,s1,s2,s3,s4,s5,s6]
       refine rd 8 (fun K hK=>?_)
       go_simp
       refine hK.out _ _ ((heap_alloc_old _ _ wr4).trans hS4) (fun _=>?_)
       clear hK K
       try simp only [Act.put,s1,s2,s3,s4,s5,s6]
       refine rd 9 (fun K hK=>?_)
       refine aR rfl _ _ 36 rfl (w.heap.size + 1) 9 i0 (.string ⟨#[]⟩) 1 16 Tryz.underlying36 hi0 hz0 hs0 hb0 rfl (by decide) _ _ _ rfl (OW4.out.alloc _) ⟨w4.heap.size,0,none⟩ 1 1 [.string ((⟨nm.toArray⟩ : ByteArray) ++ ⟨#[32,105,115,32]⟩ ++ ⟨(Lib.itoa x).toArray⟩)] rfl rfl (cell_one_new _ _ _) (by intro u hu;simp at hu;subst hu;rfl) C3.out.1 C3.out.2 (by have:=B4.out.size;have:=BS;simp;omega) ?_
       intro v5 w5 hown2 hg2 _
       have hg5 : w5.heap[wr.heap.size]? = some (.cells #[str nm,.int .i64 x] 123):=(hg2.block _ (by simp;omega) (fun e=>by have:=(OW0.out.lt _ e.symm).2;omega)).trans ((heap_alloc_old _ _ wr4).trans hS4)
       have R : Hid (aD (w.heap.size + 1) w5 (FM ++ (B.take (j + 1)).map cD) v5 ∧ Below w.heap.size w w5):=by
        refine ⟨?_,(B4.out.alloc B4.out.size _).grown hg2 (by have:=B4.out.size;simp;omega) (fun kk hkk=>by have:=(OW4.out.lt kk hkk).1;omega)⟩
        rw [M1.out,LN.out,← List.append_assoc]
        unfold aD
        rw [List.length_append,List.map_append]
        rw [SS.out] at hown2
        exact hown2
       clear hown2 hg2
       refine hK.out _ _ hg5 (fun _=>?_)
       clear hK K
       try simp only [Act.put,s1,s2,s3,s4,s5,s6]
       refine rd 10 (fun K hK=>?_)
       go_simp
       refine hK.out _ _ hg5 (fun _=>?_)
       clear hK K
       try simp only [Act.put,s1,s2,s3,s4,s5,s6]
       refine wpAnyH_done (by kernel_rfl) ?_ _
       go_wp2_with fail
       go_roundw
       case rel=>exact ⟨j + 1,by omega,by go_num,R.out⟩
       case measure=>simp [intOf];omega
      ·have e : B.take j = B:=List.take_of_length_le (by rw [← L3.out];omega)
       have HE : Hid (aD (w.heap.size + 1) wr (FM ++ B.map cD) u3 ∧ Below w.heap.size w wr):=by have h:=hs.out;rw [e] at h;exact h
       have g2 : decide ((j : Int) < (bn : Int)) = false:=by simp;omega
       clear hs e
       go_wp2_with fail
       go_ret
       exact ⟨_,rfl,HE.out.1.mono (Nat.le_succ _),HE.out.2⟩
end Go.Proofs.YtcandidgaegghaaGreatDoor
