/- Contracts of describe.outline and Outline at right formulas. -/
import Derived.Test.YtcandidgaegghaaGreatDoorCpZ
import Derived.Test.YtcandidgaegghaaGreatDoorPlCZ
import Derived.Test.YtcandidgaegghaaGreatDoorProofBZ
set_option maxRecDepth 10000
set_option linter.unusedSimpArgs false
set_option linter.unusedVariables false
namespace Go.Proofs.YtcandidgaegghaaGreatDoor
open Go Go.RowKit Ly
open Go.Lib (itoa)
set_option maxHeartbeats 1600000
def zR : Bs:=[108,101,118,101,108,32]
def cJ (l : Nat × Bs) : Bs:=zR ++ itoa (l.1 : Int) ++ [58,32] ++ l.2
theorem Fm.right_sub {op : Int} {n : Bs} {ts : List Tm} {fs : List Fm} (h : (Fm.mk op n ts fs).right = true) : ∀ f ∈ fs,f.right = true ∧ f.depth + 1 ≤ (Fm.mk op n ts fs).depth ∧ f.nodes ≤ 400:=by
 intro f hf
 simp only [Fm.right,Bool.and_eq_true,decide_eq_true_eq] at h ⊢
 obtain ⟨⟨h1,h2⟩,h3⟩:=h
 have ho : f.ok = true:=by
  simp only [Fm.ok,Bool.and_eq_true] at h1
  exact tN h1.2 f hf
 have hd:=oV f hf
 have hn : f.nodes ≤ cB fs:=by
  clear h1 h2 h3 ho hd
  induction fs with
  | nil=>cases hf
  | cons x xs ih =>
   simp only [cB]
   rcases List.mem_cons.1 hf with e | e
   ·rw [e];omega
   ·have:=ih e;omega
 simp only [Fm.nodes,Fm.depth] at *
 exact ⟨⟨⟨ho,by omega⟩,by omega⟩,by omega,by omega⟩
theorem qL {op : Int} {n : Bs} {ts : List Tm} {fs : List Fm} (h : (Fm.mk op n ts fs).right = true) : cB fs ≤ 400:=by
 simp only [Fm.right,Bool.and_eq_true,decide_eq_true_eq] at h
 have h6:=h.1.2
 simp only [Fm.nodes] at h6
 omega
theorem yJ (f : Fm) (lv : Nat) : f.outl lv ≠ []:=by cases f;simp [Fm.outl]
mutual
theorem Fm.parts_le : ∀ f : Fm,f.parts ≤ f.nodes
 | .mk op n ts sub=>by have:=kJ sub;simp only [Fm.parts,Fm.nodes];omega
theorem kJ : ∀ fs : List Fm,gW fs ≤ cB fs
 | []=>by simp [gW,cB]
 | f :: fs=>by have:=Fm.parts_le f;have:=kJ fs;simp only [gW,cB];omega
end
theorem oW {fs : List Fm} {j : Nat} {f : Fm} (lv : Nat) (h : fs[j]? = some f) : dC lv (fs.take (j + 1)) = dC lv (fs.take j) ++ f.outl lv:=by
 induction fs generalizing j with
 | nil=>simp at h
 | cons g fs ih =>
  cases j with
  | zero=>simp at h;subst h;simp [dC]
  | succ j=>simp only [List.take_succ_cons,dC,ih (by simpa using h),List.append_assoc]
theorem kW (fs : List Fm) (lv j : Nat) : (dC lv (fs.take j)).length ≤ gW fs:=by
 rw [jX]
 induction fs generalizing j with
 | nil=>simp
 | cons g fs ih =>
  cases j with
  | zero=>simp [gW]
  | succ j=>simp only [List.take_succ_cons,gW];have:=ih j;omega
def FO (f : Fm) : Prop:=∀ (lv : Nat) (z : Int) (_ : z = lv) (a : Option Addr) (k c : Nat) (a' : Option Addr) (m d : Nat) (w : World),gP w → cH w f.args (.slice a k c) → dH w f.sub (.slice a' m d) → f.right = true → lv + f.depth ≤ 1000 →
 Calls Tryz.prog 97 #[.agg #[.int .u8 f.op,str f.name,.slice a k c,.slice a' m d],.int .i64 z] w (eL ((f.outl lv).map cJ) w)
theorem box_cell' {w : World} {H : Nat} {cs : Array Value} {t : TypeId} {fz : Nat × Nat} (h : w.heap[H]? = some (.cells cs t fz)) (k : Nat) : w.cell? ⟨H,k,none⟩ = cs[k]?:=by
 simp [World.cell?,h]
theorem name_le {op : Int} {n : Bs} {ts : List Tm} {fs : List Fm} (h : (Fm.mk op n ts fs).ok = true) : n.length ≤ 16:=by
 rcases (mW h).1 with ⟨_,h⟩ | ⟨_,h⟩ | ⟨_,h⟩
 ·exact eQ h
 ·exact eQ h
 ·rw [h];simp
theorem tP {op : Int} (n : Bs) (ts : List Tm) (fs : List Fm) (h : op = 1 ∨ op = 2) : (Fm.mk op n ts fs).head = (Fm.mk op n ts fs).text:=if_pos h
theorem xZ {op : Int} (n : Bs) (ts : List Tm) (fs : List Fm) (h : ¬ (op = 1 ∨ op = 2)) : (Fm.mk op n ts fs).head = aS op n:=if_neg h
theorem uD (lv : Nat) (s : Bs) : Value.string ((⟨#[108,101,118,101,108,32]⟩ : ByteArray) ++ ⟨(itoa (lv : Int)).toArray⟩ ++ ⟨#[58,32]⟩ ++ ⟨s.toArray⟩) = str (cJ (lv,s)):=by
 show Value.string _ = Value.string _
 simp only [cG];congr 2;simp [cJ,zR]
theorem outline_step (op : Int) (n : Bs) (ts : List Tm) (fs : List Fm) (hh : ∀ f ∈ fs,FO f) : FO (.mk op n ts fs):=by
 intro lv z hz a k c a' m d w hp h1 h2 hr hlv
 subst hz
 simp only [Fm.op,Fm.name,Fm.args,Fm.sub] at *
 have hm:=h2.len
 have hml : m ≤ 9223372036854775807:=by have:=le63 hm.2.2;omega
 have lv1 : lv ≤ 1000:=by omega
 have HP:=Hd hp
 have H1:=Hd h1
 have H2:=Hd h2
 have L2:=Hd hm.1
 have RT:=Hd hr
 have HL:=Hd hlv
 have H:=Hd hh
 have TL:=Hd (iD hr).2
 have tl : (Fm.mk op n ts fs).text.length ≤ 16000:=TL.out
 have il:=bC (n:=(lv : Int)) (by omega) (by omega)
 have OK:=Hd (jD hr)
 have HO:=Hd (mW OK.out)
 have o1:=HO.out.2.2.2.1
 have o2:=HO.out.2.2.2.2.1
 have nl:=name_le OK.out
 have SL : (aS op n).length ≤ 40:=by have:=(sK op n).1;omega
 have BX : Hid ((w.alloc (.cells #[.int .u8 op,str n,.slice a k c,.slice a' m d] 25)).heap[w.heap.size]? = some (.cells #[.int .u8 op,str n,.slice a k c,.slice a' m d] 25)):=heap_alloc_new w _
 have WB : Hid (Below w.heap.size w (w.alloc (.cells #[.int .u8 op,str n,.slice a k c,.slice a' m d] 25))):=bnew
 have SZ : Hid ((w.alloc (.cells #[.int .u8 op,str n,.slice a k c,.slice a' m d] 25)).heap.size = w.heap.size + 1):=by show _ = _;simp
 -- what stands behind the first word is the same on all ways
 have CT : Hid (Calls Tryz.prog 86 #[.agg #[.int .u8 op,str n,.slice a k c,.slice a' m d]] (w.alloc (.cells #[.int .u8 op,str n,.slice a k c,.slice a' m d] 25)) fun e w'=>e = .returned (str (Fm.mk op n ts fs).text) ∧ Below (w.alloc (.cells #[.int .u8 op,str n,.slice a k c,.slice a' m d] 25)).heap.size (w.alloc (.cells #[.int .u8 op,str n,.slice a k c,.slice a' m d] 25)) w') :=
  qF (.mk op n ts fs) OK.out (iJ RT.out) _ _ _ _ _ _ _ (H1.out.keep (bU _ _)) (H2.out.keep (bU _ _))
 generalize hHT : (Fm.mk op n ts fs).text = TX at *
 have HTX:=Hd hHT
 generalize hSF : aS op n = SF at *
 have HSF:=Hd hSF
 clear hp h1 h2 hm hr hlv hh hHT hSF
 obtain ⟨hd,hhd,hdl⟩ : ∃ hd : Bs,Hid ((Fm.mk op n ts fs).head = hd) ∧ hd.length ≤ 16000:=by
  by_cases ha : op = 1 ∨ op = 2
  ·exact ⟨TX,by show Fm.head _ = _;rw [tP n ts fs ha];exact HTX.out,tl⟩
  ·exact ⟨SF,by show Fm.head _ = _;rw [xZ n ts fs ha];exact HSF.out,by omega⟩
 by_cases ha : op = 1 ∨ op = 2
 ·have HSD : Hid (TX = hd):=by
   show _ = _;rw [← hhd.out,← HTX.out,tP n ts fs ha]
  have body : Hid (∀ o : Int,o = op → ∀ z : Bool,(o == 1) = z → Calls Tryz.prog 97 #[.agg #[.int .u8 op,str n,.slice a k c,.slice a' m d],.int .i64 lv] w (eL ((Fm.outl lv (.mk op n ts fs)).map cJ) w)):=by
   intro o ho z hz
   subst ho
   have t2 : (o == 2) = !z:=by rcases ha with rfl | rfl <;> (cases z <;> simp_all)
   clear ha
   cases z
   all_goals
    simp only [Bool.not_false,Bool.not_true] at t2
    go_enter Tryz.func97,Tryz.ntmps97
    go_wp2_with fail
    refine CT.out.mono ?_
    rintro e w1 ⟨rfl,b1⟩
    rw [HSD.out]
    have B1:=Hd b1
    have W1 : Hid (Below w.heap.size w w1):=bO b1
    have BX1 : Hid (w1.heap[w.heap.size]? = some (.cells #[.int .u8 o,str n,.slice a k c,.slice a' m d] 25)):=(b1.block _ (by rw [SZ.out];omega)).trans BX.out
    clear b1
    go_wp2_with fail
    refine (eH lv (by omega) (by omega) _ (HP.out.below W1.out)).mono ?_
    rintro e w2 ⟨rfl,b2⟩
    have W2 : Hid (Below w.heap.size w w2):=W1.out.trans (b2.mono W1.out.size)
    have BX2 : Hid (w2.heap[w.heap.size]? = some (.cells #[.int .u8 o,str n,.slice a k c,.slice a' m d] 25)):=(b2.block _ (Array.getElem?_eq_some_iff.1 BX1.out).1).trans BX1.out
    have g3 : w2.cell? ⟨w.heap.size,3,none⟩ = some (.slice a' m d):=by rw [box_cell' BX2.out];rfl
    have sz2 : w.heap.size < w2.heap.size:=(Array.getElem?_eq_some_iff.1 BX2.out).1
    clear b2
    go_wp2_with fail
    go_loopw [6,32] (fun u i wr=>∃ j : Nat,j ≤ m ∧ i = .int .i64 j ∧ Hid (aD w.heap.size wr (cJ (lv,hd) :: (dC (lv + 1) (fs.take j)).map cJ) u ∧ Below w.heap.size w wr)) (fun _ i _=>m - (intOf i).toNat)
    case atStart =>
     refine ⟨0,Nat.zero_le _,rfl, ?_,W2.out.alloc W2.out.size _⟩
     rw [uD]
     exact (gI w2 _).mono (by omega)
    case round =>
     obtain ⟨j,hj,rfl,hr⟩:=hrel
     by_cases hlt : j < m
     ·obtain ⟨T,hT⟩:=aH (l:=fs) (j:=j) (by rw [← L2.out];exact hlt)
      obtain ⟨bb,off,rfl,hc⟩:=H2.out.get (bG hT)
      obtain ⟨x0,x1,x2,y0,y1,y2,hx⟩:=hc j _ hT
      have hK:=aC hr.out.2
      have c0:=hK _ _ hx.c0;have c1:=hK _ _ hx.c1;have c2:=hK _ _ hx.c2;have c3:=hK _ _ hx.c3
      have X:=Hd (hx.at_.keep hK)
      have Y:=Hd (hx.at'.keep hK)
      have HM:=Hd (List.mem_of_getElem? hT)
      have SB:=Hd (Fm.right_sub RT.out T HM.out)
      have SN:=Hd (oW (lv + 1) hT)
      have TKL:=Hd (kW fs (lv + 1) j)
      obtain ⟨q0,q1,q2,rfl⟩:=hr.out.1.strsAt.slice
      have OW:=Hd hr.out.1.strsAt
      have BL:=Hd hr.out.2
      clear hc hx hT hK
      go_wp2_with fail
      refine (H.out T HM.out (lv + 1) ((lv : Int) + 1) (by push_cast;rfl) _ _ _ _ _ _ _ (HP.out.below (BL.out.alloc BL.out.size _)) (X.out.keep (bU _ _)) (Y.out.keep (bU _ _)) SB.out.1 (by have:=SB.out.2.1;have:=HL.out;omega)).mono ?_
      rintro e w3 ⟨v3,rfl,o3,b3⟩
      obtain ⟨z0,z1,z2,rfl⟩:=o3.strsAt.slice
      have B3:=Hd (bO b3)
      have O3:=Hd o3.strsAt
      have LT : Hid (eJ (w3.alloc (.cells #[.slice q0 q1 q2,.slice z0 z1 z2] 36)) [cJ (lv,hd) :: (dC (lv + 1) (fs.take j)).map cJ,(T.outl (lv + 1)).map cJ] (.slice (some ⟨w3.heap.size,0,none⟩) 2 2)) :=
       jR (u1:=.slice q0 q1 q2) (u2:=.slice z0 z1 z2) (by simp [go_sem]) (by simp [go_sem]) (OW.out.keep ((aC B3.out).trans (bU _ _))) (O3.out.keep (bU _ _))
      have NN : Hid ((∀ l ∈ ([cJ (lv,hd) :: (dC (lv + 1) (fs.take j)).map cJ,(T.outl (lv + 1)).map cJ] : List (List Bs)),l ≠ []) ∧ ([cJ (lv,hd) :: (dC (lv + 1) (fs.take j)).map cJ,(T.outl (lv + 1)).map cJ] : List (List Bs)).flatten.length * 16 ≤ 140737488355328):=by
       refine ⟨?_, ?_⟩
       ·intro l hl
        simp only [List.mem_cons,List.mem_nil_iff,or_false] at hl
        rcases hl with rfl | rfl
        ·simp
        ·simp [yJ]
       ·have h1:=TKL.out
        have h2:=Fm.parts_le T
        have h3:=SB.out.2.2
        have h4:=kJ fs
        have h5:=qL RT.out
        simp only [List.flatten_cons,List.flatten_nil,List.append_nil,List.length_append,List.length_cons,List.length_map,Fm.outl_length]
        omega
      have EE : Hid (([cJ (lv,hd) :: (dC (lv + 1) (fs.take j)).map cJ,(T.outl (lv + 1)).map cJ] : List (List Bs)).flatten = cJ (lv,hd) :: (dC (lv + 1) (fs.take (j + 1))).map cJ):=by
       show _ = _;rw [SN.out];simp
      clear b3 o3
      go_wp2_with fail
      refine (jC _ _ _ _ _ LT.out NN.out.1 NN.out.2).mono ?_
      rintro e w4 ⟨v4,rfl,o4,b4⟩
      rw [EE.out] at o4
      have R : Hid (aD w.heap.size w4 (cJ (lv,hd) :: (dC (lv + 1) (fs.take (j + 1))).map cJ) v4 ∧ Below w.heap.size w w4):=by
       have s3:=B3.out.size
       have s0:=BL.out.size
       exact ⟨o4.mono (by simp;omega),BL.out.trans ((B3.out.mono s0).trans ((bO b4).mono (by omega)))⟩
      clear o4 b4
      go_wp2_with fail
      go_roundw
      case rel=>exact ⟨j + 1,by omega,by go_num,R⟩
      case measure=>simp [intOf];omega
     ·have e : fs.take j = fs:=List.take_of_length_le (by rw [← L2.out];omega)
      have h2:=hr.out
      rw [e] at h2
      have R:=Hd h2
      have EO : Hid ((Fm.outl lv (.mk o n ts fs)).map cJ = cJ (lv,hd) :: (dC (lv + 1) fs).map cJ):=by
       show _ = _;rw [Fm.outl,List.map_cons,hhd.out]
      clear hr h2 e
      go_wp2_with fail
      go_ret
      exact ⟨_,rfl,by rw [EO.out];exact R.out.1,R.out.2⟩
  exact body.out op rfl _ rfl
 ·have t1 : (op == 1) = false:=by simp;omega
  have t2 : (op == 2) = false:=by simp;omega
  have HSD : Hid (SF = hd):=by
   show _ = _;rw [← hhd.out,← HSF.out,xZ n ts fs ha]
  clear ha
  have hfd : ∀ (x y : Value) (wx : World),(Instr.field 208 (.agg #[x,y]) 0).run Tryz.prog wx = .ok x wx:=fun _ _ _=>by rfl
  go_enter Tryz.func97,Tryz.ntmps97
  go_wp2_with fail
  refine (wZ op n a k c a' m d _ (by have : ¬ (op = 1):=(by intro e;rw [e] at t1;cases t1);have : ¬ (op = 2):=(by intro e;rw [e] at t2;cases t2);omega) (by omega)).mono ?_
  rintro e w1 ⟨rfl,b1⟩
  rw [HSF.out,HSD.out]
  have B1:=Hd b1
  have W1 : Hid (Below w.heap.size w w1):=bO b1
  have BX1 : Hid (w1.heap[w.heap.size]? = some (.cells #[.int .u8 op,str n,.slice a k c,.slice a' m d] 25)):=(b1.block _ (by rw [SZ.out];omega)).trans BX.out
  clear b1
  go_wp2_with fail
  refine (eH lv (by omega) (by omega) _ (HP.out.below W1.out)).mono ?_
  rintro e w2 ⟨rfl,b2⟩
  have W2 : Hid (Below w.heap.size w w2):=W1.out.trans (b2.mono W1.out.size)
  have BX2 : Hid (w2.heap[w.heap.size]? = some (.cells #[.int .u8 op,str n,.slice a k c,.slice a' m d] 25)):=(b2.block _ (Array.getElem?_eq_some_iff.1 BX1.out).1).trans BX1.out
  have g3 : w2.cell? ⟨w.heap.size,3,none⟩ = some (.slice a' m d):=by rw [box_cell' BX2.out];rfl
  have sz2 : w.heap.size < w2.heap.size:=(Array.getElem?_eq_some_iff.1 BX2.out).1
  clear b2
  go_wp2_with fail
  go_loopw [6,32] (fun u i wr=>∃ j : Nat,j ≤ m ∧ i = .int .i64 j ∧ Hid (aD w.heap.size wr (cJ (lv,hd) :: (dC (lv + 1) (fs.take j)).map cJ) u ∧ Below w.heap.size w wr)) (fun _ i _=>m - (intOf i).toNat)
  case atStart =>
   refine ⟨0,Nat.zero_le _,rfl, ?_,W2.out.alloc W2.out.size _⟩
   rw [uD]
   exact (gI w2 _).mono (by omega)
  case round =>
   obtain ⟨j,hj,rfl,hr⟩:=hrel
   by_cases hlt : j < m
   ·obtain ⟨T,hT⟩:=aH (l:=fs) (j:=j) (by rw [← L2.out];exact hlt)
    obtain ⟨bb,off,rfl,hc⟩:=H2.out.get (bG hT)
    obtain ⟨x0,x1,x2,y0,y1,y2,hx⟩:=hc j _ hT
    have hK:=aC hr.out.2
    have c0:=hK _ _ hx.c0;have c1:=hK _ _ hx.c1;have c2:=hK _ _ hx.c2;have c3:=hK _ _ hx.c3
    have X:=Hd (hx.at_.keep hK)
    have Y:=Hd (hx.at'.keep hK)
    have HM:=Hd (List.mem_of_getElem? hT)
    have SB:=Hd (Fm.right_sub RT.out T HM.out)
    have SN:=Hd (oW (lv + 1) hT)
    have TKL:=Hd (kW fs (lv + 1) j)
    obtain ⟨q0,q1,q2,rfl⟩:=hr.out.1.strsAt.slice
    have OW:=Hd hr.out.1.strsAt
    have BL:=Hd hr.out.2
    clear hc hx hT hK
    go_wp2_with fail
    refine (H.out T HM.out (lv + 1) ((lv : Int) + 1) (by push_cast;rfl) _ _ _ _ _ _ _ (HP.out.below (BL.out.alloc BL.out.size _)) (X.out.keep (bU _ _)) (Y.out.keep (bU _ _)) SB.out.1 (by have:=SB.out.2.1;have:=HL.out;omega)).mono ?_
    rintro e w3 ⟨v3,rfl,o3,b3⟩
    obtain ⟨z0,z1,z2,rfl⟩:=o3.strsAt.slice
    have B3:=Hd (bO b3)
    have O3:=Hd o3.strsAt
    have LT : Hid (eJ (w3.alloc (.cells #[.slice q0 q1 q2,.slice z0 z1 z2] 36)) [cJ (lv,hd) :: (dC (lv + 1) (fs.take j)).map cJ,(T.outl (lv + 1)).map cJ] (.slice (some ⟨w3.heap.size,0,none⟩) 2 2)) :=
     jR (u1:=.slice q0 q1 q2) (u2:=.slice z0 z1 z2) (by simp [go_sem]) (by simp [go_sem]) (OW.out.keep ((aC B3.out).trans (bU _ _))) (O3.out.keep (bU _ _))
    have NN : Hid ((∀ l ∈ ([cJ (lv,hd) :: (dC (lv + 1) (fs.take j)).map cJ,(T.outl (lv + 1)).map cJ] : List (List Bs)),l ≠ []) ∧ ([cJ (lv,hd) :: (dC (lv + 1) (fs.take j)).map cJ,(T.outl (lv + 1)).map cJ] : List (List Bs)).flatten.length * 16 ≤ 140737488355328):=by
     refine ⟨?_, ?_⟩
     ·intro l hl
      simp only [List.mem_cons,List.mem_nil_iff,or_false] at hl
      rcases hl with rfl | rfl
      ·simp
      ·simp [yJ]
     ·have h1:=TKL.out
      have h2:=Fm.parts_le T
      have h3:=SB.out.2.2
      have h4:=kJ fs
      have h5:=qL RT.out
      simp only [List.flatten_cons,List.flatten_nil,List.append_nil,List.length_append,List.length_cons,List.length_map,Fm.outl_length]
      omega
    have EE : Hid (([cJ (lv,hd) :: (dC (lv + 1) (fs.take j)).map cJ,(T.outl (lv + 1)).map cJ] : List (List Bs)).flatten = cJ (lv,hd) :: (dC (lv + 1) (fs.take (j + 1))).map cJ):=by
     show _ = _;rw [SN.out];simp
    clear b3 o3
    go_wp2_with fail
    refine (jC _ _ _ _ _ LT.out NN.out.1 NN.out.2).mono ?_
    rintro e w4 ⟨v4,rfl,o4,b4⟩
    rw [EE.out] at o4
    have R : Hid (aD w.heap.size w4 (cJ (lv,hd) :: (dC (lv + 1) (fs.take (j + 1))).map cJ) v4 ∧ Below w.heap.size w w4):=by
     have s3:=B3.out.size
     have s0:=BL.out.size
     exact ⟨o4.mono (by simp;omega),BL.out.trans ((B3.out.mono s0).trans ((bO b4).mono (by omega)))⟩
    clear o4 b4
    go_wp2_with fail
    go_roundw
    case rel=>exact ⟨j + 1,by omega,by go_num,R⟩
    case measure=>simp [intOf];omega
   ·have e : fs.take j = fs:=List.take_of_length_le (by rw [← L2.out];omega)
    have h2:=hr.out
    rw [e] at h2
    have R:=Hd h2
    have EO : Hid ((Fm.outl lv (.mk op n ts fs)).map cJ = cJ (lv,hd) :: (dC (lv + 1) fs).map cJ):=by
     show _ = _;rw [Fm.outl,List.map_cons,hhd.out]
    clear hr h2 e
    go_wp2_with fail
    go_ret
    exact ⟨_,rfl,by rw [EO.out];exact R.out.1,R.out.2⟩
mutual
theorem uF : ∀ f : Fm,FO f
 | .mk o n ts fs=>outline_step o n ts fs (qW fs)
theorem qW : ∀ l : List Fm,∀ t ∈ l,FO t
 | [],_,h=>by cases h
 | x :: xs,t,h=>by
  rcases List.mem_cons.1 h with e | e
  ·rw [e];exact uF x
  ·exact qW xs t e
end
open Go Go.RowKit Ly
open Go.Lib (itoa)
set_option maxHeartbeats 800000
theorem Outline_c (f : Fm) (x : Value) (w : World) (hr : gC w) (hp : gP w) (hx : iZ w f x) (h : f.right = true) :
  Calls Tryz.prog 30 #[x] w (eV ((f.outl 0).map cJ) w):=by
 obtain ⟨a,k,c,a',m,d,rfl,h1,h2⟩:=hx
 have H1:=Hd h1
 have H2:=Hd h2
 have HR:=Hd hr
 have HP:=Hd hp
 have RT:=Hd h
 have DP : Hid (0 + f.depth ≤ 1000):=by
  simp only [Fm.right,Bool.and_eq_true,decide_eq_true_eq] at h
  show _ ≤ _;omega
 clear h1 h2 hr hp h
 have WB : Hid (Below w.heap.size w (w.alloc (.cells #[.int .u8 f.op,str f.name,.slice a k c,.slice a' m d] 25))):=bnew
 go_enter Tryz.func30,Tryz.ntmps30
 go_wp2_with fail
 refine (iQ f (.agg #[.int .u8 f.op,str f.name,.slice a k c,.slice a' m d]) _ (HR.out.keep (bU _ _)) ⟨_,_,_,_,_,_,rfl,H1.out.keep (bU _ _),H2.out.keep (bU _ _)⟩ RT.out).mono ?_
 rintro e w1 ⟨rfl,b1⟩
 obtain ⟨hc1,hf1⟩:=fG b1
 have W1 : Hid (Below w.heap.size w w1):=bO b1
 clear b1
 go_wp2_with fail
 refine (uF f 0 0 rfl _ _ _ _ _ _ _ (HP.out.below W1.out) (H1.out.keep (aC W1.out)) (H2.out.keep (aC W1.out)) RT.out DP.out).mono ?_
 rintro e w2 ⟨v,rfl,o2,b2⟩
 obtain ⟨z0,z1,z2,rfl⟩:=o2.strsAt.slice
 have R : Hid (aD w.heap.size w2 ((f.outl 0).map cJ) (.slice z0 z1 z2) ∧ Below w.heap.size w w2):=⟨o2.mono W1.out.size,W1.out.trans (b2.mono W1.out.size)⟩
 clear o2 b2
 go_wp2_with fail
 go_ret2
 exact ⟨_,rfl,R.out.1,R.out.2⟩
end Go.Proofs.YtcandidgaegghaaGreatDoor
