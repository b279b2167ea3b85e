/- Contracts of describe.outline and Outline at right formulas. -/
import Derived.Test.YtcandidgaegghaaGreatDoorCpZ
import Derived.Test.YtcandidgaegghaaGreatDoorPlCZ
import Derived.Test.YtcandidgaegghaaGreatDoorProofBZ
import Derived.LoopN
import Derived.Lib.QuietBelow
import Derived.BigQuiet
import Derived.Deep.RegionLaw
set_option maxRecDepth 10000
set_option linter.unusedSimpArgs false
set_option linter.unusedVariables false
namespace Go.Proofs.YtcandidgaegghaaGreatDoor
open Go Go.RowKit Ly
open Go.Lib (itoa)
set_option maxHeartbeats 1600000
def MG : Bs:=[108,101,118,101,108,32]
def cG (l : Nat × Bs) : Bs:=MG ++ itoa (l.1 : Int) ++ [58,32] ++ l.2
theorem Fm.right_sub {op : Int} {n : Bs} {ts : List Tm} {fs : List Fm} (h : (Fm.mk op n ts fs).right = true) : ∀ f ∈ fs,f.right = true ∧ f.depth + 1 ≤ (Fm.mk op n ts fs).depth ∧ f.nodes ≤ 400:=by
 intro f hf
 simp only [Fm.right,Bool.and_eq_true,decide_eq_true_eq] at h ⊢
 obtain ⟨⟨h1,h2⟩,h3⟩:=h
 have ho : f.ok = true:=by
  simp only [Fm.ok,Bool.and_eq_true] at h1
  exact tV h1.2 f hf
 have hd:=nH f hf
 have hn : f.nodes ≤ aK fs:=by
  clear h1 h2 h3 ho hd
  induction fs with
  | nil=>cases hf
  | cons x xs ih =>
   simp only [aK]
   rcases List.mem_cons.1 hf with e | e
   ·rw [e];omega
   ·have:=ih e;omega
 simp only [Fm.nodes,Fm.depth] at *
 exact ⟨⟨⟨ho,by omega⟩,by omega⟩,by omega,by omega⟩
theorem uY {op : Int} {n : Bs} {ts : List Tm} {fs : List Fm} (h : (Fm.mk op n ts fs).right = true) : aK fs ≤ 400:=by
 simp only [Fm.right,Bool.and_eq_true,decide_eq_true_eq] at h
 have h6:=h.1.2
 simp only [Fm.nodes] at h6
 omega
theorem JT (f : Fm) (lv : Nat) : f.outl lv ≠ []:=by cases f;simp [Fm.outl]
mutual
theorem Fm.parts_le : ∀ f : Fm,f.parts ≤ f.nodes
 | .mk op n ts sub=>by have:=lZ sub;simp only [Fm.parts,Fm.nodes];omega
theorem lZ : ∀ fs : List Fm,iD fs ≤ aK fs
 | []=>by simp [iD,aK]
 | f :: fs=>by have:=Fm.parts_le f;have:=lZ fs;simp only [iD,aK];omega
end
theorem sH {fs : List Fm} {j : Nat} {f : Fm} (lv : Nat) (h : fs[j]? = some f) : dE lv (fs.take (j + 1)) = dE lv (fs.take j) ++ f.outl lv:=by
 induction fs generalizing j with
 | nil=>simp at h
 | cons g fs ih =>
  cases j with
  | zero=>simp at h;subst h;simp [dE]
  | succ j=>simp only [List.take_succ_cons,dE,ih (by simpa using h),List.append_assoc]
theorem mQ (fs : List Fm) (lv j : Nat) : (dE lv (fs.take j)).length ≤ iD fs:=by
 rw [lD]
 induction fs generalizing j with
 | nil=>simp
 | cons g fs ih =>
  cases j with
  | zero=>simp [iD]
  | succ j=>simp only [List.take_succ_cons,iD];have:=ih j;omega
def FO (f : Fm) : Prop:=∀ (lv : Nat) (z : Int) (_ : z = lv) (a : Option Addr) (k c : Nat) (a' : Option Addr) (m d : Nat) (w : World),iK w → bI w f.args (.slice a k c) → cD w f.sub (.slice a' m d) → f.right = true → lv + f.depth ≤ 1000 →
 Calls Tryz.prog 97 #[.agg #[.int .u8 f.op,str f.name,.slice a k c,.slice a' m d],.int .i64 z] w (iQ ((f.outl lv).map cG) w)
theorem box_cell' {w : World} {H : Nat} {cs : Array Value} {t : TypeId} {fz : Nat × Nat} (h : w.heap[H]? = some (.cells cs t fz)) (k : Nat) : w.cell? ⟨H,k,none⟩ = cs[k]?:=by
 simp [World.cell?,h]
theorem DU {op : Int} {n : Bs} {ts : List Tm} {fs : List Fm} (h : (Fm.mk op n ts fs).ok = true) : n.length ≤ 16:=by
 rcases (kE h).1 with ⟨_,h⟩ | ⟨_,h⟩ | ⟨_,h⟩
 ·exact fM h
 ·exact fM h
 ·rw [h];simp
theorem AE {op : Int} (n : Bs) (ts : List Tm) (fs : List Fm) (h : op = 1 ∨ op = 2) : (Fm.mk op n ts fs).head = (Fm.mk op n ts fs).text:=if_pos h
theorem JK {op : Int} (n : Bs) (ts : List Tm) (fs : List Fm) (h : ¬ (op = 1 ∨ op = 2)) : (Fm.mk op n ts fs).head = aM op n:=if_neg h
theorem AX (lv : Nat) (s : Bs) : Value.string ((⟨#[108,101,118,101,108,32]⟩ : ByteArray) ++ ⟨(itoa (lv : Int)).toArray⟩ ++ ⟨#[58,32]⟩ ++ ⟨s.toArray⟩) = str (cG (lv,s)):=by
 show Value.string _ = Value.string _
 simp only [bF];congr 2;simp [cG,MG]
theorem outline_step (op : Int) (n : Bs) (ts : List Tm) (fs : List Fm) (hh : ∀ f ∈ fs,FO f) : FO (.mk op n ts fs):=by
 intro lv z hz a k c a' m d w hp h1 h2 hr hlv
 subst hz
 simp only [Fm.op,Fm.name,Fm.args,Fm.sub] at *
 have hm:=h2.len
 have hml : m ≤ 9223372036854775807:=by have:=le63 hm.2.2;omega
 have lv1 : lv ≤ 1000:=by omega
 have HP:=Hd hp
 have H1:=Hd h1
 have H2:=Hd h2
 have L2:=Hd hm.1
 have RT:=Hd hr
 have HL:=Hd hlv
 have H:=Hd hh
 have TL:=Hd (gZ hr).2
 have tl : (Fm.mk op n ts fs).text.length ≤ 16000:=TL.out
 have il:=eT (n:=(lv : Int)) (by omega) (by omega)
 have OK:=Hd (fD hr)
 have HO:=Hd (kE OK.out)
 have o1:=HO.out.2.2.2.1
 have o2:=HO.out.2.2.2.2.1
 have nl:=DU OK.out
 have SL : (aM op n).length ≤ 40:=by have:=(tJ op n).1;omega
 have BX : Hid ((w.alloc (.cells #[.int .u8 op,str n,.slice a k c,.slice a' m d] 25)).heap[w.heap.size]? = some (.cells #[.int .u8 op,str n,.slice a k c,.slice a' m d] 25)):=heap_alloc_new w _
 have WB : Hid (Below w.heap.size w (w.alloc (.cells #[.int .u8 op,str n,.slice a k c,.slice a' m d] 25))):=bnew
 have SZ : Hid ((w.alloc (.cells #[.int .u8 op,str n,.slice a k c,.slice a' m d] 25)).heap.size = w.heap.size + 1):=by show _ = _;simp
 -- what stands behind the first word is the same on all ways
 have CT : Hid (Calls Tryz.prog 86 #[.agg #[.int .u8 op,str n,.slice a k c,.slice a' m d]] (w.alloc (.cells #[.int .u8 op,str n,.slice a k c,.slice a' m d] 25)) fun e w'=>e = .returned (str (Fm.mk op n ts fs).text) ∧ Below (w.alloc (.cells #[.int .u8 op,str n,.slice a k c,.slice a' m d] 25)).heap.size (w.alloc (.cells #[.int .u8 op,str n,.slice a k c,.slice a' m d] 25)) w') :=
  uO (.mk op n ts fs) OK.out (iW RT.out) _ _ _ _ _ _ _ (H1.out.keep (bH _ _)) (H2.out.keep (bH _ _))
 generalize hHT : (Fm.mk op n ts fs).text = TX at *
 have HTX:=Hd hHT
 generalize hSF : aM op n = SF at *
 have HSF:=Hd hSF
 clear hp h1 h2 hm hr hlv hh hHT hSF
 obtain ⟨hd,hhd,hdl⟩ : ∃ hd : Bs,Hid ((Fm.mk op n ts fs).head = hd) ∧ hd.length ≤ 16000:=by
  by_cases ha : op = 1 ∨ op = 2
  ·exact ⟨TX,by show Fm.head _ = _;rw [AE n ts fs ha];exact HTX.out,tl⟩
  ·exact ⟨SF,by show Fm.head _ = _;rw [JK n ts fs ha];exact HSF.out,by omega⟩
 by_cases ha : op = 1 ∨ op = 2
 ·have HSD : Hid (TX = hd):=by
   show _ = _;rw [← hhd.out,← HTX.out,AE n ts fs ha]
  have body : Hid (∀ o : Int,o = op → ∀ z : Bool,(o == 1) = z → Calls Tryz.prog 97 #[.agg #[.int .u8 op,str n,.slice a k c,.slice a' m d],.int .i64 lv] w (iQ ((Fm.outl lv (.mk op n ts fs)).map cG) w)):=by
   intro o ho z hz
   subst ho
   have t2 : (o == 2) = !z:=by rcases ha with rfl | rfl <;> (cases z <;> simp_all)
   clear ha
   cases z
   all_goals
    simp only [Bool.not_false,Bool.not_true] at t2
    go_enter Tryz.func97,Tryz.ntmps97
    go_wp2_with fail
    refine CT.out.mono ?_
    rintro e w1 ⟨rfl,b1⟩
    rw [HSD.out]
    have B1:=Hd b1
    have W1 : Hid (Below w.heap.size w w1):=bB b1
    have BX1 : Hid (w1.heap[w.heap.size]? = some (.cells #[.int .u8 o,str n,.slice a k c,.slice a' m d] 25)):=(b1.block _ (by rw [SZ.out];omega)).trans BX.out
    clear b1
    go_wp2_with fail
    refine (mC lv (by omega) (by omega) _ (HP.out.below W1.out)).mono ?_
    rintro e w2 ⟨rfl,b2⟩
    have W2 : Hid (Below w.heap.size w w2):=W1.out.trans (b2.mono W1.out.size)
    have BX2 : Hid (w2.heap[w.heap.size]? = some (.cells #[.int .u8 o,str n,.slice a k c,.slice a' m d] 25)):=(b2.block _ (Array.getElem?_eq_some_iff.1 BX1.out).1).trans BX1.out
    have g3 : w2.cell? ⟨w.heap.size,3,none⟩ = some (.slice a' m d):=by rw [box_cell' BX2.out];rfl
    have sz2 : w.heap.size < w2.heap.size:=(Array.getElem?_eq_some_iff.1 BX2.out).1
    clear b2
    go_wp2_with fail
    go_loopw [6,32] (fun u i wr=>∃ j : Nat,j ≤ m ∧ i = .int .i64 j ∧ Hid (aI w.heap.size wr (cG (lv,hd) :: (dE (lv + 1) (fs.take j)).map cG) u ∧ Below w.heap.size w wr)) (fun _ i _=>m - (intOf i).toNat)
    case atStart =>
     refine ⟨0,Nat.zero_le _,rfl, ?_,W2.out.alloc W2.out.size _⟩
     rw [AX]
     exact (sX w2 _).mono (by omega)
    case round =>
     obtain ⟨j,hj,rfl,hr⟩:=hrel
     by_cases hlt : j < m
     ·obtain ⟨T,hT⟩:=aF (l:=fs) (j:=j) (by rw [← L2.out];exact hlt)
      obtain ⟨bb,off,rfl,hc⟩:=H2.out.get (aJ hT)
      obtain ⟨x0,x1,x2,y0,y1,y2,hx⟩:=hc j _ hT
      have hK:=aA hr.out.2
      have c0:=hK _ _ hx.c0;have c1:=hK _ _ hx.c1;have c2:=hK _ _ hx.c2;have c3:=hK _ _ hx.c3
      have X:=Hd (hx.at_.keep hK)
      have Y:=Hd (hx.at'.keep hK)
      have HM:=Hd (List.mem_of_getElem? hT)
      have SB:=Hd (Fm.right_sub RT.out T HM.out)
      have SN:=Hd (sH (lv + 1) hT)
      have TKL:=Hd (mQ fs (lv + 1) j)
      obtain ⟨q0,q1,q2,rfl⟩:=hr.out.1.strsAt.slice
      have OW:=Hd hr.out.1.strsAt
      have BL:=Hd hr.out.2
      clear hc hx hT hK
      go_wp2_with fail
      refine (H.out T HM.out (lv + 1) ((lv : Int) + 1) (by push_cast;rfl) _ _ _ _ _ _ _ (HP.out.below (BL.out.alloc BL.out.size _)) (X.out.keep (bH _ _)) (Y.out.keep (bH _ _)) SB.out.1 (by have:=SB.out.2.1;have:=HL.out;omega)).mono ?_
      rintro e w3 ⟨v3,rfl,o3,b3⟩
      obtain ⟨z0,z1,z2,rfl⟩:=o3.strsAt.slice
      have B3:=Hd (bB b3)
      have O3:=Hd o3.strsAt
      have LT : Hid (fQ (w3.alloc (.cells #[.slice q0 q1 q2,.slice z0 z1 z2] 36)) [cG (lv,hd) :: (dE (lv + 1) (fs.take j)).map cG,(T.outl (lv + 1)).map cG] (.slice (some ⟨w3.heap.size,0,none⟩) 2 2)) :=
       qB (u1:=.slice q0 q1 q2) (u2:=.slice z0 z1 z2) (by simp [go_sem]) (by simp [go_sem]) (OW.out.keep ((aA B3.out).trans (bH _ _))) (O3.out.keep (bH _ _))
      have NN : Hid ((∀ l ∈ ([cG (lv,hd) :: (dE (lv + 1) (fs.take j)).map cG,(T.outl (lv + 1)).map cG] : List (List Bs)),l ≠ []) ∧ ([cG (lv,hd) :: (dE (lv + 1) (fs.take j)).map cG,(T.outl (lv + 1)).map cG] : List (List Bs)).flatten.length * 16 ≤ 140737488355328):=by
       refine ⟨?_, ?_⟩
       ·intro l hl
        simp only [List.mem_cons,List.mem_nil_iff,or_false] at hl
        rcases hl with rfl | rfl
        ·simp
        ·simp [JT]
       ·have h1:=TKL.out
        have h2:=Fm.parts_le T
        have h3:=SB.out.2.2
        have h4:=lZ fs
        have h5:=uY RT.out
        simp only [List.flatten_cons,List.flatten_nil,List.append_nil,List.length_append,List.length_cons,List.length_map,Fm.outl_length]
        omega
      have EE : Hid (([cG (lv,hd) :: (dE (lv + 1) (fs.take j)).map cG,(T.outl (lv + 1)).map cG] : List (List Bs)).flatten = cG (lv,hd) :: (dE (lv + 1) (fs.take (j + 1))).map cG):=by
       show _ = _;rw [SN.out];simp
      clear b3 o3
      go_wp2_with fail
      refine (kB _ _ _ _ _ LT.out NN.out.1 NN.out.2).mono ?_
      rintro e w4 ⟨v4,rfl,o4,b4⟩
      rw [EE.out] at o4
      have R : Hid (aI w.heap.size w4 (cG (lv,hd) :: (dE (lv + 1) (fs.take (j + 1))).map cG) v4 ∧ Below w.heap.size w w4):=by
       have s3:=B3.out.size
       have s0:=BL.out.size
       exact ⟨o4.mono (by simp;omega),BL.out.trans ((B3.out.mono s0).trans ((bB b4).mono (by omega)))⟩
      clear o4 b4
      go_wp2_with fail
      go_roundw
      case rel=>exact ⟨j + 1,by omega,by go_num,R⟩
      case measure=>simp [intOf];omega
     ·have e : fs.take j = fs:=List.take_of_length_le (by rw [← L2.out];omega)
      have h2:=hr.out
      rw [e] at h2
      have R:=Hd h2
      have EO : Hid ((Fm.outl lv (.mk o n ts fs)).map cG = cG (lv,hd) :: (dE (lv + 1) fs).map cG):=by
       show _ = _;rw [Fm.outl,List.map_cons,hhd.out]
      clear hr h2 e
      go_wp2_with fail
      go_ret
      exact ⟨_,rfl,by rw [EO.out];exact R.out.1,R.out.2⟩
  exact body.out op rfl _ rfl
 ·have t1 : (op == 1) = false:=by simp;omega
  have t2 : (op == 2) = false:=by simp;omega
  have HSD : Hid (SF = hd):=by
   show _ = _;rw [← hhd.out,← HSF.out,JK n ts fs ha]
  clear ha
  have hfd : ∀ (x y : Value) (wx : World),(Instr.field 208 (.agg #[x,y]) 0).run Tryz.prog wx = .ok x wx:=fun _ _ _=>by rfl
  go_enter Tryz.func97,Tryz.ntmps97
  go_wp2_with fail
  refine (GI op n a k c a' m d _ (by have : ¬ (op = 1):=(by intro e;rw [e] at t1;cases t1);have : ¬ (op = 2):=(by intro e;rw [e] at t2;cases t2);omega) (by omega)).mono ?_
  rintro e w1 ⟨rfl,b1⟩
  rw [HSF.out,HSD.out]
  have B1:=Hd b1
  have W1 : Hid (Below w.heap.size w w1):=bB b1
  have BX1 : Hid (w1.heap[w.heap.size]? = some (.cells #[.int .u8 op,str n,.slice a k c,.slice a' m d] 25)):=(b1.block _ (by rw [SZ.out];omega)).trans BX.out
  clear b1
  go_wp2_with fail
  refine (mC lv (by omega) (by omega) _ (HP.out.below W1.out)).mono ?_
  rintro e w2 ⟨rfl,b2⟩
  have W2 : Hid (Below w.heap.size w w2):=W1.out.trans (b2.mono W1.out.size)
  have BX2 : Hid (w2.heap[w.heap.size]? = some (.cells #[.int .u8 op,str n,.slice a k c,.slice a' m d] 25)):=(b2.block _ (Array.getElem?_eq_some_iff.1 BX1.out).1).trans BX1.out
  have g3 : w2.cell? ⟨w.heap.size,3,none⟩ = some (.slice a' m d):=by rw [box_cell' BX2.out];rfl
  have sz2 : w.heap.size < w2.heap.size:=(Array.getElem?_eq_some_iff.1 BX2.out).1
  clear b2
  go_wp2_with fail
  go_loopw [6,32] (fun u i wr=>∃ j : Nat,j ≤ m ∧ i = .int .i64 j ∧ Hid (aI w.heap.size wr (cG (lv,hd) :: (dE (lv + 1) (fs.take j)).map cG) u ∧ Below w.heap.size w wr)) (fun _ i _=>m - (intOf i).toNat)
  case atStart =>
   refine ⟨0,Nat.zero_le _,rfl, ?_,W2.out.alloc W2.out.size _⟩
   rw [AX]
   exact (sX w2 _).mono (by omega)
  case round =>
   obtain ⟨j,hj,rfl,hr⟩:=hrel
   by_cases hlt : j < m
   ·obtain ⟨T,hT⟩:=aF (l:=fs) (j:=j) (by rw [← L2.out];exact hlt)
    obtain ⟨bb,off,rfl,hc⟩:=H2.out.get (aJ hT)
    obtain ⟨x0,x1,x2,y0,y1,y2,hx⟩:=hc j _ hT
    have hK:=aA hr.out.2
    have c0:=hK _ _ hx.c0;have c1:=hK _ _ hx.c1;have c2:=hK _ _ hx.c2;have c3:=hK _ _ hx.c3
    have X:=Hd (hx.at_.keep hK)
    have Y:=Hd (hx.at'.keep hK)
    have HM:=Hd (List.mem_of_getElem? hT)
    have SB:=Hd (Fm.right_sub RT.out T HM.out)
    have SN:=Hd (sH (lv + 1) hT)
    have TKL:=Hd (mQ fs (lv + 1) j)
    obtain ⟨q0,q1,q2,rfl⟩:=hr.out.1.strsAt.slice
    have OW:=Hd hr.out.1.strsAt
    have BL:=Hd hr.out.2
    clear hc hx hT hK
    go_wp2_with fail
    refine (H.out T HM.out (lv + 1) ((lv : Int) + 1) (by push_cast;rfl) _ _ _ _ _ _ _ (HP.out.below (BL.out.alloc BL.out.size _)) (X.out.keep (bH _ _)) (Y.out.keep (bH _ _)) SB.out.1 (by have:=SB.out.2.1;have:=HL.out;omega)).mono ?_
    rintro e w3 ⟨v3,rfl,o3,b3⟩
    obtain ⟨z0,z1,z2,rfl⟩:=o3.strsAt.slice
    have B3:=Hd (bB b3)
    have O3:=Hd o3.strsAt
    have LT : Hid (fQ (w3.alloc (.cells #[.slice q0 q1 q2,.slice z0 z1 z2] 36)) [cG (lv,hd) :: (dE (lv + 1) (fs.take j)).map cG,(T.outl (lv + 1)).map cG] (.slice (some ⟨w3.heap.size,0,none⟩) 2 2)) :=
     qB (u1:=.slice q0 q1 q2) (u2:=.slice z0 z1 z2) (by simp [go_sem]) (by simp [go_sem]) (OW.out.keep ((aA B3.out).trans (bH _ _))) (O3.out.keep (bH _ _))
    have NN : Hid ((∀ l ∈ ([cG (lv,hd) :: (dE (lv + 1) (fs.take j)).map cG,(T.outl (lv + 1)).map cG] : List (List Bs)),l ≠ []) ∧ ([cG (lv,hd) :: (dE (lv + 1) (fs.take j)).map cG,(T.outl (lv + 1)).map cG] : List (List Bs)).flatten.length * 16 ≤ 140737488355328):=by
     refine ⟨?_, ?_⟩
     ·intro l hl
      simp only [List.mem_cons,List.mem_nil_iff,or_false] at hl
      rcases hl with rfl | rfl
      ·simp
      ·simp [JT]
     ·have h1:=TKL.out
      have h2:=Fm.parts_le T
      have h3:=SB.out.2.2
      have h4:=lZ fs
      have h5:=uY RT.out
      simp only [List.flatten_cons,List.flatten_nil,List.append_nil,List.length_append,List.length_cons,List.length_map,Fm.outl_length]
      omega
    have EE : Hid (([cG (lv,hd) :: (dE (lv + 1) (fs.take j)).map cG,(T.outl (lv + 1)).map cG] : List (List Bs)).flatten = cG (lv,hd) :: (dE (lv + 1) (fs.take (j + 1))).map cG):=by
     show _ = _;rw [SN.out];simp
    clear b3 o3
    go_wp2_with fail
    refine (kB _ _ _ _ _ LT.out NN.out.1 NN.out.2).mono ?_
    rintro e w4 ⟨v4,rfl,o4,b4⟩
    rw [EE.out] at o4
    have R : Hid (aI w.heap.size w4 (cG (lv,hd) :: (dE (lv + 1) (fs.take (j + 1))).map cG) v4 ∧ Below w.heap.size w w4):=by
     have s3:=B3.out.size
     have s0:=BL.out.size
     exact ⟨o4.mono (by simp;omega),BL.out.trans ((B3.out.mono s0).trans ((bB b4).mono (by omega)))⟩
    clear o4 b4
    go_wp2_with fail
    go_roundw
    case rel=>exact ⟨j + 1,by omega,by go_num,R⟩
    case measure=>simp [intOf];omega
   ·have e : fs.take j = fs:=List.take_of_length_le (by rw [← L2.out];omega)
    have h2:=hr.out
    rw [e] at h2
    have R:=Hd h2
    have EO : Hid ((Fm.outl lv (.mk op n ts fs)).map cG = cG (lv,hd) :: (dE (lv + 1) fs).map cG):=by
     show _ = _;rw [Fm.outl,List.map_cons,hhd.out]
    clear hr h2 e
    go_wp2_with fail
    go_ret
    exact ⟨_,rfl,by rw [EO.out];exact R.out.1,R.out.2⟩
mutual
theorem AZ : ∀ f : Fm,FO f
 | .mk o n ts fs=>outline_step o n ts fs (vJ fs)
theorem vJ : ∀ l : List Fm,∀ t ∈ l,FO t
 | [],_,h=>by cases h
 | x :: xs,t,h=>by
  rcases List.mem_cons.1 h with e | e
  ·rw [e];exact AZ x
  ·exact vJ xs t e
end
open Go Go.RowKit Ly
open Go.Lib (itoa)
set_option maxHeartbeats 800000
theorem Outline_c (f : Fm) (x : Value) (w : World) (hr : dV w) (hp : iK w) (hx : bV w f x) (h : f.right = true) :
  Calls Tryz.prog 30 #[x] w (wP ((f.outl 0).map cG) w):=by
 obtain ⟨a,k,c,a',m,d,rfl,h1,h2⟩:=hx
 have H1:=Hd h1
 have H2:=Hd h2
 have HR:=Hd hr
 have HP:=Hd hp
 have RT:=Hd h
 have DP : Hid (0 + f.depth ≤ 1000):=by
  simp only [Fm.right,Bool.and_eq_true,decide_eq_true_eq] at h
  show _ ≤ _;omega
 clear h1 h2 hr hp h
 have WB : Hid (Below w.heap.size w (w.alloc (.cells #[.int .u8 f.op,str f.name,.slice a k c,.slice a' m d] 25))):=bnew
 go_enter Tryz.func30,Tryz.ntmps30
 go_wp2_with fail
 refine (gU f (.agg #[.int .u8 f.op,str f.name,.slice a k c,.slice a' m d]) _ (HR.out.keep (bH _ _)) ⟨_,_,_,_,_,_,rfl,H1.out.keep (bH _ _),H2.out.keep (bH _ _)⟩ RT.out).mono ?_
 rintro e w1 ⟨rfl,b1⟩
 obtain ⟨hc1,hf1⟩:=eP b1
 have W1 : Hid (Below w.heap.size w w1):=bB b1
 clear b1
 go_wp2_with fail
 refine (AZ f 0 0 rfl _ _ _ _ _ _ _ (HP.out.below W1.out) (H1.out.keep (aA W1.out)) (H2.out.keep (aA W1.out)) RT.out DP.out).mono ?_
 rintro e w2 ⟨v,rfl,o2,b2⟩
 obtain ⟨z0,z1,z2,rfl⟩:=o2.strsAt.slice
 have R : Hid (aI w.heap.size w2 ((f.outl 0).map cG) (.slice z0 z1 z2) ∧ Below w.heap.size w w2):=⟨o2.mono W1.out.size,W1.out.trans (b2.mono W1.out.size)⟩
 clear o2 b2
 go_wp2_with fail
 go_ret2
 exact ⟨_,rfl,R.out.1,R.out.2⟩
open Go Go.RowKit Ly
set_option maxHeartbeats 800000
theorem kinds_c (w : World) : Calls Tryz.prog 218 #[] w (Rt (.agg #[.iface 249 (.agg #[]),.iface 302 (.agg #[]),.iface 304 (.agg #[.int .u8 3]),.iface 304 (.agg #[.int .u8 4]),.iface 305 (.agg #[])]) w):=by
 go_enter Tryz.func218,Tryz.ntmps218
 go_wp2
 exact bodyPost_ret (v:=.agg #[.iface 249 (.agg #[]),.iface 302 (.agg #[]),.iface 304 (.agg #[.int .u8 3]),.iface 304 (.agg #[.int .u8 4]),.iface 305 (.agg #[])]) (by simp [results,Tryz.results218,go_sem]) rfl
  ⟨rfl,bnew⟩
theorem sS (w : World) : Calls Tryz.prog 141 #[.int .u8 4] w (Rt (.tuple #[.iface 304 (.agg #[.int .u8 4]),.bool true]) w):=by
 have hix : ∀ wx,(Instr.index 250 (.agg #[.iface 249 (.agg #[]),.iface 302 (.agg #[]),.iface 304 (.agg #[.int .u8 3]),.iface 304 (.agg #[.int .u8 4]),.iface 305 (.agg #[])]) (.int .u8 3)).run Tryz.prog wx = .ok (.iface 304 (.agg #[.int .u8 4])) wx:=fun _=>by kernel_rfl
 go_enter Tryz.func141,Tryz.ntmps141
 go_wp2_with (go_at_call 218;refine (kinds_c _).mono ?_;rintro e w1 ⟨rfl,b1⟩)
 go_ret2
 exact ⟨rfl,b1⟩
theorem limits_modal (w : World) : Calls Tryz.prog 364 #[.agg #[.int .u8 4]] w (Rt (.tuple #[.int .u32 3072,.int .i64 4]) w):=by
 go_enter Tryz.func364,Tryz.ntmps364
 go_wp2
 go_ret2
 exact ⟨rfl,bnew⟩
theorem qH (w : World) : Calls Tryz.prog 66 #[.int .u8 4] w (Rt (.int .u32 3326) w):=by
 have hmt : ∀ wx,(method 474 304 (.agg #[.int .u8 4]) "lyceum/holds.limits").run Tryz.prog wx = .ok (364,.agg #[.int .u8 4]) wx:=fun _=>by kernel_rfl
 go_enter Tryz.func66,Tryz.ntmps66
 go_wp2_with fail
 refine (sS _).mono ?_
 rintro e w1 ⟨rfl,b1⟩
 have B1:=Hd b1
 clear b1
 go_wp2_with fail
 refine (limits_modal _).mono ?_
 rintro e w2 ⟨rfl,b2⟩
 have B2:=Hd (aB B1.out b2)
 clear b2
 go_wp2_with fail
 go_ret
 exact ⟨rfl,B2.out⟩
open Go Go.RowKit Ly
set_option maxHeartbeats 800000
structure rW (w : World) (b : Nat) : Prop where
 c0 : w.cell? ⟨b,0,none⟩ = some (.int .i64 2)
 c1 : w.cell? ⟨b,1,none⟩ = some (.int .i64 0)
theorem rW.keep {w w' : World} {b : Nat} (h : rW w b) (k : aR w w') : rW w' b:=⟨k _ _ h.c0,k _ _ h.c1⟩
theorem yO (b : Nat) (w : World) (h : rW w b) : Calls Tryz.prog 372 #[.slice (some ⟨b,0,none⟩) 2 2] w fun e w'=>e = .returned (.bool true) ∧ w = w':=by
 obtain ⟨c0,c1⟩:=h
 go_enter Tryz.func372,Tryz.ntmps372
 go_wp2_with fail
 refine wp_loop_rounds 3 ?_
 rw [rounds_succ];go_wp2_with fail
 rw [rounds_succ];go_wp2_with fail
 rw [rounds_succ];go_wp2_with fail
 go_ret
 exact ⟨rfl,rfl⟩
theorem tY (b : Nat) (n : Int) (w : World) : Calls Tryz.prog 375 #[.slice (some ⟨b,0,none⟩) 2 2,.int .u8 0,.int .i64 n] w fun e w'=>e = .returned (.int .i64 0) ∧ w = w':=by
 go_enter Tryz.func375,Tryz.ntmps375
 go_wp2_with fail
 go_ret
 exact ⟨rfl,rfl⟩
theorem KH (b : Nat) (w : World) : Calls Tryz.prog 373 #[.int .u8 4,.int .u8 0,.slice (some ⟨b,0,none⟩) 2 2,.int .i64 1] w fun e w'=>e = .returned (.bool true) ∧ w = w':=by
 go_enter Tryz.func373,Tryz.ntmps373
 go_wp2_with fail
 refine wp_loop_rounds 3 ?_
 rw [rounds_succ];go_wp2_with (go_at_call 375;refine (tY _ _ _).mono ?_;rintro e w1 ⟨rfl,rfl⟩)
 rw [rounds_succ];go_wp2_with (go_at_call 375;refine (tY _ _ _).mono ?_;rintro e w1 ⟨rfl,rfl⟩)
 rw [rounds_succ];go_wp2_with (go_at_call 375;refine (tY _ _ _).mono ?_;rintro e w1 ⟨rfl,rfl⟩)
 go_ret
 exact ⟨rfl,rfl⟩
open Go Go.RowKit Ly
open Go.Sort (grow)
set_option maxHeartbeats 800000
structure rC (w : World) (b : Nat) : Prop where
 c0 : w.cell? ⟨b,0,none⟩ = some (str [80])
 c1 : w.cell? ⟨b,1,none⟩ = some (.int .i64 0)
 c2 : w.cell? ⟨b,2,none⟩ = some (.int .i64 2)
theorem rC.keep {w w' : World} {b : Nat} (h : rC w b) (k : aR w w') : rC w' b:=⟨k _ _ h.c0,k _ _ h.c1,k _ _ h.c2⟩
theorem Fits_c (b : Nat) (w : World) (h : rW w b) : Calls Tryz.prog 371 #[.slice (some ⟨b,0,none⟩) 2 2,.int .u8 0] w fun e w'=>e = .returned (.bool true) ∧ w = w':=by
 have H:=Hd h
 clear h
 go_enter Tryz.func371,Tryz.ntmps371
 go_wp2_with (first | (go_at_call 372;refine (yO _ _ H.out).mono ?_;rintro e w1 ⟨rfl,rfl⟩) | (go_at_call 373;refine (KH _ _).mono ?_;rintro e w1 ⟨rfl,rfl⟩))
 go_ret
 exact ⟨rfl,rfl⟩
theorem frameValid_c (b fb : Nat) (w : World) (h : rW w b) (hf : rC w fb) :
  Calls Tryz.prog 370 #[.agg #[.int .u8 4,.int .i64 2,.slice (some ⟨b,0,none⟩) 2 2,.int .i64 0,.slice (some ⟨fb,0,none⟩) 1 1,.slice none 0 0,.slice none 0 0]] w (Rt (.bool true) w):=by
 have H:=Hd (h.keep (bH w (.cells #[.int .u8 4,.int .i64 2,.slice (some ⟨b,0,none⟩) 2 2,.int .i64 0,.slice (some ⟨fb,0,none⟩) 1 1,.slice none 0 0,.slice none 0 0] 34)))
 obtain ⟨f0,f1,f2⟩:=hf
 have hfb : fb < w.heap.size:=World.block_lt_of_cell? w ⟨fb,0,none⟩ f0
 clear h
 go_enter Tryz.func370,Tryz.ntmps370
 go_wp2_with (first | (go_at_call 372;refine (yO _ _ H.out).mono ?_;rintro e w1 ⟨rfl,rfl⟩) | (go_at_call 373;refine (KH _ _).mono ?_;rintro e w1 ⟨rfl,rfl⟩))
 refine wp_loop_rounds 2 ?_
 rw [rounds_succ];go_wp2_with fail
 have WB : Hid (Below w.heap.size w ((w.alloc (.cells #[.int .u8 4,.int .i64 2,.slice (some ⟨b,0,none⟩) 2 2,.int .i64 0,.slice (some ⟨fb,0,none⟩) 1 1,.slice none 0 0,.slice none 0 0] 34)).alloc (.cells #[str [80],.int .i64 0,.int .i64 2] 102))):=bnew.alloc (by simp) _
 have k0 : ((w.alloc (.cells #[.int .u8 4,.int .i64 2,.slice (some ⟨b,0,none⟩) 2 2,.int .i64 0,.slice (some ⟨fb,0,none⟩) 1 1,.slice none 0 0,.slice none 0 0] 34)).alloc (.cells #[str [80],.int .i64 0,.int .i64 2] 102)).cell? ⟨w.heap.size + 1,0,none⟩ = some (str [80]):=by simp [go_sem]
 have k1 : ((w.alloc (.cells #[.int .u8 4,.int .i64 2,.slice (some ⟨b,0,none⟩) 2 2,.int .i64 0,.slice (some ⟨fb,0,none⟩) 1 1,.slice none 0 0,.slice none 0 0] 34)).alloc (.cells #[str [80],.int .i64 0,.int .i64 2] 102)).cell? ⟨w.heap.size + 1,1,none⟩ = some (.int .i64 0):=by simp [go_sem]
 have k2 : ((w.alloc (.cells #[.int .u8 4,.int .i64 2,.slice (some ⟨b,0,none⟩) 2 2,.int .i64 0,.slice (some ⟨fb,0,none⟩) 1 1,.slice none 0 0,.slice none 0 0] 34)).alloc (.cells #[str [80],.int .i64 0,.int .i64 2] 102)).cell? ⟨w.heap.size + 1,2,none⟩ = some (.int .i64 2):=by simp [go_sem]
 have k3 : ((w.alloc (.cells #[.int .u8 4,.int .i64 2,.slice (some ⟨b,0,none⟩) 2 2,.int .i64 0,.slice (some ⟨fb,0,none⟩) 1 1,.slice none 0 0,.slice none 0 0] 34)).alloc (.cells #[str [80],.int .i64 0,.int .i64 2] 102)).cell? ⟨w.heap.size,0,none⟩ = some (.int .u8 4):=by simp [go_sem]
 have k4 : ((w.alloc (.cells #[.int .u8 4,.int .i64 2,.slice (some ⟨b,0,none⟩) 2 2,.int .i64 0,.slice (some ⟨fb,0,none⟩) 1 1,.slice none 0 0,.slice none 0 0] 34)).alloc (.cells #[str [80],.int .i64 0,.int .i64 2] 102)).cell? ⟨w.heap.size,1,none⟩ = some (.int .i64 2):=by simp [go_sem]
 have k5 : ((w.alloc (.cells #[.int .u8 4,.int .i64 2,.slice (some ⟨b,0,none⟩) 2 2,.int .i64 0,.slice (some ⟨fb,0,none⟩) 1 1,.slice none 0 0,.slice none 0 0] 34)).alloc (.cells #[str [80],.int .i64 0,.int .i64 2] 102)).cell? ⟨w.heap.size,2,none⟩ = some (.slice (some ⟨b,0,none⟩) 2 2):=by simp [go_sem]
 generalize hW : (w.alloc (.cells #[.int .u8 4,.int .i64 2,.slice (some ⟨b,0,none⟩) 2 2,.int .i64 0,.slice (some ⟨fb,0,none⟩) 1 1,.slice none 0 0,.slice none 0 0] 34)).alloc (.cells #[str [80],.int .i64 0,.int .i64 2] 102) = W at *
 have hW1:=H.out
 clear hW hW1
 have cP : Hid (∀ d os,Calls Tryz.prog 198 #[str [80]] (grow (redrawn W d) os) fun e w''=>e = .returned (.bool true) ∧ ∃ p : Regrown,w'' = grow (redrawn W p.d) p.os):=fun d os=>Calls.regrown_of ((lT [80] _ (by decide)).mono fun e w' ⟨he,hb⟩=>⟨by rw [he];rfl,hb⟩)
 have r0:=cell_regrown k0;have r1:=cell_regrown k1;have r2:=cell_regrown k2;have r3:=cell_regrown k3;have r4:=cell_regrown k4;have r5:=cell_regrown k5
 refine wqb ?_
 repeat (go_big_quiet_step (first | (go_at_call 198;exact cP.out _ _)))
 refine wpQuiet_nil ?_
 intro wq hw'
 have WQ : Hid (Below W.heap.size W wq):=by
  obtain ⟨⟨dq,osq⟩,hw''⟩:=hw'
  rw [hw''];exact below_regrown W dq osq
 clear hw' r0 r1 r2 r3 r4 r5
 have KQ:=aA WQ.out
 have q0:=KQ _ _ k0;have q1:=KQ _ _ k1;have q2:=KQ _ _ k2;have q3:=KQ _ _ k3;have q4:=KQ _ _ k4;have q5:=KQ _ _ k5
 clear k0 k1 k2 k3 k4 k5 KQ cP
 go_wp2_with fail
 go_quiet (fail)
 go_wp2_with fail
 rw [rounds_succ];go_wp2_with fail
 go_ret
 exact ⟨rfl,(WB.out.trans (WQ.out.mono WB.out.size)).trans ⟨rfl,rfl,rfl,Nat.le_refl _,fun _ _=>rfl⟩⟩
open Go Go.RowKit Ly
open Go.Sort (grow)
set_option maxHeartbeats 1600000
theorem framesValid_c (b fb : Nat) (w : World) (h : rW w b) (hf : rC w fb) :
  Calls Tryz.prog 369 #[.agg #[.int .u8 4],.agg #[.int .u8 4,.int .i64 2,.slice (some ⟨b,0,none⟩) 2 2,.int .i64 0,.slice (some ⟨fb,0,none⟩) 1 1,.slice none 0 0,.slice none 0 0],.int .u8 0] w (Rt (.bool true) w):=by
 have H:=Hd h
 have HF:=Hd hf
 clear h hf
 go_enter Tryz.func369,Tryz.ntmps369
 go_wp2_with fail
 refine (frameValid_c b fb _ (H.out.keep (iJ _ _ _)) (HF.out.keep (iJ _ _ _))).mono ?_
 rintro e w1 ⟨rfl,b1⟩
 obtain ⟨hc1,hf1⟩:=eP b1
 have B1 : Hid (Below w.heap.size w w1):=iT b1
 have H1:=Hd (H.out.keep (aA B1.out))
 clear b1
 go_wp2_with (go_at_call 371;refine (Fits_c _ _ H1.out).mono ?_;rintro e w2 ⟨rfl,rfl⟩)
 go_ret
 exact ⟨rfl,B1.out⟩
theorem logical_c (r : Value) (w : World) (hr : r = .slice none 0 0) : Calls Tryz.prog 142 #[.agg #[str [],.int .u32 3326,.int .u8 4,.int .u8 0,r]] w (Rt (.bool true) w):=by
 subst hr
 have k0 : (w.alloc (.cells #[str [],.int .u32 3326,.int .u8 4,.int .u8 0,.slice none 0 0] 112)).cell? ⟨w.heap.size,1,none⟩ = some (.int .u32 3326):=by simp [go_sem]
 have k1 : (w.alloc (.cells #[str [],.int .u32 3326,.int .u8 4,.int .u8 0,.slice none 0 0] 112)).cell? ⟨w.heap.size,2,none⟩ = some (.int .u8 4):=by simp [go_sem]
 have k2 : (w.alloc (.cells #[str [],.int .u32 3326,.int .u8 4,.int .u8 0,.slice none 0 0] 112)).cell? ⟨w.heap.size,3,none⟩ = some (.int .u8 0):=by simp [go_sem]
 have WB : Hid (Below w.heap.size w (w.alloc (.cells #[str [],.int .u32 3326,.int .u8 4,.int .u8 0,.slice none 0 0] 112))):=bnew
 go_enter Tryz.func142,Tryz.ntmps142
 go_wp2_with fail
 generalize hW : w.alloc (.cells #[str [],.int .u32 3326,.int .u8 4,.int .u8 0,.slice none 0 0] 112) = W at *
 clear hW
 have cP : Hid (∀ d os,Calls Tryz.prog 66 #[.int .u8 4] (grow (redrawn W d) os) fun e w''=>e = .returned (.int .u32 3326) ∧ ∃ p : Regrown,w'' = grow (redrawn W p.d) p.os):=fun d os=>Calls.regrown_of (qH _)
 have r0:=cell_regrown k0;have r1:=cell_regrown k1;have r2:=cell_regrown k2
 refine wqb ?_
 repeat (go_big_quiet_step (first | (go_at_call 66;exact cP.out _ _)))
 refine wpQuiet_nil ?_
 intro wq hw'
 have WQ : Hid (Below W.heap.size W wq):=by
  obtain ⟨⟨dq,osq⟩,hw''⟩:=hw'
  rw [hw''];exact below_regrown W dq osq
 clear hw' r0 r1 r2
 have KQ:=aA WQ.out
 have q0:=KQ _ _ k0;have q1:=KQ _ _ k1;have q2:=KQ _ _ k2
 clear k0 k1 k2 KQ cP
 go_wp2_with fail
 go_ret
 exact ⟨rfl,WB.out.trans (WQ.out.mono WB.out.size)⟩
theorem Valid_c (b fb : Nat) (w : World) (h : rW w b) (hf : rC w fb) :
  Calls Tryz.prog 65 #[.agg #[str [],.int .u32 3326,.int .u8 4,.int .u8 0,.slice none 0 0],.agg #[.int .u8 4,.int .i64 2,.slice (some ⟨b,0,none⟩) 2 2,.int .i64 0,.slice (some ⟨fb,0,none⟩) 1 1,.slice none 0 0,.slice none 0 0]] w (Rt (.bool true) w):=by
 have H:=Hd h
 have HF:=Hd hf
 have hmt : ∀ wx,(method 474 304 (.agg #[.int .u8 4]) "lyceum/holds.valid").run Tryz.prog wx = .ok (369,.agg #[.int .u8 4]) wx:=fun _=>by kernel_rfl
 clear h hf
 go_enter Tryz.func65,Tryz.ntmps65
 go_wp2_with fail
 refine (sS _).mono ?_
 rintro e w1 ⟨rfl,b1⟩
 obtain ⟨hc1,hf1⟩:=eP b1
 have B1:=Hd b1
 have z1 : w.heap.size + 1 < w1.heap.size:=by have:=b1.size;simp at this;omega
 clear b1
 go_wp2_with fail
 refine (logical_c _ _ rfl).mono ?_
 rintro e w2 ⟨rfl,b2⟩
 obtain ⟨hc2,hf2⟩:=eP (aB B1.out b2)
 have B2:=Hd (aB B1.out b2)
 have z2 : w.heap.size + 1 < w2.heap.size:=Nat.lt_of_lt_of_le z1 b2.size
 clear b2 hc1 hf1
 go_wp2_with fail
 have K2 : aR w w2:=aA (iT B2.out)
 refine (framesValid_c b fb _ (H.out.keep K2) (HF.out.keep K2)).mono ?_
 rintro e w3 ⟨rfl,b3⟩
 have B3:=Hd (iT (aB B2.out b3))
 clear b3 K2
 go_wp2_with fail
 go_ret
 exact ⟨rfl,B3.out⟩
open Go Go.RowKit Ly
open Go.Sort (grow)
set_option maxHeartbeats 1600000
theorem info3 : (Tryz.prog.info? 3).map (fun i=>(i.zero,i.size,i.bytes)) = some (some (.int .i64 0),1,8):=by kernel_rfl
theorem bits0_c (w : World) : Calls Tryz.prog 71 #[.int .i64 0] w fun e w'=>e = .returned (.slice none 0 0) ∧ w = w':=by
 go_enter Tryz.func71,Tryz.ntmps71
 go_wp2_with fail
 refine wp_loop_rounds 1 ?_
 rw [rounds_succ];go_wp2_with fail
 go_ret
 exact ⟨rfl,rfl⟩
def RetInts (l : List Int) (w : World) (e : Ending) (w' : World) : Prop:=∃ v,e = .returned v ∧ dZ w' l v ∧ Below w.heap.size w w'
theorem ints_own1 {w : World} {B : Nat} {v : Value} {x : Int} (h : w.ownsRow B 3 1 v 1 [.int .i64 x]) : dZ w [x] v:=by
 have h0:=h
 obtain ⟨h1,h2⟩:=h
 rcases h2 with ⟨_,hn⟩ | ⟨g,cap,cur,rfl,hb,hg,hc,hm,hs,ht⟩
 ·cases hn
 ·refine At.sl_mk (by simp) hc hm fun j d hd=>?_
  have hj : j = 0:=by have:=(List.getElem?_eq_some_iff.1 hd).1;simp at this;omega
  subst hj
  have hcell:=h0.cells (g:=g) rfl 0 (.int .i64 x) rfl
  cases hd
  refine ⟨_, ?_,rfl⟩
  rw [← hcell];rfl
theorem IU (w : World) : Calls Tryz.prog 71 #[.int .i64 2] w (RetInts [1] w):=by
 obtain ⟨i0,hi0,hz0,hs0,hb0⟩:=info_parts info3
 go_enter Tryz.func71,Tryz.ntmps71
 go_wp2_with fail
 refine wp_loop_rounds 3 ?_
 rw [rounds_succ];go_wp2_with fail
 rw [rounds_succ]
 go_wp2_with (at_builtin;refine wpList_append_own _ rfl _ _ 29 rfl w.heap.size 3 i0 (.int .i64 0) 1 8 Tryz.underlying29 hi0 hz0 hs0 hb0 rfl (by decide) _ _ _ rfl (World.ownsRow_nil _ _ _ _) ⟨w.heap.size,0,none⟩ 1 1 [.int .i64 1] rfl rfl (cell_one_new _ _ _) (by intro u hu;simp at hu;subst hu;rfl) (by decide) (by decide) (by simp) ?_)
 intro v' w2 hown hg _
 have I2:=Hd (ints_own1 hown)
 have B2 : Hid (Below w.heap.size w w2):=bnew.grown hg (by simp) (fun k hk=>by simp [Value.ownBlock] at hk)
 clear hown hg
 go_wp2_with fail
 rw [rounds_succ];go_wp2_with fail
 go_ret
 exact ⟨_,rfl,I2.out,B2.out⟩
end Go.Proofs.YtcandidgaegghaaGreatDoor
namespace Go
theorem iH {P : Program} {ops : Array Oper} {o : Oper} {a : Act} {w : World} {K : Act → World → Prop} {Q : Exit → Act → World → Prop} {E : Prop}
  (hgd : o.guard = none) (s x : Operand) (t : TypeId) (hop : o.op = Op.call { callee:=Callee.builtin Builtin.append,args:=#[s,x],argTypes:=#[t,t] })
  (base : Nat) (e : TypeId) (i : TypeInfo) (z : Value) (size bytes : Nat) (ht : P.underlying t = some (.slice e)) (hi : P.info? e = some i) (hz : i.zero = some z)
  (hsize : i.size = size) (hby : i.bytes = bytes) (hzs : z.cells.size = size) (hsz : 0 < size)
  (v : Value) (n : Nat) (xs : List Value) (hs : a.eval s = v) (hown : w.ownsRow base e size v n xs)
  (ad : Addr) (m c : Nat) (news : List Value) (hx : a.eval x = .slice (some ad) m c) (hl : news.length = m * size) (hnews : ∀ j u,news[j]? = some u → w.cell? (ad.add j) = some u) (h1 : ∀ u ∈ news,u.oneCell' = true)
  (h63 : n + m ≤ maxLen) (hbytes : (n + m) * bytes ≤ 140737488355328) (hbase : base ≤ w.heap.size)
  (hK : ∀ v' w',w'.ownsRow base e size v' (n + m) (xs ++ news) → w.grownBy w' v.ownBlock → (v'.ownBlock = v.ownBlock ∨ v'.ownBlock = some w.heap.size) → K (a.put o.dst v') w') :
  if Region.wanted o (yielded ops a.tmps) = true then Oper.wp P o a w K Q else E:=by
 have hw : Region.wanted o (yielded ops a.tmps) = true:=by simp [Region.wanted,hgd]
 rw [if_pos hw]
 obtain ⟨v',w',hr,h2,h3,h4,h5⟩:=run_append_own_at (P:=P) w base t o.type e i z size bytes ht hi hz hsize hby hzs hsz v n xs hown ad m c news hl hnews h1 h63 hbytes hbase
 have:=hK v' w' h2 h3 h5
 unfold Oper.wp execOp
 simp only [hop,resolve,invoke,builtin,Sem.run_bind,Sem.run_pure,Result.andThen_ok,List.map_toArray,List.map_cons,List.map_nil,hs,hx,hr]
 exact this
end Go
namespace Go.Proofs.YtcandidgaegghaaGreatDoor
open Go Go.RowKit Ly
open Go.Sort (grow)
set_option maxHeartbeats 4000000
def fH : List Bs:=[[50,32,119,111,114,108,100,115],[80,32,105,115,32,116,114,117,101,32,97,116,32,49],[48,32,115,101,101,115,32,49],[49,32,115,101,101,115,32,110,111,116,104,105,110,103]]
theorem Model_c (b fb : Nat) (w : World) (h : rW w b) (hf : rC w fb) (hp : iK w) :
  Calls Tryz.prog 16 #[.agg #[.int .u8 4,.int .i64 2,.slice (some ⟨b,0,none⟩) 2 2,.int .i64 0,.slice (some ⟨fb,0,none⟩) 1 1,.slice none 0 0,.slice none 0 0]] w (wP fH w):=by
 have H:=Hd h
 have HF:=Hd hf
 have HP:=Hd hp
 clear h hf hp
 obtain ⟨i0,hi0,hz0,hs0,hb0⟩:=info_parts sP
 have BX : Hid ((w.alloc (.cells #[.int .u8 4,.int .i64 2,.slice (some ⟨b,0,none⟩) 2 2,.int .i64 0,.slice (some ⟨fb,0,none⟩) 1 1,.slice none 0 0,.slice none 0 0] 34)).heap[w.heap.size]? = some (.cells #[.int .u8 4,.int .i64 2,.slice (some ⟨b,0,none⟩) 2 2,.int .i64 0,.slice (some ⟨fb,0,none⟩) 1 1,.slice none 0 0,.slice none 0 0] 34)):=heap_alloc_new w _
 have WB : Hid (Below w.heap.size w (w.alloc (.cells #[.int .u8 4,.int .i64 2,.slice (some ⟨b,0,none⟩) 2 2,.int .i64 0,.slice (some ⟨fb,0,none⟩) 1 1,.slice none 0 0,.slice none 0 0] 34))):=bnew
 go_enter Tryz.func16,Tryz.ntmps16
 go_wp2_with fail
 generalize hW : w.alloc (.cells #[.int .u8 4,.int .i64 2,.slice (some ⟨b,0,none⟩) 2 2,.int .i64 0,.slice (some ⟨fb,0,none⟩) 1 1,.slice none 0 0,.slice none 0 0] 34) = W at *
 clear hW
 have HW:=Hd (H.out.keep (aA WB.out))
 have HFW:=Hd (HF.out.keep (aA WB.out))
 have cA : Hid (∀ d os,Calls Tryz.prog 66 #[.int .u8 4] (grow (redrawn W d) os) fun e w''=>e = .returned (.int .u32 3326) ∧ ∃ p : Regrown,w'' = grow (redrawn W p.d) p.os):=fun d os=>Calls.regrown_of (qH _)
 have cV : Hid (∀ d os,Calls Tryz.prog 65 #[.agg #[str [],.int .u32 3326,.int .u8 4,.int .u8 0,.slice none 0 0],.agg #[.int .u8 4,.int .i64 2,.slice (some ⟨b,0,none⟩) 2 2,.int .i64 0,.slice (some ⟨fb,0,none⟩) 1 1,.slice none 0 0,.slice none 0 0]] (grow (redrawn W d) os) fun e w''=>e = .returned (.bool true) ∧ ∃ p : Regrown,w'' = grow (redrawn W p.d) p.os):=fun d os =>
  have K : aR W (grow (redrawn W d) os):=aA (below_regrown W d os)
  Calls.regrown_of (Valid_c b fb _ (HW.out.keep K) (HFW.out.keep K))
 have r0:=cell_regrown (show W.cell? ⟨w.heap.size,0,none⟩ = some (.int .u8 4) by rw [box_cell BX.out];rfl)
 have r1:=cell_regrown (show W.cell? ⟨w.heap.size,1,none⟩ = some (.int .i64 2) by rw [box_cell BX.out];rfl)
 have r2:=cell_regrown (show W.cell? ⟨w.heap.size,2,none⟩ = some (.slice (some ⟨b,0,none⟩) 2 2) by rw [box_cell BX.out];rfl)
 have r3:=cell_regrown (show W.cell? ⟨w.heap.size,3,none⟩ = some (.int .i64 0) by rw [box_cell BX.out];rfl)
 have r4:=cell_regrown (show W.cell? ⟨w.heap.size,4,none⟩ = some (.slice (some ⟨fb,0,none⟩) 1 1) by rw [box_cell BX.out];rfl)
 have r5:=cell_regrown (show W.cell? ⟨w.heap.size,5,none⟩ = some (.slice none 0 0) by rw [box_cell BX.out];rfl)
 have r6:=cell_regrown (show W.cell? ⟨w.heap.size,6,none⟩ = some (.slice none 0 0) by rw [box_cell BX.out];rfl)
 refine wqb ?_
 repeat (go_big_quiet_step (first | (go_at_call 66;exact cA.out _ _) | (go_at_call 65;exact cV.out _ _)))
 refine wpQuiet_nil ?_
 intro wq hw'
 have WQ : Hid (Below W.heap.size W wq):=by
  obtain ⟨⟨dq,osq⟩,hw''⟩:=hw'
  rw [hw''];exact below_regrown W dq osq
 clear hw' r0 r1 r2 r3 r4 r5 r6 cA cV
 have BQ : Hid (Below w.heap.size w wq):=WB.out.trans (WQ.out.mono WB.out.size)
 have BXq : Hid (wq.heap[w.heap.size]? = some (.cells #[.int .u8 4,.int .i64 2,.slice (some ⟨b,0,none⟩) 2 2,.int .i64 0,.slice (some ⟨fb,0,none⟩) 1 1,.slice none 0 0,.slice none 0 0] 34)):=(WQ.out.block _ (Array.getElem?_eq_some_iff.1 BX.out).1).trans BX.out
 have q1 : wq.cell? ⟨w.heap.size,1,none⟩ = some (.int .i64 2):=by rw [box_cell BXq.out];rfl
 go_wp2_with fail
 refine (mC 2 (by decide) (by decide) _ (HP.out.below BQ.out)).mono ?_
 rintro e w1 ⟨rfl,b1⟩
 have B1 : Hid (Below w.heap.size w w1):=BQ.out.trans (b1.mono BQ.out.size)
 have BX1 : Hid (w1.heap[w.heap.size]? = some (.cells #[.int .u8 4,.int .i64 2,.slice (some ⟨b,0,none⟩) 2 2,.int .i64 0,.slice (some ⟨fb,0,none⟩) 1 1,.slice none 0 0,.slice none 0 0] 34)):=(b1.block _ (Array.getElem?_eq_some_iff.1 BXq.out).1).trans BXq.out
 have e2 : Lib.itoa 2 = [50]:=by simp [Lib.itoa,Lib.decDigits]
 rw [e2]
 have g0 : w1.cell? ⟨w.heap.size,0,none⟩ = some (.int .u8 4):=by rw [box_cell BX1.out];rfl
 have g4 : w1.cell? ⟨w.heap.size,4,none⟩ = some (.slice (some ⟨fb,0,none⟩) 1 1):=by rw [box_cell BX1.out];rfl
 have z1 : w.heap.size < w1.heap.size:=(Array.getElem?_eq_some_iff.1 BX1.out).1
 obtain ⟨f0,f1,f2⟩:=HF.out.keep (aA B1.out)
 have zf : fb < w1.heap.size:=World.block_lt_of_cell? w1 ⟨fb,0,none⟩ f0
 clear q1 b1 e2
 go_wp2_with fail
 refine wp_loop_rounds 2 ?_
 rw [rounds_succ];go_wp2_with fail
 have SL : Value.string ((⟨#[50]⟩ : ByteArray) ++ ⟨#[32,119,111,114,108,100,115]⟩) = str [50,32,119,111,114,108,100,115]:=rfl
 rw [SL]
 have O2 : Hid (aI w.heap.size ((w1.alloc (.cells #[str [50,32,119,111,114,108,100,115]] 9)).alloc (.cells #[str [80],.int .i64 0,.int .i64 2] 102)) [[50,32,119,111,114,108,100,115]] (.slice (some ⟨w1.heap.size,0,none⟩) 1 1)):=by
  have:=(sX w1 [50,32,119,111,114,108,100,115]).mono B1.out.size
  exact aI.below this bnew
 have B2 : Hid (Below w.heap.size w ((w1.alloc (.cells #[str [50,32,119,111,114,108,100,115]] 9)).alloc (.cells #[str [80],.int .i64 0,.int .i64 2] 102))):=(B1.out.alloc B1.out.size _).alloc (by have:=B1.out.size;simp;omega) _
 have BX2 : Hid (((w1.alloc (.cells #[str [50,32,119,111,114,108,100,115]] 9)).alloc (.cells #[str [80],.int .i64 0,.int .i64 2] 102)).heap[w.heap.size]? = some (.cells #[.int .u8 4,.int .i64 2,.slice (some ⟨b,0,none⟩) 2 2,.int .i64 0,.slice (some ⟨fb,0,none⟩) 1 1,.slice none 0 0,.slice none 0 0] 34)):=by
  show _ = _;rw [heap_alloc_old _ _ (by simp;omega),heap_alloc_old _ _ z1];exact BX1.out
 have p0 : ((w1.alloc (.cells #[str [50,32,119,111,114,108,100,115]] 9)).alloc (.cells #[str [80],.int .i64 0,.int .i64 2] 102)).cell? ⟨w1.heap.size + 1,0,none⟩ = some (str [80]):=by simp [go_sem]
 have p2 : ((w1.alloc (.cells #[str [50,32,119,111,114,108,100,115]] 9)).alloc (.cells #[str [80],.int .i64 0,.int .i64 2] 102)).cell? ⟨w1.heap.size + 1,2,none⟩ = some (.int .i64 2):=by simp [go_sem]
 generalize hW2 : (w1.alloc (.cells #[str [50,32,119,111,114,108,100,115]] 9)).alloc (.cells #[str [80],.int .i64 0,.int .i64 2] 102) = W2 at *
 clear hW2 SL g0 g4 f0 f1 f2 zf
 have zb : w1.heap.size + 1 < W2.heap.size:=World.block_lt_of_cell? W2 ⟨w1.heap.size + 1,0,none⟩ p0
 have D2 : Hid (Below W2.heap.size W2 W2.drew):=(Below.refl _ _).drew
 have N1 : numbers [1] = [49]:=by simp [numbers,aT,Lib.itoa,Lib.decDigits]
 have SP : Hid (Value.string ((⟨#[80]⟩ : ByteArray) ++ ⟨#[32,105,115,32,116,114,117,101,32,97,116,32]⟩ ++ ⟨#[49]⟩) = str [80,32,105,115,32,116,114,117,101,32,97,116,32,49]):=rfl
 go_region_law (first
  | (go_simp;go_at_call 71;refine (IU _).mono ?_;rintro e w3 ⟨v3,rfl,i3,b3⟩;obtain ⟨y,yn,yc,rfl⟩:=dZ.slice i3;have I3:=Hd i3;have B3:=Hd (D2.out.trans (b3.mono D2.out.size));have t0:=aA B3.out _ _ p0;clear i3 b3;go_simp)
  | (go_simp;go_at_call 70;refine (qC [1] (by decide) (by decide) _ _ _ _ (HP.out.below (B2.out.trans (B3.out.mono B2.out.size))) I3.out).mono ?_;rintro e w4 ⟨rfl,b4⟩;have B4:=Hd (B3.out.trans (b4.mono B3.out.size));have s0:=aA B4.out _ _ p0;have O4:=Hd (aI.below O2.out B4.out);clear b4;go_simp)
  | (refine iH rfl _ _ 36 rfl w.heap.size 9 i0 (.string ⟨#[]⟩) 1 16 Tryz.underlying36 hi0 hz0 hs0 hb0 rfl (by decide) _ _ _ rfl (O4.out.alloc _) ⟨w4.heap.size,0,none⟩ 1 1 [.string (⟨#[80]⟩ ++ ⟨#[32,105,115,32,116,114,117,101,32,97,116,32]⟩ ++ ⟨#[49]⟩)] rfl rfl (cell_one_new _ _ _) (by intro u hu;simp at hu;subst hu;rfl) (by decide) (by decide) (by have:=B2.out.size;have:=B4.out.size;simp;omega) ?_;intro v5 w5 hown5 hg5 _;have B5 : Hid (Below w.heap.size w w5):=((B2.out.trans (B4.out.mono B2.out.size)).alloc (by have:=B2.out.size;have:=B4.out.size;omega) _).grown hg5 (by have:=B2.out.size;have:=B4.out.size;simp;omega) (fun kk hkk=>(O4.out.lt kk hkk).1);have O5 : Hid (aI w.heap.size w5 (fH.take 2) v5):=(by rw [SP.out] at hown5;exact hown5);have BX5 : Hid (w5.heap[w.heap.size]? = some (.cells #[.int .u8 4,.int .i64 2,.slice (some ⟨b,0,none⟩) 2 2,.int .i64 0,.slice (some ⟨fb,0,none⟩) 1 1,.slice none 0 0,.slice none 0 0] 34)):=(by rw [hg5.block w.heap.size (by have:=B4.out.size;simp;omega) (fun e=>by have:=Option.some.inj (show some w.heap.size = some w1.heap.size from e);omega),heap_alloc_old _ _ (show w.heap.size < w4.heap.size by have:=B4.out.size;omega),B4.out.block w.heap.size (by omega)];exact BX2.out);clear hown5 hg5))
 all_goals
  have R5:=Hd (And.intro O5.out (And.intro B5.out BX5.out))
  clear O5 B5 BX5 O4 B4 I3 B3 N1
  go_wp2_with fail
  rw [rounds_succ]
  have x2 : w5.cell? ⟨w.heap.size,2,none⟩ = some (.slice (some ⟨b,0,none⟩) 2 2):=by rw [box_cell R5.out.2.2];rfl
  obtain ⟨y0,y1⟩:=H.out.keep (aA R5.out.2.1)
  go_wp2_with fail
  refine wp_loop_rounds 3 ?_
  rw [rounds_succ]
  have E0 : Lib.itoa 0 = [48]:=by simp [Lib.itoa,Lib.decDigits]
  have E1 : Lib.itoa 1 = [49]:=by simp [Lib.itoa,Lib.decDigits]
  have N1 : numbers [1] = [49]:=by simp [numbers,aT,Lib.itoa,Lib.decDigits]
  have N0 : numbers [] = pQ:=rfl
  go_wp2_with fail
  refine (mC 0 (by decide) (by decide) _ (HP.out.below R5.out.2.1)).mono ?_
  rintro e w6 ⟨rfl,b6⟩
  rw [E0]
  have B6:=Hd b6
  clear b6 y0
  go_wp2_with fail
  refine (IU _).mono ?_
  rintro e w7 ⟨v7,rfl,i7,b7⟩
  obtain ⟨y,yn,yc,rfl⟩:=dZ.slice i7
  have I7:=Hd i7
  have B7:=Hd (B6.out.trans (b7.mono B6.out.size))
  clear i7 b7
  go_wp2_with fail
  refine (qC [1] (by decide) (by decide) _ _ _ _ (HP.out.below (R5.out.2.1.trans (B7.out.mono R5.out.2.1.size))) I7.out).mono ?_
  rintro e w8 ⟨rfl,b8⟩
  rw [N1]
  have B8:=Hd (B7.out.trans (b8.mono B7.out.size))
  have O8:=Hd (aI.below R5.out.1 B8.out)
  have W8 : Hid (Below w.heap.size w w8):=R5.out.2.1.trans (B8.out.mono R5.out.2.1.size)
  have L8 : Hid ((fH.take 2).length = 2):=rfl
  have SS : Hid (Value.string ((⟨#[48]⟩ : ByteArray) ++ ⟨#[32,115,101,101,115,32]⟩ ++ ⟨#[49]⟩) = str [48,32,115,101,101,115,32,49]):=rfl
  clear b8
  go_wp2_with (at_builtin;refine wpList_append_own _ rfl _ _ 36 rfl w.heap.size 9 i0 (.string ⟨#[]⟩) 1 16 Tryz.underlying36 hi0 hz0 hs0 hb0 rfl (by decide) _ _ _ rfl (O8.out.alloc _) ⟨w8.heap.size,0,none⟩ 1 1 [.string (⟨#[48]⟩ ++ ⟨#[32,115,101,101,115,32]⟩ ++ ⟨#[49]⟩)] rfl rfl (cell_one_new _ _ _) (by intro u hu;simp at hu;subst hu;rfl) (by decide) (by decide) (by have:=W8.out.size;simp;omega) ?_)
  intro v9 w9 hown9 hg9 _
  have B9 : Hid (Below w.heap.size w w9):=(W8.out.alloc W8.out.size _).grown hg9 (by have:=W8.out.size;simp;omega) (fun kk hkk=>(O8.out.lt kk hkk).1)
  have O9 : Hid (aI w.heap.size w9 (fH.take 3) v9):=by rw [SS.out] at hown9;exact hown9
  obtain ⟨_,y1⟩:=H.out.keep (aA B9.out)
  clear hown9 hg9
  go_wp2_with fail
  rw [rounds_succ]
  go_wp2_with fail
  refine (mC 1 (by decide) (by decide) _ (HP.out.below B9.out)).mono ?_
  rintro e w10 ⟨rfl,b10⟩
  rw [E1]
  have B10:=Hd b10
  clear b10
  go_wp2_with (go_at_call 71;refine (bits0_c _).mono ?_;rintro e w11 ⟨rfl,rfl⟩)
  refine (qC [] (by simp) (by decide) _ _ _ _ (HP.out.below (B9.out.trans (B10.out.mono B9.out.size))) (At.sl_nil (Nat.zero_le _))).mono ?_
  rintro e w12 ⟨rfl,b12⟩
  rw [N0]
  have B12:=Hd (B10.out.trans (b12.mono B10.out.size))
  have O12:=Hd (aI.below O9.out B12.out)
  have W12 : Hid (Below w.heap.size w w12):=B9.out.trans (B12.out.mono B9.out.size)
  have ST : Hid (Value.string ((⟨#[49]⟩ : ByteArray) ++ ⟨#[32,115,101,101,115,32]⟩ ++ ⟨#[110,111,116,104,105,110,103]⟩) = str [49,32,115,101,101,115,32,110,111,116,104,105,110,103]):=rfl
  clear b12
  unfold pQ
  go_wp2_with (at_builtin;refine wpList_append_own _ rfl _ _ 36 rfl w.heap.size 9 i0 (.string ⟨#[]⟩) 1 16 Tryz.underlying36 hi0 hz0 hs0 hb0 rfl (by decide) _ _ _ rfl (O12.out.alloc _) ⟨w12.heap.size,0,none⟩ 1 1 [.string (⟨#[49]⟩ ++ ⟨#[32,115,101,101,115,32]⟩ ++ ⟨#[110,111,116,104,105,110,103]⟩)] rfl rfl (cell_one_new _ _ _) (by intro u hu;simp at hu;subst hu;rfl) (by decide) (by decide) (by have:=W12.out.size;simp;omega) ?_)
  intro v13 w13 hown13 hg13 _
  have B13 : Hid (Below w.heap.size w w13):=(W12.out.alloc W12.out.size _).grown hg13 (by have:=W12.out.size;simp;omega) (fun kk hkk=>(O12.out.lt kk hkk).1)
  have O13 : Hid (aI w.heap.size w13 fH v13):=by rw [ST.out] at hown13;exact hown13
  clear hown13 hg13
  go_wp2_with fail
  rw [rounds_succ]
  go_wp2_with fail
  go_ret2
  exact ⟨_,rfl,O13.out,B13.out⟩
end Go.Proofs.YtcandidgaegghaaGreatDoor
