/- describe.Model at structures. Conditions: the structure is right; its names are short. -/
import Derived.Test.YtcandidgaegghaaGreatDoorCpZ
import Derived.Test.YtcandidgaegghaaGreatDoorNdKZ
import Derived.Test.YtcandidgaegghaaGreatDoorNdDZ
import Derived.Test.YtcandidgaegghaaGreatDoorMdZZ
import Derived.Test.YtcandidgaegghaaGreatDoorTxBZ
import Derived.Test.YtcandidgaegghaaGreatDoorNdEZ
import Derived.Test.YtcandidgaegghaaGreatDoorNdJZ
set_option maxRecDepth 10000
set_option linter.unusedSimpArgs false
set_option linter.unusedVariables false
namespace Go.Proofs.YtcandidgaegghaaGreatDoor
open Go Go.RowKit Go.Sort Ly
set_option maxHeartbeats 4000000
theorem model16_2 (F : List Fa) (G : List Fu) (B : List Bi) (zn : Nat) (ok : xL F G B zn) (lo : Int) (ra fa ga ba : Option Addr) (rn rc fn fc gn gc bn bc : Nat) (w : World) (hx : aM w 3 (fasV F) F.length (.slice fa fn fc)) (hg : fZ w G (.slice ga gn gc)) (hy : aM w 2 (bisV B) B.length (.slice ba bn bc)) (hp : gP w)
  (hV : ∀ W,Below w.heap.size w W → Calls Tryz.prog 65 #[lgV 2 1022,mdK 2 zn ra rn rc lo fa fn fc ga gn gc ba bn bc] W (Rt (.bool true) W)) :
  Calls Tryz.prog 16 #[mdK 2 zn ra rn rc lo fa fn fc ga gn gc ba bn bc] w (eV ([Lib.itoa (zn : Int) ++ cO] ++ (F.map (bL zn) ++ G.flatMap bB ++ B.map cD)) w):=by
 have HP:=Hd hp
 have zb3:=ok.z3
 have zi0 : (0 : Int) ≤ (zn : Int):=by omega
 have zi1 : (zn : Int) ≤ 1000000:=by omega
 have iz:=bC zi0 zi1
 have ST : Hid (∀ W,Below w.heap.size w W → Calls Tryz.prog 69 #[mdK 2 zn ra rn rc lo fa fn fc ga gn gc ba bn bc] W (eL (F.map (bL zn) ++ G.flatMap bB ++ B.map cD) W)):=fun W hW=>structure_c F G B zn ok lo ra fa ga ba rn rc fn fc gn gc bn bc W (hx.keep (aC hW)) (hg.keep (aC hW)) (hy.keep (aC hW)) (hp.below hW)
 have LN : Hid ((F.map (bL zn) ++ G.flatMap bB ++ B.map cD).length ≤ 100):=by
  show _ ≤ _
  have h1 : ∀ l : List Fu,(∀ f ∈ l,f.value.length ≤ 3) → (l.flatMap bB).length ≤ l.length * 3:=by
   intro l hl
   induction l with
   | nil=>simp
   | cons f l ih =>
    have h2:=ih (fun g hg=>hl g (by simp [hg]))
    have h3:=hl f (by simp)
    simp only [List.flatMap_cons,List.length_append,List.length_cons,bB,List.length_map,List.length_range] at h2 ⊢
    omega
  have h2:=h1 G (fun f hf=>by have:=(ok.aG f hf).1;omega)
  have h3:=ok.gl
  have h4:=ok.fl
  have h5:=ok.bl
  simp only [List.length_append,List.length_map]
  omega
 generalize F.map (bL zn) ++ G.flatMap bB ++ B.map cD = LL at *
 have HV:=Hd hV
 have BX : Hid ((w.alloc (mdR 2 zn ra rn rc lo fa fn fc ga gn gc ba bn bc)).heap[w.heap.size]? = some (mdR 2 zn ra rn rc lo fa fn fc ga gn gc ba bn bc)):=heap_alloc_new w _
 have WB : Hid (Below w.heap.size w (w.alloc (mdR 2 zn ra rn rc lo fa fn fc ga gn gc ba bn bc))):=bnew
 clear hV hp hx hg hy ok
 go_enter Tryz.func16,Tryz.ntmps16
 go_wp2_with fail
 generalize hW : w.alloc (mdR 2 zn ra rn rc lo fa fn fc ga gn gc ba bn bc) = W at *
 clear hW
 have cA : Hid (∀ d os,Calls Tryz.prog 66 #[.int .u8 2] (grow (redrawn W d) os) fun e w''=>e = .returned (.int .u32 1022) ∧ ∃ p : Regrown,w'' = grow (redrawn W p.d) p.os):=fun d os=>Calls.regrown_of (hI 2 _)
 have cV : Hid (∀ d os,Calls Tryz.prog 65 #[lgV 2 1022,mdK 2 zn ra rn rc lo fa fn fc ga gn gc ba bn bc] (grow (redrawn W d) os) fun e w''=>e = .returned (.bool true) ∧ ∃ p : Regrown,w'' = grow (redrawn W p.d) p.os):=fun d os =>
  Calls.regrown_of (HV.out _ (aA WB.out (below_regrown W d os)))
 obtain ⟨⟨k0,k1,k2,k3,k4,k5,k6⟩,-⟩:=aK BX.out
 have r0:=cell_regrown k0;have r1:=cell_regrown k1;have r2:=cell_regrown k2;have r3:=cell_regrown k3;have r4:=cell_regrown k4;have r5:=cell_regrown k5;have r6:=cell_regrown k6
 refine wqb ?_
 repeat (go_big_quiet_step (first | (go_at_call 66;exact cA.out _ _) | (go_at_call 65;exact cV.out _ _)))
 refine wpQuiet_nil ?_
 intro wq hw'
 have WQ : Hid (Below W.heap.size W wq):=by
  obtain ⟨⟨dq,osq⟩,hw''⟩:=hw'
  rw [hw''];exact below_regrown W dq osq
 clear hw' r0 r1 r2 r3 r4 r5 r6 cA cV k0 k1 k2 k3 k4 k5 k6
 have BQ:=Hd (aA WB.out WQ.out)
 have BXq:=Hd (kc WQ.out BX.out)
 obtain ⟨⟨k0,k1,k2,k3,k4,k5,k6⟩,-⟩:=aK BXq.out
 have SH : Hid (Value.string ((⟨(Lib.itoa (zn : Int)).toArray⟩ : ByteArray) ++ ⟨#[32,101,108,101,109,101,110,116,115]⟩) = str (Lib.itoa (zn : Int) ++ cO)):=by show _ = _;simp only [str,cO,Value.string.injEq];apply ByteArray.ext;simp
 go_wp2_with (first | (go_at_call 35;refine (eH (zn : Int) zi0 zi1 _ (HP.out.below BQ.out)).mono ?_;rintro e w1 ⟨rfl,b1⟩;have B1:=Hd (aA BQ.out b1);have BX1:=Hd (kc b1 BXq.out);clear b1 k0 k1 k2 k3 k4 k5 k6;have z1 : w.heap.size < w1.heap.size:=(Array.getElem?_eq_some_iff.1 BX1.out).1;have B2 : Hid (Below w.heap.size w (w1.alloc (.cells #[.string ((⟨(Lib.itoa (zn : Int)).toArray⟩ : ByteArray) ++ ⟨#[32,101,108,101,109,101,110,116,115]⟩)] 9))):=B1.out.alloc B1.out.size _;obtain ⟨⟨k0,k1,k2,k3,k4,k5,k6⟩,-⟩:=aK BX1.out) | (go_at_call 69;refine (ST.out _ B2.out).mono ?_;rintro e w3 ⟨v3,rfl,o3,b3⟩;obtain ⟨y3,e3,rfl⟩:=bN o3;have O3:=Hd o3;have B3:=Hd (aA B2.out b3);have Z3:=Hd b3;clear o3 b3))
 have O1 : Hid (aD w1.heap.size (w1.alloc (.cells #[.string ((⟨(Lib.itoa (zn : Int)).toArray⟩ : ByteArray) ++ ⟨#[32,101,108,101,109,101,110,116,115]⟩)] 9)) [Lib.itoa (zn : Int) ++ cO] (.slice (some ⟨w1.heap.size,0,none⟩) 1 1)):=by
  have h:=gI w1 (Lib.itoa (zn : Int) ++ cO)
  show aD _ _ _ _
  rw [SH.out];exact h
 have LS : Hid (eJ (w3.alloc (.cells #[.slice (some ⟨w1.heap.size,0,none⟩) 1 1,.slice y3 LL.length e3] 36)) [[Lib.itoa (zn : Int) ++ cO],LL] (.slice (some ⟨w3.heap.size,0,none⟩) 2 2)):=by
  have n3:=heap_alloc_new w3 (.cells #[.slice (some ⟨w1.heap.size,0,none⟩) 1 1,.slice y3 LL.length e3] 36)
  have bz : Below w3.heap.size w3 (w3.alloc (.cells #[.slice (some ⟨w1.heap.size,0,none⟩) 1 1,.slice y3 LL.length e3] 36)):=bnew
  exact jR ((aJ n3 0).trans rfl) ((aJ n3 1).trans rfl) (aD.below (aD.below O1.out Z3.out) bz).strsAt (aD.below O3.out bz).strsAt
 have TOT : Hid (([[Lib.itoa (zn : Int) ++ cO],LL] : List (List Bs)).flatten.length * 16 ≤ 140737488355328):=by
  have h1:=LN.out
  show _ ≤ _
  simp only [List.flatten_cons,List.flatten_nil,List.length_append,List.length_cons,List.length_nil]
  omega
 have B4 : Hid (Below w.heap.size w (w3.alloc (.cells #[.slice (some ⟨w1.heap.size,0,none⟩) 1 1,.slice y3 LL.length e3] 36))):=B3.out.alloc B3.out.size _
 refine (tV [[Lib.itoa (zn : Int) ++ cO],LL] _ _ _ _ LS.out TOT.out).mono ?_
 rintro e w5 ⟨v5,rfl,o5,b5⟩
 have R : Hid (aD w.heap.size w5 ([Lib.itoa (zn : Int) ++ cO] ++ LL) v5 ∧ Below w.heap.size w w5):=by
  refine ⟨?_,aA B4.out b5⟩
  have h:=o5.mono (B':=w.heap.size) B4.out.size
  simpa using h
 clear o5 b5
 go_wp2_with fail
 go_ret2
 exact ⟨_,rfl,R.out.1,R.out.2⟩
open Go Go.RowKit Go.Sort Ly
theorem pred_len {s : Bs} (h : aY s = true) : s.length ≤ 16:=eQ h
theorem lV {F : List Fa} (h : dP (F.map Fa.name) = true) : ∀ x ∈ F,x.name.length ≤ 1000:=by
 intro x hx
 obtain ⟨j,hj⟩:=List.getElem?_of_mem hx
 unfold dP at h
 rw [aT] at h
 have hlt:=(List.getElem?_eq_some_iff.1 hj).1
 have h2:=h j (by simpa using hlt)
 have e : (F.map Fa.name)[j]? = some x.name:=by simp [hj]
 unfold dO at h2
 rw [e] at h2
 simp only [Bool.and_eq_true] at h2
 have:=pred_len h2.1
 omega
theorem rO {F : List Fa} {lim : Int} (h : aI F.length (dK F lim) = true) : ∀ x ∈ F,x.args = 0 ∧ 0 ≤ x.tru ∧ x.tru < lim:=by
 intro x hx
 obtain ⟨j,hj⟩:=List.getElem?_of_mem hx
 rw [aT] at h
 have h2:=h j (List.getElem?_eq_some_iff.1 hj).1
 rw [dE hj] at h2
 simpa using h2
theorem rel_all {R : List Int} (h : relB R = true) : ∀ x ∈ R,0 ≤ x ∧ x < 65536:=by
 intro x hx
 obtain ⟨j,hj⟩:=List.getElem?_of_mem hx
 have h1:=dA h
 have h2:=h1.2 j (List.getElem?_eq_some_iff.1 hj).1
 rw [cW hj] at h2
 have:=sD h1.1.2
 exact ⟨h2.1,by omega⟩
theorem uY {F : List Fa} {z lo : Int} {rn gn bn : Nat} (h : kF F z lo rn gn bn = true) : (∀ x ∈ F,x.name.length ≤ 1000) ∧ (∀ x ∈ F,x.args = 0) ∧ z = 1 ∧ rn = 0 ∧ gn = 0 ∧ bn = 0:=by
 unfold kF at h
 simp only [Bool.and_eq_true,decide_eq_true_eq] at h
 obtain ⟨h1,⟨h2,-,h3,h4,h5,-⟩,h6⟩:=h
 exact ⟨lV h6,fun x hx=>(rO h1 x hx).1,h2,h3,h4,h5⟩
theorem vA {F : List Fa} {z lo : Int} {rn gn bn : Nat} (hF : F.length ≤ 12) (h : dW F z lo rn gn bn = true) : kI F [] ∧ (0 ≤ z ∧ z ≤ 1000000) ∧ (0 ≤ lo ∧ lo ≤ 1000000) ∧ rn = 0 ∧ gn = 0 ∧ bn = 0:=by
 unfold dW at h
 simp only [Bool.and_eq_true,decide_eq_true_eq] at h
 obtain ⟨⟨h1,h2,h3,h4⟩,h5,⟨h6,h7,h8⟩,h9⟩:=h
 have hp : (2 : Int) ^ z.toNat ≤ 2 ^ 5:=by exact_mod_cast Nat.pow_le_pow_right (by decide : 0 < 2) (show z.toNat ≤ 5 by omega)
 refine ⟨⟨hF,by simp,lV h5,fun x hx=>?_,by simp⟩,⟨by omega,by omega⟩,⟨by omega,by omega⟩,h6,h7,h8⟩
 have:=(rO h9 x hx).2
 omega
theorem lX {κ : Int} {F : List Fa} {z lo : Int} {R : List Int} {gn bn : Nat} (hF : F.length ≤ 12) (hR : R.length ≤ 8) (h : eC κ F z lo R gn bn = true) : kI F R ∧ (0 ≤ z ∧ z ≤ 1000000) ∧ gn = 0 ∧ bn = 0 ∧ lo = 0:=by
 unfold eC at h
 simp only [Bool.and_eq_true,decide_eq_true_eq] at h
 obtain ⟨h1,h2,h3,⟨h4,h5,h6⟩,h7,-⟩:=h
 have hr:=dA h2
 have hp:=sD hr.1.2
 refine ⟨⟨hF,hR,lV h3,fun x hx=>?_,rel_all h2⟩,⟨by omega,by omega⟩,h4,h5,h6⟩
 have h8 : aI F.length (dK F (2 ^ R.length)) = true:=by
  rw [aT] at h7 ⊢
  intro j hj
  have:=h7 j hj
  unfold frAt at this
  rw [Bool.and_eq_true] at this
  exact this.1
 have:=(rO h8 x hx).2
 omega
open Go Go.RowKit Go.Sort Ly
theorem uS {ok : Bs → Bool} {mx : Int} {l : List Bi} (hok : ∀ s,ok s = true → s.length ≤ 16) (h : aI l.length (dI ok mx l) = true) : ∀ x ∈ l,x.name.length ≤ 1000:=by
 intro x hx
 obtain ⟨j,hj⟩:=List.getElem?_of_mem hx
 rw [aT] at h
 have h2:=h j (List.getElem?_eq_some_iff.1 hj).1
 unfold dI at h2
 rw [hj] at h2
 simp only [Bool.and_eq_true] at h2
 have:=hok _ h2.1.1
 omega
theorem rise_names {ok : Bs → Bool} {l : List Bs} (hok : ∀ s,ok s = true → s.length ≤ 16) (h : aI l.length (fL ok l) = true) : ∀ x ∈ l,x.length ≤ 1000:=by
 intro x hx
 obtain ⟨j,hj⟩:=List.getElem?_of_mem hx
 rw [aT] at h
 have h2:=h j (List.getElem?_eq_some_iff.1 hj).1
 unfold fL at h2
 rw [hj] at h2
 simp only [Bool.and_eq_true] at h2
 have:=hok _ h2.1
 omega
theorem uZ {F : List Fa} {G : List Fu} {B : List Bi} {z lo : Int} {rn : Nat} (hF : F.length ≤ 12) (hG : G.length ≤ 12) (hB : B.length ≤ 12) (h : finB F G B z lo rn = true) : xL F G B z.toNat ∧ z = (z.toNat : Int) ∧ rn = 0 ∧ lo = 0:=by
 unfold finB at h
 simp only [Bool.and_eq_true,decide_eq_true_eq] at h
 obtain ⟨⟨h1,h2,h3,h4⟩,hs,hf,hg,hb⟩:=h
 have hs0:=hs
 unfold sigB at hs
 simp only [Bool.and_eq_true] at hs
 obtain ⟨s1,s2,s3⟩:=hs
 have ez : z = (z.toNat : Int):=by omega
 refine ⟨⟨by omega,by omega,hF,hG,hB, ?_, ?_, ?_, ?_, ?_, ?_⟩,ez,h3,h4⟩
 ·intro x hx
  exact uS (fun s h=>eQ h) s1 ⟨x.name,x.args⟩ (List.mem_map.2 ⟨x,hx,rfl⟩)
 ·intro x hx
  exact uS (fun s h=>eQ h) s2 ⟨x.name,x.args⟩ (List.mem_map.2 ⟨x,hx,rfl⟩)
 ·intro x hx
  exact rise_names (fun s h=>eQ h) s3 x.name (List.mem_map.2 ⟨x,hx,rfl⟩)
 ·intro x hx
  obtain ⟨j,hj⟩:=List.getElem?_of_mem hx
  have ha:=wX hs0 hj
  rw [aT] at hf
  have h5:=hf j (List.getElem?_eq_some_iff.1 hj).1
  rw [lJ hj] at h5
  simp only [Bool.and_eq_true,decide_eq_true_eq] at h5
  have hp:=yK h1 h2 ha.1 ha.2
  have hq : (2 : Int) ^ (powZ z x.args).toNat ≤ 2 ^ 9:=by exact_mod_cast Nat.pow_le_pow_right (by decide : 0 < 2) (show (powZ z x.args).toNat ≤ 9 by omega)
  refine ⟨by omega,h5.1,by omega,fun e=>?_⟩
  have e2 : (powZ z x.args).toNat = z.toNat * z.toNat:=by
   rw [e]
   rcases (show z = 1 ∨ z = 2 ∨ z = 3 by omega) with rfl | rfl | rfl <;> decide
  rw [e2] at h5
  exact h5.2
 ·intro x hx
  obtain ⟨j,hj⟩:=List.getElem?_of_mem hx
  have ha:=wY hs0 hj
  rw [aT] at hg
  have h5:=hg j (List.getElem?_eq_some_iff.1 hj).1
  rw [lK hj] at h5
  simp only [Bool.and_eq_true,decide_eq_true_eq] at h5
  have hv : ∀ y ∈ x.value,0 ≤ y ∧ y < 3:=by
   intro y hy
   obtain ⟨i,hi⟩:=List.getElem?_of_mem hy
   have h6:=aT.1 h5.2 i (List.getElem?_eq_some_iff.1 hi).1
   rw [pW hi] at h6
   simp only [Bool.and_eq_true,decide_eq_true_eq] at h6
   omega
  refine ⟨?_,hv⟩
  rcases (show x.args = 0 ∨ x.args = 1 by omega) with e | e
  ·left
   refine ⟨e, ?_⟩
   have:=h5.1
   rw [e] at this
   have e3 : powZ z 0 = 1:=by simp [powZ]
   omega
  ·right
   refine ⟨e, ?_⟩
   have:=h5.1
   rw [e] at this
   have e3 : powZ z 1 = z:=by
    show z ^ 1 = z
    rw [Int.pow_succ];simp
   omega
 ·intro x hx
  obtain ⟨j,hj⟩:=List.getElem?_of_mem hx
  rw [aT] at hb
  have h5:=hb j (List.getElem?_eq_some_iff.1 hj).1
  rw [lI hj] at h5
  simp only [Bool.and_eq_true,decide_eq_true_eq] at h5
  omega
open Go Go.RowKit Go.Sort Ly
def lnOf (m : Md) : List Bs:=if fU m then iS m else []
def cdOf (m : Md) : Int:=if fU m then 0 else 2
def tC (m : Md) (w : World) (e : Ending) (w' : World) : Prop:=∃ v,e = .returned (.tuple #[v,.int .i64 (cdOf m)]) ∧ aD w.heap.size w' (lnOf m) v ∧ Below w.heap.size w w'
theorem wO {m : Md} (h : fU m = false) {w w' : World} {e : Ending} (hh : e = .returned (.tuple #[.slice none 0 0,.int .i64 2]) ∧ Below w.heap.size w w') : tC m w e w':=by
 have e1 : cdOf m = 2:=by simp [cdOf,h]
 have e2 : lnOf m = []:=by simp [lnOf,h]
 unfold tC
 rw [e1,e2]
 exact ⟨.slice none 0 0,hh.1,World.ownsRow_nil _ _ _ _,hh.2⟩
theorem fT {m : Md} (h : fU m = true) {L : List Bs} (hL : iS m = L) {w w' : World} {e : Ending} (hh : eV L w e w') : tC m w e w':=by
 obtain ⟨v,he,ho,hb⟩:=hh
 refine ⟨v, ?_, ?_,hb⟩
 ·rw [he];simp [cdOf,h]
 ·rw [show lnOf m = L by simp [lnOf,h,hL]];exact ho
theorem eT {α : Type} {l : List α} (h : l.length = 0) : l = []:=List.eq_nil_of_length_eq_zero h
theorem wJ (z lo : Int) (F : List Fa) : iS ⟨1,z,[],lo,F,[],[]⟩ = F.map cN:=by simp [iS,pV,kY,dV]
theorem wK (z lo : Int) (F : List Fa) (G : List Fu) (B : List Bi) : iS ⟨2,z,[],lo,F,G,B⟩ = [Lib.itoa z ++ cO] ++ (F.map (bL z.toNat) ++ G.flatMap bB ++ B.map cD):=by simp [iS,pV,kY,dV]
theorem wL (z lo : Int) (R : List Int) (F : List Fa) : iS ⟨3,z,R,lo,F,[],[]⟩ = [Lib.itoa z ++ cE] ++ F.map bF ++ dV R:=by simp [iS,pV,kY]
theorem wM (z lo : Int) (R : List Int) (F : List Fa) : iS ⟨4,z,R,lo,F,[],[]⟩ = [Lib.itoa z ++ cE] ++ F.map bF ++ dV R:=by simp [iS,pV,kY]
theorem wN (z lo : Int) (F : List Fa) : iS ⟨5,z,[],lo,F,[],[]⟩ = [Lib.itoa z ++ fX ++ Lib.itoa lo] ++ F.map bF ++ dV []:=by simp [iS,pV,kY]
theorem Model16_any (m : Md) (hm : vN m) (ra fa ga ba : Option Addr) (rn rc fn fc gn gc bn bc : Nat) (w : World) (hx : MdAt w m ra rn rc fa fn fc ga gn gc ba bn bc) (hp : gP w) :
  Calls Tryz.prog 16 #[mdV m ra rn rc fa fn fc ga gn gc ba bn bc] w (tC m w):=by
 have hV : ∀ W,Below w.heap.size w W → Calls Tryz.prog 65 #[lgV m.kind (iA m.kind),mdV m ra rn rc fa fn fc ga gn gc ba bn bc] W (Rt (.bool (fU m)) W):=fun W hW=>holdsValid_c m hm ra fa ga ba rn rc fn fc gn gc bn bc W (hx.keep (aC hW))
 cases hv : fU m with
 | false =>
  rw [hv] at hV
  exact (model16_no m.kind (iA m.kind) m.size m.loop ra fa ga ba rn rc fn fc gn gc bn bc w (fun W=>hI m.kind W) hV).mono fun e w' h=>wO hv h
 | true =>
  rw [hv] at hV
  obtain ⟨κ,z,R,lo,F,G,B⟩:=m
  obtain ⟨h1,h2,h3,h4,n1,n2,n3⟩:=hm
  simp only [] at h1 h2 h3 h4 n1 n2 n3
  have hv0:=hv
  unfold fU at hv0
  simp only [] at hv0
  by_cases e1 : κ = 1
  ·subst e1
   rw [if_pos rfl] at hv0
   obtain ⟨o1,o2,o3,o4,o5,o6⟩:=uY hv0
   obtain rfl:=eT o4;obtain rfl:=eT o5;obtain rfl:=eT o6
   exact (model16_1 F h1 o1 z lo ra fa ga ba rn rc fn fc gn gc bn bc w (by omega) (by omega) hx.facts hp hV).mono fun e w' h=>fT hv (wJ z lo F) h
  by_cases e2 : κ = 2
  ·subst e2
   rw [if_neg (by decide),if_pos rfl] at hv0
   obtain ⟨o1,o2,o3,o4⟩:=uZ h1 h2 h3 hv0
   obtain rfl:=eT o3
   have hL:=wK z lo F G B
   obtain ⟨zn,hzn⟩ : ∃ zn,z.toNat = zn:=⟨_,rfl⟩
   rw [hzn] at o1 o2 hL
   subst o2
   exact (model16_2 F G B zn o1 lo ra fa ga ba rn rc fn fc gn gc bn bc w hx.facts hx.funcs hx.binds hp hV).mono fun e w' h=>fT hv hL h
  by_cases e3 : κ = 3
  ·subst e3
   rw [if_neg (by decide),if_neg (by decide),if_pos rfl] at hv0
   obtain ⟨o1,o2,o3,o4,o5⟩:=lX h1 h4 hv0
   obtain rfl:=eT o3;obtain rfl:=eT o4
   exact (model16_3 F R z lo o1 o2.1 o2.2 (by omega) (by omega) ra fa ga ba rn rc fn fc gn gc bn bc w hx.facts hx.rel hp hV).mono fun e w' h=>fT hv (wL z lo R F) h
  by_cases e4 : κ = 4
  ·subst e4
   rw [if_neg (by decide),if_neg (by decide),if_neg (by decide),if_pos rfl] at hv0
   obtain ⟨o1,o2,o3,o4,o5⟩:=lX h1 h4 hv0
   obtain rfl:=eT o3;obtain rfl:=eT o4
   exact (model16_4 F R z lo o1 o2.1 o2.2 (by omega) (by omega) ra fa ga ba rn rc fn fc gn gc bn bc w hx.facts hx.rel hp hV).mono fun e w' h=>fT hv (wM z lo R F) h
  by_cases e5 : κ = 5
  ·subst e5
   rw [if_neg (by decide),if_neg (by decide),if_neg (by decide),if_neg (by decide),if_pos rfl] at hv0
   obtain ⟨o1,o2,o3,o4,o5,o6⟩:=vA h1 hv0
   obtain rfl:=eT o4;obtain rfl:=eT o5;obtain rfl:=eT o6
   exact (model16_5 F [] z lo o1 o2.1 o2.2 o3.1 o3.2 ra fa ga ba rn rc fn fc gn gc bn bc w hx.facts hx.rel hp hV).mono fun e w' h=>fT hv (wN z lo F) h
  rw [if_neg e1,if_neg e2,if_neg e3,if_neg e4,if_neg e5] at hv0
  cases hv0
open Go Go.RowKit Go.Sort Ly
set_option maxHeartbeats 4000000
theorem eB (n : Int) (h0 : 0 ≤ n) (h1 : n ≤ 1000000) (w : World) : Calls Tryz.prog 73 #[.int .i64 n] w fun e w'=>e = .returned (str (Lib.itoa n)) ∧ w = w':=by
 obtain ⟨N,rfl⟩ : ∃ N : Nat,n = (N : Int):=⟨n.toNat,by omega⟩
 have hdec : Lib.itoa (N : Int) = Lib.decDigits N:=by unfold Lib.itoa;rw [if_neg (by omega)];simp
 rw [hdec];exact vU N (by omega) w
theorem kK (m : Int) (h0 : 0 ≤ m) (w : World) : Calls Tryz.prog 75 #[.int .i64 m] w fun e w'=>∃ a n c,e = .returned (.slice a n c) ∧ aX w' ((bJ m).map Lib.itoa) (.slice a n c) ∧ Below w.heap.size w w' :=
 (mask_c m h0 w).mono fun e w' ⟨v,he,ho,hb⟩=>by
  obtain ⟨a,c,rfl⟩:=bN ho
  exact ⟨_,_,_,he,ho.strsAt,hb⟩
theorem lQ (m : Int) (a : Option Addr) (n c : Nat) (w : World) (h : aX w ((bJ m).map Lib.itoa) (.slice a n c)) : Calls Tryz.prog 74 #[.slice a n c] w fun e w'=>e = .returned (str (numbers (bJ m))) ∧ w = w':=by
 rw [← mQ]
 refine zD _ (fun x hx=>?_) (by rw [List.length_map];have:=(fM m).2;omega) (fun j=>Nat.le_trans (nS m j) (by omega)) (fun x hx=>?_) a n c w h
 ·obtain ⟨y,hy,rfl⟩:=List.mem_map.1 hx;exact itoa_ne
 ·obtain ⟨y,hy,rfl⟩:=List.mem_map.1 hx
  have:=bC ((fM m).1 y hy).1 ((fM m).1 y hy).2
  omega
theorem model17_3 (F : List Fa) (R : List Int) (z lo : Int) (ok : kI F R) (hz : 0 ≤ z) (hz2 : z ≤ 1000000) (hlo : 0 ≤ lo) (hlo2 : lo ≤ 1000000) (ra fa ga ba : Option Addr) (rn rc fn fc gn gc bn bc : Nat) (hgn : gn = 0) (hbn : bn = 0) (w : World) (hx : aM w 3 (fasV F) F.length (.slice fa fn fc)) (hr : aM w 1 (inV R) R.length (.slice ra rn rc))
  (hV : ∀ W,Below w.heap.size w W → Calls Tryz.prog 72 #[lgV 3 0,mdK 3 z ra rn rc lo fa fn fc ga gn gc ba bn bc] W (Rt (.bool true) W)) :
  Calls Tryz.prog 17 #[mdK 3 z ra rn rc lo fa fn fc ga gn gc ba bn bc] w (eV ([Lib.itoa z ++ cE] ++ F.map bF ++ dV R) w):=by
 subst hgn hbn
 have L1:=Hd hx.len.1
 have L2:=Hd hr.len.1
 have fk : fn ≤ 12:=by have:=L1.out;have:=ok.fl;omega
 have rk : rn ≤ 8:=by have:=L2.out;have:=ok.rl;omega
 have HX:=Hd hx
 have HR:=Hd hr
 have HV:=Hd hV
 have OK:=Hd ok
 obtain ⟨i0,hi0,hz0,hs0,hb0⟩:=info_parts fP
 have BX : Hid ((w.alloc (mdR 3 z ra rn rc lo fa fn fc ga 0 gc ba 0 bc)).heap[w.heap.size]? = some (mdR 3 z ra rn rc lo fa fn fc ga 0 gc ba 0 bc)):=heap_alloc_new w _
 have WB : Hid (Below w.heap.size w (w.alloc (mdR 3 z ra rn rc lo fa fn fc ga 0 gc ba 0 bc))):=bnew
 have IL : Hid ((Lib.itoa z).length ≤ 7):=bC hz hz2
 have IL2 : Hid ((Lib.itoa lo).length ≤ 7):=bC hlo hlo2
 have il:=IL.out
 have il2:=IL2.out
 have DZ : Hid (∀ W,Calls Tryz.prog 73 #[.int .i64 z] W fun e w'=>e = .returned (str (Lib.itoa z)) ∧ W = w'):=fun W=>eB z hz hz2 W
 have DL : Hid (∀ W,Calls Tryz.prog 73 #[.int .i64 lo] W fun e w'=>e = .returned (str (Lib.itoa lo)) ∧ W = w'):=fun W=>eB lo hlo hlo2 W
 clear hx hr hV ok
 go_enter Tryz.func17,Tryz.ntmps17
 go_wp2_with (first | (go_at_call 72;refine (HV.out _ WB.out).mono ?_;rintro e w1 ⟨rfl,b1⟩;have B1:=Hd (aA WB.out b1);have BX1:=Hd (kc b1 BX.out);clear b1;obtain ⟨⟨k0,k1,k2,k3,k4,k5,k6⟩,-⟩:=aK BX1.out;have z1 : w.heap.size < w1.heap.size:=(Array.getElem?_eq_some_iff.1 BX1.out).1) | (go_at_call 73;refine (DZ.out _).mono ?_;rintro e w2 ⟨rfl,rfl⟩))
 have SH : Hid (Value.string ((⟨(Lib.itoa z).toArray⟩ : ByteArray) ++ ⟨#[32,119,111,114,108,100,115]⟩) = str (Lib.itoa z ++ cE)):=by show _ = _;simp only [str,cE,Value.string.injEq];apply ByteArray.ext;simp
 have O2 : Hid (aD (w.heap.size + 1) (w1.alloc (.cells #[.string ((⟨(Lib.itoa z).toArray⟩ : ByteArray) ++ ⟨#[32,119,111,114,108,100,115]⟩)] 9)) [Lib.itoa z ++ cE] (.slice (some ⟨w1.heap.size,0,none⟩) 1 1)):=by
  have h:=(gI w1 (Lib.itoa z ++ cE)).mono (B':=w.heap.size + 1) z1
  show aD _ _ _ _
  rw [SH.out];exact h
 have B3 : Hid (Below w.heap.size w (w1.alloc (.cells #[.string ((⟨(Lib.itoa z).toArray⟩ : ByteArray) ++ ⟨#[32,119,111,114,108,100,115]⟩)] 9))):=B1.out.alloc B1.out.size _
 have BX3 : Hid ((w1.alloc (.cells #[.string ((⟨(Lib.itoa z).toArray⟩ : ByteArray) ++ ⟨#[32,119,111,114,108,100,115]⟩)] 9)).heap[w.heap.size]? = some (mdR 3 z ra rn rc lo fa fn fc ga 0 gc ba 0 bc)):=kc bnew BX1.out
 generalize Lib.itoa z ++ cE = hd at *
 go_loopw [4,5] (fun u i wr=>∃ j : Nat,j ≤ fn ∧ i = .int .i64 j ∧ Hid (aD (w.heap.size + 1) wr ([hd] ++ (F.take j).map bF) u ∧ Below w.heap.size w wr ∧ wr.heap[w.heap.size]? = some (mdR 3 z ra rn rc lo fa fn fc ga 0 gc ba 0 bc))) (fun _ i _=>fn - (intOf i).toNat)
 case atStart=>exact ⟨0,Nat.zero_le _,rfl,by simpa using O2.out,B3.out,BX3.out⟩
 case round =>
  clear O2 B3 BX3 B1 BX1 BX WB SH il il2 IL IL2 k0 k1 k2 k3 k4 k5 k6
  obtain ⟨j,hj,rfl,hs⟩:=hrel
  obtain ⟨⟨k0,k1,k2,k3,k4,k5,k6⟩,-⟩:=aK hs.out.2.2
  by_cases hlt : j < fn
  ·obtain ⟨T,hT⟩:=aH (l:=F) (j:=j) (by rw [← L1.out];exact hlt)
   obtain ⟨b,off,rfl,p0,p1,p2⟩:=cL HX.out hT
   have hK:=aC hs.out.2.1
   have c0:=hK _ _ p0;have c1:=hK _ _ p1;have c2:=hK _ _ p2
   have M1:=Hd (cY bF hT)
   have NL:=OK.out.nm T (List.mem_of_getElem? hT)
   have TT:=OK.out.t0 T (List.mem_of_getElem? hT)
   obtain ⟨nm,ar,tr⟩:=T
   simp only [Fa.args,Fa.tru,Fa.name] at *
   obtain ⟨tt0,tt1⟩:=TT
   have OW0:=Hd hs.out.1
   have BW:=Hd hs.out.2.1
   have ROW:=Hd hs.out.2.2
   have ws : w.heap.size < wr.heap.size:=(Array.getElem?_eq_some_iff.1 hs.out.2.2).1
   have LE : Hid (((F.take j).map bF).length ≤ 12):=by show _ ≤ _;simp;omega
   have LN : Hid (bF ⟨nm,ar,tr⟩ = nm ++ mwAt ++ numbers (bJ tr)):=rfl
   have NN:=cR tr
   have nl1 : ¬ 9223372036854775807 < List.length nm + 12:=by omega
   have A0 : Hid (Below wr.heap.size wr (wr.alloc (.cells #[str nm,.int .i64 ar,.int .i64 tr] 102))):=bnew
   have A1 : Hid (Below wr.heap.size wr (wr.alloc (.cells #[str nm,.int .i64 ar,.int .i64 tr] 102)).drew):=A0.out.drew
   have B0:=Hd (aA BW.out A1.out)
   have hS0 : (wr.alloc (.cells #[str nm,.int .i64 ar,.int .i64 tr] 102)).drew.heap[wr.heap.size]? = some (.cells #[str nm,.int .i64 ar,.int .i64 tr] 102):=heap_alloc_new wr _
   have g1 : decide ((j : Int) < (fn : Int)) = true:=by simp;omega
   clear hT hK p0 p1 p2
   obtain ⟨⟨d0,d1,d2,d3,d4,d5,d6⟩,-⟩:=aK (kc A0.out hs.out.2.2)
   clear hs
   generalize (F.take j).map bF = M at *
   have C3 : Hid (([hd] ++ M).length + 1 ≤ maxLen ∧ (([hd] ++ M).length + 1) * 16 ≤ 140737488355328):=by
    have h1:=LE.out
    simp only [List.length_append,List.length_cons,List.length_nil]
    exact ⟨by unfold maxLen;omega,by omega⟩
   go_wp2_with fail
   clear d0 d1 d2 d3 d4 d5 d6
   refine wp_region_held_drew (S:=fun w'=>w'.heap[wr.heap.size]? = some (.cells #[str nm,.int .i64 ar,.int .i64 tr] 102)) (by kernel_rfl) hS0 (fun hHeld=>?_)
   refine tk 0 ?_
   try simp only [Act.put,s1,s2,s3,s4,s5,s6]
   refine tk 1 ?_
   try simp only [Act.put,s1,s2,s3,s4,s5,s6]
   refine tk 2 ?_ (hv:=by intro w0 hSw;obtain ⟨⟨z0,z1,z2⟩,-⟩:=bQ hSw;go_simp;try with_reducible rfl)
   try simp only [Act.put,s1,s2,s3,s4,s5,s6]
   refine tk 3 ?_
   try simp only [Act.put,s1,s2,s3,s4,s5,s6]
   refine tk 4 ?_
   try simp only [Act.put,s1,s2,s3,s4,s5,s6]
   refine tk 5 ?_ (hv:=by intro w0 hSw;obtain ⟨⟨z0,z1,z2⟩,-⟩:=bQ hSw;go_simp;try with_reducible rfl)
   try simp only [Act.put,s1,s2,s3,s4,s5,s6]
   refine rd 6 (fun K hK=>?_)
   go_simp
   go_at_call 75
   refine (kK tr tt0 _).mono ?_
   rintro e w3 ⟨y,yn,yc,rfl,i3,b3⟩
   have I3:=Hd i3
   have B3:=Hd (aA B0.out b3)
   have hSn:=kc b3 hS0
   have hS3:=hSn
   have Z3:=Hd b3
   clear i3 b3
   go_simp
   refine hK.out _ _ hSn (fun _=>?_)
   clear hK K
   try simp only [Act.put,s1,s2,s3,s4,s5,s6]
   refine rd 7 (fun K hK=>?_)
   go_simp
   go_at_call 74
   refine (lQ tr _ _ _ _ I3.out).mono ?_
   rintro e w4 ⟨rfl,rfl⟩
   have hSn:=hS3
   have Z4:=Hd (aA A1.out Z3.out)
   have OW4:=Hd (aD.below (aD.below OW0.out A1.out) Z3.out)
   have ROW4:=Hd (kc Z3.out (kc A1.out ROW.out))
   go_simp
   refine hK.out _ _ hSn (fun _=>?_)
   clear hK K
   try simp only [Act.put,s1,s2,s3,s4,s5,s6]
   obtain ⟨N,hN⟩ : ∃ N,numbers (bJ tr) = N:=⟨_,rfl⟩
   rw [hN] at NN LN
   simp only [hN]
   clear hN
   have SS : Hid (Value.string ((⟨nm.toArray⟩ : ByteArray) ++ ⟨#[32,105,115,32,116,114,117,101,32,97,116,32]⟩ ++ ⟨N.toArray⟩) = str (nm ++ mwAt ++ N)):=by show _ = _;simp only [str,mwAt,Value.string.injEq];apply ByteArray.ext;simp
   have nl2 : ¬ 9223372036854775807 < List.length nm + 12 + List.length N:=by omega
   have ws4 : w.heap.size < w3.heap.size:=(Array.getElem?_eq_some_iff.1 ROW4.out).1
   have wr4 : wr.heap.size < w3.heap.size:=(Array.getElem?_eq_some_iff.1 hS3).1
   refine tk 8 ?_
   try simp only [Act.put,s1,s2,s3,s4,s5,s6]
   refine rd 9 (fun K hK=>?_)
   go_simp
   refine hK.out _ _ ((heap_alloc_old _ _ wr4).trans hS3) (fun _=>?_)
   clear hK K
   try simp only [Act.put,s1,s2,s3,s4,s5,s6]
   refine rd 10 (fun K hK=>?_)
   refine aR rfl _ _ 36 rfl (w.heap.size + 1) 9 i0 (.string ⟨#[]⟩) 1 16 Tryz.underlying36 hi0 hz0 hs0 hb0 rfl (by decide) _ _ _ rfl (OW4.out.alloc _) ⟨w3.heap.size,0,none⟩ 1 1 [.string ((⟨nm.toArray⟩ : ByteArray) ++ ⟨#[32,105,115,32,116,114,117,101,32,97,116,32]⟩ ++ ⟨N.toArray⟩)] rfl rfl (cell_one_new _ _ _) (by intro u hu;simp at hu;subst hu;rfl) C3.out.1 C3.out.2 (by simp;omega) ?_
   intro v5 w5 hown2 hg2 _
   have hg5 : w5.heap[wr.heap.size]? = some (.cells #[str nm,.int .i64 ar,.int .i64 tr] 102):=(hg2.block _ (by simp;omega) (fun e=>by have:=(OW0.out.lt _ e.symm).2;omega)).trans ((heap_alloc_old _ _ wr4).trans hS3)
   have R5 : Hid (aD (w.heap.size + 1) w5 ([hd] ++ (F.take (j + 1)).map bF) v5 ∧ Below w.heap.size w w5 ∧ w5.heap[w.heap.size]? = some (mdR 3 z ra rn rc lo (some ⟨b,off,none⟩) fn fc ga 0 gc ba 0 bc)):=by
    refine ⟨?_,(B3.out.alloc B3.out.size _).grown hg2 (by simp;omega) (fun kk hkk=>by have:=(OW4.out.lt kk hkk).1;omega),(hg2.block _ (by simp;omega) (fun e=>by have:=(OW4.out.lt _ e.symm).1;omega)).trans ((heap_alloc_old _ _ ws4).trans ROW4.out)⟩
    rw [M1.out,LN.out,← List.append_assoc]
    unfold aD
    rw [List.length_append,List.map_append]
    rw [SS.out] at hown2
    exact hown2
   clear hown2 hg2
   refine hK.out _ _ hg5 (fun _=>?_)
   clear hK K
   try simp only [Act.put,s1,s2,s3,s4,s5,s6]
   refine rd 11 (fun K hK=>?_)
   go_simp
   refine hK.out _ _ hg5 (fun _=>?_)
   clear hK K
   try simp only [Act.put,s1,s2,s3,s4,s5,s6]
   refine wpAnyH_done (by kernel_rfl) ?_ _
   go_wp2_with fail
   go_roundw
   case rel=>exact ⟨j + 1,by omega,by go_num,R5.out⟩
   case measure=>simp [intOf];omega
  ·have e : (F.take j) = F:=List.take_of_length_le (by rw [← L1.out];omega)
   have HS : Hid (aD (w.heap.size + 1) wr ([hd] ++ F.map bF) u4 ∧ Below w.heap.size w wr ∧ wr.heap[w.heap.size]? = some (mdR 3 z ra rn rc lo fa fn fc ga 0 gc ba 0 bc)):=by have h:=hs.out;rw [e] at h;exact h
   have g1 : decide ((j : Int) < (fn : Int)) = false:=by simp;omega
   have LF : Hid ((F.map bF).length ≤ 12):=by show _ ≤ _;rw [List.length_map,← L1.out];exact fk
   clear hs e hj
   generalize F.map bF = FL at *
   go_wp2_with fail
   refine wp_loop_rounds 1 ?_
   rw [rounds_succ]
   go_wp2_with fail
   refine wp_loop_rounds 1 ?_
   rw [rounds_succ]
   go_wp2_with fail
   go_loopw [4,15] (fun u i wx=>∃ j : Nat,j ≤ rn ∧ i = .int .i64 j ∧ Hid (aD (w.heap.size + 1) wx ([hd] ++ FL ++ (List.range j).map (aZ R)) u ∧ Below w.heap.size w wx ∧ wx.heap[w.heap.size]? = some (mdR 3 z ra rn rc lo fa fn fc ga 0 gc ba 0 bc))) (fun _ i _=>rn - (intOf i).toNat)
   case atStart=>exact ⟨0,Nat.zero_le _,rfl,by simpa using HS.out.1,HS.out.2⟩
   case round =>
    clear HS k0 k1 k2 k3 k4 k5 k6
    obtain ⟨j,hj,rfl,hs⟩:=hrel
    obtain ⟨⟨k0,k1,k2,k3,k4,k5,k6⟩,-⟩:=aK hs.out.2.2
    by_cases hlt : j < rn
    ·obtain ⟨x,hx⟩:=aH (l:=R) (j:=j) (by rw [← L2.out];exact hlt)
     obtain ⟨b,off,rfl,p0⟩:=eS HR.out hx
     have bz : b < w.heap.size:=World.block_lt_of_cell? w _ p0
     have XR:=OK.out.r0 x (List.mem_of_getElem? hx)
     obtain ⟨xr0,xr1⟩:=XR
     have LN : Hid (aZ R j = Lib.itoa (j : Int) ++ fK ++ numbers (bJ x)):=by show _ = _;unfold aZ;rw [cW hx]
     have NN:=cR x
     have IJ : Hid ((Lib.itoa (j : Int)).length ≤ 7):=bC (by omega) (by omega)
     have ij:=IJ.out
     have OW0:=Hd hs.out.1
     have BW:=Hd hs.out.2.1
     have ROW:=Hd hs.out.2.2
     have ws : w.heap.size < wr.heap.size:=(Array.getElem?_eq_some_iff.1 hs.out.2.2).1
     have c0:=aC hs.out.2.1 _ _ p0
     have M1 : Hid ((List.range (j + 1)).map (aZ R) = (List.range j).map (aZ R) ++ [aZ R j]):=by show _ = _;rw [List.range_succ,List.map_append];rfl
     have LE : Hid (((List.range j).map (aZ R)).length ≤ 8):=by show _ ≤ _;simp;omega
     have DJ : Hid (∀ W,Calls Tryz.prog 73 #[.int .i64 (j : Int)] W fun e w'=>e = .returned (str (Lib.itoa (j : Int))) ∧ W = w'):=fun W=>eB j (by omega) (by omega) W
     have D1 : Hid (Below wr.heap.size wr wr.drew):=(Below.refl _ _).drew
     have hS0 : ∀ i,i < w.heap.size + 1 → wr.drew.heap[i]? = wr.heap[i]?:=fun _ _=>rfl
     have g1 : decide ((j : Int) < (rn : Int)) = true:=by simp;omega
     clear hx p0 hs
     generalize (List.range j).map (aZ R) = M at *
     have C3 : Hid (([hd] ++ FL ++ M).length + 1 ≤ maxLen ∧ (([hd] ++ FL ++ M).length + 1) * 16 ≤ 140737488355328):=by
      have h1:=LE.out
      have h2:=LF.out
      simp only [List.length_append,List.length_cons,List.length_nil]
      exact ⟨by unfold maxLen;omega,by omega⟩
     have nl1 : ¬ 9223372036854775807 < List.length (Lib.itoa (j : Int)) + 6:=by omega
     go_wp2_with fail
     refine wp_region_held_drew (S:=fun w'=>∀ i,i < w.heap.size + 1 → w'.heap[i]? = wr.heap[i]?) (by kernel_rfl) hS0 (fun hHeld=>?_)
     refine tk 0 ?_
     try simp only [Act.put,s1,s2,s3,s4,s5,s6]
     refine tk 1 ?_
     try simp only [Act.put,s1,s2,s3,s4,s5,s6]
     refine tk 4 ?_
     try simp only [Act.put,s1,s2,s3,s4,s5,s6]
     refine tk 5 ?_ (hv:=by intro w0 hSw;have z4:=(World.cell?_of_block (a:=⟨w.heap.size,2,none⟩) (hSw _ (by simp))).trans k2;go_simp;try with_reducible rfl)
     try simp only [Act.put,s1,s2,s3,s4,s5,s6]
     refine tk 6 ?_
     try simp only [Act.put,s1,s2,s3,s4,s5,s6]
     refine tk 7 ?_
     try simp only [Act.put,s1,s2,s3,s4,s5,s6]
     refine tk 8 ?_ (hv:=by intro w0 hSw;have z5:=(World.cell?_of_block (a:=⟨b,off + j,none⟩) (hSw _ (by simp;omega))).trans c0;go_simp;try with_reducible rfl)
     try simp only [Act.put,s1,s2,s3,s4,s5,s6]
     refine rd 2 (fun K hK=>?_)
     go_simp
     go_at_call 73
     refine (DJ.out _).mono ?_
     rintro e wd ⟨rfl,rfl⟩
     go_simp
     refine hK.out _ _ hS0 (fun _=>?_)
     clear hK K
     try simp only [Act.put,s1,s2,s3,s4,s5,s6]
     refine tk 3 ?_
     try simp only [Act.put,s1,s2,s3,s4,s5,s6]
     refine rd 9 (fun K hK=>?_)
     go_simp
     go_at_call 75
     refine (kK x xr0 _).mono ?_
     rintro e w3 ⟨y,yn,yc,rfl,i3,b3⟩
     have I3:=Hd i3
     have B3:=Hd (aA BW.out (aA D1.out b3))
     have Z3:=Hd (aA D1.out b3)
     have hS3 : ∀ i,i < w.heap.size + 1 → w3.heap[i]? = wr.heap[i]?:=fun i hi=>Z3.out.block i (by omega)
     clear i3 b3
     go_simp
     refine hK.out _ _ hS3 (fun _=>?_)
     clear hK K
     try simp only [Act.put,s1,s2,s3,s4,s5,s6]
     refine rd 10 (fun K hK=>?_)
     go_simp
     go_at_call 74
     refine (lQ x _ _ _ _ I3.out).mono ?_
     rintro e w4 ⟨rfl,rfl⟩
     go_simp
     refine hK.out _ _ hS3 (fun _=>?_)
     clear hK K
     try simp only [Act.put,s1,s2,s3,s4,s5,s6]
     have OW4:=Hd (aD.below OW0.out Z3.out)
     have ROW4:=Hd (kc Z3.out ROW.out)
     obtain ⟨N,hN⟩ : ∃ N,numbers (bJ x) = N:=⟨_,rfl⟩
     rw [hN] at NN LN
     simp only [hN]
     clear hN
     have SS : Hid (Value.string ((⟨(Lib.itoa (j : Int)).toArray⟩ : ByteArray) ++ ⟨#[32,115,101,101,115,32]⟩ ++ ⟨N.toArray⟩) = str (Lib.itoa (j : Int) ++ fK ++ N)):=by show _ = _;simp only [str,fK,Value.string.injEq];apply ByteArray.ext;simp
     have nl2 : ¬ 9223372036854775807 < List.length (Lib.itoa (j : Int)) + 6 + List.length N:=by omega
     have ws4 : w.heap.size < w3.heap.size:=(Array.getElem?_eq_some_iff.1 ROW4.out).1
     have hS4 : ∀ (o : Obj) (i : Nat),i < w.heap.size + 1 → (w3.alloc o).heap[i]? = wr.heap[i]?:=fun o i hi=>(heap_alloc_old _ _ (by omega)).trans (hS3 i hi)
     refine tk 11 ?_
     try simp only [Act.put,s1,s2,s3,s4,s5,s6]
     refine rd 12 (fun K hK=>?_)
     go_simp
     refine hK.out _ _ (hS4 _) (fun _=>?_)
     clear hK K
     try simp only [Act.put,s1,s2,s3,s4,s5,s6]
     refine rd 13 (fun K hK=>?_)
     refine aR rfl _ _ 36 rfl (w.heap.size + 1) 9 i0 (.string ⟨#[]⟩) 1 16 Tryz.underlying36 hi0 hz0 hs0 hb0 rfl (by decide) _ _ _ rfl (OW4.out.alloc _) ⟨w3.heap.size,0,none⟩ 1 1 [.string ((⟨(Lib.itoa (j : Int)).toArray⟩ : ByteArray) ++ ⟨#[32,115,101,101,115,32]⟩ ++ ⟨N.toArray⟩)] rfl rfl (cell_one_new _ _ _) (by intro u hu;simp at hu;subst hu;rfl) C3.out.1 C3.out.2 (by simp;omega) ?_
     intro v5 w5 hown2 hg2 _
     have hg5 : ∀ i,i < w.heap.size + 1 → w5.heap[i]? = wr.heap[i]?:=fun i hi=>(hg2.block _ (by simp;omega) (fun e=>by have:=(OW4.out.lt _ e.symm).1;omega)).trans (hS4 _ i hi)
     have R5 : Hid (aD (w.heap.size + 1) w5 ([hd] ++ FL ++ (List.range (j + 1)).map (aZ R)) v5 ∧ Below w.heap.size w w5 ∧ w5.heap[w.heap.size]? = some (mdR 3 z (some ⟨b,off,none⟩) rn rc lo fa fn fc ga 0 gc ba 0 bc)):=by
      refine ⟨?_,(B3.out.alloc B3.out.size _).grown hg2 (by simp;omega) (fun kk hkk=>by have:=(OW4.out.lt kk hkk).1;omega),(hg5 _ (by omega)).trans ROW.out⟩
      rw [M1.out,LN.out,← List.append_assoc]
      unfold aD
      rw [List.length_append,List.map_append]
      rw [SS.out] at hown2
      exact hown2
     clear hown2 hg2
     refine hK.out _ _ hg5 (fun _=>?_)
     clear hK K
     try simp only [Act.put,s1,s2,s3,s4,s5,s6]
     refine rd 14 (fun K hK=>?_)
     go_simp
     refine hK.out _ _ hg5 (fun _=>?_)
     clear hK K
     try simp only [Act.put,s1,s2,s3,s4,s5,s6]
     refine wpAnyH_done (by kernel_rfl) ?_ _
     go_wp2_with fail
     go_roundw
     case rel=>exact ⟨j + 1,by omega,by go_num,R5.out⟩
     case measure=>simp [intOf];omega
    ·have e : j = rn:=by omega
     have HE : Hid (aD (w.heap.size + 1) wr ([hd] ++ FL ++ dV R) u4 ∧ Below w.heap.size w wr):=by
      have h:=hs.out
      rw [e,L2.out] at h
      exact ⟨h.1,h.2.1⟩
     have g2 : decide ((j : Int) < (rn : Int)) = false:=by simp;omega
     clear hs e
     go_wp2_with fail
     go_ret2
     exact ⟨_,rfl,HE.out.1.mono (Nat.le_succ _),HE.out.2⟩
end Go.Proofs.YtcandidgaegghaaGreatDoor
