/- subst's quantifier, visitForm: the free variables of a formula come one by one. Conditions: those of each statement. -/
import Derived.Test.YtppfalbnhnpbnaaGreatDoorSkVC
set_option linter.unusedSimpArgs false
set_option linter.unusedVariables false
namespace Go.Proofs.YtppfalbnhnpbnaaGreatDoor
open Go Go.RowKit Ly
set_option maxRecDepth 10000
attribute [local go_sem] Oper.semAt_some
theorem lX (op : Int) (nm u v : Value) (w : World) : Calls Tryz.prog 98 #[.agg #[.int .u8 op,nm,u,v]] w fun e w'=>e = .returned (.bool (quant op)) ∧ Below w.heap.size w w':=by
 go_enter Tryz.func98,Tryz.ntmps98
 by_cases h8 : op = 8
 ·subst h8
  go_wp2
  go_ret
  exact ⟨by simp [quant],(Below.refl _ _).alloc (Nat.le_refl _) _⟩
 ·have e8 : (op == 8) = false:=by simp [h8]
  obtain ⟨B,hB⟩ : ∃ B,(op == 9) = B:=⟨_,rfl⟩
  have q : quant op = B:=by rw [← hB];simp [quant,h8,Bool.beq_eq_decide_eq]
  rw [q]
  clear q h8
  go_wp2
  go_ret
  exact ⟨rfl,(Below.refl _ _).alloc (Nat.le_refl _) _⟩
theorem aI {w : World} {g : Nat} {o : Obj} (o' : Obj) (h : w.heap[g]? = some o) : (w.alloc o').heap[g]? = some o:=(Below.heap_alloc w o' g (Array.getElem?_eq_some_iff.1 h).1).trans h
theorem dA.isMap {w : World} {M n : Nat} {b : List Bs} (h : dA w M n b) : ∃ es c,w.heap[M]? = some (.map es c):=by
 obtain ⟨S,h⟩:=h
 exact h.isMap
theorem dA.below {w w' : World} {M n : Nat} {b : List Bs} (h : dA w M n b) (k : Below w.heap.size w w') : dA w' M n b:=h.heap (k.block _ h.lt)
theorem unbind_in (n : Nat) {cb cf mb k : Nat} {b : List Bs} {x0 x2 x3 : Value} {nm : Bs} (hn : okS nm) (W : World) (hb : W.heap[cb]? = some (.cells #[.map (some mb)] 111 (0,0))) (hf : W.heap[cf]? = some (.cells #[x0,str nm,x2,x3] 40 (0,0))) (hc : dA W mb k (nm :: b)) (hk : k < 10000000) (hbl : b.length < 1000000) :
  CallsDIn Fence.wide n Tryz.prog 152 #[one cb,one cf] .returning W fun e u' W'=>u' = .returning ∧ e = .returned (.tuple #[]) ∧ W.grownBy W' (some mb) ∧ dA W' mb (k + 1) b:=by
 have LK:=hc.look hn
 have hcnt : (nm :: b).count nm = b.count nm + 1:=by simp
 rw [hcnt] at LK
 have hw : IntKind.i64.wrap ((b.count nm + 1 : Nat) - 1 : Int) = (b.count nm : Int):=by
  have:=List.count_le_length (a:=nm) (l:=b)
  rw [show ((b.count nm + 1 : Nat) - 1 : Int) = (b.count nm : Int) by omega]
  exact IntWalk.i64_in _ (by omega)
 have HC:=Lib.hid hc
 obtain ⟨a0,-⟩:=row1 hb
 have a1 : W.cell? ⟨cf,1,none⟩ = some (str nm):=by simp [World.cell?,hf]
 have HCN : Hid (∀ u,(nm :: b).count u = if u = nm then b.count nm + 1 else b.count u):=fun u=>by
  by_cases e : u = nm
  ·subst e;simp
  ·simp [e,Ne.symm e,List.count_cons]
 clear hb hf hc hcnt
 obtain ⟨z,hz⟩ : ∃ z,((b.count nm + 1 : Nat) : Int) = z:=⟨_,rfl⟩
 rw [hz] at LK hw
 obtain ⟨z',hz'⟩ : ∃ z,(b.count nm : Int) = z:=⟨_,rfl⟩
 rw [hz'] at hw
 have HZ:=Lib.hid hz'
 clear hz hz'
 refine (callsDIn_of_wp (R:=fun e W'=>e = .returned (.tuple #[]) ∧ W.grownBy W' (some mb) ∧ dA W' mb (k + 1) b) Tryz.func152 rfl trivial ?_ rfl).mono ?_
 ·simp only [Tryz.ntmps152,List.size_toArray,List.length_cons,List.length_nil,Nat.reduceAdd,Nat.reduceSub,Array.replicate_succ,Array.replicate_zero,List.push_toArray,List.append_toArray,List.nil_append,List.cons_append]
  gi_wp2_with (gi_at_mapUpdate;refine fG rfl _ _ _ 111 rfl 3 keyS gQ rfl HC.out.choose_spec (by unfold maxLen;omega) nm hn rfl ?_;intro w1 hm1 hg1)
  go_end0
  refine ⟨rfl,hg1,_,hm1.cong (fun s _=>rfl) fun s hs=>?_⟩
  simp only [HCN.out s]
  by_cases e : s = nm
  ·subst e;rw [if_pos rfl,← HZ.out];rfl
  ·simp [e]
 ·rintro e u w' ⟨h1,h2,h3,h4⟩
  exact ⟨h1,h2,h3,h4⟩
mutual
theorem vt_all {m cb cy mb r k B : Nat} {b l : List Bs} {J : List Bs → World → Prop} (hY : ∀ n,Yields m r n J l) (hM : ∀ s A X,J s A → eQ B A X → J s X) : ∀ t : Tm,VT m cb cy mb r k b l J t
 | .mk v nm ts=>vt_step hY hM v nm ts (vC hY hM ts)
theorem vC {m cb cy mb r k B : Nat} {b l : List Bs} {J : List Bs → World → Prop} (hY : ∀ n,Yields m r n J l) (hM : ∀ s A X,J s A → eQ B A X → J s X) : ∀ ts : List Tm,∀ t ∈ ts,VT m cb cy mb r k b l J t
 | [],_,h=>by cases h
 | x :: xs,t,h=>by
  rcases List.mem_cons.1 h with e | e
  ·rw [e];exact vt_all hY hM x
  ·exact vC hY hM xs t e
end
def VF (m mb r B : Nat) (l : List Bs) (J : List Bs → World → Prop) (f : Fm) : Prop :=
 ∀ (n k : Nat) (b pre : List Bs) (W : World) (x : Value),aV W f x → f.okNames = true → dA W mb k b → k + 2 * f.nodes ≤ 1000000 → b.length + f.nodes ≤ 100000 → J pre W → pre ++ f.free b <+: l →
  CallsIn Fence.wide n Tryz.prog 101 #[x,.map (some mb),.func (.yield r) #[] #[]] W fun e W'=>e = .returned (.bool true) ∧ J (pre ++ f.free b) W' ∧ bO m mb W W' ∧ ∃ k',k' ≤ k + 2 * f.nodes ∧ dA W' mb k' b
theorem dA.store {w : World} {M n : Nat} {b : List Bs} (h : dA w M n b) {w' : World} {nm : Bs} {S : Bs → Bool} {v : Value} {z : Int} (hv : v = .int .i64 z) (hz : z = b.count nm + 1) (h' : MapG Tryz.prog 9 okS litS (.int .i64 0) w' M (n + 1) S (fun u=>if u = nm then v else .int .i64 (b.count u))) : dA w' M (n + 1) (nm :: b):=by
 refine ⟨S,h'.cong (fun s _=>rfl) fun s hs=>?_⟩
 by_cases e : s = nm
 ·subst e;simp [hv,hz]
 ·simp [e,Ne.symm e,List.count_cons]
set_option maxHeartbeats 8000000 in
theorem vf_step {m mb r B : Nat} {l : List Bs} {J : List Bs → World → Prop} (hY : ∀ n,Yields m r n J l) (hM : ∀ s A X,J s A → eQ B A X → J s X) (hB : B ≤ mb) (hne : mb ≠ m) (op : Int) (nm : Bs) (ts : List Tm) (fs : List Fm) (ih : ∀ f ∈ fs,VF m mb r B l J f) : VF m mb r B l J (.mk op nm ts fs):=by
 intro n k b pre W x hx0 hok hc hk hb hJ hp
 obtain ⟨a,N,c,a',N',c',rfl,hx,hx'⟩ : ∃ a N c a' N' c',x = .agg #[.int .u8 op,str nm,.slice a N c,.slice a' N' c'] ∧ bG W ts (.slice a N c) ∧ aN W fs (.slice a' N' c'):=hx0
 have hl:=hx.len
 have hl':=hx'.len
 have N1 : N ≤ 9223372036854775807:=le63 (Nat.le_trans hl.2.1 hl.2.2)
 have N2 : N' ≤ 9223372036854775807:=le63 (Nat.le_trans hl'.2.1 hl'.2.2)
 simp only [Fm.okNames,Bool.and_eq_true,decide_eq_true_eq,List.all_eq_true] at hok
 have fr : (Fm.mk op nm ts fs).free b = offB b (bP ts) ++ bZ (if quant op then nm :: b else b) fs:=by simp [Fm.free,offB]
 have nd : (Fm.mk op nm ts fs).nodes = 1 + aF ts + aD fs:=by simp [Fm.nodes]
 rw [nd] at hk hb ⊢
 rw [fr,← List.append_assoc] at hp ⊢
 obtain ⟨b',hb'⟩ : ∃ b',(if quant op then nm :: b else b) = b':=⟨_,rfl⟩
 obtain ⟨p2,hp2⟩ : ∃ p2,pre ++ offB b (bP ts) = p2:=⟨_,rfl⟩
 rw [hb',hp2] at hp ⊢
 have HB':=Lib.hid hb'
 have HP2:=Lib.hid hp2
 clear fr nd hb' hp2
 have L1:=Lib.hid hl.1
 have L2:=Lib.hid hl'.1
 have HX:=Lib.hid hx
 have HX2:=Lib.hid hx'
 have NM : okS nm:=hok.1.1
 have HO:=Lib.hid hok
 have HP:=Lib.hid hp
 have HM:=Lib.hid hM
 have IH:=Lib.hid ih
 have HC:=Lib.hid hc
 have HK:=Lib.hid hk
 have HBL:=Lib.hid hb
 have HJ:=Lib.hid hJ
 have HNE:=Lib.hid hne
 have HB:=Lib.hid hB
 -- the three boxes
 obtain ⟨W1,hW1⟩ : ∃ W1,((W.alloc (.cells #[.int .u8 op,str nm,.slice a N c,.slice a' N' c'] 40)).alloc (.cells #[.map (some mb)] 111)).alloc (.cells #[.func (.yield r) #[] #[]] 151) = W1:=⟨_,rfl⟩
 have bw : Below W.heap.size W W1:=by rw [← hW1];exact (((Below.refl _ _).alloc (Nat.le_refl _) _).alloc (by simp) _).alloc (by simp;omega) _
 have f0 : Hid (W1.heap[W.heap.size]? = some (.cells #[.int .u8 op,str nm,.slice a N c,.slice a' N' c'] 40 (0,0))):=by
  rw [← hW1];exact aI _ (aI _ (heap_alloc_new W _))
 have f1 : Hid (W1.heap[W.heap.size + 1]? = some (.cells #[.map (some mb)] 111 (0,0))):=by
  rw [← hW1]
  refine aI _ ?_
  have:=heap_alloc_new (W.alloc (.cells #[.int .u8 op,str nm,.slice a N c,.slice a' N' c'] 40)) (.cells #[.map (some mb)] 111)
  rwa [World.size_alloc] at this
 have f2 : Hid (W1.heap[W.heap.size + 1 + 1]? = some (.cells #[.func (.yield r) #[] #[]] 151 (0,0))):=by
  rw [← hW1]
  have:=heap_alloc_new ((W.alloc (.cells #[.int .u8 op,str nm,.slice a N c,.slice a' N' c'] 40)).alloc (.cells #[.map (some mb)] 111)) (.cells #[.func (.yield r) #[] #[]] 151)
  rwa [World.size_alloc,World.size_alloc] at this
 have R1 : Hid (bO m mb W W1):=bO.of_below bw
 have J1 : Hid (J pre W1):=HM.out _ _ _ HJ.out (eQ.of_below bw)
 have V1 : Hid (VSt m (W.heap.size + 1) (W.heap.size + 1 + 1) mb r k b W1):=⟨f1.out,f2.out,HC.out.below bw,HNE.out⟩
 have VTS : Hid (∀ t ∈ ts,VT m (W.heap.size + 1) (W.heap.size + 1 + 1) mb r k b l J t):=vC hY hM ts
 have BW:=Lib.hid bw
 clear hl hl' hx hx' hok hp hM ih hc hk hb hJ hne hB hY bw
 refine callsIn_of_wp_defers Tryz.func101 rfl trivial ?_ rfl
 simp only [Tryz.ntmps101,List.size_toArray,List.length_cons,List.length_nil,Nat.reduceAdd,Nat.reduceSub,Array.replicate_succ,Array.replicate_zero,List.push_toArray,List.append_toArray,List.nil_append,List.cons_append]
 have z2 : W1.cell? ⟨W.heap.size,2,none⟩ = some (.slice a N c):=by simp [World.cell?,f0.out]
 gi_wp2
 clear hW1 z2
 gi_loopw [16] (fun i wr=>∃ j : Nat,j ≤ N ∧ i = .int .i64 j ∧ Hid (J (pre ++ offB b (bP (ts.take j))) wr ∧ bN m W1 wr)) (fun i _=>N - (intOf i).toNat)
 case atStart=>exact ⟨0,Nat.zero_le _,rfl,by simpa [bP,offB] using J1.out,bN.refl _ _⟩
 case round =>
  obtain ⟨j,hj,rfl,hs⟩:=hrel
  clear J1
  by_cases hlt : j < N
  ·obtain ⟨T,hT⟩:=aT (l:=ts) (j:=j) (by rw [← L1.out];exact hlt)
   obtain ⟨bb,off,rfl,hc⟩:=HX.out.get (aX hT)
   obtain ⟨x0,x1,x2,hx⟩:=hc j _ hT
   have hK : bI W wr:=(bO.cells R1.out).trans (bN.cells hs.out.2)
   have c0:=hK _ _ hx.c0;have c1:=hK _ _ hx.c1;have c2:=hK _ _ hx.c2
   have HT:=Lib.hid (List.mem_of_getElem? hT)
   have TE:=Lib.hid (kL ts hT)
   have IC : Hid (∀ n o,CallsIn Fence.wide n Tryz.prog 151 #[.agg #[.bool T.v,str T.name,.slice x0 x1 x2],.func (.func 150) #[] #[one (W.heap.size + 1),one (W.heap.size + 1 + 1)]] (wr.alloc o) fun e W'=>e = .returned (.bool true) ∧ J (pre ++ offB b (bP (ts.take (j + 1)))) W' ∧ bN m (wr.alloc o) W'):=fun n o=>by
    have kk : bN m W1 (wr.alloc o):=hs.out.2.trans (cH m wr o)
    have:=VTS.out T HT.out n (pre ++ offB b (bP (ts.take j))) (wr.alloc o) (.agg #[.bool T.v,str T.name,.slice x0 x1 x2]) ⟨_,_,_,rfl,hx.at_.keep ((bO.cells R1.out).trans (bN.cells kk))⟩ (fun s hs=>HO.out.1.2 s (pT HT.out hs)) (V1.out.rounds kk) (HM.out _ _ _ hs.out.1 (eF B wr o)) (by
     rw [List.append_assoc,← eY,← TE.out]
     refine List.IsPrefix.trans ?_ HP.out
     rw [← HP2.out]
     refine List.IsPrefix.trans ((List.prefix_append_right_inj _).2 (rJ b (lP ts _))) (List.prefix_append _ _))
    rw [TE.out,eY,← List.append_assoc]
    exact this
   clear hc hx hT hK
   gi_wp2_with (refine ⟨trivial,fun h=>absurd h (by decide), ?_⟩;gi_at_call 151;refine (IC.out _ _).mono ?_;rintro e W3 ⟨rfl,hj3,hr3⟩;have J3:=Lib.hid hj3;have R3:=Lib.hid hr3;clear hj3 hr3)
   go_roundw
   case rel=>exact ⟨j + 1,by omega,by go_num,J3.out,hs.out.2.trans ((cH m wr _).trans R3.out)⟩
   case measure=>simp [intOf];omega
  ·have e : ts.take j = ts:=List.take_of_length_le (by rw [← L1.out];omega)
   have J2 : Hid (J p2 wr):=by have:=hs.out.1;rw [e,HP2.out] at this;exact this
   have R2:=Lib.hid hs.out.2
   have V2:=Lib.hid (V1.out.rounds hs.out.2)
   obtain ⟨y0,y1,y2,y3,y4⟩ : wr.cell? ⟨W.heap.size,0,none⟩ = some (.int .u8 op) ∧ wr.cell? ⟨W.heap.size,1,none⟩ = some (str nm) ∧ wr.cell? ⟨W.heap.size,2,none⟩ = some (.slice a N c) ∧ wr.cell? ⟨W.heap.size,3,none⟩ = some (.slice a' N' c') ∧ wr.cell? ⟨W.heap.size + 1,0,none⟩ = some (.map (some mb)):=by
    have g:=hs.out.2.keeps f0.out
    exact ⟨by simp [World.cell?,g],by simp [World.cell?,g],by simp [World.cell?,g],by simp [World.cell?,g],(row1 V2.out.hb).1⟩
   clear hs e VTS V1
   cases hq : quant op
   ·have e' : b' = b:=by rw [← HB'.out,hq];rfl
    subst e'
    have QC : Hid (∀ w,Calls Tryz.prog 98 #[.agg #[.int .u8 op,str nm,.slice a N c,.slice a' N' c']] w fun e w'=>e = .returned (.bool false) ∧ Below w.heap.size w w'):=fun w=>by rw [← hq];exact lX op _ _ _ w
    clear hq HB'
    have BL : Hid (b'.length ≤ b'.length + 1):=Nat.le_succ _
    have NX : Hid (∀ w2,Below wr.heap.size wr w2 → J p2 w2 ∧ bO m mb W1 w2 ∧ dA w2 mb k b' ∧ w2.cell? ⟨W.heap.size,3,none⟩ = some (.slice a' N' c')):=fun w2 h=>⟨HM.out _ _ _ J2.out (eQ.of_below h),(R2.out.two _).trans (bO.of_below h),V2.out.cnt.below h,(aA h) _ _ y3⟩
    clear J2 R2 V2
    gi_wp2_with (refine ⟨trivial,fun h=>absurd h (by decide), ?_⟩;gi_at_call 98;refine (callsIn_wide.2 (QC.out _)).mono ?_;rintro e w2 ⟨rfl,b2⟩;obtain ⟨j4,r4,c4,y3⟩:=NX.out _ b2;have J4:=Lib.hid j4;have R4:=Lib.hid r4;obtain ⟨k1,KB,C4⟩ : ∃ k1,Hid (k1 ≤ k + 1) ∧ Hid (dA w2 mb k1 b'):=⟨k,Nat.le_succ _,c4⟩;clear j4 r4 c4 NX y0 y1 y2 y4 b2 QC)
    gi_loopw [36] (fun i wq=>∃ j : Nat,j ≤ N' ∧ i = .int .i64 j ∧ Hid (J (p2 ++ bZ b' (fs.take j)) wq ∧ bO m mb W1 wq ∧ ∃ k',k' ≤ k1 + 2 * aD (fs.take j) ∧ dA wq mb k' b')) (fun i _=>N' - (intOf i).toNat)
    case atStart=>exact ⟨0,Nat.zero_le _,rfl,by simpa [bZ] using J4.out,R4.out,k1,by omega,C4.out⟩
    case round =>
     obtain ⟨j,hj,rfl,hs⟩:=hrel
     clear J4 R4 C4
     by_cases hlt : j < N'
     ·obtain ⟨T,hT⟩:=aT (l:=fs) (j:=j) (by rw [← L2.out];exact hlt)
      obtain ⟨bb,off,rfl,hc⟩:=HX2.out.get (aX hT)
      obtain ⟨x0,x1,x2,x3,x4,x5,hx⟩:=hc j _ hT
      have hK : bI W wr:=(bO.cells R1.out).trans (bO.cells hs.out.2.1)
      have c0:=hK _ _ hx.c0;have c1:=hK _ _ hx.c1;have c2:=hK _ _ hx.c2;have c3:=hK _ _ hx.c3
      have u1 : wr.cell? ⟨W.heap.size + 1,0,none⟩ = some (.map (some mb)):=(row1 (hs.out.2.1.keeps f1.out)).1
      have u2 : wr.cell? ⟨W.heap.size + 1 + 1,0,none⟩ = some (.func (.yield r) #[] #[]):=(row1 (hs.out.2.1.keeps f2.out)).1
      have v1 : W.heap.size + 1 < wr.heap.size:=(Array.getElem?_eq_some_iff.1 (hs.out.2.1.keeps f1.out)).1
      have v2 : W.heap.size + 1 + 1 < wr.heap.size:=(Array.getElem?_eq_some_iff.1 (hs.out.2.1.keeps f2.out)).1
      have HT:=Lib.hid (List.mem_of_getElem? hT)
      have TE:=Lib.hid (nO b' fs hT)
      have TN:=Lib.hid (iW hT)
      have TL:=Lib.hid (gS fs (j + 1))
      have IC : Hid (∀ n o,CallsIn Fence.wide n Tryz.prog 101 #[.agg #[.int .u8 T.op,str T.name,.slice x0 x1 x2,.slice x3 x4 x5],.map (some mb),.func (.yield r) #[] #[]] (wr.alloc o) fun e W'=>e = .returned (.bool true) ∧ J (p2 ++ bZ b' (fs.take (j + 1))) W' ∧ bO m mb W1 W' ∧ ∃ k',k' ≤ k1 + 2 * aD (fs.take (j + 1)) ∧ dA W' mb k' b'):=fun n o=>by
       have kk : bO m mb W1 (wr.alloc o):=hs.out.2.1.trans ((cH m wr o).two _)
       obtain ⟨k',hk',hC⟩:=hs.out.2.2
       have e1:=TN.out
       have e2:=TL.out
       have e3:=HK.out
       have e4:=HBL.out
       have e5:=KB.out
       have e6:=BL.out
       refine (IH.out T HT.out n k' b' (p2 ++ bZ b' (fs.take j)) (wr.alloc o) (.agg #[.int .u8 T.op,str T.name,.slice x0 x1 x2,.slice x3 x4 x5]) ⟨_,_,_,_,_,_,rfl,hx.at_.keep ((bO.cells R1.out).trans (bO.cells kk)),hx.at'.keep ((bO.cells R1.out).trans (bO.cells kk))⟩ (dL HO.out.2 T HT.out) (hC.below ((Below.refl _ _).alloc (Nat.le_refl _) _)) (by omega) (by omega) (HM.out _ _ _ hs.out.1 (eF B wr o)) (by
        rw [List.append_assoc,← TE.out]
        exact List.IsPrefix.trans ((List.prefix_append_right_inj _).2 (pJ b' fs _)) HP.out)).mono ?_
       rintro e W' ⟨h1,h2,h3,k2,h4,h5⟩
       rw [List.append_assoc,← TE.out] at h2
       exact ⟨h1,h2,kk.trans h3,k2,by omega,h5⟩
      clear hc hx hT hK
      gi_wp2_with (refine ⟨trivial,fun h=>absurd h (by decide), ?_⟩;gi_at_call 101;refine (IC.out _ _).mono ?_;rintro e W3 ⟨rfl,hj3,hr3,hk3⟩;have J3:=Lib.hid hj3;have R3:=Lib.hid hr3;have C3:=Lib.hid hk3;clear hj3 hr3 hk3)
      go_roundw
      case rel=>exact ⟨j + 1,by omega,by go_num,J3.out,R3.out,C3.out⟩
      case measure=>simp [intOf];omega
     ·have e : fs.take j = fs:=List.take_of_length_le (by rw [← L2.out];omega)
      have J5 : Hid (J (p2 ++ bZ b' fs) wr):=by have:=hs.out.1;rw [e] at this;exact this
      have R5 : Hid (bO m mb W wr):=R1.out.trans hs.out.2.1
      have R6:=Lib.hid hs.out.2.1
      have C5 : Hid (∃ k',k' ≤ k1 + 2 * aD fs ∧ dA wr mb k' b'):=by have:=hs.out.2.2;rw [e] at this;exact this
      clear hs e
      gi_wp2
      obtain ⟨k2,hk2,hc2⟩:=C5.out
      exact ⟨_,results_tmp rfl _ _ _,rfl,J5.out,R5.out,k2,by have:=KB.out;omega,hc2⟩
   ·have e' : b' = nm :: b:=by rw [← HB'.out,hq];rfl
    subst e'
    have QC : Hid (∀ w,Calls Tryz.prog 98 #[.agg #[.int .u8 op,str nm,.slice a N c,.slice a' N' c']] w fun e w'=>e = .returned (.bool true) ∧ Below w.heap.size w w'):=fun w=>by rw [← hq];exact lX op _ _ _ w
    clear hq HB'
    have BL : Hid ((nm :: b).length ≤ b.length + 1):=Nat.le_refl _
    obtain ⟨z,hz⟩ : ∃ z,(b.count nm : Int) = z:=⟨_,rfl⟩
    have hw : IntKind.i64.wrap (z + 1) = z + 1:=by
     have:=List.count_le_length (a:=nm) (l:=b)
     have:=HBL.out
     exact IntWalk.i64_in _ (by omega)
    have LK : Hid (∀ w2,Below wr.heap.size wr w2 → (Instr.lookup 111 (.map (some mb)) (str nm) false).run Tryz.prog w2 = .ok (.int .i64 z) w2):=fun w2 h=>by rw [← hz];exact (V2.out.cnt.below h).look NM
    have ZZ : Hid (RowKit.wrap64 (z + 1) = b.count nm + 1):=by rw [hz];exact (IntWalk.i64_left _).symm.trans hw
    have NX : Hid (∀ w2,Below wr.heap.size wr w2 → dA w2 mb k b ∧ w2.cell? ⟨W.heap.size + 1,0,none⟩ = some (.map (some mb)) ∧ w2.cell? ⟨W.heap.size,1,none⟩ = some (str nm)):=fun w2 h=>⟨V2.out.cnt.below h,(aA h) _ _ y4,(aA h) _ _ y1⟩
    have NY : Hid (∀ w2 w4 S,Below wr.heap.size wr w2 → w2.grownBy w4 (some mb) → MapG Tryz.prog 9 okS litS (.int .i64 0) w4 mb (k + 1) S (fun u=>if u = nm then .int .i64 (RowKit.wrap64 (z + 1)) else .int .i64 (b.count u)) → J p2 w4 ∧ bO m mb W1 w4 ∧ dA w4 mb (k + 1) (nm :: b) ∧ w4.cell? ⟨W.heap.size,3,none⟩ = some (.slice a' N' c')):=fun w2 w4 S h hg hm=>by
     have hC:=V2.out.cnt.below h
     have hr : bO m mb w2 w4:=bO.of_grownBy hg hC.isMap
     refine ⟨HM.out _ _ _ (HM.out _ _ _ J2.out (eQ.of_below h)) (eQ.of_grownBy hg fun r e=>?_),((R2.out.two _).trans (bO.of_below h)).trans hr,dA.store hC rfl ZZ.out hm,hr.cells _ _ ((aA h) _ _ y3)⟩
     cases e
     refine ⟨HB.out,fun o ho=>?_⟩
     obtain ⟨es,cl,hmm⟩:=hC.isMap
     rw [hmm] at ho;cases ho;rfl
    have K0 : k < maxLen:=by have:=HK.out;unfold maxLen;omega
    clear J2 R2 V2 hz hw
    gi_wp2_with (first
     | (refine ⟨trivial,fun h=>absurd h (by decide), ?_⟩;gi_at_call 98;refine (callsIn_wide.2 (QC.out _)).mono ?_;rintro e w2 ⟨rfl,b2⟩;obtain ⟨c2,y4,y1⟩:=NX.out _ b2;have lk:=LK.out _ b2;have B2:=Lib.hid b2;have C2:=Lib.hid c2;clear b2 c2 NX LK QC)
     | (gi_at_mapUpdate;refine fG rfl _ _ _ 111 rfl 3 keyS gQ rfl C2.out.choose_spec K0 nm NM rfl ?_;intro w4 hm4 hg4;obtain ⟨j4,r4,c4,y3⟩:=NY.out _ _ _ B2.out hg4 hm4;have J4:=Lib.hid j4;have R4:=Lib.hid r4;obtain ⟨k1,KB,C4⟩ : ∃ k1,Hid (k1 ≤ k + 1) ∧ Hid (dA w4 mb k1 (nm :: b)):=⟨k + 1,Nat.le_refl _,c4⟩;clear j4 r4 c4 hm4 hg4 NY B2 C2 lk y0 y1 y2 y4))
    gi_loopw [36] (fun i wq=>∃ j : Nat,j ≤ N' ∧ i = .int .i64 j ∧ Hid (J (p2 ++ bZ (nm :: b) (fs.take j)) wq ∧ bO m mb W1 wq ∧ ∃ k',k' ≤ k1 + 2 * aD (fs.take j) ∧ dA wq mb k' (nm :: b))) (fun i _=>N' - (intOf i).toNat)
    case atStart=>exact ⟨0,Nat.zero_le _,rfl,by simpa [bZ] using J4.out,R4.out,k1,by omega,C4.out⟩
    case round =>
     obtain ⟨j,hj,rfl,hs⟩:=hrel
     clear J4 R4 C4
     by_cases hlt : j < N'
     ·obtain ⟨T,hT⟩:=aT (l:=fs) (j:=j) (by rw [← L2.out];exact hlt)
      obtain ⟨bb,off,rfl,hc⟩:=HX2.out.get (aX hT)
      obtain ⟨x0,x1,x2,x3,x4,x5,hx⟩:=hc j _ hT
      have hK : bI W wr:=(bO.cells R1.out).trans (bO.cells hs.out.2.1)
      have c0:=hK _ _ hx.c0;have c1:=hK _ _ hx.c1;have c2:=hK _ _ hx.c2;have c3:=hK _ _ hx.c3
      have u1 : wr.cell? ⟨W.heap.size + 1,0,none⟩ = some (.map (some mb)):=(row1 (hs.out.2.1.keeps f1.out)).1
      have u2 : wr.cell? ⟨W.heap.size + 1 + 1,0,none⟩ = some (.func (.yield r) #[] #[]):=(row1 (hs.out.2.1.keeps f2.out)).1
      have v1 : W.heap.size + 1 < wr.heap.size:=(Array.getElem?_eq_some_iff.1 (hs.out.2.1.keeps f1.out)).1
      have v2 : W.heap.size + 1 + 1 < wr.heap.size:=(Array.getElem?_eq_some_iff.1 (hs.out.2.1.keeps f2.out)).1
      have HT:=Lib.hid (List.mem_of_getElem? hT)
      have TE:=Lib.hid (nO (nm :: b) fs hT)
      have TN:=Lib.hid (iW hT)
      have TL:=Lib.hid (gS fs (j + 1))
      have IC : Hid (∀ n o,CallsIn Fence.wide n Tryz.prog 101 #[.agg #[.int .u8 T.op,str T.name,.slice x0 x1 x2,.slice x3 x4 x5],.map (some mb),.func (.yield r) #[] #[]] (wr.alloc o) fun e W'=>e = .returned (.bool true) ∧ J (p2 ++ bZ (nm :: b) (fs.take (j + 1))) W' ∧ bO m mb W1 W' ∧ ∃ k',k' ≤ k1 + 2 * aD (fs.take (j + 1)) ∧ dA W' mb k' (nm :: b)):=fun n o=>by
       have kk : bO m mb W1 (wr.alloc o):=hs.out.2.1.trans ((cH m wr o).two _)
       obtain ⟨k',hk',hC⟩:=hs.out.2.2
       have e1:=TN.out
       have e2:=TL.out
       have e3:=HK.out
       have e4:=HBL.out
       have e5:=KB.out
       have e6:=BL.out
       refine (IH.out T HT.out n k' (nm :: b) (p2 ++ bZ (nm :: b) (fs.take j)) (wr.alloc o) (.agg #[.int .u8 T.op,str T.name,.slice x0 x1 x2,.slice x3 x4 x5]) ⟨_,_,_,_,_,_,rfl,hx.at_.keep ((bO.cells R1.out).trans (bO.cells kk)),hx.at'.keep ((bO.cells R1.out).trans (bO.cells kk))⟩ (dL HO.out.2 T HT.out) (hC.below ((Below.refl _ _).alloc (Nat.le_refl _) _)) (by omega) (by omega) (HM.out _ _ _ hs.out.1 (eF B wr o)) (by
        rw [List.append_assoc,← TE.out]
        exact List.IsPrefix.trans ((List.prefix_append_right_inj _).2 (pJ (nm :: b) fs _)) HP.out)).mono ?_
       rintro e W' ⟨h1,h2,h3,k2,h4,h5⟩
       rw [List.append_assoc,← TE.out] at h2
       exact ⟨h1,h2,kk.trans h3,k2,by omega,h5⟩
      clear hc hx hT hK
      gi_wp2_with (refine ⟨trivial,fun h=>absurd h (by decide), ?_⟩;gi_at_call 101;refine (IC.out _ _).mono ?_;rintro e W3 ⟨rfl,hj3,hr3,hk3⟩;have J3:=Lib.hid hj3;have R3:=Lib.hid hr3;have C3:=Lib.hid hk3;clear hj3 hr3 hk3)
      go_roundw
      case rel=>exact ⟨j + 1,by omega,by go_num,J3.out,R3.out,C3.out⟩
      case measure=>simp [intOf];omega
     ·have e : fs.take j = fs:=List.take_of_length_le (by rw [← L2.out];omega)
      have J5 : Hid (J (p2 ++ bZ (nm :: b) fs) wr):=by have:=hs.out.1;rw [e] at this;exact this
      have R5 : Hid (bO m mb W wr):=R1.out.trans hs.out.2.1
      have R6:=Lib.hid hs.out.2.1
      have C5 : Hid (∃ k',k' ≤ k1 + 2 * aD fs ∧ dA wr mb k' (nm :: b)):=by have:=hs.out.2.2;rw [e] at this;exact this
      clear hs e
      gi_wp2
      obtain ⟨k2,hk2,hc2⟩:=C5.out
      refine leavesIn_cons (by simp) (fun h=>absurd h (by decide)) (f:=152) (args:=#[one (W.heap.size + 1),one W.heap.size]) (by simp [invoke,go_sem]) (fun _ _=>trivial) ((unbind_in (n - 1) NM wr (R6.out.keeps f1.out) (R6.out.keeps f0.out) hc2 (by have:=KB.out;have:=HK.out;omega) (by have:=HBL.out;omega)).mono ?_)
      rintro e u' w' ⟨rfl,rfl,hg,hC⟩
      have hr : bO m mb wr w':=bO.of_grownBy hg hc2.isMap
      have hj : J (p2 ++ bZ (nm :: b) fs) w':=HM.out _ _ _ J5.out (eQ.of_grownBy hg fun r e=>by
       cases e
       refine ⟨HB.out,fun o ho=>?_⟩
       obtain ⟨es,cl,hmm⟩:=hc2.isMap
       rw [hmm] at ho;cases ho;rfl)
      exact ⟨_,results_tmp rfl _ _ _,rfl,hj,R5.out.trans hr,k2 + 1,by have:=KB.out;omega,hC⟩
mutual
theorem zS {m mb r B : Nat} {l : List Bs} {J : List Bs → World → Prop} (hY : ∀ n,Yields m r n J l) (hM : ∀ s A X,J s A → eQ B A X → J s X) (hB : B ≤ mb) (hne : mb ≠ m) : ∀ f : Fm,VF m mb r B l J f
 | .mk op nm ts fs=>vf_step hY hM hB hne op nm ts fs (yJ hY hM hB hne fs)
theorem yJ {m mb r B : Nat} {l : List Bs} {J : List Bs → World → Prop} (hY : ∀ n,Yields m r n J l) (hM : ∀ s A X,J s A → eQ B A X → J s X) (hB : B ≤ mb) (hne : mb ≠ m) : ∀ fs : List Fm,∀ f ∈ fs,VF m mb r B l J f
 | [],_,h=>by cases h
 | x :: xs,f,h=>by
  rcases List.mem_cons.1 h with e | e
  ·rw [e];exact zS hY hM hB hne x
  ·exact yJ hY hM hB hne xs f e
end
end Go.Proofs.YtppfalbnhnpbnaaGreatDoor
