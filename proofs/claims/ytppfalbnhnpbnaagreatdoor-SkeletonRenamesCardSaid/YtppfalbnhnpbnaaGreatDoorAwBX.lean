/- SkeletonRenames's closure: the normal forms of formulas. Conditions: those of the statement; the tables lie as laid. -/
import Derived.Test.YtppfalbnhnpbnaaGreatDoorNtDX
import Derived.Test.YtppfalbnhnpbnaaGreatDoorRmAX
import Derived.Test.YtppfalbnhnpbnaaGreatDoorCtBX
import Derived.Test.YtppfalbnhnpbnaaGreatDoorAwAX
set_option linter.unusedSimpArgs false
set_option linter.unusedVariables false
namespace Go.Proofs.YtppfalbnhnpbnaaGreatDoor
open Go Go.RowKit Ly
set_option maxRecDepth 10000
theorem map_take1 {l : List Fm} {j : Nat} {T : Fm} (h : l[j]? = some T) : bJ ((l.map Fm.normal).take (j + 1)) = bJ ((l.map Fm.normal).take j) ++ T.normal.ds:=gV _ (by rw [List.getElem?_map,h];rfl)
def OkC (co : Nat) (W : World) : Prop:=W.heap[co]? = some (.cells #[.bool true] 4 (0,0))
theorem OkC.below {co : Nat} {W X : World} (h : OkC co W) (b : Below W.heap.size W X) : OkC co X:=(b.block _ (Array.getElem?_eq_some_iff.1 h).1).trans h
theorem OkC.set {co : Nat} {W : World} (h : OkC co W) : (W.setCell ⟨co,0,none⟩ (.bool true)).heap[co]? = W.heap[co]?:=by rw [aC h,h];rfl
theorem OkC.same {co : Nat} {W : World} (h : OkC co W) (n : Nat) : Below n W (W.setCell ⟨co,0,none⟩ (.bool true)):=by
 have sr:=kA W ⟨co,0,none⟩ (.bool true)
 refine ⟨sr.1,sr.2.1,sr.2.2,by simp,fun i hi=>?_⟩
 by_cases e : i = co
 ·rw [e];exact h.set
 ·exact Below.heap_setCell _ _ _ _ e
set_option maxHeartbeats 8000000 in
theorem nl_c (l : List Fm) (co : Nat) (W : World) (a : Option Addr) (n c : Nat) (hr : cZ W) (hp : cU W) (hx : aL W l (.slice a n c)) (hl : ∀ f ∈ l,f.right = true) (hn : n ≤ 1000) (hc : OkC co W) :
  Calls Tryz.prog 25 #[.slice a n c,one co] W fun e w'=>∃ fa fc,e = .returned (.slice fa l.length fc) ∧ aL (hide (lo W) w') (l.map Fm.normal) (.slice fa l.length fc) ∧ Below W.heap.size W w':=by
 have hlen:=hx.len
 have L2:=Lib.hid hlen.1
 have HX:=Lib.hid hx
 have HL:=Lib.hid hl
 have HC:=Lib.hid hc
 have NC : Hid (∀ f ∈ l,∀ X x,Below W.heap.size W X → bH X f x → Calls Tryz.prog 26 #[x] X (vO f.normal X)):=fun f hf X x hb hv=>qU f x X (hr.keep (aA hb)) (hp.below hb) hv (hl f hf)
 obtain ⟨i0,hi0,hz0,hs0,hb0⟩:=info_parts dN
 clear hlen hx hl hr hp hc
 go_enter Tryz.func25,Tryz.ntmps25
 go_wp2
 have A0 : Hid (eJ (lo W) W.heap.size W 40 4 0 [] (.slice none 0 0) ∧ Below W.heap.size W W):=⟨eJ.nil _ _ _ _ _,Below.refl _ _⟩
 go_loopw [4,11] (fun u i wr=>∃ (j : Nat) (U : Value),j ≤ n ∧ i = .int .i64 j ∧ U = u ∧ Hid (eJ (lo W) W.heap.size wr 40 4 j (bJ ((l.map Fm.normal).take j)) U ∧ Below W.heap.size W wr)) (fun _ i _=>n - (intOf i).toNat)
 case atStart=>exact ⟨0,_,Nat.zero_le _,rfl,rfl,A0.out⟩
 case round =>
  obtain ⟨j,U,hj,rfl,rfl,hs⟩:=hrel
  clear A0
  by_cases hlt : j < n
  ·obtain ⟨T,hT⟩:=aX (l:=l) (j:=j) (by rw [← L2.out];exact hlt)
   obtain ⟨bb,off,rfl,hc⟩:=HX.out.get (aZ hT)
   obtain ⟨x0,x1,x2,x3,x4,x5,hx⟩:=hc j _ hT
   have hK:=aA hs.out.2
   have c0:=hK _ _ hx.c0;have c1:=hK _ _ hx.c1;have c2:=hK _ _ hx.c2;have c3:=hK _ _ hx.c3
   obtain ⟨r,hr⟩ : ∃ r,T.normal = r:=⟨_,rfl⟩
   have TE:=map_take1 hT
   rw [hr] at TE
   have TE:=Lib.hid TE
   have IC : Hid (∀ o,Calls Tryz.prog 26 #[.agg #[.int .u8 T.op,str T.name,.slice x0 x1 x2,.slice x3 x4 x5]] (wr.alloc o) (vO r (wr.alloc o))):=fun o=>by
    rw [← hr]
    exact NC.out T (List.mem_of_getElem? hT) _ _ (hs.out.2.alloc hs.out.2.size _) ⟨_,_,_,_,_,_,rfl,(hx.at_.keep hK).keep (aA ((Below.refl _ _).alloc (Nat.le_refl _) _)),(hx.at'.keep hK).keep (aA ((Below.refl _ _).alloc (Nat.le_refl _) _))⟩
   clear hc hx hT hK hr
   have O3 : Hid (∀ o w3,Below (wr.alloc o).heap.size (wr.alloc o) w3 → OkC co w3 ∧ Below W.heap.size W w3 ∧ Below wr.heap.size wr w3):=fun o w3 hb=>by
    have b3 : Below wr.heap.size wr w3:=aE ((Below.refl _ _).alloc (Nat.le_refl _) _) hb
    exact ⟨(HC.out.below hs.out.2).below b3,hs.out.2.trans (b3.mono hs.out.2.size),b3⟩
   go_wp2_with (first
    | (
      go_at_call 26
      refine (IC.out _).mono ?_
      rintro e w3 ⟨fa,fn,fc,ga,gm,gd,rfl,h3,h4,b3⟩
      obtain ⟨o3,B3,bw3⟩:=O3.out _ _ b3
      obtain ⟨W7,hW7⟩ : ∃ W7,(w3.alloc (.cells #[.int .u8 r.op,str r.name,.slice fa fn fc,.slice ga gm gd] 40)).setCell ⟨co,0,none⟩ (.bool true) = W7:=⟨_,rfl⟩
      have o4 : OkC co (w3.alloc (.cells #[.int .u8 r.op,str r.name,.slice fa fn fc,.slice ga gm gd] 40)):=o3.below ((Below.refl _ _).alloc (Nat.le_refl _) _)
      obtain ⟨k0,k1⟩:=row1 o4
      have s7 : W7.heap.size = w3.heap.size + 1:=by rw [← hW7];simp
      have b37 : Below w3.heap.size w3 W7:=by rw [← hW7];exact ((Below.refl _ _).alloc (Nat.le_refl _) _).trans (o4.same _)
      have r7 : W7.heap[w3.heap.size]? = some (.cells #[.int .u8 r.op,str r.name,.slice fa fn fc,.slice ga gm gd] 40 (0,0)):=by
       rw [← hW7]
       refine (Below.block (o4.same (w3.heap.size + 1)) w3.heap.size (by omega)).trans (heap_alloc_new w3 _)
      obtain ⟨⟨m0,m1,m2,m3⟩,-⟩:=aJ r7
      have B7 : Hid (Below W.heap.size W W7):=B3.trans (b37.mono B3.size)
      obtain ⟨xs,ow,fin⟩:=qO (ty:=40) hs.out.1 (fun k hk=>by simp [lo];omega) (aE bw3 b37) (bM.keep (jA (w0:=W) (u:=U) (fun g hg=>by have:=(eC hs.out.1 g hg).2;simp;omega) (by have:=hs.out.2.size;simp;omega) (dS h3 h4)) (aF fun k h1 h2=>⟨h2,b37.block k h1⟩))
      have OW:=Lib.hid ow
      have FIN:=Lib.hid fin
      clear h3 h4 b3 ow fin IC o3 o4 B3 bw3 b37 r7 O3 s7)
    | (at_builtin;refine wpList_append_own_at _ rfl _ _ 24 rfl W.heap.size 40 i0 (.agg #[.int .u8 0,.string ⟨#[]⟩,.slice none 0 0,.slice none 0 0]) 4 72 Tryz.underlying24 hi0 hz0 hs0 hb0 rfl (by decide) U j xs (by rfl) OW.out ⟨W7.heap.size,0,none⟩ 1 1 [.int .u8 r.op,str r.name,.slice fa fn fc,.slice ga gm gd] (by rfl) rfl (eT _ _ _ _ _ _) cJ (by unfold maxLen;omega) (by omega) (by have:=B7.out.size;simp;omega) ?_;intro v5 w5 hown5 hg5 _ hat5;have F5:=Lib.hid (FIN.out v5 w5 hown5 hg5 hat5);have B5 : Hid (Below W.heap.size W w5):=((B7.out.alloc B7.out.size _).grown hg5 (by have:=B7.out.size;simp;omega) (fun kk hkk=>by have:=eC hs.out.1 kk hkk;omega));clear hown5 hg5 hat5 FIN OW))
   go_roundw
   case rel=>exact ⟨j + 1,_,by omega,by go_num,rfl,by rw [TE.out];exact F5.out,B5.out⟩
   case measure=>simp [intOf];omega
  ·have e : (l.map Fm.normal).take j = l.map Fm.normal:=List.take_of_length_le (by rw [List.length_map,← L2.out];omega)
   have EJ : Hid (j = l.length):=by show j = _;rw [← L2.out];omega
   have ha:=hs.out.1
   rw [e] at ha
   have HA:=Lib.hid ha
   have HB:=Lib.hid hs.out.2
   obtain ⟨fa,fc,rfl⟩:=lI ha.choose_spec.1
   clear ha hs e
   go_wp2
   go_ret
   refine ⟨fa,fc,by rw [← EJ.out];rfl, ?_,HB.out⟩
   have:=HA.out.at (fun k hk=>by simp [lo];omega)
   show At _ (.sl 4 (l.map Fm.normal).length (bJ (l.map Fm.normal))) (.slice fa l.length fc)
   rw [List.length_map,← EJ.out]
   exact this
end Go.Proofs.YtppfalbnhnpbnaaGreatDoor
namespace Go.Proofs.YtppfalbnhnpbnaaGreatDoor
open Go Go.RowKit Ly
set_option maxRecDepth 10000
set_option maxHeartbeats 4000000 in
theorem vP (L R : List Fm) (x : Value) (W : World) (hx0 : bT W L R x) (hL : L.length ≤ 400) (hR : R.length ≤ 400) (hn : aG (L ++ R) ≤ 1000000) :
  Calls Tryz.prog 27 #[x] W fun e w'=>e = .returned (.int .i64 (cF (L ++ R) : Nat)) ∧ Below W.heap.size W w':=by
 obtain ⟨a,n,c,b,m,d,rfl,hx,hy⟩:=hx0
 obtain ⟨W0,hW0⟩ : ∃ W0,((W.alloc (.cells #[.slice a n c,.slice b m d] 26)).alloc (.cells #[.int .i64 0] 3)).alloc (.cells #[.func (.func 55) #[] #[one (W.heap.size + 1),one (W.heap.size + 1 + 1)]] 98) = W0:=⟨_,rfl⟩
 have b0 : Below W.heap.size W W0:=by rw [← hW0];exact (((Below.refl _ _).alloc (Nat.le_refl _) _).alloc (by simp) _).alloc (by simp;omega) _
 have r0 : W0.heap[W.heap.size]? = some (.cells #[.slice a n c,.slice b m d] 26 (0,0)):=by rw [← hW0];exact aI _ (aI _ (heap_alloc_new W _))
 have s0 : CtS (W.heap.size + 1) (W.heap.size + 1 + 1) 0 W0:=by
  refine ⟨?_, ?_,by omega⟩
  ·rw [← hW0]
   have:=heap_alloc_new (W.alloc (.cells #[.slice a n c,.slice b m d] 26)) (.cells #[.int .i64 0] 3)
   rw [World.size_alloc] at this
   exact aI _ this
  ·rw [← hW0]
   have:=heap_alloc_new ((W.alloc (.cells #[.slice a n c,.slice b m d] 26)).alloc (.cells #[.int .i64 0] 3)) (.cells #[.func (.func 55) #[] #[one (W.heap.size + 1),one (W.heap.size + 1 + 1)]] 98)
   rw [World.size_alloc,World.size_alloc] at this
   exact this
 have FC : Hid (Calls Tryz.prog 56 #[.agg #[.slice a n c,.slice b m d]] W0 fun e w'=>∃ fa k fc,e = .returned (.slice fa k fc) ∧ aL w' (L ++ R) (.slice fa k fc) ∧ Below W0.heap.size W0 w' ∧ k = (L ++ R).length ∧ k ≤ 9223372036854775807) :=
  (oA L R _ W0 ⟨_,_,_,_,_,_,rfl,hx.keep (aA b0),hy.keep (aA b0)⟩ hL hR).mono fun e w' ⟨v,h1,h2,h3⟩=>by
   obtain ⟨fa,fc,rfl,-⟩:=At.sl_inv h2
   exact ⟨fa,_,fc,h1,h2,h3,rfl,by rw [List.length_append];omega⟩
 have HN : Hid (cF (L ++ R) ≤ 1000000):=Nat.le_trans (rP _) hn
 generalize L ++ R = fs at *
 have B0:=Lib.hid b0
 have S0:=Lib.hid s0
 obtain ⟨y0,y1,-,-⟩:=row2 r0
 clear hx hy hL hR hn b0 r0 s0
 go_enter Tryz.func27,Tryz.ntmps27
 go_wp2_with (go_at_call 56;refine FC.out.mono ?_;rintro e w2 ⟨fa,k,fc,rfl,hv,hb,hk,hk2⟩;have HV:=Lib.hid hv;have HB:=Lib.hid hb;have L2:=Lib.hid hk;clear hv hb hk FC)
 have S2 : Hid (CtS (W.heap.size + 1) (W.heap.size + 1 + 1) 0 w2):=S0.out.below HB.out
 have B2 : Hid (Below W.heap.size W w2):=B0.out.trans (HB.out.mono B0.out.size)
 clear y0 y1 hW0 B0 S0 HB
 go_loopw [11] (fun i wr=>∃ j : Nat,j ≤ k ∧ i = .int .i64 j ∧ Hid (But1 (W.heap.size + 1) w2 wr ∧ CtS (W.heap.size + 1) (W.heap.size + 1 + 1) (cF (fs.take j)) wr)) (fun i _=>k - (intOf i).toNat)
 case atStart=>exact ⟨0,Nat.zero_le _,rfl,But1.refl _ _,by simpa [cF] using S2.out⟩
 case round =>
  obtain ⟨j,hj,rfl,hs⟩:=hrel
  have fa':=rS S2.out.n hs.out.1 HV.out
  by_cases hlt : j < k
  ·obtain ⟨T,hT⟩:=aX (l:=fs) (j:=j) (by rw [← L2.out];exact hlt)
   obtain ⟨bb,off,rfl,hc⟩:=fa'.get (aZ hT)
   obtain ⟨x0,x1,x2,x3,x4,x5,hx⟩:=hc j _ hT
   have c0:=hx.c0;have c1:=hx.c1;have c2:=hx.c2;have c3:=hx.c3
   have te:=rQ fs hT
   have RC : Hid (∀ o,Calls Tryz.prog 55 #[.agg #[.int .u8 T.op,str T.name,.slice x0 x1 x2,.slice x3 x4 x5],one (W.heap.size + 1),one (W.heap.size + 1 + 1)] (wr.alloc o) fun e w'=>e = .returned (.tuple #[]) ∧ But1 (W.heap.size + 1) w2 w' ∧ CtS (W.heap.size + 1) (W.heap.size + 1 + 1) (cF (fs.take (j + 1))) w'):=fun o=>by
    have ba : Below wr.heap.size wr (wr.alloc o):=(Below.refl _ _).alloc (Nat.le_refl _) _
    refine (AD _ _ T (cF (fs.take j)) (wr.alloc o) _ ⟨_,_,_,_,_,_,rfl,hx.at_.keep (aA ba),hx.at'.keep (aA ba)⟩ (hs.out.2.below ba) (by have:=HN.out;have:=tP fs (j + 1);omega)).mono ?_
    rintro e w' ⟨rfl,h1,h2⟩
    exact ⟨rfl,(hs.out.1.trans (But1.of_below ba)).trans h1,by rw [te];exact h2⟩
   have v2 : ∀ o,(wr.alloc o).cell? ⟨W.heap.size + 1 + 1,0,none⟩ = some (.func (.func 55) #[] #[one (W.heap.size + 1),one (W.heap.size + 1 + 1)]):=fun o=>(row1 (aI o hs.out.2.f)).1
   clear hc hx hT fa' te
   go_wp2_with (go_at_call 55;refine (RC.out _).mono ?_;rintro e w3 ⟨rfl,h3,s3⟩;have H3:=Lib.hid (And.intro h3 s3);clear h3 s3 RC)
   go_roundw
   case rel=>exact ⟨j + 1,by omega,by go_num,H3.out⟩
   case measure=>simp [intOf];omega
  ·have e : fs.take j = fs:=List.take_of_length_le (by rw [← L2.out];omega)
   have hs2:=hs.out
   rw [e] at hs2
   obtain ⟨v2,-⟩:=row1 hs2.2.n
   have BF : Hid (Below W.heap.size W wr):=B2.out.trans (hs2.1.below (by omega) B2.out.size)
   clear hs2 e fa'
   go_wp2
   go_ret
   exact ⟨rfl,BF.out⟩
end Go.Proofs.YtppfalbnhnpbnaaGreatDoor
namespace Go.Proofs.YtppfalbnhnpbnaaGreatDoor
open Go Go.RowKit Ly
set_option maxRecDepth 10000
noncomputable def aw4 : Array Oper:=((Tryz.f9.body).bind (fO 4)).getD #[]
def aw4R : List (Value → World → Prop):=[isV (atV [80]),
 isV (atV [81]),
 fsP [Fm.mk 1 [80] [] [],Fm.mk 1 [81] [] []],
 fmP (Fm.mk 4 [] [] [Fm.mk 1 [80] [] [],Fm.mk 1 [81] [] []]),
 fsP [(Fm.mk 4 [] [] [Fm.mk 1 [80] [] [],Fm.mk 1 [81] [] []])],
 fsP [(Fm.mk 4 [] [] [Fm.mk 1 [80] [] [],Fm.mk 1 [81] [] []])],
 sqP [] [(Fm.mk 4 [] [] [Fm.mk 1 [80] [] [],Fm.mk 1 [81] [] []])],
 isV (atV [81]),
 isV (atV [80]),
 fsP [Fm.mk 1 [81] [] [],Fm.mk 1 [80] [] []],
 fmP (Fm.mk 4 [] [] [Fm.mk 1 [81] [] [],Fm.mk 1 [80] [] []]),
 fsP [(Fm.mk 4 [] [] [Fm.mk 1 [81] [] [],Fm.mk 1 [80] [] []])],
 fsP [(Fm.mk 4 [] [] [Fm.mk 1 [81] [] [],Fm.mk 1 [80] [] []])],
 sqP [] [(Fm.mk 4 [] [] [Fm.mk 1 [81] [] [],Fm.mk 1 [80] [] []])],
 isV (.tuple #[.bool true,.int .i64 0]),
 isV (.tuple #[.bool true,.int .i64 0]),
 isV (.bool true),
 isV (.int .i64 0),
 isV (.bool true),
 isV (.int .i64 0)]
theorem aw4_stays : ∀ r ∈ aw4R,kH r:=by
 unfold aw4R
 simp only [List.forall_mem_cons]
 exact ⟨aH _,aH _,bZ _,gN _,bZ _,bZ _,dC _ _,aH _,aH _,bZ _,gN _,bZ _,bZ _,dC _ _,aH _,aH _,aH _,aH _,aH _,aH _,fun r h=>by cases h⟩
set_option maxHeartbeats 4000000 in
theorem aw4_steps (Q : Exit → Act → World → Prop) (W : World) (a0 : Act) (g1 g2 g3 : Nat) (h1 : a0.tmps.getD 1 undef = one g1) (h2 : a0.tmps.getD 2 undef = one g2) (h3 : a0.tmps.getD 3 undef = one g3) (HA : AwV g1 g2 g3 W) (hr : cZ W) (hp : cU W) : aB Tryz.prog aw4 Q W a0 (rAt aw4R) [0,1,2,3,4,5,6,7,8,9,10,11,12,13,14,15,16,17,18,19]:=by
 refine aB.step (Op.load 40 (Operand.tmp 1)) (by kernel_rfl) (fun a w F=>?_) ?_
 ·have e:=(F.old 1 (by kernel_rfl)).trans h1
  obtain ⟨⟨p0,p1,p2,p3⟩,-⟩:=aJ (kc F.bw HA.c1)
  clear F
  rintro ⟨dst,op,ty,pos,af,gd⟩ rfl K Q' hK
  have HK:=Lib.hid hK
  clear hK
  go_simp
  exact HK.out _ _ ⟨Below.refl _ _,rfl⟩
 refine aB.step (Op.load 40 (Operand.tmp 2)) (by kernel_rfl) (fun a w F=>?_) ?_
 ·have e:=(F.old 2 (by kernel_rfl)).trans h2
  obtain ⟨⟨p0,p1,p2,p3⟩,-⟩:=aJ (kc F.bw HA.c2)
  clear F
  rintro ⟨dst,op,ty,pos,af,gd⟩ rfl K Q' hK
  have HK:=Lib.hid hK
  clear hK
  go_simp
  exact HK.out _ _ ⟨Below.refl _ _,rfl⟩
 refine aB.step (Op.buildSlice 24 2 #[(0,Operand.tmp 60),(1,Operand.tmp 61)]) (by kernel_rfl) (fun a w F=>?_) ?_
 ·have ex : a.tmps[60]?.getD undef = .agg #[.int .u8 1,str [80],.slice none 0 0,.slice none 0 0]:=F.dep 0 60 (by kernel_rfl) (by kernel_rfl)
  have dx:=fA w [80]
  have ey : a.tmps[61]?.getD undef = .agg #[.int .u8 1,str [81],.slice none 0 0,.slice none 0 0]:=F.dep 1 61 (by kernel_rfl) (by kernel_rfl)
  have dy:=fA w [81]
  clear F
  rintro ⟨dst,op,ty,pos,af,gd⟩ rfl K Q' hK
  have HK:=Lib.hid hK
  have Dx:=Lib.hid dx
  have Dy:=Lib.hid dy
  clear hK dx dy
  go_simp
  exact HK.out _ _ ⟨aT _ _,kK Dx.out Dy.out⟩
 refine aB.step (Op.call { callee:=Callee.value (Operand.func 17),args:=#[Operand.const (Value.int IntKind.u8 4),Operand.tmp 62],argTypes:=#[5,24] }) (by kernel_rfl) (fun a w F=>?_) ?_
 ·have dx : aL w [Fm.mk 1 [80] [] [],Fm.mk 1 [81] [] []] (a.tmps[62]?.getD undef):=F.dep 2 62 (by kernel_rfl) (by kernel_rfl)
  obtain ⟨ax,cx,ex,-⟩:=At.sl_inv dx
  rw [ex] at dx
  clear F
  rintro ⟨dst,op,ty,pos,af,gd⟩ rfl K Q' hK
  have HK:=Lib.hid hK
  have DX:=Lib.hid dx
  clear hK dx
  go_simp
  go_at_call 17
  refine (fT 4 [Fm.mk 1 [80] [] [],Fm.mk 1 [81] [] []] _ _ _ _ DX.out).mono ?_
  rintro e w1 ⟨v,rfl,hv,hb⟩
  exact HK.out _ _ ⟨hb,hv⟩
 refine aB.step (Op.buildSlice 24 1 #[(0,Operand.tmp 63)]) (by kernel_rfl) (fun a w F=>?_) ?_
 ·have dx : bH w (Fm.mk 4 [] [] [Fm.mk 1 [80] [] [],Fm.mk 1 [81] [] []]) (a.tmps[63]?.getD undef):=F.dep 3 63 (by kernel_rfl) (by kernel_rfl)
  obtain ⟨ix,nx,cx,jx,mx,lx,ex,-⟩:=id dx
  rw [ex] at dx
  clear F
  rintro ⟨dst,op,ty,pos,af,gd⟩ rfl K Q' hK
  have HK:=Lib.hid hK
  have Dx:=Lib.hid dx
  clear hK dx
  go_simp
  exact HK.out _ _ ⟨aT _ _,kJ Dx.out⟩
 refine aB.step (Op.call { callee:=Callee.value (Operand.func 21),args:=#[Operand.tmp 64],argTypes:=#[24] }) (by kernel_rfl) (fun a w F=>?_) ?_
 ·have dx : aL w [(Fm.mk 4 [] [] [Fm.mk 1 [80] [] [],Fm.mk 1 [81] [] []])] (a.tmps[64]?.getD undef):=F.dep 4 64 (by kernel_rfl) (by kernel_rfl)
  obtain ⟨ax,cx,ex,-⟩:=At.sl_inv dx
  rw [ex] at dx
  clear F
  rintro ⟨dst,op,ty,pos,af,gd⟩ rfl K Q' hK
  have HK:=Lib.hid hK
  have DX:=Lib.hid dx
  clear hK dx
  go_simp
  go_at_call 21
  refine (fs_c _ _).mono ?_
  rintro e w1 ⟨rfl,rfl⟩
  exact HK.out _ _ ⟨Below.refl _ _,DX.out⟩
 refine aB.step (Op.call { callee:=Callee.value (Operand.func 20),args:=#[Operand.const (Value.slice none 0 0),Operand.tmp 65],argTypes:=#[24,24] }) (by kernel_rfl) (fun a w F=>?_) ?_
 ·have dy : aL w [(Fm.mk 4 [] [] [Fm.mk 1 [80] [] [],Fm.mk 1 [81] [] []])] (a.tmps[65]?.getD undef):=F.dep 5 65 (by kernel_rfl) (by kernel_rfl)
  obtain ⟨ay,cy,ey,-⟩:=At.sl_inv dy
  rw [ey] at dy
  clear F
  rintro ⟨dst,op,ty,pos,af,gd⟩ rfl K Q' hK
  have HK:=Lib.hid hK
  have DY:=Lib.hid dy
  clear hK dy
  go_simp
  go_at_call 20
  refine (sq_c _ _ _ _ _ _ _).mono ?_
  rintro e w1 ⟨rfl,hb⟩
  exact HK.out _ _ ⟨hb,_,_,_,_,_,_,rfl,At.sl_nil (Nat.zero_le _),(DY.out).keep (aA hb)⟩
 refine aB.step (Op.load 40 (Operand.tmp 2)) (by kernel_rfl) (fun a w F=>?_) ?_
 ·have e:=(F.old 2 (by kernel_rfl)).trans h2
  obtain ⟨⟨p0,p1,p2,p3⟩,-⟩:=aJ (kc F.bw HA.c2)
  clear F
  rintro ⟨dst,op,ty,pos,af,gd⟩ rfl K Q' hK
  have HK:=Lib.hid hK
  clear hK
  go_simp
  exact HK.out _ _ ⟨Below.refl _ _,rfl⟩
 refine aB.step (Op.load 40 (Operand.tmp 1)) (by kernel_rfl) (fun a w F=>?_) ?_
 ·have e:=(F.old 1 (by kernel_rfl)).trans h1
  obtain ⟨⟨p0,p1,p2,p3⟩,-⟩:=aJ (kc F.bw HA.c1)
  clear F
  rintro ⟨dst,op,ty,pos,af,gd⟩ rfl K Q' hK
  have HK:=Lib.hid hK
  clear hK
  go_simp
  exact HK.out _ _ ⟨Below.refl _ _,rfl⟩
 refine aB.step (Op.buildSlice 24 2 #[(0,Operand.tmp 67),(1,Operand.tmp 68)]) (by kernel_rfl) (fun a w F=>?_) ?_
 ·have ex : a.tmps[67]?.getD undef = .agg #[.int .u8 1,str [81],.slice none 0 0,.slice none 0 0]:=F.dep 7 67 (by kernel_rfl) (by kernel_rfl)
  have dx:=fA w [81]
  have ey : a.tmps[68]?.getD undef = .agg #[.int .u8 1,str [80],.slice none 0 0,.slice none 0 0]:=F.dep 8 68 (by kernel_rfl) (by kernel_rfl)
  have dy:=fA w [80]
  clear F
  rintro ⟨dst,op,ty,pos,af,gd⟩ rfl K Q' hK
  have HK:=Lib.hid hK
  have Dx:=Lib.hid dx
  have Dy:=Lib.hid dy
  clear hK dx dy
  go_simp
  exact HK.out _ _ ⟨aT _ _,kK Dx.out Dy.out⟩
 refine aB.step (Op.call { callee:=Callee.value (Operand.func 17),args:=#[Operand.const (Value.int IntKind.u8 4),Operand.tmp 69],argTypes:=#[5,24] }) (by kernel_rfl) (fun a w F=>?_) ?_
 ·have dx : aL w [Fm.mk 1 [81] [] [],Fm.mk 1 [80] [] []] (a.tmps[69]?.getD undef):=F.dep 9 69 (by kernel_rfl) (by kernel_rfl)
  obtain ⟨ax,cx,ex,-⟩:=At.sl_inv dx
  rw [ex] at dx
  clear F
  rintro ⟨dst,op,ty,pos,af,gd⟩ rfl K Q' hK
  have HK:=Lib.hid hK
  have DX:=Lib.hid dx
  clear hK dx
  go_simp
  go_at_call 17
  refine (fT 4 [Fm.mk 1 [81] [] [],Fm.mk 1 [80] [] []] _ _ _ _ DX.out).mono ?_
  rintro e w1 ⟨v,rfl,hv,hb⟩
  exact HK.out _ _ ⟨hb,hv⟩
 refine aB.step (Op.buildSlice 24 1 #[(0,Operand.tmp 70)]) (by kernel_rfl) (fun a w F=>?_) ?_
 ·have dx : bH w (Fm.mk 4 [] [] [Fm.mk 1 [81] [] [],Fm.mk 1 [80] [] []]) (a.tmps[70]?.getD undef):=F.dep 10 70 (by kernel_rfl) (by kernel_rfl)
  obtain ⟨ix,nx,cx,jx,mx,lx,ex,-⟩:=id dx
  rw [ex] at dx
  clear F
  rintro ⟨dst,op,ty,pos,af,gd⟩ rfl K Q' hK
  have HK:=Lib.hid hK
  have Dx:=Lib.hid dx
  clear hK dx
  go_simp
  exact HK.out _ _ ⟨aT _ _,kJ Dx.out⟩
 refine aB.step (Op.call { callee:=Callee.value (Operand.func 21),args:=#[Operand.tmp 71],argTypes:=#[24] }) (by kernel_rfl) (fun a w F=>?_) ?_
 ·have dx : aL w [(Fm.mk 4 [] [] [Fm.mk 1 [81] [] [],Fm.mk 1 [80] [] []])] (a.tmps[71]?.getD undef):=F.dep 11 71 (by kernel_rfl) (by kernel_rfl)
  obtain ⟨ax,cx,ex,-⟩:=At.sl_inv dx
  rw [ex] at dx
  clear F
  rintro ⟨dst,op,ty,pos,af,gd⟩ rfl K Q' hK
  have HK:=Lib.hid hK
  have DX:=Lib.hid dx
  clear hK dx
  go_simp
  go_at_call 21
  refine (fs_c _ _).mono ?_
  rintro e w1 ⟨rfl,rfl⟩
  exact HK.out _ _ ⟨Below.refl _ _,DX.out⟩
 refine aB.step (Op.call { callee:=Callee.value (Operand.func 20),args:=#[Operand.const (Value.slice none 0 0),Operand.tmp 72],argTypes:=#[24,24] }) (by kernel_rfl) (fun a w F=>?_) ?_
 ·have dy : aL w [(Fm.mk 4 [] [] [Fm.mk 1 [81] [] [],Fm.mk 1 [80] [] []])] (a.tmps[72]?.getD undef):=F.dep 12 72 (by kernel_rfl) (by kernel_rfl)
  obtain ⟨ay,cy,ey,-⟩:=At.sl_inv dy
  rw [ey] at dy
  clear F
  rintro ⟨dst,op,ty,pos,af,gd⟩ rfl K Q' hK
  have HK:=Lib.hid hK
  have DY:=Lib.hid dy
  clear hK dy
  go_simp
  go_at_call 20
  refine (sq_c _ _ _ _ _ _ _).mono ?_
  rintro e w1 ⟨rfl,hb⟩
  exact HK.out _ _ ⟨hb,_,_,_,_,_,_,rfl,At.sl_nil (Nat.zero_le _),(DY.out).keep (aA hb)⟩
 refine aB.step (Op.call { callee:=Callee.value (Operand.func 12),args:=#[Operand.tmp 66,Operand.tmp 73],argTypes:=#[26,26] }) (by kernel_rfl) (fun a w F=>?_) ?_
 ·have dx : bT w [] [(Fm.mk 4 [] [] [Fm.mk 1 [80] [] [],Fm.mk 1 [81] [] []])] (a.tmps[66]?.getD undef):=F.dep 6 66 (by kernel_rfl) (by kernel_rfl)
  obtain ⟨a1,n1,c1,b1,m1,l1,ex,-⟩:=id dx
  rw [ex] at dx
  have dy : bT w [] [(Fm.mk 4 [] [] [Fm.mk 1 [81] [] [],Fm.mk 1 [80] [] []])] (a.tmps[73]?.getD undef):=F.dep 13 73 (by kernel_rfl) (by kernel_rfl)
  obtain ⟨a2,n2,c2,b2,m2,l2,ey,-⟩:=id dy
  rw [ey] at dy
  have rows:=hr.keep (aA F.bw)
  have pows:=hp.below F.bw
  clear F
  rintro ⟨dst,op,ty,pos,af,gd⟩ rfl K Q' hK
  have HK:=Lib.hid hK
  have DX:=Lib.hid dx
  have DY:=Lib.hid dy
  have ROWS:=Lib.hid rows
  have POWS:=Lib.hid pows
  clear hK dx dy rows pows
  go_simp
  go_at_call 12
  refine (uQ _ _ _ _ _ _ _ ROWS.out POWS.out DX.out DY.out (gU (by kernel_rfl)) (gU (by kernel_rfl))).mono ?_
  rintro e w1 ⟨rfl,hb⟩
  exact HK.out _ _ ⟨hb,congrArg (fun b=>Value.tuple #[.bool b,.int .i64 0]) (uH Ly.aw2)⟩
 refine aB.step (Op.move (Operand.tmp 74)) (by kernel_rfl) (fun a w F=>?_) ?_
 ·have e : a.tmps[74]?.getD undef = .tuple #[.bool true,.int .i64 0]:=F.dep 14 74 (by kernel_rfl) (by kernel_rfl)
  clear F
  rintro ⟨dst,op,ty,pos,af,gd⟩ rfl K Q' hK
  have HK:=Lib.hid hK
  clear hK
  go_simp
  exact HK.out _ _ ⟨Below.refl _ _,rfl⟩
 refine aB.step (Op.extract (Operand.tmp 59) 0) (by kernel_rfl) (fun a w F=>?_) ?_
 ·have e : a.tmps[59]?.getD undef = .tuple #[.bool true,.int .i64 0]:=F.dep 15 59 (by kernel_rfl) (by kernel_rfl)
  clear F
  rintro ⟨dst,op,ty,pos,af,gd⟩ rfl K Q' hK
  have HK:=Lib.hid hK
  clear hK
  go_simp
  exact HK.out _ _ ⟨Below.refl _ _,rfl⟩
 refine aB.step (Op.extract (Operand.tmp 59) 1) (by kernel_rfl) (fun a w F=>?_) ?_
 ·have e : a.tmps[59]?.getD undef = .tuple #[.bool true,.int .i64 0]:=F.dep 15 59 (by kernel_rfl) (by kernel_rfl)
  clear F
  rintro ⟨dst,op,ty,pos,af,gd⟩ rfl K Q' hK
  have HK:=Lib.hid hK
  clear hK
  go_simp
  exact HK.out _ _ ⟨Below.refl _ _,rfl⟩
 refine aB.step (Op.assign (Operand.tmp 75)) (by kernel_rfl) (fun a w F=>?_) ?_
 ·have e : a.tmps[75]?.getD undef = .bool true:=F.dep 16 75 (by kernel_rfl) (by kernel_rfl)
  clear F
  rintro ⟨dst,op,ty,pos,af,gd⟩ rfl K Q' hK
  have HK:=Lib.hid hK
  clear hK
  go_simp
  exact HK.out _ _ ⟨Below.refl _ _,rfl⟩
 refine aB.step (Op.assign (Operand.tmp 76)) (by kernel_rfl) (fun a w F=>?_) ?_
 ·have e : a.tmps[76]?.getD undef = .int .i64 0:=F.dep 17 76 (by kernel_rfl) (by kernel_rfl)
  clear F
  rintro ⟨dst,op,ty,pos,af,gd⟩ rfl K Q' hK
  have HK:=Lib.hid hK
  clear hK
  go_simp
  exact HK.out _ _ ⟨Below.refl _ _,rfl⟩
 exact aB.nil
end Go.Proofs.YtppfalbnhnpbnaaGreatDoor
