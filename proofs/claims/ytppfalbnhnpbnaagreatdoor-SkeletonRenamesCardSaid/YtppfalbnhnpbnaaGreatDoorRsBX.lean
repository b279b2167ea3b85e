/- lyceumlaw30.SkeletonRenames answers true. Conditions: the tables lie as laid. -/
import Derived.Test.YtppfalbnhnpbnaaGreatDoorRsAX
import Derived.Test.YtppfalbnhnpbnaaGreatDoorRmAX
import Derived.Test.YtppfalbnhnpbnaaGreatDoorAwBX
import Derived.Test.YtppfalbnhnpbnaaGreatDoorRwBX
import Derived.Test.YtppfalbnhnpbnaaGreatDoorAwFX
import Derived.Laws.Cover1
set_option linter.unusedSimpArgs false
set_option linter.unusedVariables false
namespace Go.Proofs.YtppfalbnhnpbnaaGreatDoor
open Go Go.RowKit Ly
set_option maxRecDepth 10000
theorem cM.set {g q : Nat} {L R : List Fm} {X Y : World} {x y : Value} (h : cM g L R X) (hq : X.heap[q]? = some (.cells #[x,y] 26 (0,0))) (ne : g ≠ q) (key : ∀ k,k ≠ q → Y.heap[k]? = X.heap[k]?) : cM g L R Y:=by
 obtain ⟨a,n,c,b,m,d,h0,h1,h2⟩:=h
 exact ⟨a,n,c,b,m,d,(key _ ne).trans h0,h1.away hq key,h2.away hq key⟩
theorem cM.size {g : Nat} {L R : List Fm} {W : World} (h : cM g L R W) : g < W.heap.size:=by
 obtain ⟨a,n,c,b,m,d,h0,-⟩:=h
 exact (Array.getElem?_eq_some_iff.1 h0).1
theorem cM.parts {g : Nat} {L R : List Fm} {W : World} (h : cM g L R W) : ∃ a n c b m d,(W.cell? ⟨g,0,none⟩ = some (.slice a n c) ∧ W.cell? ⟨g,1,none⟩ = some (.slice b m d)) ∧ Hid (bT W L R (.agg #[.slice a n c,.slice b m d])):=by
 obtain ⟨a,n,c,b,m,d,h0,h1,h2⟩:=h
 obtain ⟨p0,p1,-,-⟩:=row2 h0
 exact ⟨a,n,c,b,m,d,⟨p0,p1⟩,_,_,_,_,_,_,rfl,h1,h2⟩
structure RsS (w : World) (L R T1 T2 N1 N2 : List Fm) (g9 g10 g11 g13 : Nat) (W : World) : Prop where
 bw : Below w.heap.size w W
 s9 : cM g9 L R W
 s10 : cM g10 T1 T2 W
 o11 : OkC g11 W
 s13 : cM g13 N1 N2 W
theorem RsS.next {w : World} {L R T1 T2 N1 N2 : List Fm} {g9 g10 g11 g13 : Nat} {W W' : World} (h : RsS w L R T1 T2 N1 N2 g9 g10 g11 g13 W) (b : Below W.heap.size W W') : RsS w L R T1 T2 N1 N2 g9 g10 g11 g13 W':=⟨aE h.bw b,h.s9.below b,h.s10.below b,h.o11.below b,h.s13.below b⟩
theorem rs_store {w W : World} {L R T1 T2 N1 N2 : List Fm} {g9 g10 g11 g13 q : Nat} {x y : Value} {a b : Option Addr} {n c m d : Nat} (bw : Below w.heap.size w W) (s9 : cM g9 L R W) (s10 : cM g10 T1 T2 W) (o11 : OkC g11 W) (h9 : g9 < q) (h10 : g10 < q) (h11 : g11 < q) (hw : w.heap.size ≤ q) (hq : q ≤ g13) (h13 : W.heap[g13]? = some (.cells #[x,y] 26 (0,0))) (hL : aL W N1 (.slice a n c)) (hR : aL W N2 (.slice b m d)) :
  RsS w L R T1 T2 N1 N2 g9 g10 g11 g13 ((W.setCell ⟨g13,0,none⟩ (.slice a n c)).setCell ⟨g13,1,none⟩ (.slice b m d)):=by
 obtain ⟨k1,k2,k3,key⟩:=xE h13 hL hR
 exact ⟨(bw.setCell (Nat.le_trans hw hq) _).setCell (Nat.le_trans hw hq) _,s9.set h13 (by omega) key,s10.set h13 (by omega) key,(key _ (by omega)).trans o11,_,_,_,_,_,_,k1,k2,k3⟩
set_option maxHeartbeats 16000000 in
theorem renames30_c (l : List Bs) (k bt wh : Nat) (hk : k < 256) (hb : bt < 65536) (hw : wh < 256) (a : Option Addr) (n c : Nat) (w : World) (hr : cZ w) (hp : cU w) (hl : oL w l (.slice a n c)) :
  Calls Tryz.prog 6 #[.slice a n c,.int .u8 k,.int .u16 bt,.int .u8 wh] w fun e w'=>e = .returned (.bool true) ∧ Below w.heap.size w w':=by
 have HR:=Lib.hid hr
 have HP:=Lib.hid hp
 obtain ⟨L,hL⟩ : ∃ L,clL l (k % 5) 4 = L:=⟨_,rfl⟩
 obtain ⟨R,hR⟩ : ∃ R,clR l (k % 5) 4 = R:=⟨_,rfl⟩
 have CC : Hid (∀ W,Below w.heap.size w W → Calls Tryz.prog 10 #[.slice a n c,.int .u8 k] W fun e w'=>∃ v,e = .returned v ∧ bT (hide (lo W) w') L R v ∧ Below W.heap.size W w'):=fun W hW=>by rw [← hL,← hR];exact claim_c l k hk a n c W (At.keep (aA hW) _ _ hl)
 have rL : ∀ f ∈ L,f.right = true:=fun f hf=>by
  rw [← hL] at hf
  obtain ⟨x,-,rfl⟩:=List.mem_map.1 hf
  exact pS x
 have rR : ∀ f ∈ R,f.right = true:=fun f hf=>by
  rw [← hR] at hf
  obtain ⟨x,-,rfl⟩:=List.mem_map.1 hf
  exact pS x
 have lL : L.length ≤ 4:=by rw [← hL];simp [clL];omega
 have lR : R.length ≤ 4:=by rw [← hR];simp [clR];omega
 have OK1 : Hid (okSq L R):=⟨rL,rR,by omega,by omega⟩
 obtain ⟨S1,hS1⟩ : ∃ S,(skOf L R).1 = S:=⟨_,rfl⟩
 obtain ⟨S2,hS2⟩ : ∃ S,(skOf L R).2 = S:=⟨_,rfl⟩
 have SK : Hid (skOf L R = (S1,S2)):=Prod.ext hS1 hS2
 have RA:=renamed24_c L R OK1.out
 have KT:=wM bt OK1.out
 have SN:=rens_norm bt OK1.out
 have WE:=rens_weight bt L R
 have RA:=fun x W hr hx=>RA x W bt hb hr hx
 generalize rens bt 0 prs (L,R) = T at RA KT SN WE
 obtain ⟨T1,T2⟩:=T
 simp only at RA KT SN WE
 have OKT : Hid (okSq T1 T2):=KT.ok OK1.out
 have OKN : Hid (okSq (T1.map Fm.normal) (T2.map Fm.normal)):=normal_ok OKT.out
 have NL1 : Hid (∀ W a n c co,Below w.heap.size w W → aL W T1 (.slice a n c) → OkC co W → Calls Tryz.prog 25 #[.slice a n c,one co] W fun e w'=>∃ v,e = .returned v ∧ aL w' (T1.map Fm.normal) v ∧ Below W.heap.size W w'):=fun W a n c co hW hx hc=>(nl_c T1 co W a n c (HR.out.keep (aA hW)) (HP.out.below hW) hx OKT.out.1 (by have:=hx.len.1;have:=OKT.out.2.2.1;omega) hc).mono fun e w' ⟨fa,fc,h1,h2,h3⟩=>⟨_,h1,h2.keep (dD _ _),h3⟩
 have NL2 : Hid (∀ W a n c co,Below w.heap.size w W → aL W T2 (.slice a n c) → OkC co W → Calls Tryz.prog 25 #[.slice a n c,one co] W fun e w'=>∃ v,e = .returned v ∧ aL w' (T2.map Fm.normal) v ∧ Below W.heap.size W w'):=fun W a n c co hW hx hc=>(nl_c T2 co W a n c (HR.out.keep (aA hW)) (HP.out.below hW) hx OKT.out.2.1 (by have:=hx.len.1;have:=OKT.out.2.2.2;omega) hc).mono fun e w' ⟨fa,fc,h1,h2,h3⟩=>⟨_,h1,h2.keep (dD _ _),h3⟩
 generalize T1.map Fm.normal = N1 at SN WE OKN NL1
 generalize T2.map Fm.normal = N2 at SN WE OKN NL2
 have SKT : Hid (skOf T1 T2 = (S1,S2)):=KT.sk.trans SK.out
 have SKN : Hid (skOf N1 N2 = (S1,S2)):=SN.trans SK.out
 obtain ⟨m,hm⟩ : ∃ m,cF (L ++ R) = m:=⟨_,rfl⟩
 have HW1 : Hid (∀ W x,bT W L R x → Calls Tryz.prog 27 #[x] W fun e w'=>e = .returned (.int .i64 (m : Nat)) ∧ Below W.heap.size W w'):=fun W x hx=>by rw [← hm];exact vP L R x W hx (by omega) (by omega) (wH OK1.out)
 have HW2 : Hid (∀ W x,bT W N1 N2 x → Calls Tryz.prog 27 #[x] W fun e w'=>e = .returned (.int .i64 (m : Nat)) ∧ Below W.heap.size W w'):=fun W x hx=>by rw [← hm,← WE];exact vP N1 N2 x W hx (by have:=OKN.out.2.2.1;omega) (by have:=OKN.out.2.2.2;omega) (wH OKN.out)
 have RA:=Lib.hid RA
 have SE : Hid (lJ L R N1 N2 = true):=uH (by rw [SK.out,SKN.out])
 obtain ⟨i,hi⟩ : ∃ i : Nat,wh % 13 = i:=⟨_,rfl⟩
 have i13 : i < 13:=by omega
 obtain ⟨⟨⟨so,nm,ar⟩,b⟩,hp⟩ : ∃ p,prs[i]? = some p:=aX (l:=prs) (j:=i) (by simpa [prs] using i13)
 have PM:=Lib.hid (List.mem_of_getElem? hp)
 have IX:=Lib.hid (yA .u8 i (⟨so,nm,ar⟩,b) hp)
 have TM : Hid ((wh : Int).tmod 13 = (i : Int)):=by rw [Hid,show (13 : Int) = ((13 : Nat) : Int) from rfl,← Int.ofNat_tmod,hi]
 have PC:=Lib.hid (prs_code (⟨so,nm,ar⟩,b) PM.out OK1.out)
 have RN : Hid (∀ W x,Below w.heap.size w W → bT W L R x → Calls Tryz.prog 29 #[x,.agg #[str nm,.int .i64 ar],.agg #[str b,.int .i64 ar]] W (RetR (renP ⟨so,nm,ar⟩ b L R).1 (renP ⟨so,nm,ar⟩ b L R).2.1 (renP ⟨so,nm,ar⟩ b L R).2.2 W)):=fun W x hW hx=>yL (⟨so,nm,ar⟩,b) PM.out L R x W (HR.out.keep (aA hW)) hx OK1.out
 have BK : Hid (∀ L R W x,Below w.heap.size w W → okSq L R → bT W L R x → Calls Tryz.prog 29 #[x,.agg #[str b,.int .i64 ar],.agg #[str nm,.int .i64 ar]] W (RetR (renP ⟨so,b,ar⟩ nm L R).1 (renP ⟨so,b,ar⟩ nm L R).2.1 (renP ⟨so,b,ar⟩ nm L R).2.2 W)):=fun L R W x hW ho hx=>back13_c (⟨so,nm,ar⟩,b) PM.out L R x W (HR.out.keep (aA hW)) hx ho
 have PV:=Lib.hid (prs_vars (⟨so,nm,ar⟩,b) PM.out)
 clear hr hp hl hL hR rL rR lL lR hS1 hS2 hk KT SN WE hm hi i13 hb hw
 go_enter Tryz.func6,Tryz.ntmps6
 go_upto_region 3 with (go_at_call 9;refine (awake_c _ HR.out HP.out).mono ?_;rintro e w1 ⟨rfl,b1⟩;have B1:=Lib.hid b1;clear b1)
 go_cut [9] from 29 to 31 (fun u5 wx=>∃ g5,u5 = one g5 ∧ Hid (Below w.heap.size w wx ∧ cM g5 L R wx))
 case first =>
  go_wp2_with (
         go_at_call 10
         refine (CC.out _ B1.out).mono ?_
         rintro e w2 ⟨v2,rfl,⟨xa,xn,xc,xb,xm,xd,rfl,h1,h2⟩,b2⟩
         have N2':=Lib.hid (And.intro (aE B1.out b2) (And.intro h1 h2))
         clear h1 h2 b2)
  go_meet
  exact ⟨_,rfl,aE N2'.out.1 (aT _ _),cM.mk (heap_alloc_new _ _) (N2'.out.2.1.keep (cA _ _ _)) (N2'.out.2.2.keep (cA _ _ _))⟩
 case rest =>
 obtain ⟨g9,rfl,S5⟩:=hcut
 obtain ⟨xa,xn,xc,xb,xm,xd,⟨p0,p1⟩,V5⟩:=S5.out.2.parts
 clear CC
 go_upto_region 4 with fail
 go_cut [10,11] from 32 to 37 (fun u6 u7 wx=>∃ g10 g11,u6 = one g10 ∧ u7 = one g11 ∧ Hid (Below wc.heap.size wc wx ∧ cM g10 T1 T2 wx ∧ OkC g11 wx))
 case first =>
  go_wp2_with (
         go_at_call 24
         refine (RA.out _ _ (HR.out.keep (aA S5.out.1)) V5.out).mono ?_
         rintro e w8 ⟨ya,yn,yc,yb,ym,yd,rfl,h1,h2,b8⟩
         have N8:=Lib.hid (And.intro b8 (And.intro h1 h2))
         clear h1 h2 b8)
  go_meet
  refine ⟨_,_,rfl,rfl,aE (aE N8.out.1 (aT _ _)) (aT _ _),cM.below (cM.mk (heap_alloc_new _ _) (N8.out.2.1.keep (oW _ _)) (N8.out.2.2.keep (oW _ _))) (aT _ _), ?_⟩
  have:=heap_alloc_new (w8.alloc (.cells #[.slice ya yn yc,.slice yb ym yd] 26)) (.cells #[.bool true] 4)
  rw [World.size_alloc] at this
  exact this
 case rest =>
 obtain ⟨g10,g11,rfl,rfl,S6⟩:=hcut
 have D5:=Lib.hid (And.intro (aE S5.out.1 S6.out.1) (And.intro (S5.out.2.below S6.out.1) S6.out.2))
 have Z9:=Lib.hid (D5.out.2.1.size)
 clear S5 S6 V5 p0 p1 RA
 obtain ⟨ra,rn,rc,rb,rm,rd,hg,h1,h2⟩:=D5.out.2.2.1
 have HQ:=Lib.hid hg
 have HF:=Lib.hid (And.intro h1 h2)
 clear hg h1 h2
 go_wp2_with fail
 refine wp_region_flow_end rs6 (by kernel_rfl) (by kernel_rfl) (by kernel_rfl) 153 rfl 10 (Op.store 26 (Operand.tmp 13) (Operand.tmp 47)) (by kernel_rfl) (by kernel_rfl) [39,40,41,42,43,44,45,46,47,13] [0,1,2,3,4,5,6,7,8,9] (by kernel_rfl) (by kernel_rfl) (rAt (rs6R g10 g11 wc.heap.size ra rn rc rb rm rd N1 N2)) (iF (rs6_stays g10 g11 wc.heap.size ra rn rc rb rm rd N1 N2)) (rs6_steps g10 g11 wc.heap.size ra rn rc rb rm rd N1 N2 _ _ _ rfl rfl (Nat.le_refl _) HQ.out (fun X hX=>NL1.out X _ _ _ _ (aE D5.out.1 hX) (HF.out.1.keep (aA hX)) (D5.out.2.2.2.below hX)) (fun X hX=>NL2.out X _ _ _ _ (aE D5.out.1 hX) (HF.out.2.keep (aA hX)) (D5.out.2.2.2.below hX))) (fun x wy hby hx=>?_)
 have h8 : bT wy N1 N2 (x 8):=hx 8 (by decide)
 have h9 : zbP wc.heap.size (x 9) wy:=hx 9 (by decide)
 obtain ⟨ja,jn,jc,jb,jm,jd,e8,hL,hR⟩:=h8
 obtain ⟨g13,e9,h13,l13⟩:=h9
 have S7 : Hid (RsS w L R T1 T2 N1 N2 g9 g10 g11 g13 ((wy.setCell ⟨g13,0,none⟩ (.slice ja jn jc)).setCell ⟨g13,1,none⟩ (.slice jb jm jd))):=rs_store (q:=wc.heap.size) (aE D5.out.1 hby) (D5.out.2.1.below hby) (D5.out.2.2.1.below hby) (D5.out.2.2.2.below hby) D5.out.2.1.size D5.out.2.2.1.size (Array.getElem?_eq_some_iff.1 D5.out.2.2.2).1 D5.out.1.size l13 h13 hL hR
 obtain ⟨z0,z1,z2,z3⟩:=row2 h13
 clear hx hby hL hR D5 HQ HF NL1 NL2 h13 l13 Z9
 rintro ⟨dst,op,ty,pos,af,gd⟩ rfl rfl K hK
 simp only [dL,List.map_cons,List.map_nil,List.setIfInBounds_toArray,List.set_cons_zero,List.set_cons_succ,e8,e9]
 have HK:=Lib.hid hK
 clear hK e8 e9
 go_simp
 refine HK.out.out _ _ ?_
 clear z0 z1 z2 z3 HK
 obtain ⟨W7,hW7⟩ : ∃ W7,(wy.setCell ⟨g13,0,none⟩ (.slice ja jn jc)).setCell ⟨g13,1,none⟩ (.slice jb jm jd) = W7:=⟨_,rfl⟩
 rw [hW7] at S7 ⊢
 clear hW7
 obtain ⟨va,vn,vc,vb,vm,vd,⟨p0,p1⟩,V⟩:=S7.out.s9.parts
 go_upto_region 7 with fail
 go_cut [14,15] from 48 to 52 (fun u6 u7 wx=>∃ g8,u6 = one g8 ∧ u7 = .int .i64 0 ∧ Hid (Below W7.heap.size W7 wx ∧ cM g8 S1 S2 wx))
 case first =>
  go_wp2_with (
         go_at_call 11
         refine (Of_c L R _ _ (HR.out.keep (aA S7.out.bw)) (HP.out.below S7.out.bw) V.out OK1.out.1 OK1.out.2.1 OK1.out.2.2.1 OK1.out.2.2.2).mono ?_
         rw [SK.out]
         rintro e w8 ⟨ya,yn,yc,yb,ym,yd,rfl,h1,h2,b8⟩
         have N8:=Lib.hid (And.intro b8 (And.intro h1 h2))
         clear h1 h2 b8)
  go_meet
  exact ⟨_,rfl,rfl,aE N8.out.1 (aT _ _),cM.mk (heap_alloc_new _ _) (N8.out.2.1.keep (cA _ _ _)) (N8.out.2.2.keep (cA _ _ _))⟩
 case rest =>
 obtain ⟨g14,rfl,rfl,Q14⟩:=hcut
 have S8:=Lib.hid (S7.out.next Q14.out.1)
 have B14:=Lib.hid Q14.out.2
 clear S7 Q14 V p0 p1
 obtain ⟨va,vn,vc,vb,vm,vd,⟨p0,p1⟩,V⟩:=S8.out.s10.parts
 go_upto_region 8 with fail
 go_cut [16,17] from 53 to 57 (fun u6 u7 wx=>∃ g8,u6 = one g8 ∧ u7 = .int .i64 0 ∧ Hid (Below wc.heap.size wc wx ∧ cM g8 S1 S2 wx))
 case first =>
  go_wp2_with (
         go_at_call 11
         refine (Of_c T1 T2 _ _ (HR.out.keep (aA S8.out.bw)) (HP.out.below S8.out.bw) V.out OKT.out.1 OKT.out.2.1 OKT.out.2.2.1 OKT.out.2.2.2).mono ?_
         rw [SKT.out]
         rintro e w8 ⟨ya,yn,yc,yb,ym,yd,rfl,h1,h2,b8⟩
         have N8:=Lib.hid (And.intro b8 (And.intro h1 h2))
         clear h1 h2 b8)
  go_meet
  exact ⟨_,rfl,rfl,aE N8.out.1 (aT _ _),cM.mk (heap_alloc_new _ _) (N8.out.2.1.keep (cA _ _ _)) (N8.out.2.2.keep (cA _ _ _))⟩
 case rest =>
 obtain ⟨g16,rfl,rfl,Q16⟩:=hcut
 have S9:=Lib.hid (S8.out.next Q16.out.1)
 have B14':=Lib.hid (B14.out.below Q16.out.1)
 have B16:=Lib.hid Q16.out.2
 clear S8 Q16 V p0 p1 B14
 obtain ⟨va,vn,vc,vb,vm,vd,⟨p0,p1⟩,V⟩:=S9.out.s13.parts
 go_upto_region 9 with fail
 go_cut [18,19] from 58 to 62 (fun u6 u7 wx=>∃ g8,u6 = one g8 ∧ u7 = .int .i64 0 ∧ Hid (Below wc.heap.size wc wx ∧ cM g8 S1 S2 wx))
 case first =>
  go_wp2_with (
         go_at_call 11
         refine (Of_c N1 N2 _ _ (HR.out.keep (aA S9.out.bw)) (HP.out.below S9.out.bw) V.out OKN.out.1 OKN.out.2.1 OKN.out.2.2.1 OKN.out.2.2.2).mono ?_
         rw [SKN.out]
         rintro e w8 ⟨ya,yn,yc,yb,ym,yd,rfl,h1,h2,b8⟩
         have N8:=Lib.hid (And.intro b8 (And.intro h1 h2))
         clear h1 h2 b8)
  go_meet
  exact ⟨_,rfl,rfl,aE N8.out.1 (aT _ _),cM.mk (heap_alloc_new _ _) (N8.out.2.1.keep (cA _ _ _)) (N8.out.2.2.keep (cA _ _ _))⟩
 case rest =>
 obtain ⟨g18,rfl,rfl,Q18⟩:=hcut
 have S10:=Lib.hid (S9.out.next Q18.out.1)
 have B14:=Lib.hid (B14'.out.below Q18.out.1)
 have B16':=Lib.hid (B16.out.below Q18.out.1)
 have B18:=Lib.hid Q18.out.2
 clear S9 Q18 V p0 p1 B14' B16
 obtain ⟨va,vn,vc,vb,vm,vd,⟨p0,p1⟩,V⟩:=S10.out.s9.parts
 obtain ⟨ua,un,uc,ub,um,ud,⟨q0,q1⟩,U⟩:=S10.out.s13.parts
 go_wp2_with (
        go_at_call 12
        refine (uQ L R N1 N2 _ _ _ (HR.out.keep (aA S10.out.bw)) (HP.out.below S10.out.bw) V.out U.out OK1.out OKN.out).mono ?_
        rw [SE.out]
        rintro e w11 ⟨rfl,b11⟩
        have S11:=Lib.hid (S10.out.next b11)
        have C14:=Lib.hid (B14.out.below b11)
        have C16:=Lib.hid (B16'.out.below b11)
        have C18:=Lib.hid (B18.out.below b11)
        clear b11 p0 p1 q0 q1 V U)
 clear S10 B14 B16' B18
 refine eF rs11 (by kernel_rfl) (by kernel_rfl) (by kernel_rfl) 153 rfl (by kernel_rfl) [69,70,71,72,73,74,75,76,77,78,79,80,81,82,83,84,85,86,87,88,89,90,91,92,93,94,95,96,97,98,99,100,101,102,103] (by kernel_rfl) (rAt (yR L R N1 N2 S1 S2 m)) (iF (rs11_stays L R N1 N2 S1 S2 m)) [0,1,2,3,4,5,6,7,8,9,10,11,12,13,14,15,16,17,18,19,20,21,22,23,24,25,26,27,28,29,30,31,32,33,34] (by kernel_rfl) (rs11_steps L R N1 N2 S1 S2 m _ _ _ rfl rfl rfl rfl rfl rfl rfl rfl rfl rfl rfl S11.out.o11 S11.out.s9 S11.out.s13 C14.out C16.out C18.out (fun X x _ hx=>HW1.out X x hx) (fun X x _ hx=>HW2.out X x hx)) (fun x wy2 hby hx=>?_)
 have e34 : x 34 = .bool false:=hx 34 (of_decide_eq_true (by kernel_rfl))
 have S12:=Lib.hid (S11.out.next hby)
 simp only [dL,List.map_cons,List.map_nil,List.setIfInBounds_toArray,List.set_cons_zero,List.set_cons_succ,e34]
 clear hx hby e34 S11 C14 C16 C18 HW1 HW2 SE SK SKT SKN OKT OKN HP
 have IX1:=IX.out
 have TM1:=TM.out
 have i0 : (0 : Int) ≤ (i : Int):=by omega
 have PC1:=PC.out
 have PV1:=PV.out
 have RN1:=RN.out
 have BK1:=BK.out
 obtain ⟨va,vn,vc,vb,vm,vd,⟨p0,p1⟩,V⟩:=S12.out.s9.parts
 clear IX TM PC PV RN BK p0 p1 V va vn vc vb vm vd HR PM
 generalize hz : renP ⟨so,nm,ar⟩ b L R = z at PC1 RN1
 obtain ⟨o1,o2,z⟩:=z
 simp only at PC1 RN1
 clear hz
 rcases PC1 with (rfl | rfl) | ⟨rfl,ok,bk⟩
 ·go_wp2_with (first
  | (
    have Z:=S13.out;clear Z;go_at_call 29
    refine (RN1 _ _ S13.out.bw V.out).mono ?_
    rintro e w14 ⟨fa,fn,fc,ga,gm,gd,rfl,h3,h4,b14⟩
    obtain ⟨W15,hW15⟩ : ∃ W15,w14.alloc (.cells #[.slice fa fn fc,.slice ga gm gd] 26) = W15:=⟨_,rfl⟩
    have b15 : Below w14.heap.size w14 W15:=by rw [← hW15];exact aT _ _
    have S14:=Lib.hid (S13.out.next (aE b14 b15))
    have R14:=Lib.hid (kc (aE b14 b15) R13.out)
    have VO : Hid (bT W15 o1 o2 (.agg #[.slice fa fn fc,.slice ga gm gd])):=⟨_,_,_,_,_,_,rfl,(h3.keep (dD _ _)).keep (aA b15),(h4.keep (dD _ _)).keep (aA b15)⟩
    obtain ⟨x0,x1,-,-⟩:=row2 (show W15.heap[w14.heap.size]? = some (.cells #[.slice fa fn fc,.slice ga gm gd] 26 (0,0)) by rw [← hW15];exact heap_alloc_new _ _)
    clear h3 h4 b14 b15 p0 p1 t0 t1 t2 t3 V hwn RN1
    obtain ⟨t0,t1,t2,t3⟩:=row4 R14.out
    clear R13 S13)
  | (
    go_at_call 28
    refine (jY _).mono ?_
    rintro e w13 ⟨rfl,b13⟩
    obtain ⟨wn,hwn⟩ : ∃ wn,w13.alloc (.cells #[str nm,.int .i64 ar,str b,.int .i64 ar] 61) = wn:=⟨_,rfl⟩
    have S13:=Lib.hid (S12.out.next (aE b13 (show Below w13.heap.size w13 wn by rw [← hwn];exact aT _ _)))
    obtain ⟨va,vn,vc,vb,vm,vd,⟨p0,p1⟩,V⟩:=S13.out.s9.parts
    have R13 : Hid (wn.heap[w13.heap.size]? = some (.cells #[str nm,.int .i64 ar,str b,.int .i64 ar] 61 (0,0))):=by rw [Hid,← hwn];exact heap_alloc_new _ _
    obtain ⟨t0,t1,t2,t3⟩:=row4 R13.out
    clear b13 S12))
  go_ret
  exact ⟨rfl,S14.out.bw⟩
 ·go_wp2_with (first
  | (
    have Z:=S13.out;clear Z;go_at_call 29
    refine (RN1 _ _ S13.out.bw V.out).mono ?_
    rintro e w14 ⟨fa,fn,fc,ga,gm,gd,rfl,h3,h4,b14⟩
    obtain ⟨W15,hW15⟩ : ∃ W15,w14.alloc (.cells #[.slice fa fn fc,.slice ga gm gd] 26) = W15:=⟨_,rfl⟩
    have b15 : Below w14.heap.size w14 W15:=by rw [← hW15];exact aT _ _
    have S14:=Lib.hid (S13.out.next (aE b14 b15))
    have R14:=Lib.hid (kc (aE b14 b15) R13.out)
    have VO : Hid (bT W15 o1 o2 (.agg #[.slice fa fn fc,.slice ga gm gd])):=⟨_,_,_,_,_,_,rfl,(h3.keep (dD _ _)).keep (aA b15),(h4.keep (dD _ _)).keep (aA b15)⟩
    obtain ⟨x0,x1,-,-⟩:=row2 (show W15.heap[w14.heap.size]? = some (.cells #[.slice fa fn fc,.slice ga gm gd] 26 (0,0)) by rw [← hW15];exact heap_alloc_new _ _)
    clear h3 h4 b14 b15 p0 p1 t0 t1 t2 t3 V hwn RN1
    obtain ⟨t0,t1,t2,t3⟩:=row4 R14.out
    clear R13 S13)
  | (
    go_at_call 28
    refine (jY _).mono ?_
    rintro e w13 ⟨rfl,b13⟩
    obtain ⟨wn,hwn⟩ : ∃ wn,w13.alloc (.cells #[str nm,.int .i64 ar,str b,.int .i64 ar] 61) = wn:=⟨_,rfl⟩
    have S13:=Lib.hid (S12.out.next (aE b13 (show Below w13.heap.size w13 wn by rw [← hwn];exact aT _ _)))
    obtain ⟨va,vn,vc,vb,vm,vd,⟨p0,p1⟩,V⟩:=S13.out.s9.parts
    have R13 : Hid (wn.heap[w13.heap.size]? = some (.cells #[str nm,.int .i64 ar,str b,.int .i64 ar] 61 (0,0))):=by rw [Hid,← hwn];exact heap_alloc_new _ _
    obtain ⟨t0,t1,t2,t3⟩:=row4 R13.out
    clear b13 S12))
  go_ret
  exact ⟨rfl,S14.out.bw⟩
 ·have OK:=Lib.hid ok
  have BK2:=fun W x hW hx=>BK1 o1 o2 W x hW OK.out hx
  clear ok BK1
  rcases bk with ⟨e,e2⟩ | e
  ·rw [e] at BK2
   have PV2:=PV1 e2
   clear e e2 PV1
   rcases PV2 with rfl | rfl | rfl
   ·go_wp2_with (first
     | (
       have Z:=S17.out;clear Z;go_at_call 13
       refine (fZ L R L R _ _ _ ⟨_,_,_,_,_,_,rfl,VB.out.1,VB.out.2⟩ V.out).mono ?_
       rw [eB]
       rintro e w18 ⟨rfl,b18⟩
       have S18:=Lib.hid (S17.out.next b18)
       clear b18)
     | (
       have Z:=S14.out;clear Z;go_at_call 29
       refine (BK2 _ _ S14.out.bw VO.out).mono ?_
       rintro e w16 ⟨ja,jn,jc,ka,km,kd,rfl,h5,h6,b16⟩
       obtain ⟨W17,hW17⟩ : ∃ W17,w16.alloc (.cells #[.slice ja jn jc,.slice ka km kd] 26) = W17:=⟨_,rfl⟩
       have b17 : Below w16.heap.size w16 W17:=by rw [← hW17];exact aT _ _
       have S17:=Lib.hid (S14.out.next (aE b16 b17))
       have h5:=(h5.keep (dD _ _)).keep (aA b17)
       have h6:=(h6.keep (dD _ _)).keep (aA b17)
       have VB:=Lib.hid (And.intro h5 h6)
       obtain ⟨y0,y1,-,-⟩:=row2 (show W17.heap[w16.heap.size]? = some (.cells #[.slice ja jn jc,.slice ka km kd] 26 (0,0)) by rw [← hW17];exact heap_alloc_new _ _)
       obtain ⟨va,vn,vc,vb,vm,vd,⟨p0,p1⟩,V⟩:=S17.out.s9.parts
       clear t0 t1 t2 t3 x0 x1 hW15
       obtain ⟨t0,t1,t2,t3⟩:=row4 (kc (aE b16 b17) R14.out)
       clear h5 h6 b16 b17 R14 S14 VO BK2)
     | (
       have Z:=S13.out;clear Z;go_at_call 29
       refine (RN1 _ _ S13.out.bw V.out).mono ?_
       rintro e w14 ⟨fa,fn,fc,ga,gm,gd,rfl,h3,h4,b14⟩
       obtain ⟨W15,hW15⟩ : ∃ W15,w14.alloc (.cells #[.slice fa fn fc,.slice ga gm gd] 26) = W15:=⟨_,rfl⟩
       have b15 : Below w14.heap.size w14 W15:=by rw [← hW15];exact aT _ _
       have S14:=Lib.hid (S13.out.next (aE b14 b15))
       have R14:=Lib.hid (kc (aE b14 b15) R13.out)
       have VO : Hid (bT W15 o1 o2 (.agg #[.slice fa fn fc,.slice ga gm gd])):=⟨_,_,_,_,_,_,rfl,(h3.keep (dD _ _)).keep (aA b15),(h4.keep (dD _ _)).keep (aA b15)⟩
       obtain ⟨x0,x1,-,-⟩:=row2 (show W15.heap[w14.heap.size]? = some (.cells #[.slice fa fn fc,.slice ga gm gd] 26 (0,0)) by rw [← hW15];exact heap_alloc_new _ _)
       clear h3 h4 b14 b15 p0 p1 t0 t1 t2 t3 V hwn RN1
       obtain ⟨t0,t1,t2,t3⟩:=row4 R14.out
       clear R13 S13)
     | (
       go_at_call 28
       refine (jY _).mono ?_
       rintro e w13 ⟨rfl,b13⟩
       obtain ⟨wn,hwn⟩ : ∃ wn,w13.alloc (.cells #[str [120],.int .i64 ar,str b,.int .i64 ar] 61) = wn:=⟨_,rfl⟩
       have S13:=Lib.hid (S12.out.next (aE b13 (show Below w13.heap.size w13 wn by rw [← hwn];exact aT _ _)))
       obtain ⟨va,vn,vc,vb,vm,vd,⟨p0,p1⟩,V⟩:=S13.out.s9.parts
       have R13 : Hid (wn.heap[w13.heap.size]? = some (.cells #[str [120],.int .i64 ar,str b,.int .i64 ar] 61 (0,0))):=by rw [Hid,← hwn];exact heap_alloc_new _ _
       obtain ⟨t0,t1,t2,t3⟩:=row4 R13.out
       clear b13 S12))
    go_ret
    exact ⟨rfl,S17.out.bw⟩
   ·go_wp2_with (first
     | (
       have Z:=S17.out;clear Z;go_at_call 13
       refine (fZ L R L R _ _ _ ⟨_,_,_,_,_,_,rfl,VB.out.1,VB.out.2⟩ V.out).mono ?_
       rw [eB]
       rintro e w18 ⟨rfl,b18⟩
       have S18:=Lib.hid (S17.out.next b18)
       clear b18)
     | (
       have Z:=S14.out;clear Z;go_at_call 29
       refine (BK2 _ _ S14.out.bw VO.out).mono ?_
       rintro e w16 ⟨ja,jn,jc,ka,km,kd,rfl,h5,h6,b16⟩
       obtain ⟨W17,hW17⟩ : ∃ W17,w16.alloc (.cells #[.slice ja jn jc,.slice ka km kd] 26) = W17:=⟨_,rfl⟩
       have b17 : Below w16.heap.size w16 W17:=by rw [← hW17];exact aT _ _
       have S17:=Lib.hid (S14.out.next (aE b16 b17))
       have h5:=(h5.keep (dD _ _)).keep (aA b17)
       have h6:=(h6.keep (dD _ _)).keep (aA b17)
       have VB:=Lib.hid (And.intro h5 h6)
       obtain ⟨y0,y1,-,-⟩:=row2 (show W17.heap[w16.heap.size]? = some (.cells #[.slice ja jn jc,.slice ka km kd] 26 (0,0)) by rw [← hW17];exact heap_alloc_new _ _)
       obtain ⟨va,vn,vc,vb,vm,vd,⟨p0,p1⟩,V⟩:=S17.out.s9.parts
       clear t0 t1 t2 t3 x0 x1 hW15
       obtain ⟨t0,t1,t2,t3⟩:=row4 (kc (aE b16 b17) R14.out)
       clear h5 h6 b16 b17 R14 S14 VO BK2)
     | (
       have Z:=S13.out;clear Z;go_at_call 29
       refine (RN1 _ _ S13.out.bw V.out).mono ?_
       rintro e w14 ⟨fa,fn,fc,ga,gm,gd,rfl,h3,h4,b14⟩
       obtain ⟨W15,hW15⟩ : ∃ W15,w14.alloc (.cells #[.slice fa fn fc,.slice ga gm gd] 26) = W15:=⟨_,rfl⟩
       have b15 : Below w14.heap.size w14 W15:=by rw [← hW15];exact aT _ _
       have S14:=Lib.hid (S13.out.next (aE b14 b15))
       have R14:=Lib.hid (kc (aE b14 b15) R13.out)
       have VO : Hid (bT W15 o1 o2 (.agg #[.slice fa fn fc,.slice ga gm gd])):=⟨_,_,_,_,_,_,rfl,(h3.keep (dD _ _)).keep (aA b15),(h4.keep (dD _ _)).keep (aA b15)⟩
       obtain ⟨x0,x1,-,-⟩:=row2 (show W15.heap[w14.heap.size]? = some (.cells #[.slice fa fn fc,.slice ga gm gd] 26 (0,0)) by rw [← hW15];exact heap_alloc_new _ _)
       clear h3 h4 b14 b15 p0 p1 t0 t1 t2 t3 V hwn RN1
       obtain ⟨t0,t1,t2,t3⟩:=row4 R14.out
       clear R13 S13)
     | (
       go_at_call 28
       refine (jY _).mono ?_
       rintro e w13 ⟨rfl,b13⟩
       obtain ⟨wn,hwn⟩ : ∃ wn,w13.alloc (.cells #[str [121],.int .i64 ar,str b,.int .i64 ar] 61) = wn:=⟨_,rfl⟩
       have S13:=Lib.hid (S12.out.next (aE b13 (show Below w13.heap.size w13 wn by rw [← hwn];exact aT _ _)))
       obtain ⟨va,vn,vc,vb,vm,vd,⟨p0,p1⟩,V⟩:=S13.out.s9.parts
       have R13 : Hid (wn.heap[w13.heap.size]? = some (.cells #[str [121],.int .i64 ar,str b,.int .i64 ar] 61 (0,0))):=by rw [Hid,← hwn];exact heap_alloc_new _ _
       obtain ⟨t0,t1,t2,t3⟩:=row4 R13.out
       clear b13 S12))
    go_ret
    exact ⟨rfl,S17.out.bw⟩
   ·go_wp2_with (first
     | (
       have Z:=S17.out;clear Z;go_at_call 13
       refine (fZ L R L R _ _ _ ⟨_,_,_,_,_,_,rfl,VB.out.1,VB.out.2⟩ V.out).mono ?_
       rw [eB]
       rintro e w18 ⟨rfl,b18⟩
       have S18:=Lib.hid (S17.out.next b18)
       clear b18)
     | (
       have Z:=S14.out;clear Z;go_at_call 29
       refine (BK2 _ _ S14.out.bw VO.out).mono ?_
       rintro e w16 ⟨ja,jn,jc,ka,km,kd,rfl,h5,h6,b16⟩
       obtain ⟨W17,hW17⟩ : ∃ W17,w16.alloc (.cells #[.slice ja jn jc,.slice ka km kd] 26) = W17:=⟨_,rfl⟩
       have b17 : Below w16.heap.size w16 W17:=by rw [← hW17];exact aT _ _
       have S17:=Lib.hid (S14.out.next (aE b16 b17))
       have h5:=(h5.keep (dD _ _)).keep (aA b17)
       have h6:=(h6.keep (dD _ _)).keep (aA b17)
       have VB:=Lib.hid (And.intro h5 h6)
       obtain ⟨y0,y1,-,-⟩:=row2 (show W17.heap[w16.heap.size]? = some (.cells #[.slice ja jn jc,.slice ka km kd] 26 (0,0)) by rw [← hW17];exact heap_alloc_new _ _)
       obtain ⟨va,vn,vc,vb,vm,vd,⟨p0,p1⟩,V⟩:=S17.out.s9.parts
       clear t0 t1 t2 t3 x0 x1 hW15
       obtain ⟨t0,t1,t2,t3⟩:=row4 (kc (aE b16 b17) R14.out)
       clear h5 h6 b16 b17 R14 S14 VO BK2)
     | (
       have Z:=S13.out;clear Z;go_at_call 29
       refine (RN1 _ _ S13.out.bw V.out).mono ?_
       rintro e w14 ⟨fa,fn,fc,ga,gm,gd,rfl,h3,h4,b14⟩
       obtain ⟨W15,hW15⟩ : ∃ W15,w14.alloc (.cells #[.slice fa fn fc,.slice ga gm gd] 26) = W15:=⟨_,rfl⟩
       have b15 : Below w14.heap.size w14 W15:=by rw [← hW15];exact aT _ _
       have S14:=Lib.hid (S13.out.next (aE b14 b15))
       have R14:=Lib.hid (kc (aE b14 b15) R13.out)
       have VO : Hid (bT W15 o1 o2 (.agg #[.slice fa fn fc,.slice ga gm gd])):=⟨_,_,_,_,_,_,rfl,(h3.keep (dD _ _)).keep (aA b15),(h4.keep (dD _ _)).keep (aA b15)⟩
       obtain ⟨x0,x1,-,-⟩:=row2 (show W15.heap[w14.heap.size]? = some (.cells #[.slice fa fn fc,.slice ga gm gd] 26 (0,0)) by rw [← hW15];exact heap_alloc_new _ _)
       clear h3 h4 b14 b15 p0 p1 t0 t1 t2 t3 V hwn RN1
       obtain ⟨t0,t1,t2,t3⟩:=row4 R14.out
       clear R13 S13)
     | (
       go_at_call 28
       refine (jY _).mono ?_
       rintro e w13 ⟨rfl,b13⟩
       obtain ⟨wn,hwn⟩ : ∃ wn,w13.alloc (.cells #[str [122],.int .i64 ar,str b,.int .i64 ar] 61) = wn:=⟨_,rfl⟩
       have S13:=Lib.hid (S12.out.next (aE b13 (show Below w13.heap.size w13 wn by rw [← hwn];exact aT _ _)))
       obtain ⟨va,vn,vc,vb,vm,vd,⟨p0,p1⟩,V⟩:=S13.out.s9.parts
       have R13 : Hid (wn.heap[w13.heap.size]? = some (.cells #[str [122],.int .i64 ar,str b,.int .i64 ar] 61 (0,0))):=by rw [Hid,← hwn];exact heap_alloc_new _ _
       obtain ⟨t0,t1,t2,t3⟩:=row4 R13.out
       clear b13 S12))
    go_ret
    exact ⟨rfl,S17.out.bw⟩
  ·rw [e] at BK2
   clear e PV1
   go_wp2_with (first
   | (
     have Z:=S17.out;clear Z;go_at_call 13
     refine (fZ L R L R _ _ _ ⟨_,_,_,_,_,_,rfl,VB.out.1,VB.out.2⟩ V.out).mono ?_
     rw [eB]
     rintro e w18 ⟨rfl,b18⟩
     have S18:=Lib.hid (S17.out.next b18)
     clear b18)
   | (
     have Z:=S14.out;clear Z;go_at_call 29
     refine (BK2 _ _ S14.out.bw VO.out).mono ?_
     rintro e w16 ⟨ja,jn,jc,ka,km,kd,rfl,h5,h6,b16⟩
     obtain ⟨W17,hW17⟩ : ∃ W17,w16.alloc (.cells #[.slice ja jn jc,.slice ka km kd] 26) = W17:=⟨_,rfl⟩
     have b17 : Below w16.heap.size w16 W17:=by rw [← hW17];exact aT _ _
     have S17:=Lib.hid (S14.out.next (aE b16 b17))
     have h5:=(h5.keep (dD _ _)).keep (aA b17)
     have h6:=(h6.keep (dD _ _)).keep (aA b17)
     have VB:=Lib.hid (And.intro h5 h6)
     obtain ⟨y0,y1,-,-⟩:=row2 (show W17.heap[w16.heap.size]? = some (.cells #[.slice ja jn jc,.slice ka km kd] 26 (0,0)) by rw [← hW17];exact heap_alloc_new _ _)
     obtain ⟨va,vn,vc,vb,vm,vd,⟨p0,p1⟩,V⟩:=S17.out.s9.parts
     clear t0 t1 t2 t3 x0 x1 hW15
     obtain ⟨t0,t1,t2,t3⟩:=row4 (kc (aE b16 b17) R14.out)
     clear h5 h6 b16 b17 R14 S14 VO BK2)
   | (
     have Z:=S13.out;clear Z;go_at_call 29
     refine (RN1 _ _ S13.out.bw V.out).mono ?_
     rintro e w14 ⟨fa,fn,fc,ga,gm,gd,rfl,h3,h4,b14⟩
     obtain ⟨W15,hW15⟩ : ∃ W15,w14.alloc (.cells #[.slice fa fn fc,.slice ga gm gd] 26) = W15:=⟨_,rfl⟩
     have b15 : Below w14.heap.size w14 W15:=by rw [← hW15];exact aT _ _
     have S14:=Lib.hid (S13.out.next (aE b14 b15))
     have R14:=Lib.hid (kc (aE b14 b15) R13.out)
     have VO : Hid (bT W15 o1 o2 (.agg #[.slice fa fn fc,.slice ga gm gd])):=⟨_,_,_,_,_,_,rfl,(h3.keep (dD _ _)).keep (aA b15),(h4.keep (dD _ _)).keep (aA b15)⟩
     obtain ⟨x0,x1,-,-⟩:=row2 (show W15.heap[w14.heap.size]? = some (.cells #[.slice fa fn fc,.slice ga gm gd] 26 (0,0)) by rw [← hW15];exact heap_alloc_new _ _)
     clear h3 h4 b14 b15 p0 p1 t0 t1 t2 t3 V hwn RN1
     obtain ⟨t0,t1,t2,t3⟩:=row4 R14.out
     clear R13 S13)
   | (
     go_at_call 28
     refine (jY _).mono ?_
     rintro e w13 ⟨rfl,b13⟩
     obtain ⟨wn,hwn⟩ : ∃ wn,w13.alloc (.cells #[str nm,.int .i64 ar,str b,.int .i64 ar] 61) = wn:=⟨_,rfl⟩
     have S13:=Lib.hid (S12.out.next (aE b13 (show Below w13.heap.size w13 wn by rw [← hwn];exact aT _ _)))
     obtain ⟨va,vn,vc,vb,vm,vd,⟨p0,p1⟩,V⟩:=S13.out.s9.parts
     have R13 : Hid (wn.heap[w13.heap.size]? = some (.cells #[str nm,.int .i64 ar,str b,.int .i64 ar] 61 (0,0))):=by rw [Hid,← hwn];exact heap_alloc_new _ _
     obtain ⟨t0,t1,t2,t3⟩:=row4 R13.out
     clear b13 S12))
   go_ret
   exact ⟨rfl,S18.out.bw⟩
end Go.Proofs.YtppfalbnhnpbnaaGreatDoor
