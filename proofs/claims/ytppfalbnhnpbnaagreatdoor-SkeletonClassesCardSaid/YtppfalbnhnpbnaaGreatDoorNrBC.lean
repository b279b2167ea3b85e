/- subst.normal: the normal form of a part, in memory of its own. Conditions: those of the statement; strconv's table lies as laid. -/
import Derived.Test.YtppfalbnhnpbnaaGreatDoorKyAC
import Derived.Deep.CutBlock
import Derived.Deep.DeepCutAuto
import Derived.Outline
set_option linter.unusedSimpArgs false
set_option linter.unusedVariables false
namespace Go.Proofs.YtppfalbnhnpbnaaGreatDoor
open Go Go.RowKit Ly
set_option maxRecDepth 10000
def NRM (M : Nat) (free : List Bs) (f : Fm) : Prop:=∀ (ar : List (Bs × Bs)) (a : Option Addr) (n c mn : Nat) (W : World) (x : Value),aV W f x → cQ W M mn free → dN W ar.reverse (.slice a n c) → ((a = none ∧ n = 0 ∧ c = 0) ∨ ∃ b off,a = some ⟨b,off,none⟩) → cK W → f.okNames = true → (∀ p ∈ ar,okS p.2) → f.nodes ≤ 100000 → ar.length + f.nodes ≤ 200000 → free.length ≤ 200000 →
 Calls Tryz.prog 52 #[x,.map (some M),.slice a n c] W (RetF (f.norm free ar) W)
set_option maxHeartbeats 16000000 in
theorem nr_step (M : Nat) (free : List Bs) (op : Int) (nm : Bs) (ts : List Tm) (fs : List Fm) (ih : ∀ f ∈ fs,NRM M free f) : NRM M free (.mk op nm ts fs):=by
 intro ar a n c mn W x hx0 hset hp ha hpow hok har hnd har2 hfree
 obtain ⟨ta,N,tc,fa,N2,fc,rfl,hx,hx'⟩ : ∃ ta N tc fa N2 fc,x = .agg #[.int .u8 op,str nm,.slice ta N tc,.slice fa N2 fc] ∧ bG W ts (.slice ta N tc) ∧ aN W fs (.slice fa N2 fc):=hx0
 have hl:=hx.len
 have hl2:=hx'.len
 have nd : (Fm.mk op nm ts fs).nodes = 1 + aF ts + aD fs:=by simp [Fm.nodes]
 rw [nd] at hnd har2
 have hpl:=hp.len
 rw [List.length_reverse] at hpl
 have N0 : N ≤ 100000:=by rw [hl.1];have:=eO ts;omega
 have N1 : N ≤ 9223372036854775807:=by omega
 have N3 : N2 ≤ 100000:=by rw [hl2.1];have:=sY fs;omega
 have N4 : N2 ≤ 9223372036854775807:=by omega
 have n0 : n ≤ 200000:=by omega
 have n1 : n ≤ 9223372036854775807:=by omega
 simp only [Fm.okNames,Bool.and_eq_true,decide_eq_true_eq,List.all_eq_true] at hok
 have L1:=Lib.hid hl.1
 have L2:=Lib.hid hl2.1
 have LA:=Lib.hid hpl
 have HX:=Lib.hid hx
 have HX2:=Lib.hid hx'
 have HS:=Lib.hid hset
 have HP:=Lib.hid hp
 have HA:=Lib.hid ha
 have HW:=Lib.hid hpow
 have HO:=Lib.hid hok
 have HAR:=Lib.hid har
 have HN:=Lib.hid hnd
 have HN2:=Lib.hid har2
 have HF:=Lib.hid hfree
 have IH:=Lib.hid ih
 obtain ⟨l1,hl1⟩ : ∃ l1,aO (arOf ar) ts = l1:=⟨_,rfl⟩
 obtain ⟨nm',hnm⟩ : ∃ s,(if quant op then least (free ++ ar.map (·.2)) else nm) = s:=⟨_,rfl⟩
 obtain ⟨ar',har'⟩ : ∃ s,(if quant op then (nm,nm') :: ar else ar) = s:=⟨_,rfl⟩
 have NO : (Fm.mk op nm ts fs).norm free ar = .mk op nm' l1 (bK free ar' fs):=by
  unfold Fm.norm
  cases hq : quant op
  ·rw [hq] at hnm har'
   simp only [Bool.false_eq_true,if_false] at hnm har' ⊢
   rw [hl1,hnm,har']
  ·rw [hq] at hnm har'
   simp only [if_true] at hnm har' ⊢
   rw [hl1,hnm,har']
 rw [NO]
 have HNM:=Lib.hid hnm
 have HAR':=Lib.hid har'
 have HL1:=Lib.hid hl1
 obtain ⟨W3,hW3⟩ : ∃ W3,((W.alloc (.cells #[.int .u8 op,str nm,.slice ta N tc,.slice fa N2 fc] 40)).alloc (.cells #[.slice a n c] 145)).alloc (.cells #[.int .u8 0,str [],.slice none 0 0,.slice none 0 0] 40) = W3:=⟨_,rfl⟩
 have bw : Below W.heap.size W W3:=by rw [← hW3];exact (((Below.refl _ _).alloc (Nat.le_refl _) _).alloc (by simp) _).alloc (by simp;omega) _
 have sz : W3.heap.size = W.heap.size + 1 + 1 + 1:=by rw [← hW3];simp
 have r0 : W3.heap[W.heap.size]? = some (.cells #[.int .u8 op,str nm,.slice ta N tc,.slice fa N2 fc] 40 (0,0)):=by rw [← hW3];exact aI _ (aI _ (heap_alloc_new W _))
 have r1 : W3.heap[W.heap.size + 1]? = some (.cells #[.slice a n c] 145 (0,0)):=by
  rw [← hW3]
  refine aI _ ?_
  have:=heap_alloc_new (W.alloc (.cells #[.int .u8 op,str nm,.slice ta N tc,.slice fa N2 fc] 40)) (.cells #[.slice a n c] 145)
  rwa [World.size_alloc] at this
 have r2 : W3.heap[W.heap.size + 1 + 1]? = some (.cells #[.int .u8 0,str [],.slice none 0 0,.slice none 0 0] 40 (0,0)):=by
  rw [← hW3]
  have:=heap_alloc_new ((W.alloc (.cells #[.int .u8 op,str nm,.slice ta N tc,.slice fa N2 fc] 40)).alloc (.cells #[.slice a n c] 145)) (.cells #[.int .u8 0,str [],.slice none 0 0,.slice none 0 0] 40)
  rwa [World.size_alloc,World.size_alloc] at this
 have SZ:=Lib.hid sz
 have R0:=Lib.hid r0
 have R1:=Lib.hid r1
 have R2:=Lib.hid r2
 have BW:=Lib.hid bw
 obtain ⟨⟨y0,y1,-,-⟩,-⟩:=aL r0
 have z2 : ∀ o,(W3.alloc o).cell? ⟨W.heap.size,2,none⟩ = some (.slice ta N tc):=fun o=>(aL (aI o R0.out)).1.2.2.1
 clear hl hl2 nd hpl hx hx' hset hp ha hpow hok har hnd har2 hfree ih bw sz r0 r1 r2 hnm har' hl1 NO
 go_enter Tryz.func52,Tryz.ntmps52
 go_wp2
 obtain ⟨Wl,hWl⟩ : ∃ Wl,W3.alloc (.cells #[.int .u8 op,str nm,.slice none 0 0,.slice none 0 0] 40) = Wl:=⟨_,rfl⟩
 obtain ⟨R,hR⟩ : ∃ R,W3.heap.size = R:=⟨_,rfl⟩
 have rr : Wl.heap[R]? = some (.cells #[.int .u8 op,str nm,.slice none 0 0,.slice none 0 0] 40 (0,0)):=by rw [← hWl,← hR];exact heap_alloc_new _ _
 have bl : Below W.heap.size W Wl:=by rw [← hWl];exact BW.out.alloc (by have:=SZ.out;omega) _
 have q0 : Wl.heap[W.heap.size]? = some (.cells #[.int .u8 op,str nm,.slice ta N tc,.slice fa N2 fc] 40 (0,0)):=by rw [← hWl];exact aI _ R0.out
 have q1 : Wl.heap[W.heap.size + 1]? = some (.cells #[.slice a n c] 145 (0,0)):=by rw [← hWl];exact aI _ R1.out
 have q2 : Wl.heap[W.heap.size + 1 + 1]? = some (.cells #[.int .u8 0,str [],.slice none 0 0,.slice none 0 0] 40 (0,0)):=by rw [← hWl];exact aI _ R2.out
 have HR : Hid (W.heap.size + 1 + 1 < R):=by rw [← hR,SZ.out];exact Nat.lt_succ_self _
 rw [hWl,hR]
 clear hWl hR z2 SZ R0 R1 R2 BW y0 y1 hW3
 have A0 : Hid (ApR Wl R 40 38 3 [.int .u8 op,str nm] [.slice none 0 0] 0 [] (.slice none 0 0) Wl):=ApR.new rr
 have BL:=Lib.hid bl
 have Q0:=Lib.hid q0
 have Q1:=Lib.hid q1
 have Q2:=Lib.hid q2
 clear rr bl q0 q1 q2
 go_loopw [23] (fun i wr=>∃ j : Nat,j ≤ N ∧ i = .int .i64 j ∧ Hid (∃ u,ApR Wl R 40 38 3 [.int .u8 op,str nm] [.slice none 0 0] j (bS (l1.take j)) u wr)) (fun i _=>N - (intOf i).toNat)
 case atStart=>exact ⟨0,Nat.zero_le _,rfl,_,A0.out⟩
 case round =>
  obtain ⟨j,hj,rfl,hs⟩:=hrel
  obtain ⟨u,hA⟩:=hs.out
  clear hs A0
  have BA : Hid (Below W.heap.size W wr):=BL.out.trans (hA.bw.below (by have:=HR.out;omega) BL.out.size)
  have G0 : Hid (wr.heap[W.heap.size]? = some (.cells #[.int .u8 op,str nm,.slice ta N tc,.slice fa N2 fc] 40 (0,0))):=(hA.bw.block _ (Array.getElem?_eq_some_iff.1 Q0.out).1 (by have:=HR.out;omega)).trans Q0.out
  have G1 : Hid (wr.heap[W.heap.size + 1]? = some (.cells #[.slice a n c] 145 (0,0))):=(hA.bw.block _ (Array.getElem?_eq_some_iff.1 Q1.out).1 (by have:=HR.out;omega)).trans Q1.out
  have G2 : Hid (wr.heap[W.heap.size + 1 + 1]? = some (.cells #[.int .u8 0,str [],.slice none 0 0,.slice none 0 0] 40 (0,0))):=(hA.bw.block _ (Array.getElem?_eq_some_iff.1 Q2.out).1 (by have:=HR.out;omega)).trans Q2.out
  by_cases hlt : j < N
  ·obtain ⟨T,hT⟩:=aT (l:=ts) (j:=j) (by rw [← L1.out];exact hlt)
   obtain ⟨bb,off,rfl,hc⟩:=HX.out.get (aX hT)
   obtain ⟨x0,x1,x2,hx⟩:=hc j _ hT
   have hK:=aA BA.out
   have c0:=hK _ _ hx.c0;have c1:=hK _ _ hx.c1;have c2:=hK _ _ hx.c2
   have HT:=Lib.hid (List.mem_of_getElem? hT)
   have TW : Hid (bS (l1.take (j + 1)) = bS (l1.take j) ++ (T.swap (arOf ar)).ds):=by rw [← HL1.out];exact gZ _ (gB _ ts hT)
   have IC : Hid (∀ w',Below W.heap.size W w' → w'.heap[W.heap.size + 1]? = some (.cells #[.slice a n c] 145 (0,0)) → Calls Tryz.prog 96 #[.agg #[.bool T.v,str T.name,.slice x0 x1 x2],.func (.func 97) #[] #[one (W.heap.size + 1)]] w' (RetH (T.swap (arOf ar)) w')):=fun w' hb h1=>vZ (W.heap.size + 1) ar (by have:=LA.out;omega) T w' _ ⟨_,_,_,rfl,hx.at_.keep (aA hb)⟩ ⟨a,n,c,h1,HP.out.keep (aA hb)⟩ (by have:=eH HT.out;have:=HN.out;omega)
   clear hc hx hT hK
   obtain ⟨ua,uc,rfl⟩:=hA.form
   have AA:=Lib.hid hA
   have RL : Hid (R < wr.heap.size):=(Array.getElem?_eq_some_iff.1 hA.r).1
   clear hA
   obtain ⟨i0,hi0,hz0,hs0,hb0⟩:=info_parts mQ
   go_upto_region 5 with fail
   refine dG (q:=8) (S:=fun w'=>w'.heap[R]? = some (.cells #[.int .u8 op,str nm,.slice ua j uc,.slice none 0 0] 40 (0,0)) ∧ w'.heap[wr.heap.size]? = some (.cells #[.bool T.v,str T.name,.slice x0 x1 x2] 38 (0,0))) (by kernel_rfl) ⟨aI _ AA.out.r,heap_alloc_new wr _⟩ (fun hHeld=>?_)
   refine aJ (i:=0) (v:=?_) rfl (by kernel_rfl) (by kernel_rfl) (by kernel_rfl) (by kernel_rfl) (fun _ _ _ h=>h) (Or.inl ⟨by rfl, ?_⟩) (by assumption) ?_
   rotate_left
   ·(intro w0 hSw;go_simp;(try with_reducible rfl))
   try simp only [Act.put,List.getElem_toArray,List.getElem_cons_succ,List.getElem_cons_zero,List.setIfInBounds_toArray,List.set_cons_zero,List.set_cons_succ]
   refine aJ (i:=1) (v:=?_) rfl (by kernel_rfl) (by kernel_rfl) (by kernel_rfl) (by kernel_rfl) (fun _ _ _ h=>h) (Or.inl ⟨by rfl, ?_⟩) (by assumption) ?_
   rotate_left
   ·(intro w0 hSw;obtain ⟨⟨-,-,z2,-⟩,-⟩:=aL hSw.1;go_simp;(try with_reducible rfl))
   try simp only [Act.put,List.getElem_toArray,List.getElem_cons_succ,List.getElem_cons_zero,List.setIfInBounds_toArray,List.set_cons_zero,List.set_cons_succ]
   refine aJ (i:=2) (v:=?_) rfl (by kernel_rfl) (by kernel_rfl) (by kernel_rfl) (by kernel_rfl) (fun _ _ _ h=>h) (Or.inl ⟨by rfl, ?_⟩) (by assumption) ?_
   rotate_left
   ·(intro w0 hSw;obtain ⟨z0,z1,z2,-⟩:=row95' hSw.2;go_simp;(try with_reducible rfl))
   try simp only [Act.put,List.getElem_toArray,List.getElem_cons_succ,List.getElem_cons_zero,List.setIfInBounds_toArray,List.set_cons_zero,List.set_cons_succ]
   refine aJ (i:=3) (v:=?_) rfl (by kernel_rfl) (by kernel_rfl) (by kernel_rfl) (by kernel_rfl) (fun _ _ _ h=>h) (Or.inl ⟨by rfl, ?_⟩) (by assumption) ?_
   rotate_left
   ·(intro w0 hSw;go_simp;(try with_reducible rfl))
   try simp only [Act.put,List.getElem_toArray,List.getElem_cons_succ,List.getElem_cons_zero,List.setIfInBounds_toArray,List.set_cons_zero,List.set_cons_succ]
   refine bQ (j:=4) (by kernel_rfl) (by kernel_rfl) rfl (fun K hK=>?_)
   go_simp
   go_at_call 96
   refine (IC.out _ (BA.out.trans ((Below.refl _ _).alloc BA.out.size _)).drew (aI _ G1.out)).mono ?_
   rintro e w3 ⟨v3,rfl,⟨ga,gn,gc,rfl,h3⟩,b3⟩
   have hS3:=And.intro ((b3.block R (by have:=RL.out;simp;omega)).trans hHeld.1) ((b3.block wr.heap.size (by simp)).trans hHeld.2)
   have HB3 : Hid (Below (wr.alloc (.cells #[.bool T.v,str T.name,.slice x0 x1 x2] 38)).drew.heap.size (wr.alloc (.cells #[.bool T.v,str T.name,.slice x0 x1 x2] 38)).drew w3):=b3
   have H3 : Hid (bG (hide (lo (wr.alloc (.cells #[.bool T.v,str T.name,.slice x0 x1 x2] 38)).drew) w3) (T.swap (arOf ar)).args (.slice ga gn gc)):=h3
   clear h3 b3 hHeld IC
   go_simp
   refine hK.out _ _ hS3 (fun hHeld=>?_)
   clear hK K hS3
   try simp only [Act.put,List.getElem_toArray,List.getElem_cons_succ,List.getElem_cons_zero,List.setIfInBounds_toArray,List.set_cons_zero,List.set_cons_succ]
   refine bQ (j:=5) (by kernel_rfl) (by kernel_rfl) rfl (fun K hK=>?_)
   go_simp
   obtain ⟨xs,ow,ob,or5,fin⟩:=AA.out.step (tb:=38) ((Below.refl _ _).alloc (Nat.le_refl _) _).drew HB3.out (fM H3.out)
   have OW:=Lib.hid ow
   have OB:=Lib.hid ob
   have FIN:=Lib.hid fin
   clear ow fin ob
   have hS4:=And.intro or5 (aI (.cells #[.bool (T.swap (arOf ar)).v,str (T.swap (arOf ar)).name,.slice ga gn gc] 38) hHeld.2)
   refine hK.out _ _ hS4 (fun hHeld2=>?_)
   clear hK K hS4 or5 hHeld
   try simp only [Act.put,List.getElem_toArray,List.getElem_cons_succ,List.getElem_cons_zero,List.setIfInBounds_toArray,List.set_cons_zero,List.set_cons_succ]
   refine bQ (j:=6) (by kernel_rfl) (by kernel_rfl) rfl (fun K hK=>?_)
   refine bT rfl _ _ 36 rfl Wl.heap.size 38 i0 (.agg #[.bool false,.string ⟨#[]⟩,.slice none 0 0]) 3 48 Tryz.underlying36 hi0 hz0 hs0 hb0 rfl (by decide) _ j xs (by rfl) OW.out ⟨w3.heap.size,0,none⟩ 1 1 [.bool (T.swap (arOf ar)).v,str (T.swap (arOf ar)).name,.slice ga gn gc] (by rfl) rfl (wA _ _ _ _ _) jU (by unfold maxLen;omega) (by omega) OB.out ?_
   intro v5 w5 h5 hg5 hat5
   obtain ⟨r5,⟨va,vc,rfl⟩,A5⟩:=FIN.out v5 w5 h5 hg5 hat5
   have A6:=Lib.hid A5
   have hS5:=And.intro r5 ((hg5.block wr.heap.size (by have:=HB3.out.size;simp at this;simp;omega) (fun e=>by have:=(fE AA.out.own _ e.symm).2;omega)).trans hHeld2.2)
   clear h5 hg5 hat5 A5 r5 FIN OW
   refine hK.out _ _ hS5 (fun hHeld3=>?_)
   clear hK K hS5 hHeld2
   try simp only [Act.put,List.getElem_toArray,List.getElem_cons_succ,List.getElem_cons_zero,List.setIfInBounds_toArray,List.set_cons_zero,List.set_cons_succ]
   refine aJ (i:=7) (v:=?_) rfl (by kernel_rfl) (by kernel_rfl) (by kernel_rfl) (by kernel_rfl) (fun _ _ _ h=>h) (Or.inl ⟨by rfl, ?_⟩) (by assumption) ?_
   rotate_left
   ·(intro w0 hSw;go_simp;(try with_reducible rfl))
   try simp only [Act.put,List.getElem_toArray,List.getElem_cons_succ,List.getElem_cons_zero,List.setIfInBounds_toArray,List.set_cons_zero,List.set_cons_succ]
   refine dF (by kernel_rfl) (by kernel_rfl) rfl (fun K hK=>?_)
   obtain ⟨⟨-,-,z2,-⟩,-,-,f2,-⟩:=aL hHeld3.1
   go_simp
   have A7:=A6.out _ rfl
   refine hK.out _ _ ?_
   clear hK K hHeld3
   go_wp2_with fail
   go_roundw
   case rel=>exact ⟨j + 1,by omega,by go_num,_,by rw [TW.out];exact A7⟩
   case measure=>simp [intOf];omega
  ·obtain ⟨ua,uc,rfl⟩:=hA.form
   have EJ : Hid (j = N):=by show j = N;omega
   have e : l1.take j = l1:=List.take_of_length_le (by rw [← HL1.out,cR,← L1.out];omega)
   rw [e] at hA
   have I0 : Hid (NrI W Wl R op nm nm (.slice ta N tc) (.slice fa N2 fc) (.slice ua j uc) l1 ar a n c wr):=by
    refine ⟨hA.r,G0.out,G1.out,G2.out, ?_,HA.out, ?_,BA.out,hA.bw.size⟩
    ·refine HP.out.keep fun p v hv=>?_
     have hb:=World.block_lt_of_cell? W p hv
     have hr:=HR.out
     rw [cD (by simp;omega)]
     exact (aA BA.out) p v hv
    ·have lj : l1.length = j:=by rw [← HL1.out,cR,← L1.out];exact EJ.out.symm
     show At _ (.sl 3 l1.length (bS l1)) (.slice ua j uc)
     rw [lj]
     exact hA.at
   obtain ⟨⟨y0,y1,y2,y3⟩,-⟩:=aL G0.out
   have RL : Hid (R < Wl.heap.size):=hA.lt
   clear hA e G0 G1 G2 Q0 Q1 Q2 BA
   cases hq : quant op
   ·have QC : Hid (∀ w,Calls Tryz.prog 98 #[.agg #[.int .u8 op,str nm,.slice ta N tc,.slice fa N2 fc]] w fun e w'=>e = .returned (.bool false) ∧ Below w.heap.size w w'):=fun w=>by rw [← hq];exact lX op _ _ _ w
    obtain rfl : nm' = nm:=by rw [← HNM.out,hq];rfl
    obtain rfl : ar' = ar:=by rw [← HAR'.out,hq];rfl
    clear hq HNM HAR'
    go_wp2_with (go_at_call 98;refine (QC.out _).mono ?_;rintro e Wx ⟨rfl,b2⟩;have IX:=Lib.hid (I0.out.below b2);obtain ⟨⟨-,-,-,y3⟩,-⟩:=aL IX.out.b0;clear b2 I0 QC y0 y1 y2)
    have AL : Hid (ar'.length + aD fs ≤ 200000):=by have:=HN2.out;show _ ≤ _;omega
    have AO:=HAR
    have E0 : Hid (ApR Wx R 40 40 4 [.int .u8 op,str nm',.slice ua j uc] [] 0 [] (.slice none 0 0) Wx):=ApR.new IX.out.r
    have RX : Hid (W.heap.size + 1 + 1 < Wx.heap.size ∧ R < Wx.heap.size):=⟨(Array.getElem?_eq_some_iff.1 IX.out.b2).1,(Array.getElem?_eq_some_iff.1 IX.out.r).1⟩
    go_loopw [70] (fun i wr=>∃ j' : Nat,j' ≤ N2 ∧ i = .int .i64 j' ∧ Hid (∃ u,ApR Wx R 40 40 4 [.int .u8 op,str nm',.slice ua j uc] [] j' (bJ ((bK free ar' fs).take j')) u wr)) (fun i _=>N2 - (intOf i).toNat)
    case atStart=>exact ⟨0,Nat.zero_le _,rfl,_,E0.out⟩
    case round =>
     obtain ⟨k,hk,rfl,hs⟩:=hrel
     obtain ⟨u,hA⟩:=hs.out
     clear hs E0
     have BA : Hid (Below W.heap.size W wr):=IX.out.bw.trans (hA.bw.below (by have:=HR.out;omega) IX.out.bw.size)
     have G1 : Hid (wr.heap[W.heap.size + 1]? = some (.cells #[.slice a n c] 145 (0,0))):=(hA.bw.block _ (by have:=RX.out;omega) (by have:=HR.out;omega)).trans IX.out.b1
     have G2 : Hid (wr.heap[W.heap.size + 1 + 1]? = some (.cells #[.int .u8 0,str [],.slice none 0 0,.slice none 0 0] 40 (0,0))):=(hA.bw.block _ RX.out.1 (by have:=HR.out;omega)).trans IX.out.b2
     have PX : Hid (∀ w',Below wr.heap.size wr w' → dN w' ar'.reverse (.slice a n c)):=fun w' hb=>IX.out.prs.keep fun p v hv=>by
      have hp:=eA hv
      rw [cD hp] at hv
      have lt:=World.block_lt_of_cell? Wx p hv
      rw [World.cell?_of_block (a:=p) (w:=Wx) (w':=w') ((hb.block _ (by have:=hA.bw.size;omega)).trans (hA.bw.block _ lt (by simpa using hp)))]
      exact hv
     by_cases hlt : k < N2
     ·obtain ⟨T,hT⟩:=aT (l:=fs) (j:=k) (by rw [← L2.out];exact hlt)
      obtain ⟨bb,off,rfl,hc⟩:=HX2.out.get (aX hT)
      obtain ⟨x0,x1,x2,x3,x4,x5,hx⟩:=hc k _ hT
      have hK:=aA BA.out
      have c0:=hK _ _ hx.c0;have c1:=hK _ _ hx.c1;have c2:=hK _ _ hx.c2;have c3:=hK _ _ hx.c3
      have HT:=Lib.hid (List.mem_of_getElem? hT)
      have TW : Hid (bJ ((bK free ar' fs).take (k + 1)) = bJ ((bK free ar' fs).take k) ++ (T.norm free ar').ds):=kX _ (iY free ar' fs hT)
      have IC : Hid (∀ w',Below wr.heap.size wr w' → Calls Tryz.prog 52 #[.agg #[.int .u8 T.op,str T.name,.slice x0 x1 x2,.slice x3 x4 x5],.map (some M),.slice a n c] w' (RetF (T.norm free ar') w')):=fun w' hb=>by
       have hb2 : Below W.heap.size W w':=BA.out.trans (hb.mono BA.out.size)
       have e1:=iX HT.out
       have e2:=HN.out
       have e3:=AL.out
       exact IH.out T HT.out ar' a n c mn w' _ ⟨_,_,_,_,_,_,rfl,hx.at_.keep (aA hb2),hx.at'.keep (aA hb2)⟩ (HS.out.heap (hb2.block _ HS.out.lt)) (PX.out w' hb) IX.out.nil (HW.out.below hb2) (dL HO.out.2 T HT.out) AO.out (by omega) (by omega) HF.out
      clear hc hx hT hK PX
      obtain ⟨va0,vc0,rfl⟩:=hA.form
      have AA:=Lib.hid hA
      have RL : Hid (R < wr.heap.size):=(Array.getElem?_eq_some_iff.1 hA.r).1
      clear hA
      obtain ⟨i0,hi0,hz0,hs0,hb0⟩:=info_parts dV
      go_upto_region 19 with fail
      refine dG (q:=9) (S:=fun w'=>w'.heap[R]? = some (.cells #[.int .u8 op,str nm',.slice ua j uc,.slice va0 k vc0] 40 (0,0)) ∧ w'.heap[wr.heap.size]? = some (.cells #[.int .u8 T.op,str T.name,.slice x0 x1 x2,.slice x3 x4 x5] 40 (0,0)) ∧ w'.heap[W.heap.size + 1]? = some (.cells #[.slice a n c] 145 (0,0))) (by kernel_rfl) ⟨aI _ AA.out.r,heap_alloc_new wr _,aI _ G1.out⟩ (fun hHeld=>?_)
      refine aJ (i:=0) (v:=?_) rfl (by kernel_rfl) (by kernel_rfl) (by kernel_rfl) (by kernel_rfl) (fun _ _ _ h=>h) (Or.inl ⟨by rfl, ?_⟩) (by assumption) ?_
      rotate_left
      ·(intro w0 hSw;go_simp;(try with_reducible rfl))
      try simp only [Act.put,List.getElem_toArray,List.getElem_cons_succ,List.getElem_cons_zero,List.setIfInBounds_toArray,List.set_cons_zero,List.set_cons_succ]
      refine aJ (i:=1) (v:=?_) rfl (by kernel_rfl) (by kernel_rfl) (by kernel_rfl) (by kernel_rfl) (fun _ _ _ h=>h) (Or.inl ⟨by rfl, ?_⟩) (by assumption) ?_
      rotate_left
      ·(intro w0 hSw;obtain ⟨⟨-,-,-,z3⟩,-⟩:=aL hSw.1;go_simp;(try with_reducible rfl))
      try simp only [Act.put,List.getElem_toArray,List.getElem_cons_succ,List.getElem_cons_zero,List.setIfInBounds_toArray,List.set_cons_zero,List.set_cons_succ]
      refine aJ (i:=2) (v:=?_) rfl (by kernel_rfl) (by kernel_rfl) (by kernel_rfl) (by kernel_rfl) (fun _ _ _ h=>h) (Or.inl ⟨by rfl, ?_⟩) (by assumption) ?_
      rotate_left
      ·(intro w0 hSw;obtain ⟨⟨z0,z1,z2,z3⟩,-⟩:=aL hSw.2.1;go_simp;(try with_reducible rfl))
      try simp only [Act.put,List.getElem_toArray,List.getElem_cons_succ,List.getElem_cons_zero,List.setIfInBounds_toArray,List.set_cons_zero,List.set_cons_succ]
      refine aJ (i:=3) (v:=?_) rfl (by kernel_rfl) (by kernel_rfl) (by kernel_rfl) (by kernel_rfl) (fun _ _ _ h=>h) (Or.inl ⟨by rfl, ?_⟩) (by assumption) ?_
      rotate_left
      ·(intro w0 hSw;go_simp;(try with_reducible rfl))
      try simp only [Act.put,List.getElem_toArray,List.getElem_cons_succ,List.getElem_cons_zero,List.setIfInBounds_toArray,List.set_cons_zero,List.set_cons_succ]
      refine aJ (i:=4) (v:=?_) rfl (by kernel_rfl) (by kernel_rfl) (by kernel_rfl) (by kernel_rfl) (fun _ _ _ h=>h) (Or.inl ⟨by rfl, ?_⟩) (by assumption) ?_
      rotate_left
      ·(intro w0 hSw;obtain ⟨z0,-⟩:=row1 hSw.2.2;go_simp;(try with_reducible rfl))
      try simp only [Act.put,List.getElem_toArray,List.getElem_cons_succ,List.getElem_cons_zero,List.setIfInBounds_toArray,List.set_cons_zero,List.set_cons_succ]
      refine bQ (j:=5) (by kernel_rfl) (by kernel_rfl) rfl (fun K hK=>?_)
      go_simp
      go_at_call 52
      refine (IC.out _ ((Below.refl _ _).alloc (Nat.le_refl _) _).drew).mono ?_
      rintro e w3 ⟨ga,gn,gc,gb,gm,gd,rfl,h3,h4,b3⟩
      have hS3:=And.intro ((b3.block R (by have:=RL.out;simp;omega)).trans hHeld.1) (And.intro ((b3.block wr.heap.size (by simp)).trans hHeld.2.1) ((b3.block (W.heap.size + 1) (by have:=(Array.getElem?_eq_some_iff.1 G1.out).1;simp;omega)).trans hHeld.2.2))
      have HB3 : Hid (Below (wr.alloc (.cells #[.int .u8 T.op,str T.name,.slice x0 x1 x2,.slice x3 x4 x5] 40)).drew.heap.size (wr.alloc (.cells #[.int .u8 T.op,str T.name,.slice x0 x1 x2,.slice x3 x4 x5] 40)).drew w3):=b3
      have H3 : Hid (bG (hide (lo (wr.alloc (.cells #[.int .u8 T.op,str T.name,.slice x0 x1 x2,.slice x3 x4 x5] 40)).drew) w3) (T.norm free ar').args (.slice ga gn gc)):=h3
      have H4 : Hid (aN (hide (lo (wr.alloc (.cells #[.int .u8 T.op,str T.name,.slice x0 x1 x2,.slice x3 x4 x5] 40)).drew) w3) (T.norm free ar').sub (.slice gb gm gd)):=h4
      clear h3 h4 b3 hHeld IC
      go_simp
      refine hK.out _ _ hS3 (fun hHeld=>?_)
      clear hK K hS3
      try simp only [Act.put,List.getElem_toArray,List.getElem_cons_succ,List.getElem_cons_zero,List.setIfInBounds_toArray,List.set_cons_zero,List.set_cons_succ]
      refine bQ (j:=6) (by kernel_rfl) (by kernel_rfl) rfl (fun K hK=>?_)
      go_simp
      obtain ⟨xs,ow,ob,or5,fin⟩:=AA.out.step (tb:=40) ((Below.refl _ _).alloc (Nat.le_refl _) _).drew HB3.out (eV H3.out H4.out)
      have OW:=Lib.hid ow
      have OB:=Lib.hid ob
      have FIN:=Lib.hid fin
      clear ow fin ob
      have hS4:=And.intro or5 (And.intro (aI (.cells #[.int .u8 (T.norm free ar').op,str (T.norm free ar').name,.slice ga gn gc,.slice gb gm gd] 40) hHeld.2.1) (aI (.cells #[.int .u8 (T.norm free ar').op,str (T.norm free ar').name,.slice ga gn gc,.slice gb gm gd] 40) hHeld.2.2))
      refine hK.out _ _ hS4 (fun hHeld2=>?_)
      clear hK K hS4 or5 hHeld
      try simp only [Act.put,List.getElem_toArray,List.getElem_cons_succ,List.getElem_cons_zero,List.setIfInBounds_toArray,List.set_cons_zero,List.set_cons_succ]
      refine bQ (j:=7) (by kernel_rfl) (by kernel_rfl) rfl (fun K hK=>?_)
      refine bT rfl _ _ 24 rfl Wx.heap.size 40 i0 (.agg #[.int .u8 0,.string ⟨#[]⟩,.slice none 0 0,.slice none 0 0]) 4 72 Tryz.underlying24 hi0 hz0 hs0 hb0 rfl (by decide) _ k xs (by rfl) OW.out ⟨w3.heap.size,0,none⟩ 1 1 [.int .u8 (T.norm free ar').op,str (T.norm free ar').name,.slice ga gn gc,.slice gb gm gd] (by rfl) rfl (fH _ _ _ _ _ _) cM (by unfold maxLen;omega) (by omega) OB.out ?_
      intro v5 w5 h5 hg5 hat5
      obtain ⟨r5,⟨va,vc,rfl⟩,A5⟩:=FIN.out v5 w5 h5 hg5 hat5
      have A6:=Lib.hid A5
      have NB : ∀ b,b < wr.heap.size + 1 → (∀ g,(Value.slice va0 k vc0).ownBlock = some g → g ≠ b) → w5.heap[b]? = (w3.alloc (.cells #[.int .u8 (T.norm free ar').op,str (T.norm free ar').name,.slice ga gn gc,.slice gb gm gd] 40)).heap[b]?:=fun b hb hg=>hg5.block b (by have:=HB3.out.size;simp at this;simp;omega) (fun e=>hg _ e.symm rfl)
      have OL:=fE AA.out.own
      have hS5:=And.intro r5 (And.intro ((NB wr.heap.size (by omega) (fun g hg=>by have:=(OL g hg).2;omega)).trans hHeld2.2.1) ((NB (W.heap.size + 1) (by have:=(Array.getElem?_eq_some_iff.1 G1.out).1;omega) (fun g hg=>by have:=(OL g hg).1;have:=RX.out;omega)).trans hHeld2.2.2))
      clear h5 hg5 hat5 A5 r5 FIN OW NB OL
      refine hK.out _ _ hS5 (fun hHeld3=>?_)
      clear hK K hS5 hHeld2
      try simp only [Act.put,List.getElem_toArray,List.getElem_cons_succ,List.getElem_cons_zero,List.setIfInBounds_toArray,List.set_cons_zero,List.set_cons_succ]
      refine aJ (i:=8) (v:=?_) rfl (by kernel_rfl) (by kernel_rfl) (by kernel_rfl) (by kernel_rfl) (fun _ _ _ h=>h) (Or.inl ⟨by rfl, ?_⟩) (by assumption) ?_
      rotate_left
      ·(intro w0 hSw;go_simp;(try with_reducible rfl))
      try simp only [Act.put,List.getElem_toArray,List.getElem_cons_succ,List.getElem_cons_zero,List.setIfInBounds_toArray,List.set_cons_zero,List.set_cons_succ]
      refine dF (by kernel_rfl) (by kernel_rfl) rfl (fun K hK=>?_)
      obtain ⟨⟨-,-,-,z3⟩,-,-,-,f3⟩:=aL hHeld3.1
      go_simp
      have A7:=A6.out _ rfl
      refine hK.out _ _ ?_
      clear hK K hHeld3
      go_wp2_with fail
      go_roundw
      case rel=>exact ⟨k + 1,by omega,by go_num,_,by rw [TW.out];exact A7⟩
      case measure=>simp [intOf];omega
     ·obtain ⟨va,vc,rfl⟩:=hA.form
      have e : (bK free ar' fs).take k = bK free ar' fs:=List.take_of_length_le (by rw [eW,← L2.out];omega)
      have EK : Hid (k = N2):=by show k = N2;omega
      rw [e] at hA
      obtain ⟨⟨y0,y1,y2,y3⟩,-⟩:=aL hA.r
      obtain ⟨⟨p0,p1,p2,p3⟩,z0,z1,z2,z3⟩:=aL G2.out
      have AA:=Lib.hid hA
      clear hA e PX
      go_wp2_with fail
      obtain ⟨g1,g2,g3⟩:=vR (x':=.int .u8 op) (y':=str nm') (z':=.slice ua j uc) (t':=.slice va k vc) (b:=W.heap.size + 1 + 1) (by omega) BA.out G2.out
      refine bodyPost_ret (jV rfl _ _ (W.heap.size + 1 + 1) _ _ _ _ (0,0) rfl g1) rfl ?_
      refine ⟨ua,j,uc,va,k,vc,rfl, ?_, ?_,g2⟩
      ·refine IX.out.tms.keep fun p v hv=>?_
       have hp:=eA hv
       rw [cD hp] at hv
       have lt:=World.block_lt_of_cell? Wx p hv
       have h3 : Wl.heap.size ≤ p.block:=by simpa [lo] using hp
       have h4:=HR.out
       have h5:=RL.out
       rw [cD (by simp [lo];omega),World.cell?_of_block (a:=p) (w:=Wx) ((g3 _ (by omega)).trans (AA.out.bw.block _ lt (by omega)))]
       exact hv
      ·have lk : (bK free ar' fs).length = k:=by rw [eW,← L2.out];exact EK.out.symm
       show At _ (.sl 4 (bK free ar' fs).length (bJ (bK free ar' fs))) (.slice va k vc)
       rw [lk]
       refine At.keep (aH fun i h1 h2=>?_) _ _ AA.out.at
       have h3 : Wx.heap.size ≤ i:=by simpa [lo] using h2
       have h4:=RX.out
       exact ⟨by simp [lo];omega,g3 i (by omega)⟩
   ·have QC : Hid (∀ w,Calls Tryz.prog 98 #[.agg #[.int .u8 op,str nm,.slice ta N tc,.slice fa N2 fc]] w fun e w'=>e = .returned (.bool true) ∧ Below w.heap.size w w'):=fun w=>by rw [← hq];exact lX op _ _ _ w
    have NE : Hid (nm' = least (free ++ ar.map (·.2))):=by rw [← HNM.out,hq];rfl
    obtain rfl : ar' = (nm,nm') :: ar:=by rw [← HAR'.out,hq];rfl
    have NL : Hid (least (free ++ ar.reverse.map (·.2)) = nm'):=by rw [NE.out];exact pN (fun x=>by simp) (by simp)
    clear hq HNM HAR'
    have hmm:=@run_makeMap Tryz.prog
    go_wp2_with (go_at_call 98;refine (QC.out _).mono ?_;rintro e w2 ⟨rfl,b2⟩;have I2:=Lib.hid (I0.out.below b2);have c1 : ∀ o,(w2.alloc o).cell? ⟨W.heap.size + 1,0,none⟩ = some (.slice a n c):=fun o=>(row1 (aI o I2.out.b1)).1;clear b2 I0 QC y0 y1 y2 y3)
    obtain ⟨w3,hw3⟩ : ∃ w3,w2.alloc (.map #[] 0) = w3:=⟨_,rfl⟩
    obtain ⟨U,hU⟩ : ∃ U,w2.heap.size = U:=⟨_,rfl⟩
    have S0 : Hid (cQ w3 U 0 []):=by rw [← hw3,← hU];exact cQ.made w2
    have B3 : Hid (Below U w2 w3):=by rw [← hw3,← hU];exact (Below.refl _ _).alloc (Nat.le_refl _) _
    have HU:=Lib.hid hU
    rw [hw3,hU]
    clear hw3 hU c1 hmm
    go_loopw [41] (fun i wq=>∃ j' : Nat,j' ≤ n ∧ i = .int .i64 j' ∧ Hid (cQ wq U j' ((ar.reverse.take j').map (·.2)) ∧ Below U w2 wq)) (fun i _=>n - (intOf i).toNat)
    case atStart=>exact ⟨0,Nat.zero_le _,rfl,by simpa using S0.out,B3.out⟩
    case round =>
     obtain ⟨k,hk,rfl,hs⟩:=hrel
     clear S0 B3
     have I3 : Hid (NrI W Wl R op nm nm (.slice ta N tc) (.slice fa N2 fc) (.slice ua j uc) l1 ar a n c wr):=I2.out.below (by rw [HU.out];exact hs.out.2)
     by_cases hlt : k < n
     ·obtain ⟨p,hp⟩:=aT (l:=ar.reverse) (j:=k) (by rw [List.length_reverse];have:=LA.out;omega)
      obtain ⟨bb,off,rfl,hc⟩:=HP.out.get (aX hp)
      obtain ⟨d0,d1⟩:=hc k p hp
      have c0:=aA I3.out.bw _ _ d0
      have c1:=aA I3.out.bw _ _ d1
      have okp : okS p.2:=HAR.out p (by have:=List.mem_of_getElem? hp;simpa using this)
      have SA : Hid (∀ o,cQ (wr.alloc o) U k ((ar.reverse.take k).map (·.2))):=fun o=>hs.out.1.heap (Below.heap_alloc _ _ _ hs.out.1.lt)
      have TW : Hid ((ar.reverse.take (k + 1)).map (·.2) = (ar.reverse.take k).map (·.2) ++ [p.2]):=by show _ = _;rw [List.take_add_one,hp];simp
      have kl : k < maxLen:=by unfold maxLen;omega
      have BB:=Lib.hid hs.out.2
      clear hc d0 d1 hp hs
      go_wp2_with (at_mapUpdate;refine fC rfl _ _ _ 93 rfl 4 keyS xT rfl (SA.out _) kl p.2 okp rfl ?_;intro w1 hm1 hg1)
      go_roundw
      case rel =>
       refine ⟨k + 1,by omega,by go_num, ?_, ?_⟩
       ·rw [TW.out];exact cQ.put hm1
       ·refine BB.out.trans ?_
        have b4 : Below U wr (wr.alloc (.cells #[str p.1,str p.2] 148)):=(Below.refl _ _).alloc (by have:=(SA.out (.map #[] 0)).lt;have:=BB.out.size;have:=HU.out;omega) _
        exact b4.trans ⟨hg1.os,hg1.tape,hg1.output,hg1.size,fun i hi=>hg1.block i (by have:=BB.out.size;have:=HU.out;simp;omega) (fun e=>by cases e;omega)⟩
      case measure=>simp [intOf];omega
     ·have EK : Hid (k = n):=by show k = n;omega
      have S4 : Hid (cQ wr U n (ar.reverse.map (·.2))):=by
       have h1:=hs.out.1
       rw [List.take_of_length_le (by rw [List.length_reverse];have:=LA.out;have:=EK.out;omega),EK.out] at h1
       exact h1
      have LC : Hid (Calls Tryz.prog 99 #[.slice (some ⟨wr.heap.size,0,none⟩) 2 2] (wr.alloc (.cells #[.map (some M),.map (some U)] 93)) fun e w'=>e = .returned (str nm') ∧ Below (wr.alloc (.cells #[.map (some M),.map (some U)] 93)).heap.size (wr.alloc (.cells #[.map (some M),.map (some U)] 93)) w'):=by
       have bA : Below W.heap.size W (wr.alloc (.cells #[.map (some M),.map (some U)] 93)):=I3.out.bw.alloc I3.out.bw.size _
       have:=least_c free (ar.reverse.map (·.2)) M U mn n wr.heap.size (wr.alloc (.cells #[.map (some M),.map (some U)] 93)) (HW.out.below bA) (HS.out.heap (bA.block _ HS.out.lt)) (S4.out.heap (Below.heap_alloc _ _ _ S4.out.lt)) (heap_alloc_new _ _) (by have:=HF.out;have:=LA.out;simp;omega)
       rw [NL.out] at this
       exact this
      clear hs
      go_wp2_with (go_at_call 99;refine LC.out.mono ?_;rintro e w5 ⟨rfl,b5⟩;have I5:=Lib.hid (I3.out.below (bV b5));obtain ⟨⟨-,e1,-,-⟩,-,f1,-,-⟩:=aL I5.out.r;clear b5 LC)
      have RL2:=RL.out
      have I6:=Lib.hid (I5.out.name HR.out RL2 nm')
      obtain ⟨w6,hw6⟩ : ∃ w6,w5.setCell ⟨R,1,none⟩ (str nm') = w6:=⟨_,rfl⟩
      rw [show (Value.string ⟨nm'.toArray⟩) = str nm' from rfl,hw6]
      rw [hw6] at I6
      clear hw6 I5 I3 S4 e1 f1
      have nc : n ≤ c:=by
       have:=HP.out.len
       omega
      have ncm : c ≤ 9223372036854775807:=le63 HP.out.len.2.2
      obtain ⟨i2,hi2,hz2,hs2,hb2⟩:=info_parts info148
      have nn : n = ar.length:=LA.out.1
      have NN:=Lib.hid nn
      clear nn RL2
      rcases HA.out with ⟨ea,en,ec⟩ | ⟨pb,po,ea⟩
      ·subst ea en ec
       refine dG (q:=13) (S:=fun w'=>w'.heap[W.heap.size + 1]? = some (.cells #[.slice none 0 0] 145 (0,0)) ∧ w'.heap[W.heap.size]? = some (.cells #[.int .u8 op,str nm,.slice ta N tc,.slice fa N2 fc] 40 (0,0)) ∧ w'.heap[R]? = some (.cells #[.int .u8 op,str nm',.slice ua j uc,.slice none 0 0] 40 (0,0))) (by kernel_rfl) ⟨I6.out.b1,I6.out.b0,I6.out.r⟩ (fun hHeld=>?_)
       refine aJ (i:=0) (v:=?_) rfl (by kernel_rfl) (by kernel_rfl) (by kernel_rfl) (by kernel_rfl) (fun _ _ _ h=>h) (Or.inl ⟨by rfl, ?_⟩) (by assumption) ?_
       rotate_left
       ·(intro w0 hSw;obtain ⟨z0,-⟩:=row1 hSw.1;go_simp;(try with_reducible rfl))
       try simp only [Act.put,List.getElem_toArray,List.getElem_cons_succ,List.getElem_cons_zero,List.setIfInBounds_toArray,List.set_cons_zero,List.set_cons_succ]
       refine aJ (i:=1) (v:=?_) rfl (by kernel_rfl) (by kernel_rfl) (by kernel_rfl) (by kernel_rfl) (fun _ _ _ h=>h) (Or.inl ⟨by rfl, ?_⟩) (by assumption) ?_
       rotate_left
       ·(intro w0 hSw;obtain ⟨z0,-⟩:=row1 hSw.1;go_simp;(try with_reducible rfl))
       try simp only [Act.put,List.getElem_toArray,List.getElem_cons_succ,List.getElem_cons_zero,List.setIfInBounds_toArray,List.set_cons_zero,List.set_cons_succ]
       refine aJ (i:=2) (v:=?_) rfl (by kernel_rfl) (by kernel_rfl) (by kernel_rfl) (by kernel_rfl) (fun _ _ _ h=>h) (Or.inl ⟨by rfl, ?_⟩) (by assumption) ?_
       rotate_left
       ·(intro w0 hSw;go_simp;(try with_reducible rfl))
       try simp only [Act.put,List.getElem_toArray,List.getElem_cons_succ,List.getElem_cons_zero,List.setIfInBounds_toArray,List.set_cons_zero,List.set_cons_succ]
       refine aJ (i:=3) (v:=?_) rfl (by kernel_rfl) (by kernel_rfl) (by kernel_rfl) (by kernel_rfl) (fun _ _ _ h=>h) (Or.inl ⟨by rfl, ?_⟩) (by assumption) ?_
       rotate_left
       ·(intro w0 hSw;obtain ⟨z0,-⟩:=row1 hSw.1;go_simp;(try with_reducible rfl))
       try simp only [Act.put,List.getElem_toArray,List.getElem_cons_succ,List.getElem_cons_zero,List.setIfInBounds_toArray,List.set_cons_zero,List.set_cons_succ]
       refine aJ (i:=4) (v:=?_) rfl (by kernel_rfl) (by kernel_rfl) (by kernel_rfl) (by kernel_rfl) (fun _ _ _ h=>h) (Or.inl ⟨by rfl, ?_⟩) (by assumption) ?_
       rotate_left
       ·(intro w0 hSw;go_simp;(try with_reducible rfl))
       try simp only [Act.put,List.getElem_toArray,List.getElem_cons_succ,List.getElem_cons_zero,List.setIfInBounds_toArray,List.set_cons_zero,List.set_cons_succ]
       refine aJ (i:=5) (v:=?_) rfl (by kernel_rfl) (by kernel_rfl) (by kernel_rfl) (by kernel_rfl) (fun _ _ _ h=>h) (Or.inl ⟨by rfl, ?_⟩) (by assumption) ?_
       rotate_left
       ·(intro w0 hSw;go_simp;(try with_reducible rfl))
       try simp only [Act.put,List.getElem_toArray,List.getElem_cons_succ,List.getElem_cons_zero,List.setIfInBounds_toArray,List.set_cons_zero,List.set_cons_succ]
       refine aJ (i:=6) (v:=?_) rfl (by kernel_rfl) (by kernel_rfl) (by kernel_rfl) (by kernel_rfl) (fun _ _ _ h=>h) (Or.inl ⟨by rfl, ?_⟩) (by assumption) ?_
       rotate_left
       ·(intro w0 hSw;go_simp;(try with_reducible rfl))
       try simp only [Act.put,List.getElem_toArray,List.getElem_cons_succ,List.getElem_cons_zero,List.setIfInBounds_toArray,List.set_cons_zero,List.set_cons_succ]
       refine aJ (i:=7) (v:=?_) rfl (by kernel_rfl) (by kernel_rfl) (by kernel_rfl) (by kernel_rfl) (fun _ _ _ h=>h) (Or.inl ⟨by rfl, ?_⟩) (by assumption) ?_
       rotate_left
       ·(intro w0 hSw;obtain ⟨⟨-,z1,-,-⟩,-⟩:=aL hSw.2.1;go_simp;(try with_reducible rfl))
       try simp only [Act.put,List.getElem_toArray,List.getElem_cons_succ,List.getElem_cons_zero,List.setIfInBounds_toArray,List.set_cons_zero,List.set_cons_succ]
       refine aJ (i:=8) (v:=?_) rfl (by kernel_rfl) (by kernel_rfl) (by kernel_rfl) (by kernel_rfl) (fun _ _ _ h=>h) (Or.inl ⟨by rfl, ?_⟩) (by assumption) ?_
       rotate_left
       ·(intro w0 hSw;go_simp;(try with_reducible rfl))
       try simp only [Act.put,List.getElem_toArray,List.getElem_cons_succ,List.getElem_cons_zero,List.setIfInBounds_toArray,List.set_cons_zero,List.set_cons_succ]
       refine aJ (i:=9) (v:=?_) rfl (by kernel_rfl) (by kernel_rfl) (by kernel_rfl) (by kernel_rfl) (fun _ _ _ h=>h) (Or.inl ⟨by rfl, ?_⟩) (by assumption) ?_
       rotate_left
       ·(intro w0 hSw;obtain ⟨⟨-,z1,-,-⟩,-⟩:=aL hSw.2.2;go_simp;(try with_reducible rfl))
       try simp only [Act.put,List.getElem_toArray,List.getElem_cons_succ,List.getElem_cons_zero,List.setIfInBounds_toArray,List.set_cons_zero,List.set_cons_succ]
       refine aJ (i:=10) (v:=?_) rfl (by kernel_rfl) (by kernel_rfl) (by kernel_rfl) (by kernel_rfl) (fun _ _ _ h=>h) (Or.inl ⟨by rfl, ?_⟩) (by assumption) ?_
       rotate_left
       ·(intro w0 hSw;go_simp;(try with_reducible rfl))
       try simp only [Act.put,List.getElem_toArray,List.getElem_cons_succ,List.getElem_cons_zero,List.setIfInBounds_toArray,List.set_cons_zero,List.set_cons_succ]
       refine bQ (j:=11) (by kernel_rfl) (by kernel_rfl) rfl (fun K hK=>?_)
       go_simp
       have hS1:=And.intro (aI (.cells #[str nm,str nm'] 148) hHeld.1) (And.intro (aI (.cells #[str nm,str nm'] 148) hHeld.2.1) (aI (.cells #[str nm,str nm'] 148) hHeld.2.2))
       refine hK.out _ _ hS1 (fun hHeld2=>?_)
       clear hK K hS1 hHeld
       try simp only [Act.put,List.getElem_toArray,List.getElem_cons_succ,List.getElem_cons_zero,List.setIfInBounds_toArray,List.set_cons_zero,List.set_cons_succ]
       refine bQ (j:=12) (by kernel_rfl) (by kernel_rfl) rfl (fun K hK=>?_)
       refine step_append_grows rfl _ _ 145 rfl 148 i2 (.agg #[.string ⟨#[]⟩,.string ⟨#[]⟩]) 2 32 Tryz.underlying145 hi2 hz2 hs2 hb2 rfl (by decide) (none) 0 0 [] (by rfl) (fun _=>⟨rfl,rfl⟩) rfl (fun b h=>by cases h) ⟨w6.heap.size,0,none⟩ 1 1 [str nm,str nm'] (by rfl) rfl (xV _ _ _ _) tO (by omega) (by unfold maxLen;omega) (by omega) ?_
       intro v5 w7 h7 hg7
       obtain ⟨g,c8,rfl,b8,fin⟩:=I6.out.push (w6:=w6.drew.alloc (.cells #[str nm,str nm'] 148)) (v:=v5) HR.out RL.out ((Below.refl _ _).drew.alloc (Nat.le_refl _) _) hg7 NN.out (by have e0 : ar = []:=List.eq_nil_of_length_eq_zero NN.out.symm;rw [e0];exact h7)
       have I8:=Lib.hid fin
       have gk : ∀ b o,w6.heap[b]? = some o → w7.heap[b]? = some o:=fun b o hb=>(hg7.block b (by have:=(Array.getElem?_eq_some_iff.1 hb).1;simp;omega) (by simp)).trans (aI _ hb)
       have hS7:=And.intro (gk _ _ I6.out.b1) (And.intro (gk _ _ I6.out.b0) (gk _ _ I6.out.r))
       clear h7 hg7 fin gk
       refine hK.out _ _ hS7 (fun hHeld3=>?_)
       clear hK K hS7 hHeld2
       try simp only [Act.put,List.getElem_toArray,List.getElem_cons_succ,List.getElem_cons_zero,List.setIfInBounds_toArray,List.set_cons_zero,List.set_cons_succ]
       refine dF (by kernel_rfl) (by kernel_rfl) rfl (fun K hK=>?_)
       obtain ⟨z1,f1⟩:=row1 b8
       go_simp
       refine hK.out _ _ ?_
       clear hK K hHeld3
       obtain ⟨Wx,hWx⟩ : ∃ Wx,w7.setCell ⟨W.heap.size + 1,0,none⟩ (.slice (some ⟨g,0,none⟩) (0 + 1) c8) = Wx:=⟨_,rfl⟩
       have IX:=Lib.hid (I8.out _ hWx.symm)
       rw [hWx]
       obtain ⟨⟨-,-,-,y3⟩,-⟩:=aL IX.out.b0
       clear hWx I8 I6 I2 z1 f1 b8
       have AL : Hid (((nm,nm') :: ar).length + aD fs ≤ 200000):=by have:=HN2.out;show _ ≤ _;simp;omega
       have AO : Hid (∀ p ∈ (nm,nm') :: ar,okS p.2):=fun p hp=>by
        rcases List.mem_cons.1 hp with rfl | hp
        ·show okS nm'
         rw [NE.out]
         exact tN (by have:=HF.out;have:=NN.out;simp;omega)
        ·exact HAR.out p hp
       go_wp2_with fail
       have E0 : Hid (ApR Wx R 40 40 4 [.int .u8 op,str nm',.slice ua j uc] [] 0 [] (.slice none 0 0) Wx):=ApR.new IX.out.r
       have RX : Hid (W.heap.size + 1 + 1 < Wx.heap.size ∧ R < Wx.heap.size):=⟨(Array.getElem?_eq_some_iff.1 IX.out.b2).1,(Array.getElem?_eq_some_iff.1 IX.out.r).1⟩
       go_loopw [70] (fun i wr=>∃ j' : Nat,j' ≤ N2 ∧ i = .int .i64 j' ∧ Hid (∃ u,ApR Wx R 40 40 4 [.int .u8 op,str nm',.slice ua j uc] [] j' (bJ ((bK free ((nm,nm') :: ar) fs).take j')) u wr)) (fun i _=>N2 - (intOf i).toNat)
       case atStart=>exact ⟨0,Nat.zero_le _,rfl,_,E0.out⟩
       case round =>
        obtain ⟨k,hk,rfl,hs⟩:=hrel
        obtain ⟨u,hA⟩:=hs.out
        clear hs E0
        have BA : Hid (Below W.heap.size W wr):=IX.out.bw.trans (hA.bw.below (by have:=HR.out;omega) IX.out.bw.size)
        have G1 : Hid (wr.heap[W.heap.size + 1]? = some (.cells #[.slice (some ⟨g,0,none⟩) (0 + 1) c8] 145 (0,0))):=(hA.bw.block _ (by have:=RX.out;omega) (by have:=HR.out;omega)).trans IX.out.b1
        have G2 : Hid (wr.heap[W.heap.size + 1 + 1]? = some (.cells #[.int .u8 0,str [],.slice none 0 0,.slice none 0 0] 40 (0,0))):=(hA.bw.block _ RX.out.1 (by have:=HR.out;omega)).trans IX.out.b2
        have PX : Hid (∀ w',Below wr.heap.size wr w' → dN w' ((nm,nm') :: ar).reverse (.slice (some ⟨g,0,none⟩) (0 + 1) c8)):=fun w' hb=>IX.out.prs.keep fun p v hv=>by
         have hp:=eA hv
         rw [cD hp] at hv
         have lt:=World.block_lt_of_cell? Wx p hv
         rw [World.cell?_of_block (a:=p) (w:=Wx) (w':=w') ((hb.block _ (by have:=hA.bw.size;omega)).trans (hA.bw.block _ lt (by simpa using hp)))]
         exact hv
        by_cases hlt : k < N2
        ·obtain ⟨T,hT⟩:=aT (l:=fs) (j:=k) (by rw [← L2.out];exact hlt)
         obtain ⟨bb,off,rfl,hc⟩:=HX2.out.get (aX hT)
         obtain ⟨x0,x1,x2,x3,x4,x5,hx⟩:=hc k _ hT
         have hK:=aA BA.out
         have c0:=hK _ _ hx.c0;have c1:=hK _ _ hx.c1;have c2:=hK _ _ hx.c2;have c3:=hK _ _ hx.c3
         have HT:=Lib.hid (List.mem_of_getElem? hT)
         have TW : Hid (bJ ((bK free ((nm,nm') :: ar) fs).take (k + 1)) = bJ ((bK free ((nm,nm') :: ar) fs).take k) ++ (T.norm free ((nm,nm') :: ar)).ds):=kX _ (iY free ((nm,nm') :: ar) fs hT)
         have IC : Hid (∀ w',Below wr.heap.size wr w' → Calls Tryz.prog 52 #[.agg #[.int .u8 T.op,str T.name,.slice x0 x1 x2,.slice x3 x4 x5],.map (some M),.slice (some ⟨g,0,none⟩) (0 + 1) c8] w' (RetF (T.norm free ((nm,nm') :: ar)) w')):=fun w' hb=>by
          have hb2 : Below W.heap.size W w':=BA.out.trans (hb.mono BA.out.size)
          have e1:=iX HT.out
          have e2:=HN.out
          have e3:=AL.out
          exact IH.out T HT.out ((nm,nm') :: ar) (some ⟨g,0,none⟩) (0 + 1) c8 mn w' _ ⟨_,_,_,_,_,_,rfl,hx.at_.keep (aA hb2),hx.at'.keep (aA hb2)⟩ (HS.out.heap (hb2.block _ HS.out.lt)) (PX.out w' hb) IX.out.nil (HW.out.below hb2) (dL HO.out.2 T HT.out) AO.out (by omega) (by omega) HF.out
         clear hc hx hT hK PX
         obtain ⟨va0,vc0,rfl⟩:=hA.form
         have AA:=Lib.hid hA
         have RL : Hid (R < wr.heap.size):=(Array.getElem?_eq_some_iff.1 hA.r).1
         clear hA
         obtain ⟨i0,hi0,hz0,hs0,hb0⟩:=info_parts dV
         go_upto_region 19 with fail
         refine dG (q:=9) (S:=fun w'=>w'.heap[R]? = some (.cells #[.int .u8 op,str nm',.slice ua j uc,.slice va0 k vc0] 40 (0,0)) ∧ w'.heap[wr.heap.size]? = some (.cells #[.int .u8 T.op,str T.name,.slice x0 x1 x2,.slice x3 x4 x5] 40 (0,0)) ∧ w'.heap[W.heap.size + 1]? = some (.cells #[.slice (some ⟨g,0,none⟩) (0 + 1) c8] 145 (0,0))) (by kernel_rfl) ⟨aI _ AA.out.r,heap_alloc_new wr _,aI _ G1.out⟩ (fun hHeld=>?_)
         refine aJ (i:=0) (v:=?_) rfl (by kernel_rfl) (by kernel_rfl) (by kernel_rfl) (by kernel_rfl) (fun _ _ _ h=>h) (Or.inl ⟨by rfl, ?_⟩) (by assumption) ?_
         rotate_left
         ·(intro w0 hSw;go_simp;(try with_reducible rfl))
         try simp only [Act.put,List.getElem_toArray,List.getElem_cons_succ,List.getElem_cons_zero,List.setIfInBounds_toArray,List.set_cons_zero,List.set_cons_succ]
         refine aJ (i:=1) (v:=?_) rfl (by kernel_rfl) (by kernel_rfl) (by kernel_rfl) (by kernel_rfl) (fun _ _ _ h=>h) (Or.inl ⟨by rfl, ?_⟩) (by assumption) ?_
         rotate_left
         ·(intro w0 hSw;obtain ⟨⟨-,-,-,z3⟩,-⟩:=aL hSw.1;go_simp;(try with_reducible rfl))
         try simp only [Act.put,List.getElem_toArray,List.getElem_cons_succ,List.getElem_cons_zero,List.setIfInBounds_toArray,List.set_cons_zero,List.set_cons_succ]
         refine aJ (i:=2) (v:=?_) rfl (by kernel_rfl) (by kernel_rfl) (by kernel_rfl) (by kernel_rfl) (fun _ _ _ h=>h) (Or.inl ⟨by rfl, ?_⟩) (by assumption) ?_
         rotate_left
         ·(intro w0 hSw;obtain ⟨⟨z0,z1,z2,z3⟩,-⟩:=aL hSw.2.1;go_simp;(try with_reducible rfl))
         try simp only [Act.put,List.getElem_toArray,List.getElem_cons_succ,List.getElem_cons_zero,List.setIfInBounds_toArray,List.set_cons_zero,List.set_cons_succ]
         refine aJ (i:=3) (v:=?_) rfl (by kernel_rfl) (by kernel_rfl) (by kernel_rfl) (by kernel_rfl) (fun _ _ _ h=>h) (Or.inl ⟨by rfl, ?_⟩) (by assumption) ?_
         rotate_left
         ·(intro w0 hSw;go_simp;(try with_reducible rfl))
         try simp only [Act.put,List.getElem_toArray,List.getElem_cons_succ,List.getElem_cons_zero,List.setIfInBounds_toArray,List.set_cons_zero,List.set_cons_succ]
         refine aJ (i:=4) (v:=?_) rfl (by kernel_rfl) (by kernel_rfl) (by kernel_rfl) (by kernel_rfl) (fun _ _ _ h=>h) (Or.inl ⟨by rfl, ?_⟩) (by assumption) ?_
         rotate_left
         ·(intro w0 hSw;obtain ⟨z0,-⟩:=row1 hSw.2.2;go_simp;(try with_reducible rfl))
         try simp only [Act.put,List.getElem_toArray,List.getElem_cons_succ,List.getElem_cons_zero,List.setIfInBounds_toArray,List.set_cons_zero,List.set_cons_succ]
         refine bQ (j:=5) (by kernel_rfl) (by kernel_rfl) rfl (fun K hK=>?_)
         go_simp
         go_at_call 52
         refine (IC.out _ ((Below.refl _ _).alloc (Nat.le_refl _) _).drew).mono ?_
         rintro e w3 ⟨ga,gn,gc,gb,gm,gd,rfl,h3,h4,b3⟩
         have hS3:=And.intro ((b3.block R (by have:=RL.out;simp;omega)).trans hHeld.1) (And.intro ((b3.block wr.heap.size (by simp)).trans hHeld.2.1) ((b3.block (W.heap.size + 1) (by have:=(Array.getElem?_eq_some_iff.1 G1.out).1;simp;omega)).trans hHeld.2.2))
         have HB3 : Hid (Below (wr.alloc (.cells #[.int .u8 T.op,str T.name,.slice x0 x1 x2,.slice x3 x4 x5] 40)).drew.heap.size (wr.alloc (.cells #[.int .u8 T.op,str T.name,.slice x0 x1 x2,.slice x3 x4 x5] 40)).drew w3):=b3
         have H3 : Hid (bG (hide (lo (wr.alloc (.cells #[.int .u8 T.op,str T.name,.slice x0 x1 x2,.slice x3 x4 x5] 40)).drew) w3) (T.norm free ((nm,nm') :: ar)).args (.slice ga gn gc)):=h3
         have H4 : Hid (aN (hide (lo (wr.alloc (.cells #[.int .u8 T.op,str T.name,.slice x0 x1 x2,.slice x3 x4 x5] 40)).drew) w3) (T.norm free ((nm,nm') :: ar)).sub (.slice gb gm gd)):=h4
         clear h3 h4 b3 hHeld IC
         go_simp
         refine hK.out _ _ hS3 (fun hHeld=>?_)
         clear hK K hS3
         try simp only [Act.put,List.getElem_toArray,List.getElem_cons_succ,List.getElem_cons_zero,List.setIfInBounds_toArray,List.set_cons_zero,List.set_cons_succ]
         refine bQ (j:=6) (by kernel_rfl) (by kernel_rfl) rfl (fun K hK=>?_)
         go_simp
         obtain ⟨xs,ow,ob,or5,fin⟩:=AA.out.step (tb:=40) ((Below.refl _ _).alloc (Nat.le_refl _) _).drew HB3.out (eV H3.out H4.out)
         have OW:=Lib.hid ow
         have OB:=Lib.hid ob
         have FIN:=Lib.hid fin
         clear ow fin ob
         have hS4:=And.intro or5 (And.intro (aI (.cells #[.int .u8 (T.norm free ((nm,nm') :: ar)).op,str (T.norm free ((nm,nm') :: ar)).name,.slice ga gn gc,.slice gb gm gd] 40) hHeld.2.1) (aI (.cells #[.int .u8 (T.norm free ((nm,nm') :: ar)).op,str (T.norm free ((nm,nm') :: ar)).name,.slice ga gn gc,.slice gb gm gd] 40) hHeld.2.2))
         refine hK.out _ _ hS4 (fun hHeld2=>?_)
         clear hK K hS4 or5 hHeld
         try simp only [Act.put,List.getElem_toArray,List.getElem_cons_succ,List.getElem_cons_zero,List.setIfInBounds_toArray,List.set_cons_zero,List.set_cons_succ]
         refine bQ (j:=7) (by kernel_rfl) (by kernel_rfl) rfl (fun K hK=>?_)
         refine bT rfl _ _ 24 rfl Wx.heap.size 40 i0 (.agg #[.int .u8 0,.string ⟨#[]⟩,.slice none 0 0,.slice none 0 0]) 4 72 Tryz.underlying24 hi0 hz0 hs0 hb0 rfl (by decide) _ k xs (by rfl) OW.out ⟨w3.heap.size,0,none⟩ 1 1 [.int .u8 (T.norm free ((nm,nm') :: ar)).op,str (T.norm free ((nm,nm') :: ar)).name,.slice ga gn gc,.slice gb gm gd] (by rfl) rfl (fH _ _ _ _ _ _) cM (by unfold maxLen;omega) (by omega) OB.out ?_
         intro v5 w5 h5 hg5 hat5
         obtain ⟨r5,⟨va,vc,rfl⟩,A5⟩:=FIN.out v5 w5 h5 hg5 hat5
         have A6:=Lib.hid A5
         have NB : ∀ b,b < wr.heap.size + 1 → (∀ g,(Value.slice va0 k vc0).ownBlock = some g → g ≠ b) → w5.heap[b]? = (w3.alloc (.cells #[.int .u8 (T.norm free ((nm,nm') :: ar)).op,str (T.norm free ((nm,nm') :: ar)).name,.slice ga gn gc,.slice gb gm gd] 40)).heap[b]?:=fun b hb hg=>hg5.block b (by have:=HB3.out.size;simp at this;simp;omega) (fun e=>hg _ e.symm rfl)
         have OL:=fE AA.out.own
         have hS5:=And.intro r5 (And.intro ((NB wr.heap.size (by omega) (fun g hg=>by have:=(OL g hg).2;omega)).trans hHeld2.2.1) ((NB (W.heap.size + 1) (by have:=(Array.getElem?_eq_some_iff.1 G1.out).1;omega) (fun g hg=>by have:=(OL g hg).1;have:=RX.out;omega)).trans hHeld2.2.2))
         clear h5 hg5 hat5 A5 r5 FIN OW NB OL
         refine hK.out _ _ hS5 (fun hHeld3=>?_)
         clear hK K hS5 hHeld2
         try simp only [Act.put,List.getElem_toArray,List.getElem_cons_succ,List.getElem_cons_zero,List.setIfInBounds_toArray,List.set_cons_zero,List.set_cons_succ]
         refine aJ (i:=8) (v:=?_) rfl (by kernel_rfl) (by kernel_rfl) (by kernel_rfl) (by kernel_rfl) (fun _ _ _ h=>h) (Or.inl ⟨by rfl, ?_⟩) (by assumption) ?_
         rotate_left
         ·(intro w0 hSw;go_simp;(try with_reducible rfl))
         try simp only [Act.put,List.getElem_toArray,List.getElem_cons_succ,List.getElem_cons_zero,List.setIfInBounds_toArray,List.set_cons_zero,List.set_cons_succ]
         refine dF (by kernel_rfl) (by kernel_rfl) rfl (fun K hK=>?_)
         obtain ⟨⟨-,-,-,z3⟩,-,-,-,f3⟩:=aL hHeld3.1
         go_simp
         have A7:=A6.out _ rfl
         refine hK.out _ _ ?_
         clear hK K hHeld3
         go_wp2_with fail
         go_roundw
         case rel=>exact ⟨k + 1,by omega,by go_num,_,by rw [TW.out];exact A7⟩
         case measure=>simp [intOf];omega
        ·obtain ⟨va,vc,rfl⟩:=hA.form
         have e : (bK free ((nm,nm') :: ar) fs).take k = bK free ((nm,nm') :: ar) fs:=List.take_of_length_le (by rw [eW,← L2.out];omega)
         have EK : Hid (k = N2):=by show k = N2;omega
         rw [e] at hA
         obtain ⟨⟨y0,y1,y2,y3⟩,-⟩:=aL hA.r
         obtain ⟨⟨p0,p1,p2,p3⟩,z0,z1,z2,z3⟩:=aL G2.out
         have AA:=Lib.hid hA
         clear hA e PX
         go_wp2_with fail
         obtain ⟨g1,g2,g3⟩:=vR (x':=.int .u8 op) (y':=str nm') (z':=.slice ua j uc) (t':=.slice va k vc) (b:=W.heap.size + 1 + 1) (by omega) BA.out G2.out
         refine bodyPost_ret (jV rfl _ _ (W.heap.size + 1 + 1) _ _ _ _ (0,0) rfl g1) rfl ?_
         refine ⟨ua,j,uc,va,k,vc,rfl, ?_, ?_,g2⟩
         ·refine IX.out.tms.keep fun p v hv=>?_
          have hp:=eA hv
          rw [cD hp] at hv
          have lt:=World.block_lt_of_cell? Wx p hv
          have h3 : Wl.heap.size ≤ p.block:=by simpa [lo] using hp
          have h4:=HR.out
          have h5:=RL.out
          rw [cD (by simp [lo];omega),World.cell?_of_block (a:=p) (w:=Wx) ((g3 _ (by omega)).trans (AA.out.bw.block _ lt (by omega)))]
          exact hv
         ·have lk : (bK free ((nm,nm') :: ar) fs).length = k:=by rw [eW,← L2.out];exact EK.out.symm
          show At _ (.sl 4 (bK free ((nm,nm') :: ar) fs).length (bJ (bK free ((nm,nm') :: ar) fs))) (.slice va k vc)
          rw [lk]
          refine At.keep (aH fun i h1 h2=>?_) _ _ AA.out.at
          have h3 : Wx.heap.size ≤ i:=by simpa [lo] using h2
          have h4:=RX.out
          exact ⟨by simp [lo];omega,g3 i (by omega)⟩
      ·subst ea
       have OLDS : Hid (∀ j u,(dP ar.reverse)[j]? = some u → (w6.drew.alloc (.cells #[str nm,str nm'] 148)).cell? ((⟨pb,po,none⟩ : Addr).add j) = some u):=fun j u hu=>by
        have h1:=aA I6.out.bw _ _ (HP.out.cells j u hu)
        have e : (⟨pb,po,none⟩ : Addr).add j = ⟨pb,po + j,none⟩:=by
         by_cases h0 : j = 0
         ·subst h0;rfl
         ·simp [Addr.add,h0]
        rw [e]
        exact aA ((Below.refl _ _).drew.alloc (Nat.le_refl _) _ : Below w6.heap.size w6 (w6.drew.alloc (.cells #[str nm,str nm'] 148))) _ _ h1
       refine dG (q:=13) (S:=fun w'=>w'.heap[W.heap.size + 1]? = some (.cells #[.slice (some ⟨pb,po,none⟩) n c] 145 (0,0)) ∧ w'.heap[W.heap.size]? = some (.cells #[.int .u8 op,str nm,.slice ta N tc,.slice fa N2 fc] 40 (0,0)) ∧ w'.heap[R]? = some (.cells #[.int .u8 op,str nm',.slice ua j uc,.slice none 0 0] 40 (0,0))) (by kernel_rfl) ⟨I6.out.b1,I6.out.b0,I6.out.r⟩ (fun hHeld=>?_)
       refine aJ (i:=0) (v:=?_) rfl (by kernel_rfl) (by kernel_rfl) (by kernel_rfl) (by kernel_rfl) (fun _ _ _ h=>h) (Or.inl ⟨by rfl, ?_⟩) (by assumption) ?_
       rotate_left
       ·(intro w0 hSw;obtain ⟨z0,-⟩:=row1 hSw.1;go_simp;(try with_reducible rfl))
       try simp only [Act.put,List.getElem_toArray,List.getElem_cons_succ,List.getElem_cons_zero,List.setIfInBounds_toArray,List.set_cons_zero,List.set_cons_succ]
       refine aJ (i:=1) (v:=?_) rfl (by kernel_rfl) (by kernel_rfl) (by kernel_rfl) (by kernel_rfl) (fun _ _ _ h=>h) (Or.inl ⟨by rfl, ?_⟩) (by assumption) ?_
       rotate_left
       ·(intro w0 hSw;obtain ⟨z0,-⟩:=row1 hSw.1;go_simp;(try with_reducible rfl))
       try simp only [Act.put,List.getElem_toArray,List.getElem_cons_succ,List.getElem_cons_zero,List.setIfInBounds_toArray,List.set_cons_zero,List.set_cons_succ]
       refine aJ (i:=2) (v:=?_) rfl (by kernel_rfl) (by kernel_rfl) (by kernel_rfl) (by kernel_rfl) (fun _ _ _ h=>h) (Or.inl ⟨by rfl, ?_⟩) (by assumption) ?_
       rotate_left
       ·(intro w0 hSw;go_simp;(try with_reducible rfl))
       try simp only [Act.put,List.getElem_toArray,List.getElem_cons_succ,List.getElem_cons_zero,List.setIfInBounds_toArray,List.set_cons_zero,List.set_cons_succ]
       refine aJ (i:=3) (v:=?_) rfl (by kernel_rfl) (by kernel_rfl) (by kernel_rfl) (by kernel_rfl) (fun _ _ _ h=>h) (Or.inl ⟨by rfl, ?_⟩) (by assumption) ?_
       rotate_left
       ·(intro w0 hSw;obtain ⟨z0,-⟩:=row1 hSw.1;go_simp;(try with_reducible rfl))
       try simp only [Act.put,List.getElem_toArray,List.getElem_cons_succ,List.getElem_cons_zero,List.setIfInBounds_toArray,List.set_cons_zero,List.set_cons_succ]
       refine aJ (i:=4) (v:=?_) rfl (by kernel_rfl) (by kernel_rfl) (by kernel_rfl) (by kernel_rfl) (fun _ _ _ h=>h) (Or.inl ⟨by rfl, ?_⟩) (by assumption) ?_
       rotate_left
       ·(intro w0 hSw;go_simp;(try with_reducible rfl))
       try simp only [Act.put,List.getElem_toArray,List.getElem_cons_succ,List.getElem_cons_zero,List.setIfInBounds_toArray,List.set_cons_zero,List.set_cons_succ]
       refine aJ (i:=5) (v:=?_) rfl (by kernel_rfl) (by kernel_rfl) (by kernel_rfl) (by kernel_rfl) (fun _ _ _ h=>h) (Or.inl ⟨by rfl, ?_⟩) (by assumption) ?_
       rotate_left
       ·(intro w0 hSw;go_simp;(try with_reducible rfl))
       try simp only [Act.put,List.getElem_toArray,List.getElem_cons_succ,List.getElem_cons_zero,List.setIfInBounds_toArray,List.set_cons_zero,List.set_cons_succ]
       refine aJ (i:=6) (v:=?_) rfl (by kernel_rfl) (by kernel_rfl) (by kernel_rfl) (by kernel_rfl) (fun _ _ _ h=>h) (Or.inl ⟨by rfl, ?_⟩) (by assumption) ?_
       rotate_left
       ·(intro w0 hSw;go_simp;(try with_reducible rfl))
       try simp only [Act.put,List.getElem_toArray,List.getElem_cons_succ,List.getElem_cons_zero,List.setIfInBounds_toArray,List.set_cons_zero,List.set_cons_succ]
       refine aJ (i:=7) (v:=?_) rfl (by kernel_rfl) (by kernel_rfl) (by kernel_rfl) (by kernel_rfl) (fun _ _ _ h=>h) (Or.inl ⟨by rfl, ?_⟩) (by assumption) ?_
       rotate_left
       ·(intro w0 hSw;obtain ⟨⟨-,z1,-,-⟩,-⟩:=aL hSw.2.1;go_simp;(try with_reducible rfl))
       try simp only [Act.put,List.getElem_toArray,List.getElem_cons_succ,List.getElem_cons_zero,List.setIfInBounds_toArray,List.set_cons_zero,List.set_cons_succ]
       refine aJ (i:=8) (v:=?_) rfl (by kernel_rfl) (by kernel_rfl) (by kernel_rfl) (by kernel_rfl) (fun _ _ _ h=>h) (Or.inl ⟨by rfl, ?_⟩) (by assumption) ?_
       rotate_left
       ·(intro w0 hSw;go_simp;(try with_reducible rfl))
       try simp only [Act.put,List.getElem_toArray,List.getElem_cons_succ,List.getElem_cons_zero,List.setIfInBounds_toArray,List.set_cons_zero,List.set_cons_succ]
       refine aJ (i:=9) (v:=?_) rfl (by kernel_rfl) (by kernel_rfl) (by kernel_rfl) (by kernel_rfl) (fun _ _ _ h=>h) (Or.inl ⟨by rfl, ?_⟩) (by assumption) ?_
       rotate_left
       ·(intro w0 hSw;obtain ⟨⟨-,z1,-,-⟩,-⟩:=aL hSw.2.2;go_simp;(try with_reducible rfl))
       try simp only [Act.put,List.getElem_toArray,List.getElem_cons_succ,List.getElem_cons_zero,List.setIfInBounds_toArray,List.set_cons_zero,List.set_cons_succ]
       refine aJ (i:=10) (v:=?_) rfl (by kernel_rfl) (by kernel_rfl) (by kernel_rfl) (by kernel_rfl) (fun _ _ _ h=>h) (Or.inl ⟨by rfl, ?_⟩) (by assumption) ?_
       rotate_left
       ·(intro w0 hSw;go_simp;(try with_reducible rfl))
       try simp only [Act.put,List.getElem_toArray,List.getElem_cons_succ,List.getElem_cons_zero,List.setIfInBounds_toArray,List.set_cons_zero,List.set_cons_succ]
       refine bQ (j:=11) (by kernel_rfl) (by kernel_rfl) rfl (fun K hK=>?_)
       go_simp
       have hS1:=And.intro (aI (.cells #[str nm,str nm'] 148) hHeld.1) (And.intro (aI (.cells #[str nm,str nm'] 148) hHeld.2.1) (aI (.cells #[str nm,str nm'] 148) hHeld.2.2))
       refine hK.out _ _ hS1 (fun hHeld2=>?_)
       clear hK K hS1 hHeld
       try simp only [Act.put,List.getElem_toArray,List.getElem_cons_succ,List.getElem_cons_zero,List.setIfInBounds_toArray,List.set_cons_zero,List.set_cons_succ]
       refine bQ (j:=12) (by kernel_rfl) (by kernel_rfl) rfl (fun K hK=>?_)
       refine step_append_grows rfl _ _ 145 rfl 148 i2 (.agg #[.string ⟨#[]⟩,.string ⟨#[]⟩]) 2 32 Tryz.underlying145 hi2 hz2 hs2 hb2 rfl (by decide) (some ⟨pb,po,none⟩) n n (dP ar.reverse) (by rfl) (fun h=>by cases h) (by rw [prVals_length,List.length_reverse,NN.out]) (fun b h=>by cases h;exact OLDS.out) ⟨w6.heap.size,0,none⟩ 1 1 [str nm,str nm'] (by rfl) rfl (xV _ _ _ _) tO (by omega) (by unfold maxLen;omega) (by omega) ?_
       intro v5 w7 h7 hg7
       obtain ⟨g,c8,rfl,b8,fin⟩:=I6.out.push (w6:=w6.drew.alloc (.cells #[str nm,str nm'] 148)) (v:=v5) HR.out RL.out ((Below.refl _ _).drew.alloc (Nat.le_refl _) _) hg7 NN.out (by exact h7)
       have I8:=Lib.hid fin
       have gk : ∀ b o,w6.heap[b]? = some o → w7.heap[b]? = some o:=fun b o hb=>(hg7.block b (by have:=(Array.getElem?_eq_some_iff.1 hb).1;simp;omega) (by simp)).trans (aI _ hb)
       have hS7:=And.intro (gk _ _ I6.out.b1) (And.intro (gk _ _ I6.out.b0) (gk _ _ I6.out.r))
       clear h7 hg7 fin gk
       refine hK.out _ _ hS7 (fun hHeld3=>?_)
       clear hK K hS7 hHeld2
       try simp only [Act.put,List.getElem_toArray,List.getElem_cons_succ,List.getElem_cons_zero,List.setIfInBounds_toArray,List.set_cons_zero,List.set_cons_succ]
       refine dF (by kernel_rfl) (by kernel_rfl) rfl (fun K hK=>?_)
       obtain ⟨z1,f1⟩:=row1 b8
       go_simp
       refine hK.out _ _ ?_
       clear hK K hHeld3
       obtain ⟨Wx,hWx⟩ : ∃ Wx,w7.setCell ⟨W.heap.size + 1,0,none⟩ (.slice (some ⟨g,0,none⟩) (n + 1) c8) = Wx:=⟨_,rfl⟩
       have IX:=Lib.hid (I8.out _ hWx.symm)
       rw [hWx]
       obtain ⟨⟨-,-,-,y3⟩,-⟩:=aL IX.out.b0
       clear hWx I8 I6 I2 z1 f1 b8
       have AL : Hid (((nm,nm') :: ar).length + aD fs ≤ 200000):=by have:=HN2.out;show _ ≤ _;simp;omega
       have AO : Hid (∀ p ∈ (nm,nm') :: ar,okS p.2):=fun p hp=>by
        rcases List.mem_cons.1 hp with rfl | hp
        ·show okS nm'
         rw [NE.out]
         exact tN (by have:=HF.out;have:=NN.out;simp;omega)
        ·exact HAR.out p hp
       go_wp2_with fail
       have E0 : Hid (ApR Wx R 40 40 4 [.int .u8 op,str nm',.slice ua j uc] [] 0 [] (.slice none 0 0) Wx):=ApR.new IX.out.r
       have RX : Hid (W.heap.size + 1 + 1 < Wx.heap.size ∧ R < Wx.heap.size):=⟨(Array.getElem?_eq_some_iff.1 IX.out.b2).1,(Array.getElem?_eq_some_iff.1 IX.out.r).1⟩
       go_loopw [70] (fun i wr=>∃ j' : Nat,j' ≤ N2 ∧ i = .int .i64 j' ∧ Hid (∃ u,ApR Wx R 40 40 4 [.int .u8 op,str nm',.slice ua j uc] [] j' (bJ ((bK free ((nm,nm') :: ar) fs).take j')) u wr)) (fun i _=>N2 - (intOf i).toNat)
       case atStart=>exact ⟨0,Nat.zero_le _,rfl,_,E0.out⟩
       case round =>
        obtain ⟨k,hk,rfl,hs⟩:=hrel
        obtain ⟨u,hA⟩:=hs.out
        clear hs E0
        have BA : Hid (Below W.heap.size W wr):=IX.out.bw.trans (hA.bw.below (by have:=HR.out;omega) IX.out.bw.size)
        have G1 : Hid (wr.heap[W.heap.size + 1]? = some (.cells #[.slice (some ⟨g,0,none⟩) (n + 1) c8] 145 (0,0))):=(hA.bw.block _ (by have:=RX.out;omega) (by have:=HR.out;omega)).trans IX.out.b1
        have G2 : Hid (wr.heap[W.heap.size + 1 + 1]? = some (.cells #[.int .u8 0,str [],.slice none 0 0,.slice none 0 0] 40 (0,0))):=(hA.bw.block _ RX.out.1 (by have:=HR.out;omega)).trans IX.out.b2
        have PX : Hid (∀ w',Below wr.heap.size wr w' → dN w' ((nm,nm') :: ar).reverse (.slice (some ⟨g,0,none⟩) (n + 1) c8)):=fun w' hb=>IX.out.prs.keep fun p v hv=>by
         have hp:=eA hv
         rw [cD hp] at hv
         have lt:=World.block_lt_of_cell? Wx p hv
         rw [World.cell?_of_block (a:=p) (w:=Wx) (w':=w') ((hb.block _ (by have:=hA.bw.size;omega)).trans (hA.bw.block _ lt (by simpa using hp)))]
         exact hv
        by_cases hlt : k < N2
        ·obtain ⟨T,hT⟩:=aT (l:=fs) (j:=k) (by rw [← L2.out];exact hlt)
         obtain ⟨bb,off,rfl,hc⟩:=HX2.out.get (aX hT)
         obtain ⟨x0,x1,x2,x3,x4,x5,hx⟩:=hc k _ hT
         have hK:=aA BA.out
         have c0:=hK _ _ hx.c0;have c1:=hK _ _ hx.c1;have c2:=hK _ _ hx.c2;have c3:=hK _ _ hx.c3
         have HT:=Lib.hid (List.mem_of_getElem? hT)
         have TW : Hid (bJ ((bK free ((nm,nm') :: ar) fs).take (k + 1)) = bJ ((bK free ((nm,nm') :: ar) fs).take k) ++ (T.norm free ((nm,nm') :: ar)).ds):=kX _ (iY free ((nm,nm') :: ar) fs hT)
         have IC : Hid (∀ w',Below wr.heap.size wr w' → Calls Tryz.prog 52 #[.agg #[.int .u8 T.op,str T.name,.slice x0 x1 x2,.slice x3 x4 x5],.map (some M),.slice (some ⟨g,0,none⟩) (n + 1) c8] w' (RetF (T.norm free ((nm,nm') :: ar)) w')):=fun w' hb=>by
          have hb2 : Below W.heap.size W w':=BA.out.trans (hb.mono BA.out.size)
          have e1:=iX HT.out
          have e2:=HN.out
          have e3:=AL.out
          exact IH.out T HT.out ((nm,nm') :: ar) (some ⟨g,0,none⟩) (n + 1) c8 mn w' _ ⟨_,_,_,_,_,_,rfl,hx.at_.keep (aA hb2),hx.at'.keep (aA hb2)⟩ (HS.out.heap (hb2.block _ HS.out.lt)) (PX.out w' hb) IX.out.nil (HW.out.below hb2) (dL HO.out.2 T HT.out) AO.out (by omega) (by omega) HF.out
         clear hc hx hT hK PX
         obtain ⟨va0,vc0,rfl⟩:=hA.form
         have AA:=Lib.hid hA
         have RL : Hid (R < wr.heap.size):=(Array.getElem?_eq_some_iff.1 hA.r).1
         clear hA
         obtain ⟨i0,hi0,hz0,hs0,hb0⟩:=info_parts dV
         go_upto_region 19 with fail
         refine dG (q:=9) (S:=fun w'=>w'.heap[R]? = some (.cells #[.int .u8 op,str nm',.slice ua j uc,.slice va0 k vc0] 40 (0,0)) ∧ w'.heap[wr.heap.size]? = some (.cells #[.int .u8 T.op,str T.name,.slice x0 x1 x2,.slice x3 x4 x5] 40 (0,0)) ∧ w'.heap[W.heap.size + 1]? = some (.cells #[.slice (some ⟨g,0,none⟩) (n + 1) c8] 145 (0,0))) (by kernel_rfl) ⟨aI _ AA.out.r,heap_alloc_new wr _,aI _ G1.out⟩ (fun hHeld=>?_)
         refine aJ (i:=0) (v:=?_) rfl (by kernel_rfl) (by kernel_rfl) (by kernel_rfl) (by kernel_rfl) (fun _ _ _ h=>h) (Or.inl ⟨by rfl, ?_⟩) (by assumption) ?_
         rotate_left
         ·(intro w0 hSw;go_simp;(try with_reducible rfl))
         try simp only [Act.put,List.getElem_toArray,List.getElem_cons_succ,List.getElem_cons_zero,List.setIfInBounds_toArray,List.set_cons_zero,List.set_cons_succ]
         refine aJ (i:=1) (v:=?_) rfl (by kernel_rfl) (by kernel_rfl) (by kernel_rfl) (by kernel_rfl) (fun _ _ _ h=>h) (Or.inl ⟨by rfl, ?_⟩) (by assumption) ?_
         rotate_left
         ·(intro w0 hSw;obtain ⟨⟨-,-,-,z3⟩,-⟩:=aL hSw.1;go_simp;(try with_reducible rfl))
         try simp only [Act.put,List.getElem_toArray,List.getElem_cons_succ,List.getElem_cons_zero,List.setIfInBounds_toArray,List.set_cons_zero,List.set_cons_succ]
         refine aJ (i:=2) (v:=?_) rfl (by kernel_rfl) (by kernel_rfl) (by kernel_rfl) (by kernel_rfl) (fun _ _ _ h=>h) (Or.inl ⟨by rfl, ?_⟩) (by assumption) ?_
         rotate_left
         ·(intro w0 hSw;obtain ⟨⟨z0,z1,z2,z3⟩,-⟩:=aL hSw.2.1;go_simp;(try with_reducible rfl))
         try simp only [Act.put,List.getElem_toArray,List.getElem_cons_succ,List.getElem_cons_zero,List.setIfInBounds_toArray,List.set_cons_zero,List.set_cons_succ]
         refine aJ (i:=3) (v:=?_) rfl (by kernel_rfl) (by kernel_rfl) (by kernel_rfl) (by kernel_rfl) (fun _ _ _ h=>h) (Or.inl ⟨by rfl, ?_⟩) (by assumption) ?_
         rotate_left
         ·(intro w0 hSw;go_simp;(try with_reducible rfl))
         try simp only [Act.put,List.getElem_toArray,List.getElem_cons_succ,List.getElem_cons_zero,List.setIfInBounds_toArray,List.set_cons_zero,List.set_cons_succ]
         refine aJ (i:=4) (v:=?_) rfl (by kernel_rfl) (by kernel_rfl) (by kernel_rfl) (by kernel_rfl) (fun _ _ _ h=>h) (Or.inl ⟨by rfl, ?_⟩) (by assumption) ?_
         rotate_left
         ·(intro w0 hSw;obtain ⟨z0,-⟩:=row1 hSw.2.2;go_simp;(try with_reducible rfl))
         try simp only [Act.put,List.getElem_toArray,List.getElem_cons_succ,List.getElem_cons_zero,List.setIfInBounds_toArray,List.set_cons_zero,List.set_cons_succ]
         refine bQ (j:=5) (by kernel_rfl) (by kernel_rfl) rfl (fun K hK=>?_)
         go_simp
         go_at_call 52
         refine (IC.out _ ((Below.refl _ _).alloc (Nat.le_refl _) _).drew).mono ?_
         rintro e w3 ⟨ga,gn,gc,gb,gm,gd,rfl,h3,h4,b3⟩
         have hS3:=And.intro ((b3.block R (by have:=RL.out;simp;omega)).trans hHeld.1) (And.intro ((b3.block wr.heap.size (by simp)).trans hHeld.2.1) ((b3.block (W.heap.size + 1) (by have:=(Array.getElem?_eq_some_iff.1 G1.out).1;simp;omega)).trans hHeld.2.2))
         have HB3 : Hid (Below (wr.alloc (.cells #[.int .u8 T.op,str T.name,.slice x0 x1 x2,.slice x3 x4 x5] 40)).drew.heap.size (wr.alloc (.cells #[.int .u8 T.op,str T.name,.slice x0 x1 x2,.slice x3 x4 x5] 40)).drew w3):=b3
         have H3 : Hid (bG (hide (lo (wr.alloc (.cells #[.int .u8 T.op,str T.name,.slice x0 x1 x2,.slice x3 x4 x5] 40)).drew) w3) (T.norm free ((nm,nm') :: ar)).args (.slice ga gn gc)):=h3
         have H4 : Hid (aN (hide (lo (wr.alloc (.cells #[.int .u8 T.op,str T.name,.slice x0 x1 x2,.slice x3 x4 x5] 40)).drew) w3) (T.norm free ((nm,nm') :: ar)).sub (.slice gb gm gd)):=h4
         clear h3 h4 b3 hHeld IC
         go_simp
         refine hK.out _ _ hS3 (fun hHeld=>?_)
         clear hK K hS3
         try simp only [Act.put,List.getElem_toArray,List.getElem_cons_succ,List.getElem_cons_zero,List.setIfInBounds_toArray,List.set_cons_zero,List.set_cons_succ]
         refine bQ (j:=6) (by kernel_rfl) (by kernel_rfl) rfl (fun K hK=>?_)
         go_simp
         obtain ⟨xs,ow,ob,or5,fin⟩:=AA.out.step (tb:=40) ((Below.refl _ _).alloc (Nat.le_refl _) _).drew HB3.out (eV H3.out H4.out)
         have OW:=Lib.hid ow
         have OB:=Lib.hid ob
         have FIN:=Lib.hid fin
         clear ow fin ob
         have hS4:=And.intro or5 (And.intro (aI (.cells #[.int .u8 (T.norm free ((nm,nm') :: ar)).op,str (T.norm free ((nm,nm') :: ar)).name,.slice ga gn gc,.slice gb gm gd] 40) hHeld.2.1) (aI (.cells #[.int .u8 (T.norm free ((nm,nm') :: ar)).op,str (T.norm free ((nm,nm') :: ar)).name,.slice ga gn gc,.slice gb gm gd] 40) hHeld.2.2))
         refine hK.out _ _ hS4 (fun hHeld2=>?_)
         clear hK K hS4 or5 hHeld
         try simp only [Act.put,List.getElem_toArray,List.getElem_cons_succ,List.getElem_cons_zero,List.setIfInBounds_toArray,List.set_cons_zero,List.set_cons_succ]
         refine bQ (j:=7) (by kernel_rfl) (by kernel_rfl) rfl (fun K hK=>?_)
         refine bT rfl _ _ 24 rfl Wx.heap.size 40 i0 (.agg #[.int .u8 0,.string ⟨#[]⟩,.slice none 0 0,.slice none 0 0]) 4 72 Tryz.underlying24 hi0 hz0 hs0 hb0 rfl (by decide) _ k xs (by rfl) OW.out ⟨w3.heap.size,0,none⟩ 1 1 [.int .u8 (T.norm free ((nm,nm') :: ar)).op,str (T.norm free ((nm,nm') :: ar)).name,.slice ga gn gc,.slice gb gm gd] (by rfl) rfl (fH _ _ _ _ _ _) cM (by unfold maxLen;omega) (by omega) OB.out ?_
         intro v5 w5 h5 hg5 hat5
         obtain ⟨r5,⟨va,vc,rfl⟩,A5⟩:=FIN.out v5 w5 h5 hg5 hat5
         have A6:=Lib.hid A5
         have NB : ∀ b,b < wr.heap.size + 1 → (∀ g,(Value.slice va0 k vc0).ownBlock = some g → g ≠ b) → w5.heap[b]? = (w3.alloc (.cells #[.int .u8 (T.norm free ((nm,nm') :: ar)).op,str (T.norm free ((nm,nm') :: ar)).name,.slice ga gn gc,.slice gb gm gd] 40)).heap[b]?:=fun b hb hg=>hg5.block b (by have:=HB3.out.size;simp at this;simp;omega) (fun e=>hg _ e.symm rfl)
         have OL:=fE AA.out.own
         have hS5:=And.intro r5 (And.intro ((NB wr.heap.size (by omega) (fun g hg=>by have:=(OL g hg).2;omega)).trans hHeld2.2.1) ((NB (W.heap.size + 1) (by have:=(Array.getElem?_eq_some_iff.1 G1.out).1;omega) (fun g hg=>by have:=(OL g hg).1;have:=RX.out;omega)).trans hHeld2.2.2))
         clear h5 hg5 hat5 A5 r5 FIN OW NB OL
         refine hK.out _ _ hS5 (fun hHeld3=>?_)
         clear hK K hS5 hHeld2
         try simp only [Act.put,List.getElem_toArray,List.getElem_cons_succ,List.getElem_cons_zero,List.setIfInBounds_toArray,List.set_cons_zero,List.set_cons_succ]
         refine aJ (i:=8) (v:=?_) rfl (by kernel_rfl) (by kernel_rfl) (by kernel_rfl) (by kernel_rfl) (fun _ _ _ h=>h) (Or.inl ⟨by rfl, ?_⟩) (by assumption) ?_
         rotate_left
         ·(intro w0 hSw;go_simp;(try with_reducible rfl))
         try simp only [Act.put,List.getElem_toArray,List.getElem_cons_succ,List.getElem_cons_zero,List.setIfInBounds_toArray,List.set_cons_zero,List.set_cons_succ]
         refine dF (by kernel_rfl) (by kernel_rfl) rfl (fun K hK=>?_)
         obtain ⟨⟨-,-,-,z3⟩,-,-,-,f3⟩:=aL hHeld3.1
         go_simp
         have A7:=A6.out _ rfl
         refine hK.out _ _ ?_
         clear hK K hHeld3
         go_wp2_with fail
         go_roundw
         case rel=>exact ⟨k + 1,by omega,by go_num,_,by rw [TW.out];exact A7⟩
         case measure=>simp [intOf];omega
        ·obtain ⟨va,vc,rfl⟩:=hA.form
         have e : (bK free ((nm,nm') :: ar) fs).take k = bK free ((nm,nm') :: ar) fs:=List.take_of_length_le (by rw [eW,← L2.out];omega)
         have EK : Hid (k = N2):=by show k = N2;omega
         rw [e] at hA
         obtain ⟨⟨y0,y1,y2,y3⟩,-⟩:=aL hA.r
         obtain ⟨⟨p0,p1,p2,p3⟩,z0,z1,z2,z3⟩:=aL G2.out
         have AA:=Lib.hid hA
         clear hA e PX
         go_wp2_with fail
         obtain ⟨g1,g2,g3⟩:=vR (x':=.int .u8 op) (y':=str nm') (z':=.slice ua j uc) (t':=.slice va k vc) (b:=W.heap.size + 1 + 1) (by omega) BA.out G2.out
         refine bodyPost_ret (jV rfl _ _ (W.heap.size + 1 + 1) _ _ _ _ (0,0) rfl g1) rfl ?_
         refine ⟨ua,j,uc,va,k,vc,rfl, ?_, ?_,g2⟩
         ·refine IX.out.tms.keep fun p v hv=>?_
          have hp:=eA hv
          rw [cD hp] at hv
          have lt:=World.block_lt_of_cell? Wx p hv
          have h3 : Wl.heap.size ≤ p.block:=by simpa [lo] using hp
          have h4:=HR.out
          have h5:=RL.out
          rw [cD (by simp [lo];omega),World.cell?_of_block (a:=p) (w:=Wx) ((g3 _ (by omega)).trans (AA.out.bw.block _ lt (by omega)))]
          exact hv
         ·have lk : (bK free ((nm,nm') :: ar) fs).length = k:=by rw [eW,← L2.out];exact EK.out.symm
          show At _ (.sl 4 (bK free ((nm,nm') :: ar) fs).length (bJ (bK free ((nm,nm') :: ar) fs))) (.slice va k vc)
          rw [lk]
          refine At.keep (aH fun i h1 h2=>?_) _ _ AA.out.at
          have h3 : Wx.heap.size ≤ i:=by simpa [lo] using h2
          have h4:=RX.out
          exact ⟨by simp [lo];omega,g3 i (by omega)⟩
end Go.Proofs.YtppfalbnhnpbnaaGreatDoor
