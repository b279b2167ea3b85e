/- lyceumlaw30.claim: a claim of formulas that Built makes. Conditions: those of each statement. -/
import Derived.Test.YtppfalbnhnpbnaaGreatDoorClAX
import Derived.Test.YtppfalbnhnpbnaaGreatDoorBuiltX
import Derived.Test.YtppfalbnhnpbnaaGreatDoorKyAX
import Derived.Test.YtppfalbnhnpbnaaGreatDoorRgmX
import Derived.Deep.Slices
set_option linter.unusedSimpArgs false
set_option linter.unusedVariables false
namespace Go.Proofs.YtppfalbnhnpbnaaGreatDoor
open Go Go.RowKit Ly
set_option maxRecDepth 10000
def btsD (l : Bs) : D:=.sl 1 l.length (l.map fun c=>.val (.int .u8 c.toNat))
def oL (w : World) (l : List Bs) (u : Value) : Prop:=At w (.sl 1 l.length (l.map btsD)) u
theorem oL.get {w : World} {l : List Bs} {a : Option Addr} {n c : Nat} (h : oL w l (.slice a n c)) : n = l.length ∧ n ≤ maxLen ∧ (l ≠ [] → ∃ b off,a = some ⟨b,off,none⟩ ∧ ∀ (i : Nat) (x : Bs),l[i]? = some x → ∃ s sn sc,w.cell? ⟨b,off + i,none⟩ = some (.slice s sn sc) ∧ kG w x (.slice s sn sc)):=by
 obtain ⟨a',cap,e,h1,h2,h3,h5⟩:=At.sl_inv h
 simp only [Value.slice.injEq] at e
 obtain ⟨rfl,rfl,rfl⟩:=e
 refine ⟨rfl,by omega,fun hne=>?_⟩
 rcases h5 with h5 | ⟨b,off,rfl,h5⟩
 ·exact absurd (List.eq_nil_of_length_eq_zero h5) hne
 ·refine ⟨b,off,rfl,fun i x hx=>?_⟩
  obtain ⟨u,hu,ha⟩:=h5 i (btsD x) (by rw [List.getElem?_map,hx];rfl)
  obtain ⟨s,sc,rfl,-⟩:=At.sl_inv ha
  exact ⟨s,_,sc,hu,ha⟩
def clL (l : List Bs) (k j : Nat) : List Fm:=((l.take j).take k).map built
def clR (l : List Bs) (k j : Nat) : List Fm:=((l.take j).drop k).map built
theorem rJ (l : List Fm) (f : Fm) : bJ (l ++ [f]) = bJ l ++ f.ds:=by rw [gO];simp [bJ]
theorem clL_in {l : List Bs} {k j : Nat} {x : Bs} (h : l[j]? = some x) (hj : j < k) : clL l k (j + 1) = clL l k j ++ [built x]:=by
 have lj:=(List.getElem?_eq_some_iff.1 h).1
 unfold clL
 rw [List.take_take,List.take_take,Nat.min_eq_right (by omega),Nat.min_eq_right (by omega),List.take_add_one,h]
 simp
theorem xR {l : List Bs} {k j : Nat} (hj : k ≤ j) : clL l k (j + 1) = clL l k j:=by
 unfold clL
 rw [List.take_take,List.take_take,Nat.min_eq_left (by omega),Nat.min_eq_left (by omega)]
theorem clR_in {l : List Bs} {k j : Nat} {x : Bs} (h : l[j]? = some x) (hj : k ≤ j) : clR l k (j + 1) = clR l k j ++ [built x]:=by
 have lj:=(List.getElem?_eq_some_iff.1 h).1
 unfold clR
 rw [List.take_add_one,h,List.drop_append_of_le_length (by simp;omega)]
 simp
theorem xS {l : List Bs} {k j : Nat} (hj : j ≤ k) : clR l k j = []:=by
 unfold clR
 rw [List.drop_of_length_le (by simp;omega)]
 rfl
inductive ClI (Wl : World) (R : Nat) (l : List Bs) (k j : Nat) (wr : World) : Prop
 | left (u : Value) (hj : j ≤ k) (h : ApR Wl R 26 40 4 [] [.slice none 0 0] j (bJ (clL l k j)) u wr) : ClI Wl R l k j wr
 | right (w1 : World) (lv u : Value) (n : Nat) (hj : k ≤ j) (hb : But1 R Wl w1) (hL : At (hide (lo Wl) w1) (.sl 4 n (bJ (clL l k j))) lv) (hn : n = (clL l k j).length) (h : ApR w1 R 26 40 4 [lv] [] (j - k) (bJ (clR l k j)) u wr) : ClI Wl R l k j wr
theorem ClI.below {Wl : World} {R : Nat} {l : List Bs} {k j : Nat} {wr w : World} (h : ClI Wl R l k j wr) (b : Below w.heap.size w Wl) (hR : w.heap.size ≤ R) : Below w.heap.size w wr:=by
 cases h with
 | left u _ h=>exact b.trans (h.bw.below hR b.size)
 | right w1 lv u n _ hb _ _ h=>exact (b.trans (hb.below hR b.size)).trans (h.bw.below hR (Nat.le_trans b.size hb.size))
theorem clL_len {l : List Bs} {k j : Nat} (hj : j ≤ l.length) (hk : j ≤ k) : (clL l k j).length = j:=by simp [clL];omega
theorem clR_len {l : List Bs} {k j : Nat} (hj : j ≤ l.length) : (clR l k j).length = j - k:=by simp [clR];omega
theorem ClI.done {Wl : World} {R : Nat} {l : List Bs} {k j : Nat} {wr : World} (h : ClI Wl R l k j wr) (hRl : R < Wl.heap.size) (hj : j ≤ l.length) :
  (∃ lv rv,wr.heap[R]? = some (.cells #[lv,rv] 26 (0,0)) ∧ aL (hide (lo Wl) wr) (clL l k j) lv ∧ aL (hide (lo Wl) wr) (clR l k j) rv) ∧ ∀ i,i < Wl.heap.size → i ≠ R → wr.heap[i]? = Wl.heap[i]?:=by
 cases h with
 | left u hjk h =>
  refine ⟨⟨u,.slice none 0 0,h.r, ?_, ?_⟩,fun i hi hn=>h.bw.block i hi hn⟩
  ·have:=h.at
   show At _ (.sl 4 (clL l k j).length _) _
   rw [clL_len hj hjk];exact this
  ·rw [xS hjk];exact At.sl_nil (Nat.zero_le _)
 | right w1 lv u nn hkj hb hL hn h =>
  refine ⟨⟨lv,u,h.r, ?_, ?_⟩,fun i hi hn=>(h.bw.block i (Nat.lt_of_lt_of_le hi hb.size) hn).trans (hb.block i hi hn)⟩
  ·show At _ (.sl 4 (clL l k j).length _) _
   rw [← hn]
   exact hL.keep (aF fun i a b=>⟨b,h.bw.block i a (by simp [lo] at b;omega)⟩)
  ·have:=h.at.keep (aF (q:=lo Wl) fun i a b=>⟨by have:=hb.size;simp [lo] at b ⊢;omega,rfl⟩)
   show At _ (.sl 4 (clR l k j).length _) _
   rw [clR_len hj];exact this
set_option maxHeartbeats 8000000 in
theorem claim_c (l : List Bs) (left : Nat) (hk : left < 256) (a : Option Addr) (n c : Nat) (w : World) (hx : oL w l (.slice a n c)) :
  Calls Tryz.prog 10 #[.slice a n c,.int .u8 left] w fun e w'=>∃ v,e = .returned v ∧ bT (hide (lo w) w') (clL l (left % 5) 4) (clR l (left % 5) 4) v ∧ Below w.heap.size w w':=by
 obtain ⟨hn,hm,hc⟩:=hx.get
 have hm2 : n ≤ 9223372036854775807:=le63 hm
 obtain ⟨k,hkk⟩ : ∃ k,left % 5 = k:=⟨_,rfl⟩
 have K5 : k < 5:=by omega
 rw [hkk]
 have WT : (RowKit.wrap64 (left : Int)).tmod 5 = (k : Int):=by
  have e : RowKit.wrap64 (left : Int) = left:=(IntWalk.i64_left _).symm.trans (IntWalk.i64_in _ (by omega))
  rw [e,Int.tmod_eq_emod_of_nonneg (by omega)]
  omega
 obtain ⟨Wl,hWl⟩ : ∃ Wl,(w.alloc (.cells #[.slice none 0 0,.slice none 0 0] 26)).alloc (.cells #[.slice none 0 0,.slice none 0 0] 26) = Wl:=⟨_,rfl⟩
 have bl : Below w.heap.size w Wl:=by rw [← hWl];exact ((Below.refl _ _).alloc (Nat.le_refl _) _).alloc (by simp) _
 have sl : Wl.heap.size = w.heap.size + 2:=by rw [← hWl];simp
 have r0 : Wl.heap[w.heap.size]? = some (.cells #[.slice none 0 0,.slice none 0 0] 26 (0,0)):=by rw [← hWl];exact aI _ (heap_alloc_new w _)
 have r1 : Wl.heap[w.heap.size + 1]? = some (.cells #[.slice none 0 0,.slice none 0 0] 26 (0,0)):=by
  rw [← hWl]
  have:=heap_alloc_new (w.alloc (.cells #[.slice none 0 0,.slice none 0 0] 26)) (.cells #[.slice none 0 0,.slice none 0 0] 26)
  rwa [World.size_alloc] at this
 have A0 : Hid (ClI Wl (w.heap.size + 1) l k 0 Wl):=by
  refine .left (.slice none 0 0) (Nat.zero_le _) ?_
  rw [show clL l k 0 = [] by simp [clL]]
  exact ApR.new (pre:=[]) r1
 have HN:=Lib.hid hn
 have HC:=Lib.hid hc
 have BL:=Lib.hid bl
 have SL:=Lib.hid sl
 have R0:=Lib.hid r0
 clear hn hm hc hx hk hkk bl sl r0 r1
 go_enter Tryz.func10,Tryz.ntmps10
 go_wp2_with fail
 obtain ⟨R,hR⟩ : ∃ R,w.heap.size + 1 = R:=⟨_,rfl⟩
 rw [hR] at A0 ⊢
 have HR:=Lib.hid hR
 clear hR hWl
 go_loopw [6] (fun i wr=>∃ j : Nat,j ≤ 4 ∧ j ≤ n ∧ i = .int .i64 j ∧ Hid (ClI Wl R l k j wr)) (fun i _=>4 - (intOf i).toNat)
 case atStart=>exact ⟨0,by omega,Nat.zero_le _,rfl,A0.out⟩
 case round =>
  obtain ⟨j,hj4,hjn,rfl,hs⟩:=hrel
  clear A0
  have bw : Below w.heap.size w wr:=hs.out.below BL.out (by have:=HR.out;omega)
  by_cases hlt : j < 4 ∧ j < n
  ·obtain ⟨h4,hln⟩:=hlt
   obtain ⟨x,hT⟩:=aX (l:=l) (j:=j) (by rw [← HN.out];exact hln)
   obtain ⟨bb,off,rfl,hc⟩:=HC.out (aZ hT)
   obtain ⟨xs,xn,xc,hx0,hxb⟩:=hc j _ hT
   have hK:=aA bw
   have c0:=hK _ _ hx0
   have HT:=Lib.hid hT
   have C0:=Lib.hid hx0
   have BA:=Lib.hid bw
   have IC : Hid (∀ w',Below w.heap.size w w' → Calls Tryz.prog 19 #[.slice xs xn xc] w' (RetF (built x) w')):=fun w' hb=>built_c x xs xn xc w' (hxb.keep (aA hb))
   clear hc hx0 hxb hT hK bw
   by_cases hl : j < k
   ·obtain ⟨u,hA⟩ : ∃ u,ApR Wl R 26 40 4 [] [.slice none 0 0] j (bJ (clL l k j)) u wr:=by
     cases hs.out with
     | left u _ h=>exact ⟨u,h⟩
     | right _ _ _ _ hj _ _ _ _=>omega
    obtain ⟨ua,uc,rfl⟩:=hA.form
    have AA:=Lib.hid hA
    have RL : Hid (R < wr.heap.size):=(Array.getElem?_eq_some_iff.1 hA.r).1
    clear hA hs
    obtain ⟨i0,hi0,hz0,hs0,hb0⟩:=info_parts dN
    have hl2 : (j : Int) < k:=by omega
    go_upto_region 6 with fail
    refine cH (q:=10) (S:=fun w'=>w'.heap[R]? = some (.cells #[.slice ua j uc,.slice none 0 0] 26 (0,0)) ∧ Below w.heap.size w w') (by kernel_rfl) ⟨AA.out.r,BA.out.drew⟩ (fun hHeld=>?_)
    refine aD (i:=0) (v:=?_) rfl (by kernel_rfl) (by kernel_rfl) (by kernel_rfl) (by kernel_rfl) (fun _ _ _ h=>h) (Or.inl ⟨by rfl, ?_⟩) (by assumption) ?_
    rotate_left
    ·(intro w0 hSw;go_simp;(try with_reducible rfl))
    try simp only [Act.put,List.getElem_toArray,List.getElem_cons_succ,List.getElem_cons_zero,List.setIfInBounds_toArray,List.set_cons_zero,List.set_cons_succ]
    refine aD (i:=1) (v:=?_) rfl (by kernel_rfl) (by kernel_rfl) (by kernel_rfl) (by kernel_rfl) (fun _ _ _ h=>h) (Or.inl ⟨by rfl, ?_⟩) (by assumption) ?_
    rotate_left
    ·(intro w0 hSw;obtain ⟨z0,z1,-,-⟩:=row2 hSw.1;go_simp;(try with_reducible rfl))
    try simp only [Act.put,List.getElem_toArray,List.getElem_cons_succ,List.getElem_cons_zero,List.setIfInBounds_toArray,List.set_cons_zero,List.set_cons_succ]
    refine aD (i:=2) (v:=?_) rfl (by kernel_rfl) (by kernel_rfl) (by kernel_rfl) (by kernel_rfl) (fun _ _ _ h=>h) (Or.inl ⟨by rfl, ?_⟩) (by assumption) ?_
    rotate_left
    ·(intro w0 hSw;go_simp;(try with_reducible rfl))
    try simp only [Act.put,List.getElem_toArray,List.getElem_cons_succ,List.getElem_cons_zero,List.setIfInBounds_toArray,List.set_cons_zero,List.set_cons_succ]
    refine aD (i:=3) (v:=?_) rfl (by kernel_rfl) (by kernel_rfl) (by kernel_rfl) (by kernel_rfl) (fun _ _ _ h=>h) (Or.inl ⟨by rfl, ?_⟩) (by assumption) ?_
    rotate_left
    ·(intro w0 hSw;go_simp;(try with_reducible rfl))
    try simp only [Act.put,List.getElem_toArray,List.getElem_cons_succ,List.getElem_cons_zero,List.setIfInBounds_toArray,List.set_cons_zero,List.set_cons_succ]
    refine aD (i:=4) (v:=?_) rfl (by kernel_rfl) (by kernel_rfl) (by kernel_rfl) (by kernel_rfl) (fun _ _ _ h=>h) (Or.inl ⟨by rfl, ?_⟩) (by assumption) ?_
    rotate_left
    ·(intro w0 hSw;go_simp;(try with_reducible rfl))
    try simp only [Act.put,List.getElem_toArray,List.getElem_cons_succ,List.getElem_cons_zero,List.setIfInBounds_toArray,List.set_cons_zero,List.set_cons_succ]
    refine aD (i:=5) (v:=?_) rfl (by kernel_rfl) (by kernel_rfl) (by kernel_rfl) (by kernel_rfl) (fun _ _ _ h=>h) (Or.inl ⟨by rfl, ?_⟩) (by assumption) ?_
    rotate_left
    ·(intro w0 hSw;have z0:=aA hSw.2 _ _ C0.out;go_simp;(try with_reducible rfl))
    try simp only [Act.put,List.getElem_toArray,List.getElem_cons_succ,List.getElem_cons_zero,List.setIfInBounds_toArray,List.set_cons_zero,List.set_cons_succ]
    refine aY (j:=6) (by kernel_rfl) (by kernel_rfl) rfl (fun K hK=>?_)
    go_simp
    go_at_call 19
    refine (IC.out _ BA.out.drew).mono ?_
    rintro e w3 ⟨ga,gn,gc,gb,gm,gd,rfl,h3,h4,b3⟩
    have hS3:=And.intro ((b3.block R (by have:=RL.out;simp;omega)).trans hHeld.1) (hHeld.2.trans (b3.mono hHeld.2.size))
    have HB3 : Hid (Below wr.drew.heap.size wr.drew w3):=b3
    have H3 : Hid (bE (hide (lo wr.drew) w3) (built x).args (.slice ga gn gc)):=h3
    have H4 : Hid (aL (hide (lo wr.drew) w3) (built x).sub (.slice gb gm gd)):=h4
    clear h3 h4 b3 hHeld IC
    go_simp
    refine hK.out _ _ hS3 (fun hHeld=>?_)
    clear hK K hS3
    try simp only [Act.put,List.getElem_toArray,List.getElem_cons_succ,List.getElem_cons_zero,List.setIfInBounds_toArray,List.set_cons_zero,List.set_cons_succ]
    refine aY (j:=7) (by kernel_rfl) (by kernel_rfl) rfl (fun K hK=>?_)
    go_simp
    obtain ⟨ys,ow,ob,or5,fin⟩:=AA.out.step (tb:=40) (Below.refl _ _).drew HB3.out (dS H3.out H4.out)
    have OW:=Lib.hid ow
    have OB:=Lib.hid ob
    have FIN:=Lib.hid fin
    clear ow fin ob
    have hS4:=And.intro or5 (hHeld.2.alloc (o:=.cells #[.int .u8 (built x).op,str (built x).name,.slice ga gn gc,.slice gb gm gd] 40) hHeld.2.size)
    refine hK.out _ _ hS4 (fun hHeld2=>?_)
    clear hK K hS4 or5 hHeld
    try simp only [Act.put,List.getElem_toArray,List.getElem_cons_succ,List.getElem_cons_zero,List.setIfInBounds_toArray,List.set_cons_zero,List.set_cons_succ]
    refine aY (j:=8) (by kernel_rfl) (by kernel_rfl) rfl (fun K hK=>?_)
    refine cI rfl _ _ 24 rfl Wl.heap.size 40 i0 (.agg #[.int .u8 0,.string ⟨#[]⟩,.slice none 0 0,.slice none 0 0]) 4 72 Tryz.underlying24 hi0 hz0 hs0 hb0 rfl (by decide) _ j ys (by rfl) OW.out ⟨w3.heap.size,0,none⟩ 1 1 [.int .u8 (built x).op,str (built x).name,.slice ga gn gc,.slice gb gm gd] (by rfl) rfl (eT _ _ _ _ _ _) cJ (by unfold maxLen;omega) (by omega) OB.out ?_
    intro v5 w5 h5 hg5 hat5
    obtain ⟨r5,⟨va,vc,rfl⟩,A5⟩:=FIN.out v5 w5 h5 hg5 hat5
    have A6:=Lib.hid A5
    have OL:=eC AA.out.own
    have b5 : Below w.heap.size w w5:=⟨hg5.os.trans hHeld2.2.os,hg5.tape.trans hHeld2.2.tape,hg5.output.trans hHeld2.2.output,Nat.le_trans hHeld2.2.size hg5.size,fun i hi=>(hg5.block i (by have:=hHeld2.2.size;omega) (fun e=>by have:=(OL i e.symm).1;have:=BL.out.size;omega)).trans (hHeld2.2.block i hi)⟩
    have hS5:=And.intro r5 b5
    clear h5 hg5 hat5 A5 r5 FIN OW OL b5
    refine hK.out _ _ hS5 (fun hHeld3=>?_)
    clear hK K hS5 hHeld2
    try simp only [Act.put,List.getElem_toArray,List.getElem_cons_succ,List.getElem_cons_zero,List.setIfInBounds_toArray,List.set_cons_zero,List.set_cons_succ]
    refine aD (i:=9) (v:=?_) rfl (by kernel_rfl) (by kernel_rfl) (by kernel_rfl) (by kernel_rfl) (fun _ _ _ h=>h) (Or.inl ⟨by rfl, ?_⟩) (by assumption) ?_
    rotate_left
    ·(intro w0 hSw;go_simp;(try with_reducible rfl))
    try simp only [Act.put,List.getElem_toArray,List.getElem_cons_succ,List.getElem_cons_zero,List.setIfInBounds_toArray,List.set_cons_zero,List.set_cons_succ]
    refine cG (by kernel_rfl) (by kernel_rfl) rfl (fun K hK=>?_)
    obtain ⟨z0,z1,f0,f1⟩:=row2 hHeld3.1
    go_simp
    have A7:=A6.out _ rfl
    refine hK.out _ _ ?_
    clear hK K hHeld3
    go_wp2_with fail
    go_roundw
    case rel=>exact ⟨j + 1,by omega,by omega,by go_num,.left _ (by omega) (by rw [clL_in HT.out hl,rJ];exact A7)⟩
    case measure=>simp [intOf];omega
   ·obtain ⟨w1,lv,u,nn,hb,hL,hnn,hA⟩ : ∃ w1 lv u nn,But1 R Wl w1 ∧ At (hide (lo Wl) w1) (.sl 4 nn (bJ (clL l k j))) lv ∧ nn = (clL l k j).length ∧ ApR w1 R 26 40 4 [lv] [] (j - k) (bJ (clR l k j)) u wr:=by
     cases hs.out with
     | left u hjk h =>
      refine ⟨wr,u,.slice none 0 0,j,h.bw,h.at, ?_, ?_⟩
      ·have:=HN.out;simp [clL];omega
      ·rw [xS hjk,show j - k = 0 by omega]
       exact ApR.new (pre:=[u]) h.r
     | right w1 lv u nn _ hb hL hn h=>exact ⟨w1,lv,u,nn,hb,hL,hn,h⟩
    obtain ⟨q,hq⟩ : ∃ q,j - k = q:=⟨_,rfl⟩
    rw [hq] at hA
    have hq4 : q ≤ 4:=by omega
    have HQ : Hid (j + 1 - k = q + 1):=by show _ = _;omega
    obtain ⟨ua,uc,rfl⟩:=hA.form
    have AA:=Lib.hid hA
    have RL : Hid (R < wr.heap.size):=(Array.getElem?_eq_some_iff.1 hA.r).1
    have WS : Hid (w.heap.size ≤ w1.heap.size):=Nat.le_trans BL.out.size hb.size
    have HBL:=Lib.hid (And.intro hb (And.intro hL hnn))
    clear hA hs hb hL hnn hq
    obtain ⟨i0,hi0,hz0,hs0,hb0⟩:=info_parts dN
    have hl2 : ¬ (j : Int) < k:=by omega
    go_upto_region 7 with fail
    refine cH (q:=10) (S:=fun w'=>w'.heap[R]? = some (.cells #[lv,.slice ua q uc] 26 (0,0)) ∧ Below w.heap.size w w') (by kernel_rfl) ⟨AA.out.r,BA.out.drew⟩ (fun hHeld=>?_)
    refine aD (i:=0) (v:=?_) rfl (by kernel_rfl) (by kernel_rfl) (by kernel_rfl) (by kernel_rfl) (fun _ _ _ h=>h) (Or.inl ⟨by rfl, ?_⟩) (by assumption) ?_
    rotate_left
    ·(intro w0 hSw;go_simp;(try with_reducible rfl))
    try simp only [Act.put,List.getElem_toArray,List.getElem_cons_succ,List.getElem_cons_zero,List.setIfInBounds_toArray,List.set_cons_zero,List.set_cons_succ]
    refine aD (i:=1) (v:=?_) rfl (by kernel_rfl) (by kernel_rfl) (by kernel_rfl) (by kernel_rfl) (fun _ _ _ h=>h) (Or.inl ⟨by rfl, ?_⟩) (by assumption) ?_
    rotate_left
    ·(intro w0 hSw;obtain ⟨z0,z1,-,-⟩:=row2 hSw.1;go_simp;(try with_reducible rfl))
    try simp only [Act.put,List.getElem_toArray,List.getElem_cons_succ,List.getElem_cons_zero,List.setIfInBounds_toArray,List.set_cons_zero,List.set_cons_succ]
    refine aD (i:=2) (v:=?_) rfl (by kernel_rfl) (by kernel_rfl) (by kernel_rfl) (by kernel_rfl) (fun _ _ _ h=>h) (Or.inl ⟨by rfl, ?_⟩) (by assumption) ?_
    rotate_left
    ·(intro w0 hSw;go_simp;(try with_reducible rfl))
    try simp only [Act.put,List.getElem_toArray,List.getElem_cons_succ,List.getElem_cons_zero,List.setIfInBounds_toArray,List.set_cons_zero,List.set_cons_succ]
    refine aD (i:=3) (v:=?_) rfl (by kernel_rfl) (by kernel_rfl) (by kernel_rfl) (by kernel_rfl) (fun _ _ _ h=>h) (Or.inl ⟨by rfl, ?_⟩) (by assumption) ?_
    rotate_left
    ·(intro w0 hSw;go_simp;(try with_reducible rfl))
    try simp only [Act.put,List.getElem_toArray,List.getElem_cons_succ,List.getElem_cons_zero,List.setIfInBounds_toArray,List.set_cons_zero,List.set_cons_succ]
    refine aD (i:=4) (v:=?_) rfl (by kernel_rfl) (by kernel_rfl) (by kernel_rfl) (by kernel_rfl) (fun _ _ _ h=>h) (Or.inl ⟨by rfl, ?_⟩) (by assumption) ?_
    rotate_left
    ·(intro w0 hSw;go_simp;(try with_reducible rfl))
    try simp only [Act.put,List.getElem_toArray,List.getElem_cons_succ,List.getElem_cons_zero,List.setIfInBounds_toArray,List.set_cons_zero,List.set_cons_succ]
    refine aD (i:=5) (v:=?_) rfl (by kernel_rfl) (by kernel_rfl) (by kernel_rfl) (by kernel_rfl) (fun _ _ _ h=>h) (Or.inl ⟨by rfl, ?_⟩) (by assumption) ?_
    rotate_left
    ·(intro w0 hSw;have z0:=aA hSw.2 _ _ C0.out;go_simp;(try with_reducible rfl))
    try simp only [Act.put,List.getElem_toArray,List.getElem_cons_succ,List.getElem_cons_zero,List.setIfInBounds_toArray,List.set_cons_zero,List.set_cons_succ]
    refine aY (j:=6) (by kernel_rfl) (by kernel_rfl) rfl (fun K hK=>?_)
    go_simp
    go_at_call 19
    refine (IC.out _ BA.out.drew).mono ?_
    rintro e w3 ⟨ga,gn,gc,gb,gm,gd,rfl,h3,h4,b3⟩
    have hS3:=And.intro ((b3.block R (by have:=RL.out;simp;omega)).trans hHeld.1) (hHeld.2.trans (b3.mono hHeld.2.size))
    have HB3 : Hid (Below wr.drew.heap.size wr.drew w3):=b3
    have H3 : Hid (bE (hide (lo wr.drew) w3) (built x).args (.slice ga gn gc)):=h3
    have H4 : Hid (aL (hide (lo wr.drew) w3) (built x).sub (.slice gb gm gd)):=h4
    clear h3 h4 b3 hHeld IC
    go_simp
    refine hK.out _ _ hS3 (fun hHeld=>?_)
    clear hK K hS3
    try simp only [Act.put,List.getElem_toArray,List.getElem_cons_succ,List.getElem_cons_zero,List.setIfInBounds_toArray,List.set_cons_zero,List.set_cons_succ]
    refine aY (j:=7) (by kernel_rfl) (by kernel_rfl) rfl (fun K hK=>?_)
    go_simp
    obtain ⟨ys,ow,ob,or5,fin⟩:=AA.out.step (tb:=40) (Below.refl _ _).drew HB3.out (dS H3.out H4.out)
    have OW:=Lib.hid ow
    have OB:=Lib.hid ob
    have FIN:=Lib.hid fin
    clear ow fin ob
    have hS4:=And.intro or5 (hHeld.2.alloc (o:=.cells #[.int .u8 (built x).op,str (built x).name,.slice ga gn gc,.slice gb gm gd] 40) hHeld.2.size)
    refine hK.out _ _ hS4 (fun hHeld2=>?_)
    clear hK K hS4 or5 hHeld
    try simp only [Act.put,List.getElem_toArray,List.getElem_cons_succ,List.getElem_cons_zero,List.setIfInBounds_toArray,List.set_cons_zero,List.set_cons_succ]
    refine aY (j:=8) (by kernel_rfl) (by kernel_rfl) rfl (fun K hK=>?_)
    refine cI rfl _ _ 24 rfl w1.heap.size 40 i0 (.agg #[.int .u8 0,.string ⟨#[]⟩,.slice none 0 0,.slice none 0 0]) 4 72 Tryz.underlying24 hi0 hz0 hs0 hb0 rfl (by decide) _ q ys (by rfl) OW.out ⟨w3.heap.size,0,none⟩ 1 1 [.int .u8 (built x).op,str (built x).name,.slice ga gn gc,.slice gb gm gd] (by rfl) rfl (eT _ _ _ _ _ _) cJ (by unfold maxLen;omega) (by omega) OB.out ?_
    intro v5 w5 h5 hg5 hat5
    obtain ⟨r5,⟨va,vc,rfl⟩,A5⟩:=FIN.out v5 w5 h5 hg5 hat5
    have A6:=Lib.hid A5
    have OL:=eC AA.out.own
    have b5 : Below w.heap.size w w5:=⟨hg5.os.trans hHeld2.2.os,hg5.tape.trans hHeld2.2.tape,hg5.output.trans hHeld2.2.output,Nat.le_trans hHeld2.2.size hg5.size,fun i hi=>(hg5.block i (by have:=hHeld2.2.size;omega) (fun e=>by have:=(OL i e.symm).1;have:=WS.out;omega)).trans (hHeld2.2.block i hi)⟩
    have hS5:=And.intro r5 b5
    clear h5 hg5 hat5 A5 r5 FIN OW OL b5
    refine hK.out _ _ hS5 (fun hHeld3=>?_)
    clear hK K hS5 hHeld2
    try simp only [Act.put,List.getElem_toArray,List.getElem_cons_succ,List.getElem_cons_zero,List.setIfInBounds_toArray,List.set_cons_zero,List.set_cons_succ]
    refine aD (i:=9) (v:=?_) rfl (by kernel_rfl) (by kernel_rfl) (by kernel_rfl) (by kernel_rfl) (fun _ _ _ h=>h) (Or.inl ⟨by rfl, ?_⟩) (by assumption) ?_
    rotate_left
    ·(intro w0 hSw;go_simp;(try with_reducible rfl))
    try simp only [Act.put,List.getElem_toArray,List.getElem_cons_succ,List.getElem_cons_zero,List.setIfInBounds_toArray,List.set_cons_zero,List.set_cons_succ]
    refine cG (by kernel_rfl) (by kernel_rfl) rfl (fun K hK=>?_)
    obtain ⟨z0,z1,f0,f1⟩:=row2 hHeld3.1
    go_simp
    have A7:=A6.out _ rfl
    refine hK.out _ _ ?_
    clear hK K hHeld3
    go_wp2_with fail
    go_roundw
    case rel =>
     refine ⟨j + 1,by omega,by omega,by go_num,.right w1 lv (.slice va (q + 1) vc) nn (by omega) HBL.out.1 (by rw [xR (by omega)];exact HBL.out.2.1) (by rw [xR (by omega)];exact HBL.out.2.2) ?_⟩
     rw [HQ.out,clR_in HT.out (by omega),rJ]
     exact A7
    case measure=>simp [intOf];omega
  ·obtain ⟨⟨lv,rv,hr,hL,hR2⟩,hb⟩:=ClI.done hs.out (by have:=HR.out;have:=SL.out;omega) (by rw [← HN.out];exact hjn)
   have e4 : l.take j = l.take 4:=by
    by_cases h4 : j = 4
    ·rw [h4]
    ·rw [List.take_of_length_le (by rw [← HN.out];omega),List.take_of_length_le (by rw [← HN.out];omega)]
   have eL : clL l k j = clL l k 4:=by unfold clL;rw [e4]
   have eR : clR l k j = clR l k 4:=by unfold clR;rw [e4]
   rw [eL] at hL
   rw [eR] at hR2
   have G0 : wr.heap[w.heap.size]? = some (.cells #[.slice none 0 0,.slice none 0 0] 26 (0,0)):=(hb _ (by have:=SL.out;omega) (by have:=HR.out;omega)).trans R0.out
   obtain ⟨la,ln,lc,rfl⟩ : ∃ a n c,lv = .slice a n c:=by obtain ⟨a,c,rfl,-⟩:=At.sl_inv hL;exact ⟨_,_,_,rfl⟩
   obtain ⟨ra,rn,rc,rfl⟩ : ∃ a n c,rv = .slice a n c:=by obtain ⟨a,c,rfl,-⟩:=At.sl_inv hR2;exact ⟨_,_,_,rfl⟩
   have FIN:=Lib.hid (And.intro hL (And.intro hR2 bw))
   have HG0:=Lib.hid G0
   have key : Hid (∀ i,i ≠ w.heap.size → ((wr.setCell ⟨w.heap.size,0,none⟩ (.slice la ln lc)).setCell ⟨w.heap.size,1,none⟩ (.slice ra rn rc)).heap[i]? = wr.heap[i]?):=fun i hi=>by rw [Below.heap_setCell _ _ _ _ hi,Below.heap_setCell _ _ _ _ hi]
   obtain ⟨y0,y1,-,-⟩:=row2 hr
   obtain ⟨z0,z1,f0,f1⟩:=row2 G0
   have HX : Hid (¬ (j < 4 ∧ j < n)):=hlt
   clear hb hr hL hR2 eL eR e4 bw G0 hs
   by_cases h4 : j < 4
   ·have hn2 : ¬ ((j : Int) < n):=by have:=HX.out;omega
    go_wp2_with fail
    refine bodyPost_ret (results_cell_row rfl _ _ w.heap.size 26 _ (0,0) _ rfl (aC (o:=1) (u:=.slice ra rn rc) (aC (o:=0) (u:=.slice la ln lc) HG0.out)) Tryz.underlying26 rfl iSq) rfl ?_
    exact ⟨_,rfl,⟨_,_,_,_,_,_,rfl,FIN.out.1.keep (aF fun i a b=>⟨by have:=SL.out;simp [lo] at b ⊢;omega,key.out i (by have:=SL.out;simp [lo] at b;omega)⟩),FIN.out.2.1.keep (aF fun i a b=>⟨by have:=SL.out;simp [lo] at b ⊢;omega,key.out i (by have:=SL.out;simp [lo] at b;omega)⟩)⟩,(FIN.out.2.2.setCell (Nat.le_refl _) _).setCell (Nat.le_refl _) _⟩
   ·have h42 : ¬ ((j : Int) < 4):=by omega
    go_wp2_with fail
    all_goals
     refine bodyPost_ret (results_cell_row rfl _ _ w.heap.size 26 _ (0,0) _ rfl (aC (o:=1) (u:=.slice ra rn rc) (aC (o:=0) (u:=.slice la ln lc) HG0.out)) Tryz.underlying26 rfl iSq) rfl ?_
     exact ⟨_,rfl,⟨_,_,_,_,_,_,rfl,FIN.out.1.keep (aF fun i a b=>⟨by have:=SL.out;simp [lo] at b ⊢;omega,key.out i (by have:=SL.out;simp [lo] at b;omega)⟩),FIN.out.2.1.keep (aF fun i a b=>⟨by have:=SL.out;simp [lo] at b ⊢;omega,key.out i (by have:=SL.out;simp [lo] at b;omega)⟩)⟩,(FIN.out.2.2.setCell (Nat.le_refl _) _).setCell (Nat.le_refl _) _⟩
end Go.Proofs.YtppfalbnhnpbnaaGreatDoor
namespace Go.Proofs.YtppfalbnhnpbnaaGreatDoor
open Go Go.ChangeShapes Go.WideShapes Go.ChangeAt Go.RowKit Ly
set_option maxRecDepth 10000
section
variable {H : Type} {enc : TypeId × Value → H}
theorem bts_trod {W : World} {v : Value} {fuel : Nat} {x : DataW H × List MemPlace} (hf : DataW.trod enc Tryz.prog W 0 (fun _=>true) true fuel 43 [v] = some x) : ∃ l : Bs,∃ a n c,v = .slice a n c ∧ kG W l (.slice a n c):=by
 rcases open_ints Tryz.underlying43 Tryz.underlying5 xP hf with ⟨hcs,hx⟩ | ⟨ad,len',cap',zs,hcs,_,hl,hm,hz,hx,hcell,hwz⟩
 ·simp at hcs
  subst hcs
  exact ⟨[],_,_,_,rfl,At.sl_nil (Nat.zero_le _)⟩
 ·simp at hcs
  subst hcs
  simp only [if_true] at hz
  have hlen : ((zs.take len').map fun n=>UInt8.ofNat n.toNat).length = len':=by simp;omega
  refine ⟨(zs.take len').map fun n=>UInt8.ofNat n.toNat,_,_,_,rfl, ?_⟩
  unfold kG
  rw [hlen]
  rcases Nat.eq_zero_or_pos len' with h0 | h0
  ·subst h0
   rw [List.take_zero]
   exact At.sl_nil hm
  ·obtain ⟨ab,ao,spot⟩:=ad
   have hspot : spot = none:=by simpa [Addr.add] using World.cell?_spot (hcell 0 (by omega))
   subst hspot
   refine At.sl_mk (by rw [List.length_map,hlen];omega) hl hm fun j dd hd=>?_
   rw [List.getElem?_map,List.getElem?_map,List.getElem?_take] at hd
   obtain ⟨x,hx1,rfl⟩:=Option.map_eq_some_iff.1 hd
   obtain ⟨z,hz1,rfl⟩:=Option.map_eq_some_iff.1 hx1
   split at hz1
   ·have hj:=(List.getElem?_eq_some_iff.1 hz1).1
    have hcj:=hcell j hj
    have hb:=range_u8 hwz j
    rw [hz1,Option.getD_some] at hb
    rw [List.getD_eq_getElem?_getD,hz1,Option.getD_some,Addr.add_lit] at hcj
    refine ⟨_,hcj, ?_⟩
    show Value.int .u8 z = .int .u8 ((UInt8.ofNat z.toNat).toNat : Int)
    congr 1
    simp only [UInt8.toNat_ofNat']
    omega
   ·cases hz1
theorem cells43 : Tryz.prog.cellsOf 43 = 1:=by kernel_rfl
theorem bbs_of {W : World} {base : Nat} {v : Value} {d : DataW H} {p : List MemPlace} (hval : Value.okWide Tryz.prog W .any base 22 v) (h : DataW.Trod enc Tryz.prog W 0 (fun _=>true) true 22 v d p) : ∃ (L : List Bs) (a : Option Addr) (n c : Nat),v = .slice a n c ∧ oL W L (.slice a n c):=by
 obtain ⟨a,len,cap,rfl⟩:=okWide_slice Tryz.underlying22 hval
 obtain ⟨fuel,hf⟩:=h
 rcases Go.Deep.open_slice1 Tryz.underlying22 cells43 hf with ⟨hcs,hx⟩ | ⟨ad,len',cap',m,n',V,D,Pl,hcs,_,hl,hm,hmm,_,hel⟩
 ·simp [Value.cells] at hcs
  obtain ⟨rfl,rfl,rfl⟩:=hcs
  exact ⟨[],_,_,_,rfl,At.sl_nil (Nat.zero_le _)⟩
 ·simp [Value.cells] at hcs
  obtain ⟨rfl,rfl,rfl⟩:=hcs
  simp only [if_true] at hmm
  subst hmm
  obtain ⟨f,hF⟩:=Go.Deep.choose_lt (α:=Bs) (n:=len) (p:=fun i l=>∃ a n c,V i = .slice a n c ∧ kG W l (.slice a n c)) fun i hi=>bts_trod (hel i (by omega)).2
  refine ⟨(List.range len).map f,_,_,_,rfl, ?_⟩
  have hlen : ((List.range len).map f).length = len:=by simp
  unfold oL
  rw [hlen]
  rcases Nat.eq_zero_or_pos len with h0 | h0
  ·subst h0
   exact At.sl_nil hm
  ·obtain ⟨ab,ao,spot⟩:=ad
   have hspot : spot = none:=by simpa [Addr.add] using World.cell?_spot (hel 0 (by omega)).1
   subst hspot
   refine At.sl_mk (by rw [List.length_map,hlen];omega) hl hm fun j dd hd=>?_
   rw [List.getElem?_map,List.getElem?_map] at hd
   obtain ⟨x,hx1,rfl⟩:=Option.map_eq_some_iff.1 hd
   obtain ⟨i,hi,rfl⟩:=Option.map_eq_some_iff.1 hx1
   have hlt:=(List.getElem?_eq_some_iff.1 hi).1
   rw [List.length_range] at hlt
   rw [List.getElem?_range hlt] at hi
   cases hi
   obtain ⟨a',n',c',e,hb⟩:=hF j hlt
   have hc:=(hel j (by omega)).1
   rw [e,Addr.add_lit] at hc
   exact ⟨_,hc,hb⟩
end
end Go.Proofs.YtppfalbnhnpbnaaGreatDoor
