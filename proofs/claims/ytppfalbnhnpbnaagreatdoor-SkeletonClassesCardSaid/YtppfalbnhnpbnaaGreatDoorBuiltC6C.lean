/- lyceumlaw30.Built: rounds of its loop, by the byte modulo 12: 8. Conditions: those at the loop's head. -/
import Derived.Test.YtppfalbnhnpbnaaGreatDoorKyAC
set_option linter.unusedSimpArgs false
set_option linter.unusedVariables false
namespace Go.Proofs.YtppfalbnhnpbnaaGreatDoor
open Go Go.RowKit Ly
set_option maxRecDepth 10000
set_option maxHeartbeats 2000000
attribute [local go_sem ↓] Go.wp_at_zero Go.wp_at_succ
set_option maxRecDepth 100000 in
set_option maxHeartbeats 16000000 in
theorem round20_8 (l : Bs) (b off n c k N sc xx : Nat) (x : UInt8) (sa : Option Addr) (w wr : World) (u5 u6 u7 u10 u11 u12 u13 u14 u15 u16 u17 u18 u19 u20 u21 u22 u23 u24 u25 u26 u27 u28 u29 u30 u31 u32 u33 u34 u35 u36 u37 u38 u39 u40 u41 u42 u43 u44 u45 u46 u47 u48 u49 u50 u51 u52 u53 u54 u55 u56 u57 u58 u59 u60 u61 u62 u63 u64 u65 u66 u67 u68 u69 u70 u71 u72 u73 u74 u75 u76 u77 u78 u79 u80 u81 u82 u83 u84 u85 u86 u87 u88 u89 u90 u91 u92 u93 u94 u95 u96 u97 u98 u99 u100 u101 u102 u103 u104 u105 u106 u107 u108 u109 u110 u111 u112 u113 u114 u115 u116 u117 u118 u119 u120 u121 u122 u123 u124 u125 u126 u127 u128 u129 u130 u131 u132 u133 u134 u135 u136 u137 u138 u139 u140 u141 u142 u143 u144 u145 u146 u147 u148 u149 u150 u151 u152 u153 u154 u155 u156 u157 u158 u159 u160 u161 u162 u163 u164 u165 u166 u167 u168 u169 u170 : Value) (K' : Act → World → Prop) (HK : Hid (∀ a' w',R20 w l k b off n c a' w' → K' a' w'))
  (hlen : n ≤ 9223372036854775807) (hk3 : k < n) (hk4 : k < 20) (HCELL : Hid (∀ (i : Nat) (y : UInt8),l[i]? = some y → w.cell? ⟨b,off + i,none⟩ = some (.int .u8 y.toNat))) (hs : Hid (BRel w l k (.slice sa N sc) wr)) (HNN : Hid ((bAt l k).length = N)) (HXX : Hid (l[k]? = some x ∧ x.toNat = xx)) (x1 : xx < 256) (HSC : Hid (sc ≤ maxLen)) (hN : N ≤ k) (hm : xx % 12 = 8) :
  Code.wp Tryz.prog kM (Exit.then K' fun _ _ _=>False) ⟨List.toArray ((.slice (some ⟨b,off,none⟩) n c) :: undef :: (one w.heap.size) :: (.slice sa N sc) :: (.int .i64 k) :: u5 :: u6 :: u7 :: undef :: undef :: u10 :: u11 :: u12 :: u13 :: u14 :: u15 :: u16 :: u17 :: u18 :: u19 :: u20 :: u21 :: u22 :: u23 :: u24 :: u25 :: u26 :: u27 :: u28 :: u29 :: u30 :: u31 :: u32 :: u33 :: u34 :: u35 :: u36 :: u37 :: u38 :: u39 :: u40 :: u41 :: u42 :: u43 :: u44 :: u45 :: u46 :: u47 :: u48 :: u49 :: u50 :: u51 :: u52 :: u53 :: u54 :: u55 :: u56 :: u57 :: u58 :: u59 :: u60 :: u61 :: u62 :: u63 :: u64 :: u65 :: u66 :: u67 :: u68 :: u69 :: u70 :: u71 :: u72 :: u73 :: u74 :: u75 :: u76 :: u77 :: u78 :: u79 :: u80 :: u81 :: u82 :: u83 :: u84 :: u85 :: u86 :: u87 :: u88 :: u89 :: u90 :: u91 :: u92 :: u93 :: u94 :: u95 :: u96 :: u97 :: u98 :: u99 :: u100 :: u101 :: u102 :: u103 :: u104 :: u105 :: u106 :: u107 :: u108 :: u109 :: u110 :: u111 :: u112 :: u113 :: u114 :: u115 :: u116 :: u117 :: u118 :: u119 :: u120 :: u121 :: u122 :: u123 :: u124 :: u125 :: u126 :: u127 :: u128 :: u129 :: u130 :: u131 :: u132 :: u133 :: u134 :: u135 :: u136 :: u137 :: u138 :: u139 :: u140 :: u141 :: u142 :: u143 :: u144 :: u145 :: u146 :: u147 :: u148 :: u149 :: u150 :: u151 :: u152 :: u153 :: u154 :: u155 :: u156 :: u157 :: u158 :: u159 :: u160 :: u161 :: u162 :: u163 :: u164 :: u165 :: u166 :: u167 :: u168 :: u169 :: u170 :: undef :: undef :: undef :: undef :: undef :: undef :: undef :: undef :: undef :: undef :: undef :: undef :: undef :: undef :: undef :: undef :: undef :: undef :: undef :: undef :: undef :: []),[]⟩ wr:=by
 obtain ⟨i0,hi0,hz0,hs0,hb0⟩:=info_parts dV
 have c0 : wr.cell? ⟨b,off + k,none⟩ = some (.int .u8 xx):=by rw [← HXX.out.2];exact aA hs.out.bw _ _ (HCELL.out k x HXX.out.1)
 have x0 : (0 : Int) ≤ xx:=by omega
 have x2 : (xx : Int) < 256:=by omega
 have k0 : (0 : Int) ≤ k:=by omega
 have k1 : (k : Int) < n:=by omega
 have N20 : N ≤ 20:=by omega
 have HM0:=Lib.hid hm
 clear hm
 conv=>arg 2;whnf
 go_upto_region 5 with fail
 go_cut [5,6] from 20 to 26 (fun u5 u6 wx=>∃ qz : Int,u5 = .int .i64 N ∧ u6 = .int .u8 qz ∧ Hid (qz = ((xx / 12 : Nat) : Int)) ∧ Hid (BRel w l k (.slice sa N sc) wx))
 case first =>
  go_quiet (fail)
  go_wp2_with fail
  go_meet
  exact ⟨_,rfl,rfl,by simp [Hid],hs.out.drewN _⟩
 case rest =>
 obtain ⟨qz,rfl,rfl,HQ,HS⟩:=hcut
 have c0 : wc.cell? ⟨b,off + k,none⟩ = some (.int .u8 xx):=by rw [← HXX.out.2];exact aA HS.out.bw _ _ (HCELL.out k x HXX.out.1)
 clear hs
 go_upto_region 6 with fail
 go_cut [7] from 27 to 31 (fun u7 wx=>∃ oz : Int,u7 = .int .u8 oz ∧ Hid (oz = ((xx % 12 : Nat) : Int)) ∧ Hid (BRel w l k (.slice sa N sc) wx))
 case first =>
  go_wp2_with fail
  go_meet
  exact ⟨_,rfl,by simp [Hid],HS.out⟩
 case rest =>
 obtain ⟨oz,rfl,HO,HS⟩:=hcut
 clear c0
 have hm:=HM0.out
 obtain rfl : oz = 8:=by rw [HO.out,hm];rfl
 have HM:=Lib.hid hm
 clear hm
 have q0 : 0 ≤ qz:=by rw [HQ.out];omega
 have q1 : qz ≤ 21:=by rw [HQ.out];omega
 rcases Nat.lt_or_ge N 2 with hz | hz
 ·have hz1 : (N : Int) < 2:=by omega
  have hz2 : decide ((2 : Int) ≤ N) = false:=by simp;omega
  have F5 : Hid (BRel w l (k + 1) (.slice sa _ sc) wc):=BRel.same HS.out HXX.out (by have hm:=HM.out;have hn:=HNN.out;simp [cI,hm];omega)
  go_wp2_with fail
  exact HK.out _ _ (by unfold R20;exact ⟨_,_,_,_,_,_,_,_,_,_,_,_,_,_,_,_,_,_,_,_,_,_,_,_,_,_,_,_,_,_,_,_,_,_,_,_,_,_,_,_,_,_,_,_,_,_,_,_,_,_,_,_,_,_,_,_,_,_,_,_,_,_,_,_,_,_,_,_,_,_,_,_,_,_,_,_,_,_,_,_,_,_,_,_,_,_,_,_,_,_,_,_,_,_,_,_,_,_,_,_,_,_,_,_,_,_,_,_,_,_,_,_,_,_,_,_,_,_,_,_,_,_,_,_,_,_,_,_,_,_,_,_,_,_,_,_,_,_,_,_,_,_,_,_,_,_,_,_,_,_,_,_,_,_,_,_,_,_,_,_,_,_,_,_,_,_,_,⟨rfl,rfl,F5.out⟩,rfl⟩)
 ·obtain ⟨M,rfl⟩ : ∃ M,N = M + 2:=⟨N - 2,by omega⟩
  obtain ⟨g,rfl,hgz,hNs⟩:=iP HS.out (by rw [HNN.out];omega)
  obtain ⟨ea,en,ec,eb,em,ed,el⟩:=eZ HS.out (i:=M) (by rw [HNN.out];omega)
  obtain ⟨fa,fn,fc,fb,fm,fd,el2⟩:=eZ HS.out (i:=M + 1) (by rw [HNN.out];omega)
  generalize hF : (bAt l k).getD M fls = F at el
  generalize hG : (bAt l k).getD (M + 1) fls = G at el2
  have HF:=Lib.hid (And.intro hF hG)
  have EL:=Lib.hid (And.intro el el2)
  obtain ⟨e0,e1,e2,e3,-,-⟩:=el
  obtain ⟨f0,f1,f2,f3,-,-⟩:=el2
  clear hF hG
  have m1 : (0 : Int) ≤ M:=by omega
  have m3 : (M : Int) ≤ (sc : Int):=by omega
  have m4 : max (M : Int) 0 = M:=by omega
  have m5 : (M : Int) < (M : Int) + 2:=by omega
  have m6 : (M : Int) + 1 < (M : Int) + 2:=by omega
  have m7 : (0 : Int) ≤ (M : Int) + 1:=by omega
  have m8 : (M : Int) + 2 - 1 = M + 1:=by omega
  have m9 : ((M : Int) + 1).toNat = M + 1:=by omega
  have mw : IntKind.i64.wrap (M : Int) = M:=IntWalk.i64_in _ (by omega)
  have mv : IntKind.i64.wrap ((M : Int) + 1) = (M : Int) + 1:=IntWalk.i64_in _ (by omega)
  have mu : IntKind.i64.wrap ((M : Int) + 2 - 1) = (M : Int) + 1:=by rw [m8];exact mv
  have mq : IntKind.u8.wrap 1 = 1:=rfl
  go_upto_region 18 with fail
  refine wp_region_held_drew (S:=fun w'=>bI wc w') (by kernel_rfl) (lG wc) (fun hHeld=>?_)
  refine wpAnyH_take (i:=0) (v:=?_) rfl (by kernel_rfl) (by kernel_rfl) (by kernel_rfl) (fun _ _ _ h=>h) (Or.inl ⟨by rfl, ?_⟩) (by assumption) ?_
  rotate_left
  ·(intro w hSw;go_simp;(try with_reducible rfl))
  try simp only [Act.put,List.setIfInBounds_toArray,List.set_cons_zero,List.set_cons_succ]
  refine wpAnyH_take (i:=1) (v:=?_) rfl (by kernel_rfl) (by kernel_rfl) (by kernel_rfl) (fun _ _ _ h=>h) (Or.inl ⟨by rfl, ?_⟩) (by assumption) ?_
  rotate_left
  ·(intro w hSw;go_simp;(try with_reducible rfl))
  try simp only [Act.put,List.setIfInBounds_toArray,List.set_cons_zero,List.set_cons_succ]
  refine wpAnyH_take (i:=2) (v:=?_) rfl (by kernel_rfl) (by kernel_rfl) (by kernel_rfl) (fun _ _ _ h=>h) (Or.inl ⟨by rfl, ?_⟩) (by assumption) ?_
  rotate_left
  ·(intro w hSw;go_simp;(try with_reducible rfl))
  try simp only [Act.put,List.setIfInBounds_toArray,List.set_cons_zero,List.set_cons_succ]
  refine wpAnyH_take (i:=3) (v:=?_) rfl (by kernel_rfl) (by kernel_rfl) (by kernel_rfl) (fun _ _ _ h=>h) (Or.inl ⟨by rfl, ?_⟩) (by assumption) ?_
  rotate_left
  ·(intro w hSw;go_simp;(try with_reducible rfl))
  try simp only [Act.put,List.setIfInBounds_toArray,List.set_cons_zero,List.set_cons_succ]
  refine wpAnyH_take (i:=4) (v:=?_) rfl (by kernel_rfl) (by kernel_rfl) (by kernel_rfl) (fun _ _ _ h=>h) (Or.inl ⟨by rfl, ?_⟩) (by assumption) ?_
  rotate_left
  ·(intro w hSw;go_simp;(try with_reducible rfl))
  try simp only [Act.put,List.setIfInBounds_toArray,List.set_cons_zero,List.set_cons_succ]
  refine wpAnyH_take (i:=5) (v:=?_) rfl (by kernel_rfl) (by kernel_rfl) (by kernel_rfl) (fun _ _ _ h=>h) (Or.inl ⟨by rfl, ?_⟩) (by assumption) ?_
  rotate_left
  ·(intro w hSw;go_simp;(try with_reducible rfl))
  try simp only [Act.put,List.setIfInBounds_toArray,List.set_cons_zero,List.set_cons_succ]
  refine wpAnyH_take (i:=7) (v:=?_) rfl (by kernel_rfl) (by kernel_rfl) (by kernel_rfl) (fun _ _ _ h=>h) (Or.inl ⟨by rfl, ?_⟩) (by assumption) ?_
  rotate_left
  ·(intro w hSw;go_simp;(try with_reducible rfl))
  try simp only [Act.put,List.setIfInBounds_toArray,List.set_cons_zero,List.set_cons_succ]
  refine wpAnyH_take (i:=8) (v:=?_) rfl (by kernel_rfl) (by kernel_rfl) (by kernel_rfl) (fun _ _ _ h=>h) (Or.inl ⟨by rfl, ?_⟩) (by assumption) ?_
  rotate_left
  ·(intro w hSw;go_simp;(try with_reducible rfl))
  try simp only [Act.put,List.setIfInBounds_toArray,List.set_cons_zero,List.set_cons_succ]
  refine wpAnyH_take (i:=11) (v:=?_) rfl (by kernel_rfl) (by kernel_rfl) (by kernel_rfl) (fun _ _ _ h=>h) (Or.inl ⟨by rfl, ?_⟩) (by assumption) ?_
  rotate_left
  ·(intro w hSw;go_simp;(try with_reducible rfl))
  try simp only [Act.put,List.setIfInBounds_toArray,List.set_cons_zero,List.set_cons_succ]
  refine wpAnyH_take (i:=12) (v:=?_) rfl (by kernel_rfl) (by kernel_rfl) (by kernel_rfl) (fun _ _ _ h=>h) (Or.inl ⟨by rfl, ?_⟩) (by assumption) ?_
  rotate_left
  ·(intro w hSw;go_simp;(try with_reducible rfl))
  try simp only [Act.put,List.setIfInBounds_toArray,List.set_cons_zero,List.set_cons_succ]
  refine wpAnyH_take (i:=13) (v:=?_) rfl (by kernel_rfl) (by kernel_rfl) (by kernel_rfl) (fun _ _ _ h=>h) (Or.inl ⟨by rfl, ?_⟩) (by assumption) ?_
  rotate_left
  ·(intro w hSw;go_simp;(try with_reducible rfl))
  try simp only [Act.put,List.setIfInBounds_toArray,List.set_cons_zero,List.set_cons_succ]
  refine wpAnyH_take (i:=14) (v:=?_) rfl (by kernel_rfl) (by kernel_rfl) (by kernel_rfl) (fun _ _ _ h=>h) (Or.inl ⟨by rfl, ?_⟩) (by assumption) ?_
  rotate_left
  ·(intro w hSw;go_simp;(try with_reducible rfl))
  try simp only [Act.put,List.setIfInBounds_toArray,List.set_cons_zero,List.set_cons_succ]
  refine wpAnyH_take (i:=15) (v:=?_) rfl (by kernel_rfl) (by kernel_rfl) (by kernel_rfl) (fun _ _ _ h=>h) (Or.inl ⟨by rfl, ?_⟩) (by assumption) ?_
  rotate_left
  ·(intro w hSw;have:=hSw _ _ e0;have:=hSw _ _ e1;have:=hSw _ _ e2;have:=hSw _ _ e3;have:=hSw _ _ f0;have:=hSw _ _ f1;have:=hSw _ _ f2;have:=hSw _ _ f3;go_simp;(try with_reducible rfl))
  try simp only [Act.put,List.setIfInBounds_toArray,List.set_cons_zero,List.set_cons_succ]
  refine wpAnyH_take (i:=16) (v:=?_) rfl (by kernel_rfl) (by kernel_rfl) (by kernel_rfl) (fun _ _ _ h=>h) (Or.inl ⟨by rfl, ?_⟩) (by assumption) ?_
  rotate_left
  ·(intro w hSw;go_simp;(try with_reducible rfl))
  try simp only [Act.put,List.setIfInBounds_toArray,List.set_cons_zero,List.set_cons_succ]
  refine wpAnyH_take (i:=17) (v:=?_) rfl (by kernel_rfl) (by kernel_rfl) (by kernel_rfl) (fun _ _ _ h=>h) (Or.inl ⟨by rfl, ?_⟩) (by assumption) ?_
  rotate_left
  ·(intro w hSw;go_simp;(try with_reducible rfl))
  try simp only [Act.put,List.setIfInBounds_toArray,List.set_cons_zero,List.set_cons_succ]
  refine wpAnyH_take (i:=18) (v:=?_) rfl (by kernel_rfl) (by kernel_rfl) (by kernel_rfl) (fun _ _ _ h=>h) (Or.inl ⟨by rfl, ?_⟩) (by assumption) ?_
  rotate_left
  ·(intro w hSw;go_simp;(try with_reducible rfl))
  try simp only [Act.put,List.setIfInBounds_toArray,List.set_cons_zero,List.set_cons_succ]
  refine wpAnyH_take (i:=19) (v:=?_) rfl (by kernel_rfl) (by kernel_rfl) (by kernel_rfl) (fun _ _ _ h=>h) (Or.inl ⟨by rfl, ?_⟩) (by assumption) ?_
  rotate_left
  ·(intro w hSw;go_simp;(try with_reducible rfl))
  try simp only [Act.put,List.setIfInBounds_toArray,List.set_cons_zero,List.set_cons_succ]
  refine wpAnyH_take (i:=20) (v:=?_) rfl (by kernel_rfl) (by kernel_rfl) (by kernel_rfl) (fun _ _ _ h=>h) (Or.inl ⟨by rfl, ?_⟩) (by assumption) ?_
  rotate_left
  ·(intro w hSw;have:=hSw _ _ e0;have:=hSw _ _ e1;have:=hSw _ _ e2;have:=hSw _ _ e3;have:=hSw _ _ f0;have:=hSw _ _ f1;have:=hSw _ _ f2;have:=hSw _ _ f3;go_simp;(try with_reducible rfl))
  try simp only [Act.put,List.setIfInBounds_toArray,List.set_cons_zero,List.set_cons_succ]
  refine wpAnyH_ready (rs:=[6,21]) (by kernel_rfl) (by simp) ?_
  refine AllReadyH.cons rfl (fun K hK=>?_) ?_
  ·go_simp
   refine hK.out _ _ (aA (((Below.refl _ _).alloc (Nat.le_refl _) _).drew)) (fun hHeld1=>?_)
   clear hK K
   try simp only [Act.put,List.setIfInBounds_toArray,List.set_cons_zero,List.set_cons_succ]
   refine dM hHeld1 (fun hHeld2=>?_)
   refine wpAnyH_take (i:=9) (v:=?_) rfl (by kernel_rfl) (by kernel_rfl) (by kernel_rfl) (fun _ _ _ h=>h) (Or.inl ⟨by rfl, ?_⟩) (by assumption) ?_
   rotate_left
   ·(intro w hSw;go_simp;(try with_reducible rfl))
   try simp only [Act.put,List.getElem_toArray,List.getElem_cons_succ,List.getElem_cons_zero,List.setIfInBounds_toArray,List.set_cons_zero,List.set_cons_succ]
   refine wpAnyH_take (i:=10) (v:=?_) rfl (by kernel_rfl) (by kernel_rfl) (by kernel_rfl) (fun _ _ _ h=>h) (Or.inl ⟨by rfl, ?_⟩) (by assumption) ?_
   rotate_left
   ·(intro w hSw;have:=hSw ⟨wc.heap.size,1,none⟩ (.int .u8 5) ((bE (heap_alloc_new wc _) 1).trans rfl);go_simp;(try with_reducible rfl))
   try simp only [Act.put,List.getElem_toArray,List.getElem_cons_succ,List.getElem_cons_zero,List.setIfInBounds_toArray,List.set_cons_zero,List.set_cons_succ]
   refine wpAnyH_ready (rs:=[21]) (by kernel_rfl) (by simp) ?_
   refine AllReadyH.cons rfl (fun K hK=>?_) AllReadyH.nil
   go_simp
   refine hK.out _ _ (by exact aA ((Below.refl _ _).alloc (Nat.le_refl _) _)) (fun hHeld3=>?_)
   clear hK K
   try simp only [Act.put,List.setIfInBounds_toArray,List.set_cons_zero,List.set_cons_succ]
   refine wpAnyH_ready (rs:=[22]) (by kernel_rfl) (by simp) ?_
   refine AllReadyH.cons rfl (fun K hK=>?_) AllReadyH.nil
   go_simp
   go_at_call 17
   refine (fK 5 _ _ _ _).mono ?_
   rintro e w1 ⟨rfl,b1⟩
   have BX : Below wc.heap.size wc w1:=aG (((Below.refl _ _).alloc (Nat.le_refl _) _).alloc (by simp) _).drew b1
   have KX:=aA b1
   have hm:=HM.out
   have hL:=HNN.out
   obtain ⟨hF,hG⟩:=HF.out
   have hst : cI (bAt l k) xx = (bAt l k).take M ++ [.mk 5 [] [] [F,G]]:=by rw [← hF,← hG];simp [cI,hm,hL]
   have hh : w1.heap[wc.heap.size + 1]? = some (.cells #[.int .u8 F.op,str F.name,.slice ea en ec,.slice eb em ed,.int .u8 G.op,str G.name,.slice fa fn fc,.slice fb fm fd] 40 (0,0)):=kc b1 (kd (heap_alloc2_new _ _ _))
   obtain ⟨olds,o1,o2,fin⟩:=lU HS.out HXX.out hL BX EL.out.1 EL.out.2 hh (by omega) hst
   have OL:=Lib.hid (And.intro o1 o2)
   have FIN:=Lib.hid fin
   clear o1 o2 fin hh hm hL hF hG hst
   go_simp
   refine hK.out _ _ (by exact bI.trans (aA ((Below.refl _ _).alloc (Nat.le_refl _) _)) KX) (fun hHeld4=>?_)
   clear hK K
   try simp only [Act.put,List.setIfInBounds_toArray,List.set_cons_zero,List.set_cons_succ]
   refine dM hHeld4 (fun hHeld5=>?_)
   refine wpAnyH_ready (rs:=[23]) (by kernel_rfl) (by simp) ?_
   refine AllReadyH.cons rfl (fun K hK=>?_) AllReadyH.nil
   go_simp
   refine hK.out _ _ (by exact aA ((Below.refl _ _).alloc (Nat.le_refl _) _)) (fun hHeld6=>?_)
   clear hK K
   try simp only [Act.put,List.setIfInBounds_toArray,List.set_cons_zero,List.set_cons_succ]
   refine wpAnyH_ready (rs:=[24]) (by kernel_rfl) (by simp) ?_
   refine AllReadyH.cons rfl (fun K hK=>?_) AllReadyH.nil
   refine step_append_grows rfl _ _ 24 rfl 40 i0 _ 4 72 Tryz.underlying24 hi0 hz0 hs0 hb0 rfl (by decide) (some ⟨g,0,none⟩) M M olds (by rfl) (by intro h;cases h) OL.out.1 OL.out.2 ⟨w1.heap.size,0,none⟩ 1 1 _ (by rfl) rfl (fH _ _ _ _ _ _) cM (by omega) (by unfold maxLen;omega) (by omega) ?_
   intro v5 w5 h5 hg5
   have F5:=Lib.hid (FIN.out v5 w5 h5 hg5)
   refine hK.out _ _ (by exact bI.trans (aA ((Below.refl _ _).alloc (Nat.le_refl _) _)) (fun p u hu=>hg5.cell hu (by simp))) (fun hHeld7=>?_)
   clear hK K h5 hg5
   try simp only [Act.put,List.getElem_toArray,List.getElem_cons_succ,List.getElem_cons_zero,List.setIfInBounds_toArray,List.set_cons_zero,List.set_cons_succ]
   refine wpAnyH_take (i:=25) (v:=?_) rfl (by kernel_rfl) (by kernel_rfl) (by kernel_rfl) (fun _ _ _ h=>h) (Or.inl ⟨by rfl, ?_⟩) (by assumption) ?_
   rotate_left
   ·(intro w hSw;go_simp;(try with_reducible rfl))
   try simp only [Act.put,List.getElem_toArray,List.getElem_cons_succ,List.getElem_cons_zero,List.setIfInBounds_toArray,List.set_cons_zero,List.set_cons_succ]
   refine wpAnyH_done (by kernel_rfl) ?_ _
   go_wp2_with fail
   exact HK.out _ _ (by unfold R20;exact ⟨_,_,_,_,_,_,_,_,_,_,_,_,_,_,_,_,_,_,_,_,_,_,_,_,_,_,_,_,_,_,_,_,_,_,_,_,_,_,_,_,_,_,_,_,_,_,_,_,_,_,_,_,_,_,_,_,_,_,_,_,_,_,_,_,_,_,_,_,_,_,_,_,_,_,_,_,_,_,_,_,_,_,_,_,_,_,_,_,_,_,_,_,_,_,_,_,_,_,_,_,_,_,_,_,_,_,_,_,_,_,_,_,_,_,_,_,_,_,_,_,_,_,_,_,_,_,_,_,_,_,_,_,_,_,_,_,_,_,_,_,_,_,_,_,_,_,_,_,_,_,_,_,_,_,_,_,_,_,_,_,_,_,_,_,_,_,_,⟨rfl,rfl,F5.out⟩,rfl⟩)
  ·refine AllReadyH.cons rfl (fun K hK=>?_) AllReadyH.nil
   go_simp
   refine hK.out _ _ (aA (((Below.refl _ _).alloc (Nat.le_refl _) _).drew)) (fun hHeld1=>?_)
   clear hK K
   try simp only [Act.put,List.setIfInBounds_toArray,List.set_cons_zero,List.set_cons_succ]
   refine dM hHeld1 (fun hHeld2=>?_)
   refine wpAnyH_ready (rs:=[6]) (by kernel_rfl) (by simp) ?_
   refine AllReadyH.cons rfl (fun K hK=>?_) AllReadyH.nil
   go_simp
   refine hK.out _ _ (by exact aA ((Below.refl _ _).alloc (Nat.le_refl _) _)) (fun hHeld3=>?_)
   clear hK K
   try simp only [Act.put,List.setIfInBounds_toArray,List.set_cons_zero,List.set_cons_succ]
   refine dM hHeld3 (fun hHeld4=>?_)
   refine wpAnyH_take (i:=9) (v:=?_) rfl (by kernel_rfl) (by kernel_rfl) (by kernel_rfl) (fun _ _ _ h=>h) (Or.inl ⟨by rfl, ?_⟩) (by assumption) ?_
   rotate_left
   ·(intro w hSw;go_simp;(try with_reducible rfl))
   try simp only [Act.put,List.getElem_toArray,List.getElem_cons_succ,List.getElem_cons_zero,List.setIfInBounds_toArray,List.set_cons_zero,List.set_cons_succ]
   refine wpAnyH_take (i:=10) (v:=?_) rfl (by kernel_rfl) (by kernel_rfl) (by kernel_rfl) (fun _ _ _ h=>h) (Or.inl ⟨by rfl, ?_⟩) (by assumption) ?_
   rotate_left
   ·(intro w hSw;have:=hSw ⟨wc.heap.size + 1,1,none⟩ (.int .u8 5) ((bE (heap_alloc2_new wc _ _) 1).trans rfl);go_simp;(try with_reducible rfl))
   try simp only [Act.put,List.getElem_toArray,List.getElem_cons_succ,List.getElem_cons_zero,List.setIfInBounds_toArray,List.set_cons_zero,List.set_cons_succ]
   refine wpAnyH_ready (rs:=[22]) (by kernel_rfl) (by simp) ?_
   refine AllReadyH.cons rfl (fun K hK=>?_) AllReadyH.nil
   go_simp
   go_at_call 17
   refine (fK 5 _ _ _ _).mono ?_
   rintro e w1 ⟨rfl,b1⟩
   have BX : Below wc.heap.size wc w1:=aG (((Below.refl _ _).alloc (Nat.le_refl _) _).alloc (by simp) _).drew b1
   have KX:=aA b1
   have hm:=HM.out
   have hL:=HNN.out
   obtain ⟨hF,hG⟩:=HF.out
   have hst : cI (bAt l k) xx = (bAt l k).take M ++ [.mk 5 [] [] [F,G]]:=by rw [← hF,← hG];simp [cI,hm,hL]
   have hh : w1.heap[wc.heap.size]? = some (.cells #[.int .u8 F.op,str F.name,.slice ea en ec,.slice eb em ed,.int .u8 G.op,str G.name,.slice fa fn fc,.slice fb fm fd] 40 (0,0)):=kc b1 (kd (heap_alloc2_old _ _ _))
   obtain ⟨olds,o1,o2,fin⟩:=lU HS.out HXX.out hL BX EL.out.1 EL.out.2 hh (by omega) hst
   have OL:=Lib.hid (And.intro o1 o2)
   have FIN:=Lib.hid fin
   clear o1 o2 fin hh hm hL hF hG hst
   go_simp
   refine hK.out _ _ KX (fun hHeld4=>?_)
   clear hK K
   try simp only [Act.put,List.setIfInBounds_toArray,List.set_cons_zero,List.set_cons_succ]
   refine dM hHeld4 (fun hHeld5=>?_)
   refine wpAnyH_ready (rs:=[23]) (by kernel_rfl) (by simp) ?_
   refine AllReadyH.cons rfl (fun K hK=>?_) AllReadyH.nil
   go_simp
   refine hK.out _ _ (by exact aA ((Below.refl _ _).alloc (Nat.le_refl _) _)) (fun hHeld6=>?_)
   clear hK K
   try simp only [Act.put,List.setIfInBounds_toArray,List.set_cons_zero,List.set_cons_succ]
   refine wpAnyH_ready (rs:=[24]) (by kernel_rfl) (by simp) ?_
   refine AllReadyH.cons rfl (fun K hK=>?_) AllReadyH.nil
   refine step_append_grows rfl _ _ 24 rfl 40 i0 _ 4 72 Tryz.underlying24 hi0 hz0 hs0 hb0 rfl (by decide) (some ⟨g,0,none⟩) M M olds (by rfl) (by intro h;cases h) OL.out.1 OL.out.2 ⟨w1.heap.size,0,none⟩ 1 1 _ (by rfl) rfl (fH _ _ _ _ _ _) cM (by omega) (by unfold maxLen;omega) (by omega) ?_
   intro v5 w5 h5 hg5
   have F5:=Lib.hid (FIN.out v5 w5 h5 hg5)
   refine hK.out _ _ (by exact bI.trans (aA ((Below.refl _ _).alloc (Nat.le_refl _) _)) (fun p u hu=>hg5.cell hu (by simp))) (fun hHeld7=>?_)
   clear hK K h5 hg5
   try simp only [Act.put,List.getElem_toArray,List.getElem_cons_succ,List.getElem_cons_zero,List.setIfInBounds_toArray,List.set_cons_zero,List.set_cons_succ]
   refine wpAnyH_take (i:=25) (v:=?_) rfl (by kernel_rfl) (by kernel_rfl) (by kernel_rfl) (fun _ _ _ h=>h) (Or.inl ⟨by rfl, ?_⟩) (by assumption) ?_
   rotate_left
   ·(intro w hSw;go_simp;(try with_reducible rfl))
   try simp only [Act.put,List.getElem_toArray,List.getElem_cons_succ,List.getElem_cons_zero,List.setIfInBounds_toArray,List.set_cons_zero,List.set_cons_succ]
   refine wpAnyH_done (by kernel_rfl) ?_ _
   go_wp2_with fail
   exact HK.out _ _ (by unfold R20;exact ⟨_,_,_,_,_,_,_,_,_,_,_,_,_,_,_,_,_,_,_,_,_,_,_,_,_,_,_,_,_,_,_,_,_,_,_,_,_,_,_,_,_,_,_,_,_,_,_,_,_,_,_,_,_,_,_,_,_,_,_,_,_,_,_,_,_,_,_,_,_,_,_,_,_,_,_,_,_,_,_,_,_,_,_,_,_,_,_,_,_,_,_,_,_,_,_,_,_,_,_,_,_,_,_,_,_,_,_,_,_,_,_,_,_,_,_,_,_,_,_,_,_,_,_,_,_,_,_,_,_,_,_,_,_,_,_,_,_,_,_,_,_,_,_,_,_,_,_,_,_,_,_,_,_,_,_,_,_,_,_,_,_,_,_,_,_,_,_,⟨rfl,rfl,F5.out⟩,rfl⟩)
end Go.Proofs.YtppfalbnhnpbnaaGreatDoor
