/- lyceumlaw30.Built: rounds of its loop, by the byte modulo 12: 0, 1. Conditions: those at the loop's head. -/
import Derived.Test.YtppfalbnhnpbnaaGreatDoorKyAC
set_option linter.unusedSimpArgs false
set_option linter.unusedVariables false
namespace Go.Proofs.YtppfalbnhnpbnaaGreatDoor
open Go Go.RowKit Ly
set_option maxRecDepth 10000
set_option maxHeartbeats 2000000
attribute [local go_sem ↓] Go.wp_at_zero Go.wp_at_succ
set_option maxRecDepth 100000 in
set_option maxHeartbeats 16000000 in
theorem round20_0 (l : Bs) (b off n c k N sc xx : Nat) (x : UInt8) (sa : Option Addr) (w wr : World) (u5 u6 u7 u10 u11 u12 u13 u14 u15 u16 u17 u18 u19 u20 u21 u22 u23 u24 u25 u26 u27 u28 u29 u30 u31 u32 u33 u34 u35 u36 u37 u38 u39 u40 u41 u42 u43 u44 u45 u46 u47 u48 u49 u50 u51 u52 u53 u54 u55 u56 u57 u58 u59 u60 u61 u62 u63 u64 u65 u66 u67 u68 u69 u70 u71 u72 u73 u74 u75 u76 u77 u78 u79 u80 u81 u82 u83 u84 u85 u86 u87 u88 u89 u90 u91 u92 u93 u94 u95 u96 u97 u98 u99 u100 u101 u102 u103 u104 u105 u106 u107 u108 u109 u110 u111 u112 u113 u114 u115 u116 u117 u118 u119 u120 u121 u122 u123 u124 u125 u126 u127 u128 u129 u130 u131 u132 u133 u134 u135 u136 u137 u138 u139 u140 u141 u142 u143 u144 u145 u146 u147 u148 u149 u150 u151 u152 u153 u154 u155 u156 u157 u158 u159 u160 u161 u162 u163 u164 u165 u166 u167 u168 u169 u170 : Value) (K' : Act → World → Prop) (HK : Hid (∀ a' w',R20 w l k b off n c a' w' → K' a' w'))
  (hlen : n ≤ 9223372036854775807) (hk3 : k < n) (hk4 : k < 20) (HCELL : Hid (∀ (i : Nat) (y : UInt8),l[i]? = some y → w.cell? ⟨b,off + i,none⟩ = some (.int .u8 y.toNat))) (hs : Hid (BRel w l k (.slice sa N sc) wr)) (HNN : Hid ((bAt l k).length = N)) (HXX : Hid (l[k]? = some x ∧ x.toNat = xx)) (x1 : xx < 256) (HSC : Hid (sc ≤ maxLen)) (hN : N ≤ k) (hm : xx % 12 = 0) :
  Code.wp Tryz.prog kM (Exit.then K' fun _ _ _=>False) ⟨List.toArray ((.slice (some ⟨b,off,none⟩) n c) :: undef :: (one w.heap.size) :: (.slice sa N sc) :: (.int .i64 k) :: u5 :: u6 :: u7 :: undef :: undef :: u10 :: u11 :: u12 :: u13 :: u14 :: u15 :: u16 :: u17 :: u18 :: u19 :: u20 :: u21 :: u22 :: u23 :: u24 :: u25 :: u26 :: u27 :: u28 :: u29 :: u30 :: u31 :: u32 :: u33 :: u34 :: u35 :: u36 :: u37 :: u38 :: u39 :: u40 :: u41 :: u42 :: u43 :: u44 :: u45 :: u46 :: u47 :: u48 :: u49 :: u50 :: u51 :: u52 :: u53 :: u54 :: u55 :: u56 :: u57 :: u58 :: u59 :: u60 :: u61 :: u62 :: u63 :: u64 :: u65 :: u66 :: u67 :: u68 :: u69 :: u70 :: u71 :: u72 :: u73 :: u74 :: u75 :: u76 :: u77 :: u78 :: u79 :: u80 :: u81 :: u82 :: u83 :: u84 :: u85 :: u86 :: u87 :: u88 :: u89 :: u90 :: u91 :: u92 :: u93 :: u94 :: u95 :: u96 :: u97 :: u98 :: u99 :: u100 :: u101 :: u102 :: u103 :: u104 :: u105 :: u106 :: u107 :: u108 :: u109 :: u110 :: u111 :: u112 :: u113 :: u114 :: u115 :: u116 :: u117 :: u118 :: u119 :: u120 :: u121 :: u122 :: u123 :: u124 :: u125 :: u126 :: u127 :: u128 :: u129 :: u130 :: u131 :: u132 :: u133 :: u134 :: u135 :: u136 :: u137 :: u138 :: u139 :: u140 :: u141 :: u142 :: u143 :: u144 :: u145 :: u146 :: u147 :: u148 :: u149 :: u150 :: u151 :: u152 :: u153 :: u154 :: u155 :: u156 :: u157 :: u158 :: u159 :: u160 :: u161 :: u162 :: u163 :: u164 :: u165 :: u166 :: u167 :: u168 :: u169 :: u170 :: undef :: undef :: undef :: undef :: undef :: undef :: undef :: undef :: undef :: undef :: undef :: undef :: undef :: undef :: undef :: undef :: undef :: undef :: undef :: undef :: undef :: []),[]⟩ wr:=by
 obtain ⟨i0,hi0,hz0,hs0,hb0⟩:=info_parts dV
 have c0 : wr.cell? ⟨b,off + k,none⟩ = some (.int .u8 xx):=by rw [← HXX.out.2];exact aA hs.out.bw _ _ (HCELL.out k x HXX.out.1)
 have x0 : (0 : Int) ≤ xx:=by omega
 have x2 : (xx : Int) < 256:=by omega
 have k0 : (0 : Int) ≤ k:=by omega
 have k1 : (k : Int) < n:=by omega
 have N20 : N ≤ 20:=by omega
 have HM0:=Lib.hid hm
 clear hm
 conv=>arg 2;whnf
 go_upto_region 5 with fail
 go_cut [5,6] from 20 to 26 (fun u5 u6 wx=>∃ qz : Int,u5 = .int .i64 N ∧ u6 = .int .u8 qz ∧ Hid (qz = ((xx / 12 : Nat) : Int)) ∧ Hid (BRel w l k (.slice sa N sc) wx))
 case first =>
  go_quiet (fail)
  go_wp2_with fail
  go_meet
  exact ⟨_,rfl,rfl,by simp [Hid],hs.out.drewN _⟩
 case rest =>
 obtain ⟨qz,rfl,rfl,HQ,HS⟩:=hcut
 have c0 : wc.cell? ⟨b,off + k,none⟩ = some (.int .u8 xx):=by rw [← HXX.out.2];exact aA HS.out.bw _ _ (HCELL.out k x HXX.out.1)
 clear hs
 go_upto_region 6 with fail
 go_cut [7] from 27 to 31 (fun u7 wx=>∃ oz : Int,u7 = .int .u8 oz ∧ Hid (oz = ((xx % 12 : Nat) : Int)) ∧ Hid (BRel w l k (.slice sa N sc) wx))
 case first =>
  go_wp2_with fail
  go_meet
  exact ⟨_,rfl,by simp [Hid],HS.out⟩
 case rest =>
 obtain ⟨oz,rfl,HO,HS⟩:=hcut
 clear c0
 have hm:=HM0.out
 obtain rfl : oz = 0:=by rw [HO.out,hm];rfl
 have HM:=Lib.hid hm
 clear hm
 have q0 : 0 ≤ qz:=by rw [HQ.out];omega
 have q1 : qz ≤ 21:=by rw [HQ.out];omega
 rcases (show xx / 12 % 3 = 0 ∨ xx / 12 % 3 = 1 ∨ xx / 12 % 3 = 2 by omega) with hj | hj | hj
 ·have z1 : qz % 3 = 0:=by rw [HQ.out];omega
  have z2 : qz.tmod 3 = 0:=by rw [Int.tmod_eq_emod_of_nonneg q0];exact z1
  have HJ:=Lib.hid hj
  clear hj
  go_wp2_with (first
   | (go_at_call 18;refine (dR [80] _ _ _ _).mono ?_;rintro e w1 ⟨rfl,b1⟩;have hm:=HM.out;have hj:=HJ.out;obtain ⟨xs,ow,fin⟩:=dH (fm:=.mk 1 [80] [] []) (a:=none) (n:=0) (c:=0) (b:=none) (m:=0) (d:=0) HS.out HXX.out (bV b1) (by simp [cI,hm,hj,iD,nmP]) (At.sl_nil (Nat.zero_le _)) (At.sl_nil (Nat.zero_le _));rw [HNN.out] at ow fin;have OW:=Lib.hid ow;have FIN:=Lib.hid fin;clear ow fin;have SZ : Hid (w.heap.size + 1 ≤ w1.heap.size):=Nat.le_trans (Array.getElem?_eq_some_iff.1 HS.out.res).1 (bV b1).size;clear hm hj)
   | (at_builtin;refine wpList_append_own_at _ rfl _ _ 24 rfl (w.heap.size + 1) 40 i0 (.agg #[.int .u8 0,.string ⟨#[]⟩,.slice none 0 0,.slice none 0 0]) 4 72 Tryz.underlying24 hi0 hz0 hs0 hb0 rfl (by decide) _ N xs rfl OW.out ⟨w1.heap.size,0,none⟩ 1 1 [.int .u8 1,str [80],.slice none 0 0,.slice none 0 0] rfl rfl (fH _ _ _ _ _ _) cM (by unfold maxLen;omega) (by omega) (by have:=SZ.out;simp;omega) ?_;intro v5 w5 hown5 hg5 _ hat5;have F5:=Lib.hid (FIN.out v5 w5 hown5 hg5 hat5);clear hown5 hg5 hat5))
  exact HK.out _ _ (by unfold R20;exact ⟨_,_,_,_,_,_,_,_,_,_,_,_,_,_,_,_,_,_,_,_,_,_,_,_,_,_,_,_,_,_,_,_,_,_,_,_,_,_,_,_,_,_,_,_,_,_,_,_,_,_,_,_,_,_,_,_,_,_,_,_,_,_,_,_,_,_,_,_,_,_,_,_,_,_,_,_,_,_,_,_,_,_,_,_,_,_,_,_,_,_,_,_,_,_,_,_,_,_,_,_,_,_,_,_,_,_,_,_,_,_,_,_,_,_,_,_,_,_,_,_,_,_,_,_,_,_,_,_,_,_,_,_,_,_,_,_,_,_,_,_,_,_,_,_,_,_,_,_,_,_,_,_,_,_,_,_,_,_,_,_,_,_,_,_,_,_,_,⟨rfl,rfl,F5.out⟩,rfl⟩)
 ·have z1 : qz % 3 = 1:=by rw [HQ.out];omega
  have z2 : qz.tmod 3 = 1:=by rw [Int.tmod_eq_emod_of_nonneg q0];exact z1
  have HJ:=Lib.hid hj
  clear hj
  go_wp2_with (first
   | (go_at_call 18;refine (dR [81] _ _ _ _).mono ?_;rintro e w1 ⟨rfl,b1⟩;have hm:=HM.out;have hj:=HJ.out;obtain ⟨xs,ow,fin⟩:=dH (fm:=.mk 1 [81] [] []) (a:=none) (n:=0) (c:=0) (b:=none) (m:=0) (d:=0) HS.out HXX.out (bV b1) (by simp [cI,hm,hj,iD,nmQ]) (At.sl_nil (Nat.zero_le _)) (At.sl_nil (Nat.zero_le _));rw [HNN.out] at ow fin;have OW:=Lib.hid ow;have FIN:=Lib.hid fin;clear ow fin;have SZ : Hid (w.heap.size + 1 ≤ w1.heap.size):=Nat.le_trans (Array.getElem?_eq_some_iff.1 HS.out.res).1 (bV b1).size;clear hm hj)
   | (at_builtin;refine wpList_append_own_at _ rfl _ _ 24 rfl (w.heap.size + 1) 40 i0 (.agg #[.int .u8 0,.string ⟨#[]⟩,.slice none 0 0,.slice none 0 0]) 4 72 Tryz.underlying24 hi0 hz0 hs0 hb0 rfl (by decide) _ N xs rfl OW.out ⟨w1.heap.size,0,none⟩ 1 1 [.int .u8 1,str [81],.slice none 0 0,.slice none 0 0] rfl rfl (fH _ _ _ _ _ _) cM (by unfold maxLen;omega) (by omega) (by have:=SZ.out;simp;omega) ?_;intro v5 w5 hown5 hg5 _ hat5;have F5:=Lib.hid (FIN.out v5 w5 hown5 hg5 hat5);clear hown5 hg5 hat5))
  exact HK.out _ _ (by unfold R20;exact ⟨_,_,_,_,_,_,_,_,_,_,_,_,_,_,_,_,_,_,_,_,_,_,_,_,_,_,_,_,_,_,_,_,_,_,_,_,_,_,_,_,_,_,_,_,_,_,_,_,_,_,_,_,_,_,_,_,_,_,_,_,_,_,_,_,_,_,_,_,_,_,_,_,_,_,_,_,_,_,_,_,_,_,_,_,_,_,_,_,_,_,_,_,_,_,_,_,_,_,_,_,_,_,_,_,_,_,_,_,_,_,_,_,_,_,_,_,_,_,_,_,_,_,_,_,_,_,_,_,_,_,_,_,_,_,_,_,_,_,_,_,_,_,_,_,_,_,_,_,_,_,_,_,_,_,_,_,_,_,_,_,_,_,_,_,_,_,_,⟨rfl,rfl,F5.out⟩,rfl⟩)
 ·have z1 : qz % 3 = 2:=by rw [HQ.out];omega
  have z2 : qz.tmod 3 = 2:=by rw [Int.tmod_eq_emod_of_nonneg q0];exact z1
  have HJ:=Lib.hid hj
  clear hj
  go_wp2_with (first
   | (go_at_call 18;refine (dR [82] _ _ _ _).mono ?_;rintro e w1 ⟨rfl,b1⟩;have hm:=HM.out;have hj:=HJ.out;obtain ⟨xs,ow,fin⟩:=dH (fm:=.mk 1 [82] [] []) (a:=none) (n:=0) (c:=0) (b:=none) (m:=0) (d:=0) HS.out HXX.out (bV b1) (by simp [cI,hm,hj,iD,nmR]) (At.sl_nil (Nat.zero_le _)) (At.sl_nil (Nat.zero_le _));rw [HNN.out] at ow fin;have OW:=Lib.hid ow;have FIN:=Lib.hid fin;clear ow fin;have SZ : Hid (w.heap.size + 1 ≤ w1.heap.size):=Nat.le_trans (Array.getElem?_eq_some_iff.1 HS.out.res).1 (bV b1).size;clear hm hj)
   | (at_builtin;refine wpList_append_own_at _ rfl _ _ 24 rfl (w.heap.size + 1) 40 i0 (.agg #[.int .u8 0,.string ⟨#[]⟩,.slice none 0 0,.slice none 0 0]) 4 72 Tryz.underlying24 hi0 hz0 hs0 hb0 rfl (by decide) _ N xs rfl OW.out ⟨w1.heap.size,0,none⟩ 1 1 [.int .u8 1,str [82],.slice none 0 0,.slice none 0 0] rfl rfl (fH _ _ _ _ _ _) cM (by unfold maxLen;omega) (by omega) (by have:=SZ.out;simp;omega) ?_;intro v5 w5 hown5 hg5 _ hat5;have F5:=Lib.hid (FIN.out v5 w5 hown5 hg5 hat5);clear hown5 hg5 hat5))
  exact HK.out _ _ (by unfold R20;exact ⟨_,_,_,_,_,_,_,_,_,_,_,_,_,_,_,_,_,_,_,_,_,_,_,_,_,_,_,_,_,_,_,_,_,_,_,_,_,_,_,_,_,_,_,_,_,_,_,_,_,_,_,_,_,_,_,_,_,_,_,_,_,_,_,_,_,_,_,_,_,_,_,_,_,_,_,_,_,_,_,_,_,_,_,_,_,_,_,_,_,_,_,_,_,_,_,_,_,_,_,_,_,_,_,_,_,_,_,_,_,_,_,_,_,_,_,_,_,_,_,_,_,_,_,_,_,_,_,_,_,_,_,_,_,_,_,_,_,_,_,_,_,_,_,_,_,_,_,_,_,_,_,_,_,_,_,_,_,_,_,_,_,_,_,_,_,_,_,⟨rfl,rfl,F5.out⟩,rfl⟩)
attribute [local go_sem ↓] Go.wp_at_zero Go.wp_at_succ
set_option maxRecDepth 100000 in
set_option maxHeartbeats 16000000 in
theorem round20_1 (l : Bs) (b off n c k N sc xx : Nat) (x : UInt8) (sa : Option Addr) (w wr : World) (u5 u6 u7 u10 u11 u12 u13 u14 u15 u16 u17 u18 u19 u20 u21 u22 u23 u24 u25 u26 u27 u28 u29 u30 u31 u32 u33 u34 u35 u36 u37 u38 u39 u40 u41 u42 u43 u44 u45 u46 u47 u48 u49 u50 u51 u52 u53 u54 u55 u56 u57 u58 u59 u60 u61 u62 u63 u64 u65 u66 u67 u68 u69 u70 u71 u72 u73 u74 u75 u76 u77 u78 u79 u80 u81 u82 u83 u84 u85 u86 u87 u88 u89 u90 u91 u92 u93 u94 u95 u96 u97 u98 u99 u100 u101 u102 u103 u104 u105 u106 u107 u108 u109 u110 u111 u112 u113 u114 u115 u116 u117 u118 u119 u120 u121 u122 u123 u124 u125 u126 u127 u128 u129 u130 u131 u132 u133 u134 u135 u136 u137 u138 u139 u140 u141 u142 u143 u144 u145 u146 u147 u148 u149 u150 u151 u152 u153 u154 u155 u156 u157 u158 u159 u160 u161 u162 u163 u164 u165 u166 u167 u168 u169 u170 : Value) (K' : Act → World → Prop) (HK : Hid (∀ a' w',R20 w l k b off n c a' w' → K' a' w'))
  (hlen : n ≤ 9223372036854775807) (hk3 : k < n) (hk4 : k < 20) (HCELL : Hid (∀ (i : Nat) (y : UInt8),l[i]? = some y → w.cell? ⟨b,off + i,none⟩ = some (.int .u8 y.toNat))) (hs : Hid (BRel w l k (.slice sa N sc) wr)) (HNN : Hid ((bAt l k).length = N)) (HXX : Hid (l[k]? = some x ∧ x.toNat = xx)) (x1 : xx < 256) (HSC : Hid (sc ≤ maxLen)) (hN : N ≤ k) (hm : xx % 12 = 1) :
  Code.wp Tryz.prog kM (Exit.then K' fun _ _ _=>False) ⟨List.toArray ((.slice (some ⟨b,off,none⟩) n c) :: undef :: (one w.heap.size) :: (.slice sa N sc) :: (.int .i64 k) :: u5 :: u6 :: u7 :: undef :: undef :: u10 :: u11 :: u12 :: u13 :: u14 :: u15 :: u16 :: u17 :: u18 :: u19 :: u20 :: u21 :: u22 :: u23 :: u24 :: u25 :: u26 :: u27 :: u28 :: u29 :: u30 :: u31 :: u32 :: u33 :: u34 :: u35 :: u36 :: u37 :: u38 :: u39 :: u40 :: u41 :: u42 :: u43 :: u44 :: u45 :: u46 :: u47 :: u48 :: u49 :: u50 :: u51 :: u52 :: u53 :: u54 :: u55 :: u56 :: u57 :: u58 :: u59 :: u60 :: u61 :: u62 :: u63 :: u64 :: u65 :: u66 :: u67 :: u68 :: u69 :: u70 :: u71 :: u72 :: u73 :: u74 :: u75 :: u76 :: u77 :: u78 :: u79 :: u80 :: u81 :: u82 :: u83 :: u84 :: u85 :: u86 :: u87 :: u88 :: u89 :: u90 :: u91 :: u92 :: u93 :: u94 :: u95 :: u96 :: u97 :: u98 :: u99 :: u100 :: u101 :: u102 :: u103 :: u104 :: u105 :: u106 :: u107 :: u108 :: u109 :: u110 :: u111 :: u112 :: u113 :: u114 :: u115 :: u116 :: u117 :: u118 :: u119 :: u120 :: u121 :: u122 :: u123 :: u124 :: u125 :: u126 :: u127 :: u128 :: u129 :: u130 :: u131 :: u132 :: u133 :: u134 :: u135 :: u136 :: u137 :: u138 :: u139 :: u140 :: u141 :: u142 :: u143 :: u144 :: u145 :: u146 :: u147 :: u148 :: u149 :: u150 :: u151 :: u152 :: u153 :: u154 :: u155 :: u156 :: u157 :: u158 :: u159 :: u160 :: u161 :: u162 :: u163 :: u164 :: u165 :: u166 :: u167 :: u168 :: u169 :: u170 :: undef :: undef :: undef :: undef :: undef :: undef :: undef :: undef :: undef :: undef :: undef :: undef :: undef :: undef :: undef :: undef :: undef :: undef :: undef :: undef :: undef :: []),[]⟩ wr:=by
 obtain ⟨i0,hi0,hz0,hs0,hb0⟩:=info_parts dV
 have c0 : wr.cell? ⟨b,off + k,none⟩ = some (.int .u8 xx):=by rw [← HXX.out.2];exact aA hs.out.bw _ _ (HCELL.out k x HXX.out.1)
 have x0 : (0 : Int) ≤ xx:=by omega
 have x2 : (xx : Int) < 256:=by omega
 have k0 : (0 : Int) ≤ k:=by omega
 have k1 : (k : Int) < n:=by omega
 have N20 : N ≤ 20:=by omega
 have HM0:=Lib.hid hm
 clear hm
 conv=>arg 2;whnf
 go_upto_region 5 with fail
 go_cut [5,6] from 20 to 26 (fun u5 u6 wx=>∃ qz : Int,u5 = .int .i64 N ∧ u6 = .int .u8 qz ∧ Hid (qz = ((xx / 12 : Nat) : Int)) ∧ Hid (BRel w l k (.slice sa N sc) wx))
 case first =>
  go_quiet (fail)
  go_wp2_with fail
  go_meet
  exact ⟨_,rfl,rfl,by simp [Hid],hs.out.drewN _⟩
 case rest =>
 obtain ⟨qz,rfl,rfl,HQ,HS⟩:=hcut
 have c0 : wc.cell? ⟨b,off + k,none⟩ = some (.int .u8 xx):=by rw [← HXX.out.2];exact aA HS.out.bw _ _ (HCELL.out k x HXX.out.1)
 clear hs
 go_upto_region 6 with fail
 go_cut [7] from 27 to 31 (fun u7 wx=>∃ oz : Int,u7 = .int .u8 oz ∧ Hid (oz = ((xx % 12 : Nat) : Int)) ∧ Hid (BRel w l k (.slice sa N sc) wx))
 case first =>
  go_wp2_with fail
  go_meet
  exact ⟨_,rfl,by simp [Hid],HS.out⟩
 case rest =>
 obtain ⟨oz,rfl,HO,HS⟩:=hcut
 clear c0
 have hm:=HM0.out
 obtain rfl : oz = 1:=by rw [HO.out,hm];rfl
 have HM:=Lib.hid hm
 clear hm
 have q0 : 0 ≤ qz:=by rw [HQ.out];omega
 have q1 : qz ≤ 21:=by rw [HQ.out];omega
 rcases (show xx / 12 % 3 = 0 ∨ xx / 12 % 3 = 1 ∨ xx / 12 % 3 = 2 by omega) with hj | hj | hj
 ·have z1 : qz % 3 = 0:=by rw [HQ.out];omega
  have z2 : qz.tmod 3 = 0:=by rw [Int.tmod_eq_emod_of_nonneg q0];exact z1
  have HJ:=Lib.hid hj
  clear hj
  go_wp2_with (first
   | (go_at_call 18;refine (dR [80] _ _ _ _).mono ?_;rintro e w1 ⟨rfl,b1⟩;have hm:=HM.out;have hj:=HJ.out;obtain ⟨xs,ow,fin⟩:=dH (fm:=.mk 1 [80] [] []) (a:=none) (n:=0) (c:=0) (b:=none) (m:=0) (d:=0) HS.out HXX.out (bV b1) (by simp [cI,hm,hj,iD,nmP]) (At.sl_nil (Nat.zero_le _)) (At.sl_nil (Nat.zero_le _));rw [HNN.out] at ow fin;have OW:=Lib.hid ow;have FIN:=Lib.hid fin;clear ow fin;have SZ : Hid (w.heap.size + 1 ≤ w1.heap.size):=Nat.le_trans (Array.getElem?_eq_some_iff.1 HS.out.res).1 (bV b1).size;clear hm hj)
   | (at_builtin;refine wpList_append_own_at _ rfl _ _ 24 rfl (w.heap.size + 1) 40 i0 (.agg #[.int .u8 0,.string ⟨#[]⟩,.slice none 0 0,.slice none 0 0]) 4 72 Tryz.underlying24 hi0 hz0 hs0 hb0 rfl (by decide) _ N xs rfl OW.out ⟨w1.heap.size,0,none⟩ 1 1 [.int .u8 1,str [80],.slice none 0 0,.slice none 0 0] rfl rfl (fH _ _ _ _ _ _) cM (by unfold maxLen;omega) (by omega) (by have:=SZ.out;simp;omega) ?_;intro v5 w5 hown5 hg5 _ hat5;have F5:=Lib.hid (FIN.out v5 w5 hown5 hg5 hat5);clear hown5 hg5 hat5))
  exact HK.out _ _ (by unfold R20;exact ⟨_,_,_,_,_,_,_,_,_,_,_,_,_,_,_,_,_,_,_,_,_,_,_,_,_,_,_,_,_,_,_,_,_,_,_,_,_,_,_,_,_,_,_,_,_,_,_,_,_,_,_,_,_,_,_,_,_,_,_,_,_,_,_,_,_,_,_,_,_,_,_,_,_,_,_,_,_,_,_,_,_,_,_,_,_,_,_,_,_,_,_,_,_,_,_,_,_,_,_,_,_,_,_,_,_,_,_,_,_,_,_,_,_,_,_,_,_,_,_,_,_,_,_,_,_,_,_,_,_,_,_,_,_,_,_,_,_,_,_,_,_,_,_,_,_,_,_,_,_,_,_,_,_,_,_,_,_,_,_,_,_,_,_,_,_,_,_,⟨rfl,rfl,F5.out⟩,rfl⟩)
 ·have z1 : qz % 3 = 1:=by rw [HQ.out];omega
  have z2 : qz.tmod 3 = 1:=by rw [Int.tmod_eq_emod_of_nonneg q0];exact z1
  have HJ:=Lib.hid hj
  clear hj
  go_wp2_with (first
   | (go_at_call 18;refine (dR [81] _ _ _ _).mono ?_;rintro e w1 ⟨rfl,b1⟩;have hm:=HM.out;have hj:=HJ.out;obtain ⟨xs,ow,fin⟩:=dH (fm:=.mk 1 [81] [] []) (a:=none) (n:=0) (c:=0) (b:=none) (m:=0) (d:=0) HS.out HXX.out (bV b1) (by simp [cI,hm,hj,iD,nmQ]) (At.sl_nil (Nat.zero_le _)) (At.sl_nil (Nat.zero_le _));rw [HNN.out] at ow fin;have OW:=Lib.hid ow;have FIN:=Lib.hid fin;clear ow fin;have SZ : Hid (w.heap.size + 1 ≤ w1.heap.size):=Nat.le_trans (Array.getElem?_eq_some_iff.1 HS.out.res).1 (bV b1).size;clear hm hj)
   | (at_builtin;refine wpList_append_own_at _ rfl _ _ 24 rfl (w.heap.size + 1) 40 i0 (.agg #[.int .u8 0,.string ⟨#[]⟩,.slice none 0 0,.slice none 0 0]) 4 72 Tryz.underlying24 hi0 hz0 hs0 hb0 rfl (by decide) _ N xs rfl OW.out ⟨w1.heap.size,0,none⟩ 1 1 [.int .u8 1,str [81],.slice none 0 0,.slice none 0 0] rfl rfl (fH _ _ _ _ _ _) cM (by unfold maxLen;omega) (by omega) (by have:=SZ.out;simp;omega) ?_;intro v5 w5 hown5 hg5 _ hat5;have F5:=Lib.hid (FIN.out v5 w5 hown5 hg5 hat5);clear hown5 hg5 hat5))
  exact HK.out _ _ (by unfold R20;exact ⟨_,_,_,_,_,_,_,_,_,_,_,_,_,_,_,_,_,_,_,_,_,_,_,_,_,_,_,_,_,_,_,_,_,_,_,_,_,_,_,_,_,_,_,_,_,_,_,_,_,_,_,_,_,_,_,_,_,_,_,_,_,_,_,_,_,_,_,_,_,_,_,_,_,_,_,_,_,_,_,_,_,_,_,_,_,_,_,_,_,_,_,_,_,_,_,_,_,_,_,_,_,_,_,_,_,_,_,_,_,_,_,_,_,_,_,_,_,_,_,_,_,_,_,_,_,_,_,_,_,_,_,_,_,_,_,_,_,_,_,_,_,_,_,_,_,_,_,_,_,_,_,_,_,_,_,_,_,_,_,_,_,_,_,_,_,_,_,⟨rfl,rfl,F5.out⟩,rfl⟩)
 ·have z1 : qz % 3 = 2:=by rw [HQ.out];omega
  have z2 : qz.tmod 3 = 2:=by rw [Int.tmod_eq_emod_of_nonneg q0];exact z1
  have HJ:=Lib.hid hj
  clear hj
  go_wp2_with (first
   | (go_at_call 18;refine (dR [82] _ _ _ _).mono ?_;rintro e w1 ⟨rfl,b1⟩;have hm:=HM.out;have hj:=HJ.out;obtain ⟨xs,ow,fin⟩:=dH (fm:=.mk 1 [82] [] []) (a:=none) (n:=0) (c:=0) (b:=none) (m:=0) (d:=0) HS.out HXX.out (bV b1) (by simp [cI,hm,hj,iD,nmR]) (At.sl_nil (Nat.zero_le _)) (At.sl_nil (Nat.zero_le _));rw [HNN.out] at ow fin;have OW:=Lib.hid ow;have FIN:=Lib.hid fin;clear ow fin;have SZ : Hid (w.heap.size + 1 ≤ w1.heap.size):=Nat.le_trans (Array.getElem?_eq_some_iff.1 HS.out.res).1 (bV b1).size;clear hm hj)
   | (at_builtin;refine wpList_append_own_at _ rfl _ _ 24 rfl (w.heap.size + 1) 40 i0 (.agg #[.int .u8 0,.string ⟨#[]⟩,.slice none 0 0,.slice none 0 0]) 4 72 Tryz.underlying24 hi0 hz0 hs0 hb0 rfl (by decide) _ N xs rfl OW.out ⟨w1.heap.size,0,none⟩ 1 1 [.int .u8 1,str [82],.slice none 0 0,.slice none 0 0] rfl rfl (fH _ _ _ _ _ _) cM (by unfold maxLen;omega) (by omega) (by have:=SZ.out;simp;omega) ?_;intro v5 w5 hown5 hg5 _ hat5;have F5:=Lib.hid (FIN.out v5 w5 hown5 hg5 hat5);clear hown5 hg5 hat5))
  exact HK.out _ _ (by unfold R20;exact ⟨_,_,_,_,_,_,_,_,_,_,_,_,_,_,_,_,_,_,_,_,_,_,_,_,_,_,_,_,_,_,_,_,_,_,_,_,_,_,_,_,_,_,_,_,_,_,_,_,_,_,_,_,_,_,_,_,_,_,_,_,_,_,_,_,_,_,_,_,_,_,_,_,_,_,_,_,_,_,_,_,_,_,_,_,_,_,_,_,_,_,_,_,_,_,_,_,_,_,_,_,_,_,_,_,_,_,_,_,_,_,_,_,_,_,_,_,_,_,_,_,_,_,_,_,_,_,_,_,_,_,_,_,_,_,_,_,_,_,_,_,_,_,_,_,_,_,_,_,_,_,_,_,_,_,_,_,_,_,_,_,_,_,_,_,_,_,_,⟨rfl,rfl,F5.out⟩,rfl⟩)
end Go.Proofs.YtppfalbnhnpbnaaGreatDoor
namespace Go.Proofs.YtppfalbnhnpbnaaGreatDoor
open Go Go.RowKit Ly
set_option maxRecDepth 10000
set_option maxHeartbeats 2000000
attribute [local go_sem ↓] Go.wp_at_zero Go.wp_at_succ
set_option maxRecDepth 100000 in
set_option maxHeartbeats 16000000 in
theorem round20_2 (l : Bs) (b off n c k N sc xx : Nat) (x : UInt8) (sa : Option Addr) (w wr : World) (u5 u6 u7 u10 u11 u12 u13 u14 u15 u16 u17 u18 u19 u20 u21 u22 u23 u24 u25 u26 u27 u28 u29 u30 u31 u32 u33 u34 u35 u36 u37 u38 u39 u40 u41 u42 u43 u44 u45 u46 u47 u48 u49 u50 u51 u52 u53 u54 u55 u56 u57 u58 u59 u60 u61 u62 u63 u64 u65 u66 u67 u68 u69 u70 u71 u72 u73 u74 u75 u76 u77 u78 u79 u80 u81 u82 u83 u84 u85 u86 u87 u88 u89 u90 u91 u92 u93 u94 u95 u96 u97 u98 u99 u100 u101 u102 u103 u104 u105 u106 u107 u108 u109 u110 u111 u112 u113 u114 u115 u116 u117 u118 u119 u120 u121 u122 u123 u124 u125 u126 u127 u128 u129 u130 u131 u132 u133 u134 u135 u136 u137 u138 u139 u140 u141 u142 u143 u144 u145 u146 u147 u148 u149 u150 u151 u152 u153 u154 u155 u156 u157 u158 u159 u160 u161 u162 u163 u164 u165 u166 u167 u168 u169 u170 : Value) (K' : Act → World → Prop) (HK : Hid (∀ a' w',R20 w l k b off n c a' w' → K' a' w'))
  (hlen : n ≤ 9223372036854775807) (hk3 : k < n) (hk4 : k < 20) (HCELL : Hid (∀ (i : Nat) (y : UInt8),l[i]? = some y → w.cell? ⟨b,off + i,none⟩ = some (.int .u8 y.toNat))) (hs : Hid (BRel w l k (.slice sa N sc) wr)) (HNN : Hid ((bAt l k).length = N)) (HXX : Hid (l[k]? = some x ∧ x.toNat = xx)) (x1 : xx < 256) (HSC : Hid (sc ≤ maxLen)) (hN : N ≤ k) (hm : xx % 12 = 2) :
  Code.wp Tryz.prog kM (Exit.then K' fun _ _ _=>False) ⟨List.toArray ((.slice (some ⟨b,off,none⟩) n c) :: undef :: (one w.heap.size) :: (.slice sa N sc) :: (.int .i64 k) :: u5 :: u6 :: u7 :: undef :: undef :: u10 :: u11 :: u12 :: u13 :: u14 :: u15 :: u16 :: u17 :: u18 :: u19 :: u20 :: u21 :: u22 :: u23 :: u24 :: u25 :: u26 :: u27 :: u28 :: u29 :: u30 :: u31 :: u32 :: u33 :: u34 :: u35 :: u36 :: u37 :: u38 :: u39 :: u40 :: u41 :: u42 :: u43 :: u44 :: u45 :: u46 :: u47 :: u48 :: u49 :: u50 :: u51 :: u52 :: u53 :: u54 :: u55 :: u56 :: u57 :: u58 :: u59 :: u60 :: u61 :: u62 :: u63 :: u64 :: u65 :: u66 :: u67 :: u68 :: u69 :: u70 :: u71 :: u72 :: u73 :: u74 :: u75 :: u76 :: u77 :: u78 :: u79 :: u80 :: u81 :: u82 :: u83 :: u84 :: u85 :: u86 :: u87 :: u88 :: u89 :: u90 :: u91 :: u92 :: u93 :: u94 :: u95 :: u96 :: u97 :: u98 :: u99 :: u100 :: u101 :: u102 :: u103 :: u104 :: u105 :: u106 :: u107 :: u108 :: u109 :: u110 :: u111 :: u112 :: u113 :: u114 :: u115 :: u116 :: u117 :: u118 :: u119 :: u120 :: u121 :: u122 :: u123 :: u124 :: u125 :: u126 :: u127 :: u128 :: u129 :: u130 :: u131 :: u132 :: u133 :: u134 :: u135 :: u136 :: u137 :: u138 :: u139 :: u140 :: u141 :: u142 :: u143 :: u144 :: u145 :: u146 :: u147 :: u148 :: u149 :: u150 :: u151 :: u152 :: u153 :: u154 :: u155 :: u156 :: u157 :: u158 :: u159 :: u160 :: u161 :: u162 :: u163 :: u164 :: u165 :: u166 :: u167 :: u168 :: u169 :: u170 :: undef :: undef :: undef :: undef :: undef :: undef :: undef :: undef :: undef :: undef :: undef :: undef :: undef :: undef :: undef :: undef :: undef :: undef :: undef :: undef :: undef :: []),[]⟩ wr:=by
 obtain ⟨i0,hi0,hz0,hs0,hb0⟩:=info_parts dV
 have c0 : wr.cell? ⟨b,off + k,none⟩ = some (.int .u8 xx):=by rw [← HXX.out.2];exact aA hs.out.bw _ _ (HCELL.out k x HXX.out.1)
 have x0 : (0 : Int) ≤ xx:=by omega
 have x2 : (xx : Int) < 256:=by omega
 have k0 : (0 : Int) ≤ k:=by omega
 have k1 : (k : Int) < n:=by omega
 have N20 : N ≤ 20:=by omega
 have HM0:=Lib.hid hm
 clear hm
 conv=>arg 2;whnf
 go_upto_region 5 with fail
 go_cut [5,6] from 20 to 26 (fun u5 u6 wx=>∃ qz : Int,u5 = .int .i64 N ∧ u6 = .int .u8 qz ∧ Hid (qz = ((xx / 12 : Nat) : Int)) ∧ Hid (BRel w l k (.slice sa N sc) wx))
 case first =>
  go_quiet (fail)
  go_wp2_with fail
  go_meet
  exact ⟨_,rfl,rfl,by simp [Hid],hs.out.drewN _⟩
 case rest =>
 obtain ⟨qz,rfl,rfl,HQ,HS⟩:=hcut
 have c0 : wc.cell? ⟨b,off + k,none⟩ = some (.int .u8 xx):=by rw [← HXX.out.2];exact aA HS.out.bw _ _ (HCELL.out k x HXX.out.1)
 clear hs
 go_upto_region 6 with fail
 go_cut [7] from 27 to 31 (fun u7 wx=>∃ oz : Int,u7 = .int .u8 oz ∧ Hid (oz = ((xx % 12 : Nat) : Int)) ∧ Hid (BRel w l k (.slice sa N sc) wx))
 case first =>
  go_wp2_with fail
  go_meet
  exact ⟨_,rfl,by simp [Hid],HS.out⟩
 case rest =>
 obtain ⟨oz,rfl,HO,HS⟩:=hcut
 clear c0
 have hm:=HM0.out
 obtain rfl : oz = 2:=by rw [HO.out,hm];rfl
 have HM:=Lib.hid hm
 clear hm
 have q0 : 0 ≤ qz:=by rw [HQ.out];omega
 have q1 : qz ≤ 21:=by rw [HQ.out];omega
 go_upto_region 10 with fail
 go_region_law (first
  | (
    go_simp;go_at_call 43;refine (oA qz (xx / 12) HQ.out (by omega) _).mono ?_;rintro e w1 ⟨v1,rfl,⟨a1,n1,c1,rfl,ht1⟩,b1⟩;have BX1 : Below wc.heap.size wc w1:=by first | exact aG (Below.refl _ _).drew b1 | exact aG ((Below.refl _ _).alloc (Nat.le_refl _) _).drew b1
    have ht1' : bG (hide (lo wc) w1) (bX (xx / 12)).args (.slice a1 n1 c1):=ht1.keep (rF (by simp) (fun _ _ _=>rfl))
    have H1:=Lib.hid (And.intro ht1' BX1)
    try (have cw : w1.cell? ⟨wc.heap.size,0,none⟩ = some (.string ⟨#[80]⟩):=(bE (kc b1 (kd (heap_alloc_new wc (.cells #[.string ⟨#[80]⟩,.string ⟨#[81]⟩] 9)))) 0).trans rfl;have zz : wc.heap.size < w1.heap.size:=World.block_lt_of_cell? w1 ⟨wc.heap.size,0,none⟩ cw)
    clear ht1 ht1' BX1 b1
    go_simp)
  | (
    go_simp;go_at_call 18;refine (dR [80] _ _ _ _).mono ?_;rintro e w2 ⟨rfl,b2⟩;have BX2 : Below w1.heap.size w1 w2:=by first | exact bV b2 | exact hO b2
    obtain ⟨ht1',BX1⟩:=H1.out
    have B12:=aG BX1 BX2
    have hm:=HM.out
    have hst : cI (bAt l k) xx = bAt l k ++ [.mk 1 [80] [bX (xx / 12)] []]:=by simp [cI,hm,nmP]
    first
     | (
      have hh : w2.heap[w1.heap.size]? = some (.cells #[.bool (bX (xx / 12)).v,str (bX (xx / 12)).name,.slice a1 n1 c1] 38 (0,0)):=kc b2 (heap_alloc_new _ _)
      obtain ⟨xs,ow,fin⟩:=dH (fm:=.mk 1 [80] [bX (xx / 12)] []) (b:=none) (m:=0) (d:=0) HS.out HXX.out B12 hst (gC BX1 BX2 hh (by have:=BX1.size;omega) ht1') (At.sl_nil (Nat.zero_le _))
      rw [HNN.out] at ow fin;have OW:=Lib.hid ow;have FIN:=Lib.hid fin;clear ow fin hh)
     | (
      have hh : w2.heap[w1.heap.size + 1]? = some (.cells #[.bool (bX (xx / 12)).v,str (bX (xx / 12)).name,.slice a1 n1 c1] 38 (0,0)):=kc b2 (heap_alloc2_new _ _ _)
      obtain ⟨xs,ow,fin⟩:=dH (fm:=.mk 1 [80] [bX (xx / 12)] []) (b:=none) (m:=0) (d:=0) HS.out HXX.out B12 hst (gC BX1 BX2 hh (by have:=BX1.size;omega) ht1') (At.sl_nil (Nat.zero_le _))
      rw [HNN.out] at ow fin;have OW:=Lib.hid ow;have FIN:=Lib.hid fin;clear ow fin hh)
     | (
      have hh : w2.heap[w1.heap.size]? = some (.cells #[.bool (bX (xx / 12)).v,str (bX (xx / 12)).name,.slice a1 n1 c1] 38 (0,0)):=kc b2 (heap_alloc2_old _ _ _)
      obtain ⟨xs,ow,fin⟩:=dH (fm:=.mk 1 [80] [bX (xx / 12)] []) (b:=none) (m:=0) (d:=0) HS.out HXX.out B12 hst (gC BX1 BX2 hh (by have:=BX1.size;omega) ht1') (At.sl_nil (Nat.zero_le _))
      rw [HNN.out] at ow fin;have OW:=Lib.hid ow;have FIN:=Lib.hid fin;clear ow fin hh)
    have SZ : Hid (w.heap.size + 1 ≤ w2.heap.size):=Nat.le_trans (Array.getElem?_eq_some_iff.1 HS.out.res).1 B12.size
    clear ht1' BX1 BX2 B12 hm hst b2
    go_simp)
  | (refine bT rfl _ _ 24 rfl (w.heap.size + 1) 40 i0 (.agg #[.int .u8 0,.string ⟨#[]⟩,.slice none 0 0,.slice none 0 0]) 4 72 Tryz.underlying24 hi0 hz0 hs0 hb0 rfl (by decide) _ N xs (by rfl) OW.out ⟨w2.heap.size,0,none⟩ 1 1 _ (by rfl) rfl (fH _ _ _ _ _ _) cM (by unfold maxLen;omega) (by omega) (by have:=SZ.out;simp;omega) ?_;intro v5 w5 hown5 hg5 hat5;have F5:=Lib.hid (FIN.out v5 w5 hown5 hg5 hat5);clear hown5 hg5 hat5))
 all_goals (go_wp2_with fail;exact HK.out _ _ (by unfold R20;exact ⟨_,_,_,_,_,_,_,_,_,_,_,_,_,_,_,_,_,_,_,_,_,_,_,_,_,_,_,_,_,_,_,_,_,_,_,_,_,_,_,_,_,_,_,_,_,_,_,_,_,_,_,_,_,_,_,_,_,_,_,_,_,_,_,_,_,_,_,_,_,_,_,_,_,_,_,_,_,_,_,_,_,_,_,_,_,_,_,_,_,_,_,_,_,_,_,_,_,_,_,_,_,_,_,_,_,_,_,_,_,_,_,_,_,_,_,_,_,_,_,_,_,_,_,_,_,_,_,_,_,_,_,_,_,_,_,_,_,_,_,_,_,_,_,_,_,_,_,_,_,_,_,_,_,_,_,_,_,_,_,_,_,_,_,_,_,_,_,⟨rfl,rfl,F5.out⟩,rfl⟩))
end Go.Proofs.YtppfalbnhnpbnaaGreatDoor
