/- lyceumlaw30.Built: rounds of its loop, by the byte modulo 12: 11. Conditions: those at the loop's head. -/
import Derived.Test.YtppfalbnhnpbnaaGreatDoorKyAC
import Derived.Test.YtppfalbnhnpbnaaGreatDoorBuiltC1C
import Derived.Test.YtppfalbnhnpbnaaGreatDoorBuiltC3C
import Derived.Test.YtppfalbnhnpbnaaGreatDoorBuiltC4C
import Derived.Test.YtppfalbnhnpbnaaGreatDoorBuiltC5C
import Derived.Test.YtppfalbnhnpbnaaGreatDoorBuiltC6C
import Derived.Test.YtppfalbnhnpbnaaGreatDoorBuiltC7C
import Derived.Test.YtppfalbnhnpbnaaGreatDoorBuiltC8C
import Derived.Test.YtppfalbnhnpbnaaGreatDoorClAC
import Derived.Test.YtppfalbnhnpbnaaGreatDoorRgmC
import Derived.Deep.Slices
import Derived.Test.YtppfalbnhnpbnaaGreatDoorShelfC
import Derived.Test.YtppfalbnhnpbnaaGreatDoorRdCC
import Derived.Shelf.Strings.BuilderK
set_option linter.unusedSimpArgs false
set_option linter.unusedVariables false
namespace Go.Proofs.YtppfalbnhnpbnaaGreatDoor
open Go Go.RowKit Ly
set_option maxRecDepth 10000
set_option maxHeartbeats 2000000
attribute [local go_sem ↓] Go.wp_at_zero Go.wp_at_succ
set_option maxRecDepth 100000 in
set_option maxHeartbeats 16000000 in
theorem round20_11 (l : Bs) (b off n c k N sc xx : Nat) (x : UInt8) (sa : Option Addr) (w wr : World) (u5 u6 u7 u10 u11 u12 u13 u14 u15 u16 u17 u18 u19 u20 u21 u22 u23 u24 u25 u26 u27 u28 u29 u30 u31 u32 u33 u34 u35 u36 u37 u38 u39 u40 u41 u42 u43 u44 u45 u46 u47 u48 u49 u50 u51 u52 u53 u54 u55 u56 u57 u58 u59 u60 u61 u62 u63 u64 u65 u66 u67 u68 u69 u70 u71 u72 u73 u74 u75 u76 u77 u78 u79 u80 u81 u82 u83 u84 u85 u86 u87 u88 u89 u90 u91 u92 u93 u94 u95 u96 u97 u98 u99 u100 u101 u102 u103 u104 u105 u106 u107 u108 u109 u110 u111 u112 u113 u114 u115 u116 u117 u118 u119 u120 u121 u122 u123 u124 u125 u126 u127 u128 u129 u130 u131 u132 u133 u134 u135 u136 u137 u138 u139 u140 u141 u142 u143 u144 u145 u146 u147 u148 u149 u150 u151 u152 u153 u154 u155 u156 u157 u158 u159 u160 u161 u162 u163 u164 u165 u166 u167 u168 u169 u170 : Value) (K' : Act → World → Prop) (HK : Hid (∀ a' w',R20 w l k b off n c a' w' → K' a' w'))
  (hlen : n ≤ 9223372036854775807) (hk3 : k < n) (hk4 : k < 20) (HCELL : Hid (∀ (i : Nat) (y : UInt8),l[i]? = some y → w.cell? ⟨b,off + i,none⟩ = some (.int .u8 y.toNat))) (hs : Hid (BRel w l k (.slice sa N sc) wr)) (HNN : Hid ((bAt l k).length = N)) (HXX : Hid (l[k]? = some x ∧ x.toNat = xx)) (x1 : xx < 256) (HSC : Hid (sc ≤ maxLen)) (hN : N ≤ k) (hm : xx % 12 = 11) :
  Code.wp Tryz.prog kM (Exit.then K' fun _ _ _=>False) ⟨List.toArray ((.slice (some ⟨b,off,none⟩) n c) :: undef :: (one w.heap.size) :: (.slice sa N sc) :: (.int .i64 k) :: u5 :: u6 :: u7 :: undef :: undef :: u10 :: u11 :: u12 :: u13 :: u14 :: u15 :: u16 :: u17 :: u18 :: u19 :: u20 :: u21 :: u22 :: u23 :: u24 :: u25 :: u26 :: u27 :: u28 :: u29 :: u30 :: u31 :: u32 :: u33 :: u34 :: u35 :: u36 :: u37 :: u38 :: u39 :: u40 :: u41 :: u42 :: u43 :: u44 :: u45 :: u46 :: u47 :: u48 :: u49 :: u50 :: u51 :: u52 :: u53 :: u54 :: u55 :: u56 :: u57 :: u58 :: u59 :: u60 :: u61 :: u62 :: u63 :: u64 :: u65 :: u66 :: u67 :: u68 :: u69 :: u70 :: u71 :: u72 :: u73 :: u74 :: u75 :: u76 :: u77 :: u78 :: u79 :: u80 :: u81 :: u82 :: u83 :: u84 :: u85 :: u86 :: u87 :: u88 :: u89 :: u90 :: u91 :: u92 :: u93 :: u94 :: u95 :: u96 :: u97 :: u98 :: u99 :: u100 :: u101 :: u102 :: u103 :: u104 :: u105 :: u106 :: u107 :: u108 :: u109 :: u110 :: u111 :: u112 :: u113 :: u114 :: u115 :: u116 :: u117 :: u118 :: u119 :: u120 :: u121 :: u122 :: u123 :: u124 :: u125 :: u126 :: u127 :: u128 :: u129 :: u130 :: u131 :: u132 :: u133 :: u134 :: u135 :: u136 :: u137 :: u138 :: u139 :: u140 :: u141 :: u142 :: u143 :: u144 :: u145 :: u146 :: u147 :: u148 :: u149 :: u150 :: u151 :: u152 :: u153 :: u154 :: u155 :: u156 :: u157 :: u158 :: u159 :: u160 :: u161 :: u162 :: u163 :: u164 :: u165 :: u166 :: u167 :: u168 :: u169 :: u170 :: undef :: undef :: undef :: undef :: undef :: undef :: undef :: undef :: undef :: undef :: undef :: undef :: undef :: undef :: undef :: undef :: undef :: undef :: undef :: undef :: undef :: []),[]⟩ wr:=by
 obtain ⟨i0,hi0,hz0,hs0,hb0⟩:=info_parts dV
 have c0 : wr.cell? ⟨b,off + k,none⟩ = some (.int .u8 xx):=by rw [← HXX.out.2];exact aA hs.out.bw _ _ (HCELL.out k x HXX.out.1)
 have x0 : (0 : Int) ≤ xx:=by omega
 have x2 : (xx : Int) < 256:=by omega
 have k0 : (0 : Int) ≤ k:=by omega
 have k1 : (k : Int) < n:=by omega
 have N20 : N ≤ 20:=by omega
 have HM0:=Lib.hid hm
 clear hm
 conv=>arg 2;whnf
 go_upto_region 5 with fail
 go_cut [5,6] from 20 to 26 (fun u5 u6 wx=>∃ qz : Int,u5 = .int .i64 N ∧ u6 = .int .u8 qz ∧ Hid (qz = ((xx / 12 : Nat) : Int)) ∧ Hid (BRel w l k (.slice sa N sc) wx))
 case first =>
  go_quiet (fail)
  go_wp2_with fail
  go_meet
  exact ⟨_,rfl,rfl,by simp [Hid],hs.out.drewN _⟩
 case rest =>
 obtain ⟨qz,rfl,rfl,HQ,HS⟩:=hcut
 have c0 : wc.cell? ⟨b,off + k,none⟩ = some (.int .u8 xx):=by rw [← HXX.out.2];exact aA HS.out.bw _ _ (HCELL.out k x HXX.out.1)
 clear hs
 go_upto_region 6 with fail
 go_cut [7] from 27 to 31 (fun u7 wx=>∃ oz : Int,u7 = .int .u8 oz ∧ Hid (oz = ((xx % 12 : Nat) : Int)) ∧ Hid (BRel w l k (.slice sa N sc) wx))
 case first =>
  go_wp2_with fail
  go_meet
  exact ⟨_,rfl,by simp [Hid],HS.out⟩
 case rest =>
 obtain ⟨oz,rfl,HO,HS⟩:=hcut
 clear c0
 have hm:=HM0.out
 obtain rfl : oz = 11:=by rw [HO.out,hm];rfl
 have HM:=Lib.hid hm
 clear hm
 have q0 : 0 ≤ qz:=by rw [HQ.out];omega
 have q1 : qz ≤ 21:=by rw [HQ.out];omega
 rcases Nat.eq_zero_or_pos N with hz | hz
 ·subst hz
  have F5 : Hid (BRel w l (k + 1) (.slice sa _ sc) wc):=BRel.same HS.out HXX.out (by have hm:=HM.out;have hn:=HNN.out;simp [cI,hm];omega)
  go_wp2_with fail
  exact HK.out _ _ (by unfold R20;exact ⟨_,_,_,_,_,_,_,_,_,_,_,_,_,_,_,_,_,_,_,_,_,_,_,_,_,_,_,_,_,_,_,_,_,_,_,_,_,_,_,_,_,_,_,_,_,_,_,_,_,_,_,_,_,_,_,_,_,_,_,_,_,_,_,_,_,_,_,_,_,_,_,_,_,_,_,_,_,_,_,_,_,_,_,_,_,_,_,_,_,_,_,_,_,_,_,_,_,_,_,_,_,_,_,_,_,_,_,_,_,_,_,_,_,_,_,_,_,_,_,_,_,_,_,_,_,_,_,_,_,_,_,_,_,_,_,_,_,_,_,_,_,_,_,_,_,_,_,_,_,_,_,_,_,_,_,_,_,_,_,_,_,_,_,_,_,_,_,⟨rfl,rfl,F5.out⟩,rfl⟩)
 ·obtain ⟨M,rfl⟩ : ∃ M,N = M + 1:=⟨N - 1,by omega⟩
  obtain ⟨g,rfl,hgz,hNs⟩:=iP HS.out (by rw [HNN.out];omega)
  obtain ⟨ea,en,ec,eb,em,ed,el⟩:=eZ HS.out (i:=M) (by rw [HNN.out];omega)
  generalize hF : (bAt l k).getD M fls = F at el
  have HF:=Lib.hid hF
  have EL:=Lib.hid el
  obtain ⟨e0,e1,e2,e3,-,-⟩:=el
  clear hF
  have m0 : ((M + 1 : Nat) : Int) - 1 = M:=by omega
  have m1 : (0 : Int) ≤ M:=by omega
  have m2 : (M : Int) < ((M + 1 : Nat) : Int):=by omega
  have m3 : (M : Int) ≤ (sc : Int):=by omega
  have m4 : max (M : Int) 0 = M:=by omega
  have m5 : (M : Int) < (M : Int) + 1:=by omega
  have mw : IntKind.i64.wrap (M : Int) = M:=IntWalk.i64_in _ (by omega)
  have mx : IntKind.u8.wrap 19 = 19:=rfl
  have my : IntKind.u8.wrap 9 = 9:=rfl
  obtain ⟨jj,hjj⟩ : ∃ jj,xx / 12 % 3 = jj:=⟨_,rfl⟩
  have z2 : qz.tmod 3 = (jj : Int):=by rw [Int.tmod_eq_emod_of_nonneg q0,HQ.out];omega
  have z3 : (0 : Int) ≤ jj:=by omega
  have z4 : (jj : Int) < 3:=by omega
  obtain ⟨nv,hnv⟩ : ∃ nv,rY jj = nv:=⟨_,rfl⟩
  have hsel : ([.string ⟨#[120]⟩,.string ⟨#[121]⟩,.string ⟨#[122]⟩] : List Value)[jj]? = some (str nv):=by
   rw [← hnv];rcases (show jj = 0 ∨ jj = 1 ∨ jj = 2 by omega) with rfl | rfl | rfl <;> rfl
  have HJ:=Lib.hid (And.intro hjj hnv)
  clear hjj hnv
  go_upto_region 20 with fail
  go_region_law (first
   | (
     go_simp;go_at_call 32;refine (sO 9 _ _ _ _ _ _ _ _ _ _).mono ?_;rintro e w1 ⟨h,rfl,hh,b1,hl⟩;have BX : Below wc.heap.size wc w1:=aG ((Below.refl _ _).alloc (Nat.le_refl _) _).drew b1
     have hm:=HM.out
     obtain ⟨hj,hu⟩:=HJ.out
     have hL:=HNN.out
     have hF:=HF.out
     have hl' : wc.heap.size ≤ h:=by simp at hl;omega
     have hst : cI (bAt l k) xx = (bAt l k).take M ++ [.mk 9 nv [] [F]]:=by rw [← hF,← hu];simp [cI,hm,hj,hL]
     obtain ⟨olds,o1,o2,fin⟩:=uP HS.out HXX.out hL BX EL.out hh hl' hst
     have OL:=Lib.hid (And.intro o1 o2);have FIN:=Lib.hid fin;clear o1 o2 fin hh hl hl' hm hj hu hL hF hst BX b1
     go_simp)
   | (refine step_append_grows rfl _ _ 24 rfl 40 i0 _ 4 72 Tryz.underlying24 hi0 hz0 hs0 hb0 rfl (by decide) (some ⟨g,0,none⟩) M M olds (by rfl) (by intro h;cases h) OL.out.1 OL.out.2 ⟨w1.heap.size,0,none⟩ 1 1 _ (by rfl) rfl (fH _ _ _ _ _ _) cM (by omega) (by unfold maxLen;omega) (by omega) ?_;intro v5 w5 h5 hg5;have F5:=Lib.hid (FIN.out v5 w5 h5 hg5);clear h5 hg5))
  all_goals (go_wp2_with fail;exact HK.out _ _ (by unfold R20;exact ⟨_,_,_,_,_,_,_,_,_,_,_,_,_,_,_,_,_,_,_,_,_,_,_,_,_,_,_,_,_,_,_,_,_,_,_,_,_,_,_,_,_,_,_,_,_,_,_,_,_,_,_,_,_,_,_,_,_,_,_,_,_,_,_,_,_,_,_,_,_,_,_,_,_,_,_,_,_,_,_,_,_,_,_,_,_,_,_,_,_,_,_,_,_,_,_,_,_,_,_,_,_,_,_,_,_,_,_,_,_,_,_,_,_,_,_,_,_,_,_,_,_,_,_,_,_,_,_,_,_,_,_,_,_,_,_,_,_,_,_,_,_,_,_,_,_,_,_,_,_,_,_,_,_,_,_,_,_,_,_,_,_,_,_,_,_,_,_,⟨rfl,rfl,F5.out⟩,rfl⟩))
end Go.Proofs.YtppfalbnhnpbnaaGreatDoor
namespace Go.Proofs.YtppfalbnhnpbnaaGreatDoor
open Go Go.RowKit Ly
set_option maxRecDepth 10000
set_option maxHeartbeats 2000000
attribute [local go_sem ↓] Go.wp_at_zero Go.wp_at_succ
set_option maxHeartbeats 16000000 in
theorem built_c (l : Bs) (a : Option Addr) (n c : Nat) (w : World) (h : iI w l (.slice a n c)) : Calls Tryz.prog 19 #[.slice a n c] w (RetF (built l) w):=by
 obtain ⟨hn,hc,hm⟩:=h.len
 have hlen : n ≤ 9223372036854775807:=by have:=le63 hm;omega
 have HN:=Lib.hid hn
 have HL:=Lib.hid h
 clear hn hc hm h
 obtain ⟨i0,hi0,hz0,hs0,hb0⟩:=info_parts dV
 go_enter Tryz.func19,Tryz.ntmps19
 go_wp2_with fail
 go_loopw [3,4] (fun v i wr=>∃ k : Nat,k ≤ n ∧ k ≤ 20 ∧ i = .int .i64 k ∧ Hid (BRel w l k v wr)) (fun _ i _=>20 - (intOf i).toNat)
 case atStart=>exact ⟨0,by omega,by omega,rfl,⟨eJ.nil _ _ _ _ _,(Below.refl _ _).alloc (Nat.le_refl _) _,heap_alloc_new _ _⟩⟩
 case round =>
  obtain ⟨k,hk,hk2,rfl,hs⟩:=hrel
  by_cases hlt : k < n ∧ k < 20
  ·obtain ⟨hk3,hk4⟩:=hlt
   obtain ⟨x,hx⟩:=aT (l:=l) (j:=k) (by rw [← HN.out];exact hk3)
   obtain ⟨b,off,rfl,hcell⟩:=HL.out.get (aX hx)
   have c0:=aA hs.out.bw _ _ (hcell k x hx)
   have HCELL:=Lib.hid hcell
   clear hcell
   obtain ⟨sa,sc,rfl,hsc⟩:=hs.out.own.form
   have hN:=xB l k
   generalize hNN : (bAt l k).length = N at hN hs ⊢
   have HNN:=Lib.hid hNN
   generalize hxx : x.toNat = xx at c0
   have HXX:=Lib.hid (And.intro hx hxx)
   have x1 : xx < 256:=by rw [← hxx];exact x.toNat_lt
   have x0 : (0 : Int) ≤ xx:=by omega
   have x2 : (xx : Int) < 256:=by omega
   have k0 : (0 : Int) ≤ k:=by omega
   have k1 : (k : Int) < n:=by omega
   have HSC:=Lib.hid hsc
   have N20 : N ≤ 20:=by omega
   clear hNN hxx hx hsc
   go_upto_block 1 with fail
   go_cut [3,8,9] from 5 to 170 (fun u3 u8 u9 wx=>u8 = undef ∧ u9 = undef ∧ Hid (BRel w l (k + 1) u3 wx))
   case rest =>
    obtain ⟨rfl,rfl,F5⟩:=hcut
    go_wp2_with fail
    go_roundw
    case rel=>exact ⟨k + 1,by omega,by omega,by go_num,F5.out⟩
    case measure=>simp [intOf];omega
   case first =>
   rename_i J K' hJ hK'
   have HKM : Hid (∀ a' w',R20 w l k b off n c a' w' → K' a' w'):=fun a' w' h=>hK' _ _ (Met.intro (hJ _ _ h))
   rcases (show xx % 12 = 0 ∨ xx % 12 = 1 ∨ xx % 12 = 2 ∨ xx % 12 = 3 ∨ xx % 12 = 4 ∨ xx % 12 = 5 ∨ xx % 12 = 6 ∨ xx % 12 = 7 ∨ xx % 12 = 8 ∨ xx % 12 = 9 ∨ xx % 12 = 10 ∨ xx % 12 = 11 by omega) with hm | hm | hm | hm | hm | hm | hm | hm | hm | hm | hm | hm
   ·exact Code.wp_mono dQ (round20_0 l b off n c k N sc xx x sa w wr _ _ _ _ _ _ _ _ _ _ _ _ _ _ _ _ _ _ _ _ _ _ _ _ _ _ _ _ _ _ _ _ _ _ _ _ _ _ _ _ _ _ _ _ _ _ _ _ _ _ _ _ _ _ _ _ _ _ _ _ _ _ _ _ _ _ _ _ _ _ _ _ _ _ _ _ _ _ _ _ _ _ _ _ _ _ _ _ _ _ _ _ _ _ _ _ _ _ _ _ _ _ _ _ _ _ _ _ _ _ _ _ _ _ _ _ _ _ _ _ _ _ _ _ _ _ _ _ _ _ _ _ _ _ _ _ _ _ _ _ _ _ _ _ _ _ _ _ _ _ _ _ _ _ _ _ _ _ _ _ _ _ _ _ K' HKM hlen hk3 hk4 HCELL hs HNN HXX x1 HSC hN hm)
   ·exact Code.wp_mono dQ (round20_1 l b off n c k N sc xx x sa w wr _ _ _ _ _ _ _ _ _ _ _ _ _ _ _ _ _ _ _ _ _ _ _ _ _ _ _ _ _ _ _ _ _ _ _ _ _ _ _ _ _ _ _ _ _ _ _ _ _ _ _ _ _ _ _ _ _ _ _ _ _ _ _ _ _ _ _ _ _ _ _ _ _ _ _ _ _ _ _ _ _ _ _ _ _ _ _ _ _ _ _ _ _ _ _ _ _ _ _ _ _ _ _ _ _ _ _ _ _ _ _ _ _ _ _ _ _ _ _ _ _ _ _ _ _ _ _ _ _ _ _ _ _ _ _ _ _ _ _ _ _ _ _ _ _ _ _ _ _ _ _ _ _ _ _ _ _ _ _ _ _ _ _ _ K' HKM hlen hk3 hk4 HCELL hs HNN HXX x1 HSC hN hm)
   ·exact Code.wp_mono dQ (round20_2 l b off n c k N sc xx x sa w wr _ _ _ _ _ _ _ _ _ _ _ _ _ _ _ _ _ _ _ _ _ _ _ _ _ _ _ _ _ _ _ _ _ _ _ _ _ _ _ _ _ _ _ _ _ _ _ _ _ _ _ _ _ _ _ _ _ _ _ _ _ _ _ _ _ _ _ _ _ _ _ _ _ _ _ _ _ _ _ _ _ _ _ _ _ _ _ _ _ _ _ _ _ _ _ _ _ _ _ _ _ _ _ _ _ _ _ _ _ _ _ _ _ _ _ _ _ _ _ _ _ _ _ _ _ _ _ _ _ _ _ _ _ _ _ _ _ _ _ _ _ _ _ _ _ _ _ _ _ _ _ _ _ _ _ _ _ _ _ _ _ _ _ _ K' HKM hlen hk3 hk4 HCELL hs HNN HXX x1 HSC hN hm)
   ·exact Code.wp_mono dQ (round20_3 l b off n c k N sc xx x sa w wr _ _ _ _ _ _ _ _ _ _ _ _ _ _ _ _ _ _ _ _ _ _ _ _ _ _ _ _ _ _ _ _ _ _ _ _ _ _ _ _ _ _ _ _ _ _ _ _ _ _ _ _ _ _ _ _ _ _ _ _ _ _ _ _ _ _ _ _ _ _ _ _ _ _ _ _ _ _ _ _ _ _ _ _ _ _ _ _ _ _ _ _ _ _ _ _ _ _ _ _ _ _ _ _ _ _ _ _ _ _ _ _ _ _ _ _ _ _ _ _ _ _ _ _ _ _ _ _ _ _ _ _ _ _ _ _ _ _ _ _ _ _ _ _ _ _ _ _ _ _ _ _ _ _ _ _ _ _ _ _ _ _ _ _ K' HKM hlen hk3 hk4 HCELL hs HNN HXX x1 HSC hN hm)
   ·exact Code.wp_mono dQ (round20_4 l b off n c k N sc xx x sa w wr _ _ _ _ _ _ _ _ _ _ _ _ _ _ _ _ _ _ _ _ _ _ _ _ _ _ _ _ _ _ _ _ _ _ _ _ _ _ _ _ _ _ _ _ _ _ _ _ _ _ _ _ _ _ _ _ _ _ _ _ _ _ _ _ _ _ _ _ _ _ _ _ _ _ _ _ _ _ _ _ _ _ _ _ _ _ _ _ _ _ _ _ _ _ _ _ _ _ _ _ _ _ _ _ _ _ _ _ _ _ _ _ _ _ _ _ _ _ _ _ _ _ _ _ _ _ _ _ _ _ _ _ _ _ _ _ _ _ _ _ _ _ _ _ _ _ _ _ _ _ _ _ _ _ _ _ _ _ _ _ _ _ _ _ K' HKM hlen hk3 hk4 HCELL hs HNN HXX x1 HSC hN hm)
   ·exact Code.wp_mono dQ (round20_5 l b off n c k N sc xx x sa w wr _ _ _ _ _ _ _ _ _ _ _ _ _ _ _ _ _ _ _ _ _ _ _ _ _ _ _ _ _ _ _ _ _ _ _ _ _ _ _ _ _ _ _ _ _ _ _ _ _ _ _ _ _ _ _ _ _ _ _ _ _ _ _ _ _ _ _ _ _ _ _ _ _ _ _ _ _ _ _ _ _ _ _ _ _ _ _ _ _ _ _ _ _ _ _ _ _ _ _ _ _ _ _ _ _ _ _ _ _ _ _ _ _ _ _ _ _ _ _ _ _ _ _ _ _ _ _ _ _ _ _ _ _ _ _ _ _ _ _ _ _ _ _ _ _ _ _ _ _ _ _ _ _ _ _ _ _ _ _ _ _ _ _ _ K' HKM hlen hk3 hk4 HCELL hs HNN HXX x1 HSC hN hm)
   ·exact Code.wp_mono dQ (round20_6 l b off n c k N sc xx x sa w wr _ _ _ _ _ _ _ _ _ _ _ _ _ _ _ _ _ _ _ _ _ _ _ _ _ _ _ _ _ _ _ _ _ _ _ _ _ _ _ _ _ _ _ _ _ _ _ _ _ _ _ _ _ _ _ _ _ _ _ _ _ _ _ _ _ _ _ _ _ _ _ _ _ _ _ _ _ _ _ _ _ _ _ _ _ _ _ _ _ _ _ _ _ _ _ _ _ _ _ _ _ _ _ _ _ _ _ _ _ _ _ _ _ _ _ _ _ _ _ _ _ _ _ _ _ _ _ _ _ _ _ _ _ _ _ _ _ _ _ _ _ _ _ _ _ _ _ _ _ _ _ _ _ _ _ _ _ _ _ _ _ _ _ _ K' HKM hlen hk3 hk4 HCELL hs HNN HXX x1 HSC hN hm)
   ·exact Code.wp_mono dQ (round20_7 l b off n c k N sc xx x sa w wr _ _ _ _ _ _ _ _ _ _ _ _ _ _ _ _ _ _ _ _ _ _ _ _ _ _ _ _ _ _ _ _ _ _ _ _ _ _ _ _ _ _ _ _ _ _ _ _ _ _ _ _ _ _ _ _ _ _ _ _ _ _ _ _ _ _ _ _ _ _ _ _ _ _ _ _ _ _ _ _ _ _ _ _ _ _ _ _ _ _ _ _ _ _ _ _ _ _ _ _ _ _ _ _ _ _ _ _ _ _ _ _ _ _ _ _ _ _ _ _ _ _ _ _ _ _ _ _ _ _ _ _ _ _ _ _ _ _ _ _ _ _ _ _ _ _ _ _ _ _ _ _ _ _ _ _ _ _ _ _ _ _ _ _ K' HKM hlen hk3 hk4 HCELL hs HNN HXX x1 HSC hN hm)
   ·exact Code.wp_mono dQ (round20_8 l b off n c k N sc xx x sa w wr _ _ _ _ _ _ _ _ _ _ _ _ _ _ _ _ _ _ _ _ _ _ _ _ _ _ _ _ _ _ _ _ _ _ _ _ _ _ _ _ _ _ _ _ _ _ _ _ _ _ _ _ _ _ _ _ _ _ _ _ _ _ _ _ _ _ _ _ _ _ _ _ _ _ _ _ _ _ _ _ _ _ _ _ _ _ _ _ _ _ _ _ _ _ _ _ _ _ _ _ _ _ _ _ _ _ _ _ _ _ _ _ _ _ _ _ _ _ _ _ _ _ _ _ _ _ _ _ _ _ _ _ _ _ _ _ _ _ _ _ _ _ _ _ _ _ _ _ _ _ _ _ _ _ _ _ _ _ _ _ _ _ _ _ K' HKM hlen hk3 hk4 HCELL hs HNN HXX x1 HSC hN hm)
   ·exact Code.wp_mono dQ (round20_9 l b off n c k N sc xx x sa w wr _ _ _ _ _ _ _ _ _ _ _ _ _ _ _ _ _ _ _ _ _ _ _ _ _ _ _ _ _ _ _ _ _ _ _ _ _ _ _ _ _ _ _ _ _ _ _ _ _ _ _ _ _ _ _ _ _ _ _ _ _ _ _ _ _ _ _ _ _ _ _ _ _ _ _ _ _ _ _ _ _ _ _ _ _ _ _ _ _ _ _ _ _ _ _ _ _ _ _ _ _ _ _ _ _ _ _ _ _ _ _ _ _ _ _ _ _ _ _ _ _ _ _ _ _ _ _ _ _ _ _ _ _ _ _ _ _ _ _ _ _ _ _ _ _ _ _ _ _ _ _ _ _ _ _ _ _ _ _ _ _ _ _ _ K' HKM hlen hk3 hk4 HCELL hs HNN HXX x1 HSC hN hm)
   ·exact Code.wp_mono dQ (round20_10 l b off n c k N sc xx x sa w wr _ _ _ _ _ _ _ _ _ _ _ _ _ _ _ _ _ _ _ _ _ _ _ _ _ _ _ _ _ _ _ _ _ _ _ _ _ _ _ _ _ _ _ _ _ _ _ _ _ _ _ _ _ _ _ _ _ _ _ _ _ _ _ _ _ _ _ _ _ _ _ _ _ _ _ _ _ _ _ _ _ _ _ _ _ _ _ _ _ _ _ _ _ _ _ _ _ _ _ _ _ _ _ _ _ _ _ _ _ _ _ _ _ _ _ _ _ _ _ _ _ _ _ _ _ _ _ _ _ _ _ _ _ _ _ _ _ _ _ _ _ _ _ _ _ _ _ _ _ _ _ _ _ _ _ _ _ _ _ _ _ _ _ _ K' HKM hlen hk3 hk4 HCELL hs HNN HXX x1 HSC hN hm)
   ·exact Code.wp_mono dQ (round20_11 l b off n c k N sc xx x sa w wr _ _ _ _ _ _ _ _ _ _ _ _ _ _ _ _ _ _ _ _ _ _ _ _ _ _ _ _ _ _ _ _ _ _ _ _ _ _ _ _ _ _ _ _ _ _ _ _ _ _ _ _ _ _ _ _ _ _ _ _ _ _ _ _ _ _ _ _ _ _ _ _ _ _ _ _ _ _ _ _ _ _ _ _ _ _ _ _ _ _ _ _ _ _ _ _ _ _ _ _ _ _ _ _ _ _ _ _ _ _ _ _ _ _ _ _ _ _ _ _ _ _ _ _ _ _ _ _ _ _ _ _ _ _ _ _ _ _ _ _ _ _ _ _ _ _ _ _ _ _ _ _ _ _ _ _ _ _ _ _ _ _ _ _ K' HKM hlen hk3 hk4 HCELL hs HNN HXX x1 HSC hN hm)
  ·obtain ⟨w9,hw9⟩ : ∃ w9,w9 = wr:=⟨_,rfl⟩
   subst hw9
   have HB:=Lib.hid (bAt_end l n k HN.out hk hk2 hlt)
   obtain ⟨sa,sc,rfl,hsc⟩:=hs.out.own.form
   have hN:=xB l k
   generalize hNN : (bAt l k).length = N at hN hs ⊢
   have HNN:=Lib.hid hNN
   have N20 : N ≤ 20:=by omega
   have k0 : (0 : Int) ≤ k:=by omega
   clear hNN
   have HR:=Lib.hid hs.out.res
   have zw : w.heap.size < w9.heap.size:=(Array.getElem?_eq_some_iff.1 hs.out.res).1
   rcases Nat.eq_zero_or_pos N with hz | hz
   ·subst hz
    have HQ : Hid (built l = fls):=by rw [Hid,HB.out,List.eq_nil_of_length_eq_zero HNN.out];rfl
    rcases (show ¬ k < n ∨ (k < n ∧ ¬ k < 20) by omega) with h20 | ⟨h20,h21⟩
    all_goals
     go_wp2_with (go_at_call 17;refine (fK _ _ _ _ _).mono ?_;rintro e w1 ⟨rfl,b1⟩;have b1':=b1;obtain ⟨q0,q1,q2,q3,l0,l1,l2,l3⟩:=row25' (kc b1 HR.out);have B1:=Lib.hid b1;clear b1 b1')
     exact sP (f:=fls) (aG hs.out.bw B1.out) (kc B1.out HR.out) (At.sl_nil (Nat.zero_le _)) (At.sl_nil (Nat.zero_le _)) HQ.out rfl
   ·obtain ⟨g,rfl,hgz,hNs⟩:=iP hs.out (by rw [HNN.out];omega)
    obtain ⟨ea,en,ec,eb,em,ed,el⟩:=eZ hs.out (i:=0) (by rw [HNN.out];omega)
    have HQ : Hid (built l = eD ((bAt l k).getD 0 fls) (((bAt l k).drop 1).take (N - 1))):=by rw [Hid,HB.out,builtOf_at _ (by rw [HNN.out];exact hz),HNN.out]
    have EL:=Lib.hid el
    have HS:=Lib.hid hs.out
    generalize hf : (bAt l k).getD 0 fls = f0 at el EL HQ
    have HF0:=Lib.hid hf
    obtain ⟨e0,e1,e2,e3,-,-⟩:=el
    simp only [Nat.zero_mul,Nat.zero_add] at e0 e1 e2 e3
    clear hf hs hgz
    have hz1 : (0 : Int) < N:=by omega
    have hz2 : ((N : Int) == 0) = false:=beq_eq_false_iff_ne.2 (by omega)
    have hz3 : ¬ N = 0:=by omega
    rcases (show ¬ k < n ∨ (k < n ∧ ¬ k < 20) by omega) with h20 | ⟨h20,h21⟩
    all_goals
     go_wp2_with fail
     go_loopw [9] (fun u9 wq=>∃ p : Nat,1 ≤ p ∧ p ≤ N ∧ u9 = .int .i64 (p : Int) ∧ Hid (∃ a n c b m d,URel w w9 (eD f0 (((bAt l k).drop 1).take (p - 1))) a n c b m d wq)) (fun u9 _=>N - (intOf u9).toNat)
     case atStart=>exact ⟨1,by omega,by omega,rfl,⟨_,_,_,_,_,_,urel_first EL.out⟩⟩
     case round =>
      obtain ⟨p,hp1,hp2,rfl,U⟩:=hrel
      obtain ⟨xa,xn,xc,xb,xm,xd,U⟩:=U.out
      have hF : ∃ F,eD f0 (((bAt l k).drop 1).take (p - 1)) = F:=⟨_,rfl⟩
      obtain ⟨F,hF⟩:=hF
      rw [hF] at U
      have HF:=Lib.hid hF
      clear hF
      have UU:=Lib.hid U
      obtain ⟨t0,t1,t2,t3,-,-,-,-⟩:=row25' U.cell
      by_cases hlt : p < N
      ·obtain ⟨ga,gn,gc,gb,gm,gd,el⟩:=eZ HS.out (i:=p) (by rw [HNN.out];exact hlt)
       generalize hG : (bAt l k).getD p fls = G at el
       have HG:=Lib.hid hG
       have EL2:=Lib.hid el
       have f0':=aA U.bw _ _ el.c0
       have f1':=aA U.bw _ _ el.c1
       have f2':=aA U.bw _ _ el.c2
       have f3':=aA U.bw _ _ el.c3
       clear hG el U
       have p0 : (0 : Int) ≤ p:=by omega
       have p1 : (p : Int) < N:=by omega
       go_upto_block 4 with fail
       go_cut [9] from 184 to 190 (fun u9 wx=>u9 = .int .i64 (p : Int) ∧ Hid (∃ a n c b m d,URel w w9 (.mk 14 [] [] [F,G]) a n c b m d wx))
       case first =>
        go_upto_region 27 with fail
        go_region_law (first
         | (
           go_simp;go_at_call 17;refine (fK 14 _ _ _ _).mono ?_;rintro e w1 ⟨rfl,b1⟩
           have BX : Below wr.heap.size wr w1:=aG ((Below.refl _ _).alloc (Nat.le_refl _) _).drew b1
           have hh : w1.heap[wr.heap.size]? = some (.cells #[.int .u8 F.op,str F.name,.slice xa xn xc,.slice xb xm xd,.int .u8 G.op,str G.name,.slice ga gn gc,.slice gb gm gd] 40 (0,0)):=kc b1 (kd (heap_alloc_new _ _))
           have UN:=Lib.hid (urel_next UU.out (by omega) EL2.out BX hh (Nat.le_refl _))
           clear t0 t1 t2 t3
           obtain ⟨t0,t1,t2,t3,l0,l1,l2,l3⟩:=row25' (kc BX UU.out.cell)
           clear hh b1 BX
           go_simp))
        all_goals
         go_wp2_with fail
         go_meet
         exact ⟨rfl,_,_,_,_,_,_,UN.out⟩
       case rest =>
       obtain ⟨rfl,U2⟩:=hcut
       go_wp2_with fail
       have HU : Hid (eD f0 (((bAt l k).drop 1).take (p + 1 - 1)) = .mk 14 [] [] [F,G]):=by
        have:=untils_at (bAt l k) (p - 1) (by rw [HNN.out];omega)
        rw [show p - 1 + 1 = p by omega,HF0.out,HF.out,HG.out] at this
        exact this
       go_roundw
       case rel=>exact ⟨p + 1,by omega,by omega,by go_num,by rw [Hid,HU.out];exact U2.out⟩
       case measure=>simp [intOf];omega
      ·have HQ2 : Hid (built l = F):=by rw [Hid,HQ.out,← HF.out,show N = p by omega]
       have hz4 : ¬ p < N:=hlt
       clear hlt
       have zq:=(Array.getElem?_eq_some_iff.1 ((UU.out.bw.block _ (Array.getElem?_eq_some_iff.1 HR.out).1).trans HR.out)).1
       obtain ⟨q0,q1,q2,q3,l0,l1,l2,l3⟩:=row25' ((UU.out.bw.block _ (Array.getElem?_eq_some_iff.1 HR.out).1).trans HR.out)
       have KE : bI (hide (p8 w w9) wr) (hide (lo1 w) wr):=aH fun i h1 h2=>⟨(Bool.or_eq_false_iff.1 h2).1,rfl⟩
       have HKE:=Lib.hid KE
       clear KE
       go_wp2_with fail
       exact sP (f:=F) (aG HS.out.bw UU.out.bw) ((UU.out.bw.block _ (Array.getElem?_eq_some_iff.1 HR.out).1).trans HR.out) (UU.out.ht.keep HKE.out) (UU.out.hs.keep HKE.out) HQ2.out rfl
end Go.Proofs.YtppfalbnhnpbnaaGreatDoor
namespace Go.Proofs.YtppfalbnhnpbnaaGreatDoor
open Go Go.RowKit Ly
set_option maxRecDepth 10000
def btsD (l : Bs) : D:=.sl 1 l.length (l.map fun c=>.val (.int .u8 c.toNat))
def qG (w : World) (l : List Bs) (u : Value) : Prop:=At w (.sl 1 l.length (l.map btsD)) u
theorem qG.get {w : World} {l : List Bs} {a : Option Addr} {n c : Nat} (h : qG w l (.slice a n c)) : n = l.length ∧ n ≤ maxLen ∧ (l ≠ [] → ∃ b off,a = some ⟨b,off,none⟩ ∧ ∀ (i : Nat) (x : Bs),l[i]? = some x → ∃ s sn sc,w.cell? ⟨b,off + i,none⟩ = some (.slice s sn sc) ∧ iI w x (.slice s sn sc)):=by
 obtain ⟨a',cap,e,h1,h2,h3,h5⟩:=At.sl_inv h
 simp only [Value.slice.injEq] at e
 obtain ⟨rfl,rfl,rfl⟩:=e
 refine ⟨rfl,by omega,fun hne=>?_⟩
 rcases h5 with h5 | ⟨b,off,rfl,h5⟩
 ·exact absurd (List.eq_nil_of_length_eq_zero h5) hne
 ·refine ⟨b,off,rfl,fun i x hx=>?_⟩
  obtain ⟨u,hu,ha⟩:=h5 i (btsD x) (by rw [List.getElem?_map,hx];rfl)
  obtain ⟨s,sc,rfl,-⟩:=At.sl_inv ha
  exact ⟨s,_,sc,hu,ha⟩
end Go.Proofs.YtppfalbnhnpbnaaGreatDoor
namespace Go.Proofs.YtppfalbnhnpbnaaGreatDoor
open Go Go.ChangeShapes Go.WideShapes Go.ChangeAt Go.RowKit Ly
set_option maxRecDepth 10000
section
variable {H : Type} {enc : TypeId × Value → H}
theorem bts_trod {W : World} {v : Value} {fuel : Nat} {x : DataW H × List MemPlace} (hf : DataW.trod enc Tryz.prog W 0 (fun _=>true) true fuel 43 [v] = some x) : ∃ l : Bs,∃ a n c,v = .slice a n c ∧ iI W l (.slice a n c):=by
 rcases open_ints Tryz.underlying43 Tryz.underlying5 xD hf with ⟨hcs,hx⟩ | ⟨ad,len',cap',zs,hcs,_,hl,hm,hz,hx,hcell,hwz⟩
 ·simp at hcs
  subst hcs
  exact ⟨[],_,_,_,rfl,At.sl_nil (Nat.zero_le _)⟩
 ·simp at hcs
  subst hcs
  simp only [if_true] at hz
  have hlen : ((zs.take len').map fun n=>UInt8.ofNat n.toNat).length = len':=by simp;omega
  refine ⟨(zs.take len').map fun n=>UInt8.ofNat n.toNat,_,_,_,rfl, ?_⟩
  unfold iI
  rw [hlen]
  rcases Nat.eq_zero_or_pos len' with h0 | h0
  ·subst h0
   rw [List.take_zero]
   exact At.sl_nil hm
  ·obtain ⟨ab,ao,spot⟩:=ad
   have hspot : spot = none:=by simpa [Addr.add] using World.cell?_spot (hcell 0 (by omega))
   subst hspot
   refine At.sl_mk (by rw [List.length_map,hlen];omega) hl hm fun j dd hd=>?_
   rw [List.getElem?_map,List.getElem?_map,List.getElem?_take] at hd
   obtain ⟨x,hx1,rfl⟩:=Option.map_eq_some_iff.1 hd
   obtain ⟨z,hz1,rfl⟩:=Option.map_eq_some_iff.1 hx1
   split at hz1
   ·have hj:=(List.getElem?_eq_some_iff.1 hz1).1
    have hcj:=hcell j hj
    have hb:=range_u8 hwz j
    rw [hz1,Option.getD_some] at hb
    rw [List.getD_eq_getElem?_getD,hz1,Option.getD_some,Addr.add_lit] at hcj
    refine ⟨_,hcj, ?_⟩
    show Value.int .u8 z = .int .u8 ((UInt8.ofNat z.toNat).toNat : Int)
    congr 1
    simp only [UInt8.toNat_ofNat']
    omega
   ·cases hz1
theorem cells43 : Tryz.prog.cellsOf 43 = 1:=by kernel_rfl
theorem bbs_of {W : World} {base : Nat} {v : Value} {d : DataW H} {p : List MemPlace} (hval : Value.okWide Tryz.prog W .any base 22 v) (h : DataW.Trod enc Tryz.prog W 0 (fun _=>true) true 22 v d p) : ∃ (L : List Bs) (a : Option Addr) (n c : Nat),v = .slice a n c ∧ qG W L (.slice a n c):=by
 obtain ⟨a,len,cap,rfl⟩:=okWide_slice Tryz.underlying22 hval
 obtain ⟨fuel,hf⟩:=h
 rcases Go.Deep.open_slice1 Tryz.underlying22 cells43 hf with ⟨hcs,hx⟩ | ⟨ad,len',cap',m,n',V,D,Pl,hcs,_,hl,hm,hmm,_,hel⟩
 ·simp [Value.cells] at hcs
  obtain ⟨rfl,rfl,rfl⟩:=hcs
  exact ⟨[],_,_,_,rfl,At.sl_nil (Nat.zero_le _)⟩
 ·simp [Value.cells] at hcs
  obtain ⟨rfl,rfl,rfl⟩:=hcs
  simp only [if_true] at hmm
  subst hmm
  obtain ⟨f,hF⟩:=Go.Deep.choose_lt (α:=Bs) (n:=len) (p:=fun i l=>∃ a n c,V i = .slice a n c ∧ iI W l (.slice a n c)) fun i hi=>bts_trod (hel i (by omega)).2
  refine ⟨(List.range len).map f,_,_,_,rfl, ?_⟩
  have hlen : ((List.range len).map f).length = len:=by simp
  unfold qG
  rw [hlen]
  rcases Nat.eq_zero_or_pos len with h0 | h0
  ·subst h0
   exact At.sl_nil hm
  ·obtain ⟨ab,ao,spot⟩:=ad
   have hspot : spot = none:=by simpa [Addr.add] using World.cell?_spot (hel 0 (by omega)).1
   subst hspot
   refine At.sl_mk (by rw [List.length_map,hlen];omega) hl hm fun j dd hd=>?_
   rw [List.getElem?_map,List.getElem?_map] at hd
   obtain ⟨x,hx1,rfl⟩:=Option.map_eq_some_iff.1 hd
   obtain ⟨i,hi,rfl⟩:=Option.map_eq_some_iff.1 hx1
   have hlt:=(List.getElem?_eq_some_iff.1 hi).1
   rw [List.length_range] at hlt
   rw [List.getElem?_range hlt] at hi
   cases hi
   obtain ⟨a',n',c',e,hb⟩:=hF j hlt
   have hc:=(hel j (by omega)).1
   rw [e,Addr.add_lit] at hc
   exact ⟨_,hc,hb⟩
end
end Go.Proofs.YtppfalbnhnpbnaaGreatDoor
namespace Go.Proofs.YtppfalbnhnpbnaaGreatDoor
open Go Go.RowKit Ly
set_option maxRecDepth 10000
theorem yF : (Tryz.prog.info? 196).map (·.size) = some 2:=by kernel_rfl
theorem liesBld : liesAt Tryz.prog Tryz.prog.depth 196 (2 / Tryz.prog.cellsOf 196) 0 196 1 = true:=by kernel_rfl
theorem infoU8 : (Tryz.prog.info? 5).map (fun i=>(i.zero,i.size,i.bytes)) = some (some (.int .u8 0),1,1):=by kernel_rfl
set_option maxHeartbeats 1000000 in
theorem cc_used (b : Nat) (w : World) (h0 : w.cell? ⟨b,0,none⟩ = some (one b)) :
  Calls Tryz.prog 236 #[one b] w fun e w'=>e = .returned (.tuple #[]) ∧ w' = w:=by
 obtain ⟨j,hj,_⟩:=Option.map_eq_some_iff.1 yF
 go_enter Tryz.func236,Tryz.ntmps236
 go_wp2
 rw [Lib.run_neq_ptr_same w _ Tryz.underlying194 hj]
 go_wp2
 go_end0
 exact ⟨rfl,rfl⟩
set_option maxHeartbeats 1000000 in
theorem cc_fresh (b : Nat) (w : World) (h0 : w.cell? ⟨b,0,none⟩ = some (.pointer none)) (hsh : w.shape? b = some (196,2)) (hfz : w.frozen? ⟨b,0,none⟩ = false) :
  Calls Tryz.prog 236 #[one b] w fun e w'=>e = .returned (.tuple #[]) ∧ w' = w.setCell ⟨b,0,none⟩ (one b):=by
 obtain ⟨j,hj,hjs⟩:=Option.map_eq_some_iff.1 yF
 go_enter Tryz.func236,Tryz.ntmps236
 go_wp2
 rw [Lib.run_to_unsafe w ⟨b,0,none⟩ Tryz.underlying194 Tryz.underlying271 hj (by rw [hjs];decide) hsh (Nat.zero_lt_succ 1)]
 simp only [Result.andThen]
 rw [Oper.upon_value]
 go_wp2
 rw [run_callFunc_extern Tryz.func257 (by kernel_rfl) (by kernel_rfl) (by kernel_rfl) (e:=Extern.AbiNoEscape.same) (by kernel_rfl)]
 rw [Lib.run_noEscape]
 simp only [Result.andThen]
 rw [Oper.upon_value]
 go_wp2
 rw [Lib.run_from_unsafe w ⟨b,0,none⟩ Tryz.underlying271 Tryz.underlying194 hj hsh liesBld]
 simp only [Result.andThen]
 rw [Oper.upon_value]
 go_wp2
 go_end0
 exact ⟨rfl,rfl⟩
def Bld (B b : Nat) (bs : Bs) (w : World) : Prop:=Lib.IsBuilderF 196 5 B b (Lib.byteCells bs) w
structure Wrote (B b : Nat) (bs : Bs) (w w' : World) : Prop where
 bld : Bld B b bs w'
 bw : Below B w w'
 ok : Lib.OthersKept 5 (some b) w w'
theorem cc_c (B b : Nat) (bs : List Value) (w : World) (h : Lib.IsBuilderF 196 5 B b bs w) :
  Calls Tryz.prog 236 #[one b] w fun e w'=>e = .returned (.tuple #[]) ∧ (Lib.BuilderAtF 196 5 B b (one b) bs w' ∧ Below B w w' ∧ Lib.OthersKept 5 (some b) w w'):=by
 rcases h with h | h
 ·refine (cc_fresh b w h.cell0 h.shape h.frozen0).mono ?_
  rintro e w' ⟨rfl,rfl⟩
  exact ⟨rfl,h.used _,(Below.refl B w).setCell (p:=⟨b,0,none⟩) h.1 _,(Lib.OthersKept.refl _ _ w).setCell ⟨b,0,none⟩ rfl _⟩
 ·refine (cc_used b w h.cell0).mono ?_
  rintro e w' ⟨rfl,rfl⟩
  exact ⟨rfl,h,Below.refl B _,Lib.OthersKept.refl _ _ _⟩
set_option maxHeartbeats 2000000 in
theorem ws_c (B b : Nat) (bs s : Bs) (w : World) (h : Bld B b bs w) (hlen : bs.length + s.length ≤ 1000000000) (hBw : B ≤ w.heap.size) :
  Calls Tryz.prog 207 #[one b,str s] w fun e w'=>(∃ n : Int,e = .returned (.tuple #[.int .i64 n,.nilIface])) ∧ Wrote B b (bs ++ s) w w':=by
 obtain ⟨i0,hi,hz0,hz1,hz2⟩:=info_parts infoU8
 have H:=Lib.hid h
 clear h
 go_enter Tryz.func207,Tryz.ntmps207
 go_wp2_with (go_at_call 236;refine (cc_c B b _ _ H.out).mono ?_)
 rintro e w1 ⟨rfl,h1,hb1,hk1⟩
 obtain ⟨hB,v,hbk,hown,hne⟩:=h1
 have c0 : w1.cell? ⟨b,0,none⟩ = some (.pointer (some ⟨b,0,none⟩)):=by rw [Lib.cell_of_heap hbk];rfl
 have c1 : w1.cell? ⟨b,1,none⟩ = some v:=by rw [Lib.cell_of_heap hbk];rfl
 go_wp2_with (at_builtin;refine Lib.wpList_append_own_stringF _ rfl _ _ 43 9 rfl B 5 i0 Tryz.underlying43 Tryz.underlying9 hi hz0 hz1 hz2 _ _ _ rfl hown ⟨s.toArray⟩ rfl ?c3 ?c4 ?c5 ?_)
 case c3=>rw [Lib.byteCells_length];unfold maxLen;show bs.length + s.toArray.size ≤ _;rw [List.size_toArray];omega
 case c4=>rw [Lib.byteCells_length];show bs.length + s.toArray.size ≤ _;rw [List.size_toArray];omega
 case c5=>have:=hb1.size;omega
 intro v' w2 hown' hgrow _
 have hlt : b < w1.heap.size:=(Array.getElem?_eq_some_iff.1 hbk).1
 have hb2 : w2.heap[b]? = some (.cells #[.pointer (some ⟨b,0,none⟩),v] 196 (0,0)):=by
  rw [hgrow.block b hlt (fun e=>hne e.symm)]
  exact hbk
 have d0 : w2.cell? ⟨b,0,none⟩ = some (.pointer (some ⟨b,0,none⟩)):=by rw [Lib.cell_of_heap hb2];rfl
 have d1 : w2.cell? ⟨b,1,none⟩ = some v:=by rw [Lib.cell_of_heap hb2];rfl
 have f1 : w2.frozen? ⟨b,1,none⟩ = false:=Lib.frozen_of_heap hb2 1
 obtain ⟨ao,n',cap,rfl⟩ : ∃ ao n' cap,v' = .slice ao n' cap:=by
  rcases hown'.2 with ⟨hv,_⟩ | ⟨g,cap,cur,fz,hv,_⟩
  ·exact ⟨_,_,_,hv⟩
  ·exact ⟨_,_,_,hv⟩
 go_wp2
 go_ret2
 refine ⟨⟨_,rfl⟩, ?_, ?_,(hk1.grown hgrow (Lib.ownsRowF_kind hown)).setCell ⟨b,1,none⟩ rfl _⟩
 ·refine .inr ?_
  rw [Lib.byteCells_append]
  exact Lib.BuilderAtF.put (T:=196) (e:=5) hB hb2 (bs':=Lib.byteCells bs ++ Lib.byteCells s) (by simpa [Lib.strCells_length,Lib.byteCells_length,Lib.strCells_eq] using hown') (by decide)
 ·exact (hb1.grown hgrow (by have:=hb1.size;omega) (fun k hk=>(hown.lt k hk).1)).setCell (p:=⟨b,1,none⟩) hB _
end Go.Proofs.YtppfalbnhnpbnaaGreatDoor
