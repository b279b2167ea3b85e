/- Plain law: SkeletonApart: claims of different shape have different skeletons. Nothing of the program is imported. -/
import Derived.Test.YtppfalbnhnpbnaaGreatDoorNtDY
import Derived.Test.YtppfalbnhnpbnaaGreatDoorRdCY
import Derived.Test.YtppfalbnhnpbnaaGreatDoorAwFY
import Derived.Test.YtppfalbnhnpbnaaGreatDoorFlxY
import Derived.Test.YtppfalbnhnpbnaaGreatDoorBuiltY
import Derived.Test.YtppfalbnhnpbnaaGreatDoorMakeY
import Derived.Test.YtppfalbnhnpbnaaGreatDoorSkKY
import Derived.Test.YtppfalbnhnpbnaaGreatDoorClBY
set_option linter.unusedSimpArgs false
set_option linter.unusedVariables false
namespace Ly
open Go.Lib (itoa decDigits)
def second : Fm → Bs
  | .mk _ _ _ (.mk _ _ _ (_ :: .mk _ n _ _ :: _) :: _) => n
  | _ => []
end Ly
namespace Go.Proofs.YtppfalbnhnpbnaaGreatDoor
open Go Go.RowKit Ly
set_option maxRecDepth 10000
theorem SqBox.vals {g : Nat} {L R : List Fm} {W : World} (h : SqBox g L R W) : ∃ a n c b m d, (W.cell? ⟨g, 0, none⟩ = some (.slice a n c) ∧ W.cell? ⟨g, 1, none⟩ = some (.slice b m d)) ∧ Hid (SqVal W L R (.agg #[.slice a n c, .slice b m d])) := by
  obtain ⟨a, n, c, b, m, d, h0, h1, h2⟩ := h
  obtain ⟨p0, p1, -, -⟩ := row2 h0
  exact ⟨a, n, c, b, m, d, ⟨p0, p1⟩, _, _, _, _, _, _, rfl, h1, h2⟩
end Go.Proofs.YtppfalbnhnpbnaaGreatDoor
namespace Go.Proofs.YtppfalbnhnpbnaaGreatDoor
open Go Go.RowKit Ly
set_option maxRecDepth 10000
structure OgT (w : World) (a5 b5 a6 b6 : Option Addr) (n c5 m d5 c6 d6 g5 g6 B B2 : Nat) (L R S1 S2 : List Fm) (W : World) : Prop where
  bw : Below w.heap.size w W
  r5 : W.heap[g5]? = some (.cells #[.slice a5 n c5, .slice b5 m d5] 26 (0, 0))
  r6 : W.heap[g6]? = some (.cells #[.slice a6 n c6, .slice b6 m d6] 26 (0, 0))
  hL : FmsAt W L (.slice a5 n c5)
  hR : FmsAt W R (.slice b5 m d5)
  hS : FmsAt W S1 (.slice a6 n c6)
  hT : FmsAt W S2 (.slice b6 m d6)
  hB : W.heap[B]? = some (.cells #[.func (.func 14) #[] #[one B]] 35 (0, 0))
  hB2 : W.heap[B2]? = some (.cells #[.func (.func 15) #[] #[one B, one B2]] 34 (0, 0))
theorem OgT.next {w : World} {a5 b5 a6 b6 : Option Addr} {n c5 m d5 c6 d6 g5 g6 B B2 : Nat} {L R S1 S2 : List Fm} {W W' : World} (h : OgT w a5 b5 a6 b6 n c5 m d5 c6 d6 g5 g6 B B2 L R S1 S2 W) (b : Below W.heap.size W W') : OgT w a5 b5 a6 b6 n c5 m d5 c6 d6 g5 g6 B B2 L R S1 S2 W' :=
  ⟨belowThen h.bw b, kc b h.r5, kc b h.r6, h.hL.keep (keeps_of_below b), h.hR.keep (keeps_of_below b), h.hS.keep (keeps_of_below b), h.hT.keep (keeps_of_below b), kc b h.hB, kc b h.hB2⟩
set_option maxHeartbeats 8000000 in
theorem of30_c (l : List Bs) (k : Nat) (hk : k < 256) (a : Option Addr) (n c : Nat) (w : World) (hr : RowsAt w) (hp : PowAt w) (hl : BtssAt w l (.slice a n c)) :
    Calls Tryz.prog 3 #[.slice a n c, .int .u8 k] w fun e w' => e = .returned (.bool true) ∧ Below w.heap.size w w' := by
  have HR := Lib.hid hr
  have HP := Lib.hid hp
  obtain ⟨L, hL⟩ : ∃ L, clL l (k % 5) 4 = L := ⟨_, rfl⟩
  obtain ⟨R, hR⟩ : ∃ R, clR l (k % 5) 4 = R := ⟨_, rfl⟩
  have CC : Hid (∀ W, Below w.heap.size w W → Calls Tryz.prog 10 #[.slice a n c, .int .u8 k] W fun e w' => ∃ v, e = .returned v ∧ SqVal (hide (lo W) w') L R v ∧ Below W.heap.size W w') := fun W hW => by rw [← hL, ← hR]; exact claim_c l k hk a n c W (At.keep (keeps_of_below hW) _ _ hl)
  have rL : ∀ f ∈ L, f.right = true := fun f hf => by
    rw [← hL] at hf
    obtain ⟨x, -, rfl⟩ := List.mem_map.1 hf
    exact built_right x
  have rR : ∀ f ∈ R, f.right = true := fun f hf => by
    rw [← hR] at hf
    obtain ⟨x, -, rfl⟩ := List.mem_map.1 hf
    exact built_right x
  have lL : L.length ≤ 4 := by rw [← hL]; simp [clL]; omega
  have lR : R.length ≤ 4 := by rw [← hR]; simp [clR]; omega
  obtain ⟨S1, hS1⟩ : ∃ S, (skOf L R).1 = S := ⟨_, rfl⟩
  obtain ⟨S2, hS2⟩ : ∃ S, (skOf L R).2 = S := ⟨_, rfl⟩
  have SL := skOf_len L R
  have OK1 : Hid (okSq L R) := ⟨rL, rR, by omega, by omega⟩
  have OK2 : Hid (okSq S1 S2) := ⟨by rw [← hS1]; exact sk_leftR rL (R := R) (by omega), by rw [← hS2]; exact sk_rightR rL rR (by omega), by rw [← hS1]; omega, by rw [← hS2]; omega⟩
  have ID : Hid (skOf S1 S2 = (S1, S2)) := by
    have := skOf_idem rL rR (by omega)
    rw [hS1, hS2] at this
    show _ = _
    rw [this]
    exact Prod.ext hS1 hS2
  have SK : Hid (skOf L R = (S1, S2)) := Prod.ext hS1 hS2
  have GL : Hid (∀ (j : Nat) (T U : Fm), L[j]? = some T → S1[j]? = some U → T.alike U = true ∧ U.right = true) := fun j T U h1 h2 => sk_left rL (R := R) (by omega) h1 (by rw [hS1]; exact h2)
  have GR : Hid (∀ (j : Nat) (T U : Fm), R[j]? = some T → S2[j]? = some U → T.alike U = true ∧ U.right = true) := fun j T U h1 h2 => sk_right rL rR (by omega) h1 (by rw [hS2]; exact h2)
  rw [hS1, hS2] at SL
  have LL := Lib.hid SL
  clear hr hp hl hL hR rL rR lL lR SL hS1 hS2 hk
  go_enter Tryz.func3, Tryz.ntmps3
  go_upto_region 3 with (go_at_call 9; refine (awake_c _ HR.out HP.out).mono ?_; rintro e w1 ⟨rfl, b1⟩; have B1 := Lib.hid b1; clear b1)
  go_cut [5] from 20 to 22 (fun u5 wx => ∃ g5, u5 = one g5 ∧ Hid (Below w.heap.size w wx ∧ SqBox g5 L R wx))
  case first =>
    go_wp2_with (go_at_call 10
                 refine (CC.out _ B1.out).mono ?_
                 rintro e w2 ⟨v2, rfl, ⟨xa, xn, xc, xb, xm, xd, rfl, h1, h2⟩, b2⟩
                 have N2 := Lib.hid (And.intro (belowThen B1.out b2) (And.intro h1 h2))
                 clear h1 h2 b2)
    go_meet
    exact ⟨_, rfl, belowThen N2.out.1 (below_new _ _), SqBox.mk (heap_alloc_new _ _) (N2.out.2.1.keep (hide_keep_new _ _ _)) (N2.out.2.2.keep (hide_keep_new _ _ _))⟩
  case rest =>
  obtain ⟨g5, rfl, S5⟩ := hcut
  obtain ⟨xa, xn, xc, xb, xm, xd, ⟨p0, p1⟩, V5⟩ := S5.out.2.vals
  go_upto_region 4 with fail
  go_cut [6, 7] from 23 to 27 (fun u6 u7 wx => ∃ g6, u6 = one g6 ∧ u7 = .int .i64 0 ∧ Hid (Below wc.heap.size wc wx ∧ SqBox g6 S1 S2 wx))
  case first =>
    go_wp2_with (go_at_call 11
                 refine (Of_c L R _ _ (HR.out.keep (keeps_of_below S5.out.1)) (HP.out.below S5.out.1) V5.out OK1.out.1 OK1.out.2.1 OK1.out.2.2.1 OK1.out.2.2.2).mono ?_
                 rw [SK.out]
                 rintro e w8 ⟨ya, yn, yc, yb, ym, yd, rfl, h1, h2, b8⟩
                 have N8 := Lib.hid (And.intro b8 (And.intro h1 h2))
                 clear h1 h2 b8)
    go_meet
    exact ⟨_, rfl, rfl, belowThen N8.out.1 (below_new _ _), SqBox.mk (heap_alloc_new _ _) (N8.out.2.1.keep (hide_keep_new _ _ _)) (N8.out.2.2.keep (hide_keep_new _ _ _))⟩
  case rest =>
  obtain ⟨g6, rfl, rfl, S6⟩ := hcut
  have T5 := Lib.hid (And.intro (belowThen S5.out.1 S6.out.1) (S5.out.2.below S6.out.1))
  clear S5 V5 p0 p1
  obtain ⟨xa', xn', xc', xb', xm', xd', ⟨p0, p1⟩, V6⟩ := S6.out.2.vals
  go_upto_region 5 with fail
  go_cut [8, 9] from 28 to 32 (fun u6 u7 wx => ∃ g8, u6 = one g8 ∧ u7 = .int .i64 0 ∧ Hid (Below wc.heap.size wc wx ∧ SqBox g8 S1 S2 wx))
  case first =>
    go_wp2_with (go_at_call 11
                 refine (Of_c S1 S2 _ _ (HR.out.keep (keeps_of_below T5.out.1)) (HP.out.below T5.out.1) V6.out OK2.out.1 OK2.out.2.1 OK2.out.2.2.1 OK2.out.2.2.2).mono ?_
                 rw [ID.out]
                 rintro e w8 ⟨ya, yn, yc, yb, ym, yd, rfl, h1, h2, b8⟩
                 have N8 := Lib.hid (And.intro b8 (And.intro h1 h2))
                 clear h1 h2 b8)
    go_meet
    exact ⟨_, rfl, rfl, belowThen N8.out.1 (below_new _ _), SqBox.mk (heap_alloc_new _ _) (N8.out.2.1.keep (hide_keep_new _ _ _)) (N8.out.2.2.keep (hide_keep_new _ _ _))⟩
  case rest =>
  obtain ⟨g8, rfl, rfl, S8⟩ := hcut
  have U5 := Lib.hid (And.intro (belowThen T5.out.1 S8.out.1) (T5.out.2.below S8.out.1))
  have U6 := Lib.hid (S6.out.2.below S8.out.1)
  have U8 := Lib.hid S8.out.2
  clear T5 S6 S8 V6 p0 p1
  obtain ⟨a5, n5, c5, b5, m5, d5, hg5, hL5, hR5⟩ := U5.out.2
  obtain ⟨a6, n6, c6, b6, m6, d6, hg6, hL6, hR6⟩ := U6.out
  obtain ⟨a8, n8, c8, b8, m8, d8, hg8, hL8, hR8⟩ := U8.out
  have e1 : n5 = n6 := by rw [hL5.len.1, hL6.len.1]; exact LL.out.1.symm
  have e2 : m5 = m6 := by rw [hR5.len.1, hR6.len.1]; exact LL.out.2.symm
  subst e1 e2
  have N5 : n5 ≤ 9223372036854775807 := le63 (Nat.le_trans hL5.len.2.1 hL5.len.2.2)
  have M5 : m5 ≤ 9223372036854775807 := le63 (Nat.le_trans hR5.len.2.1 hR5.len.2.2)
  have Q5 : Hid (wc.heap[g5]? = some (.cells #[.slice a5 n5 c5, .slice b5 m5 d5] 26 (0, 0)) ∧ FmsAt wc L (.slice a5 n5 c5) ∧ FmsAt wc R (.slice b5 m5 d5)) := ⟨hg5, hL5, hR5⟩
  have Q6 : Hid (wc.heap[g6]? = some (.cells #[.slice a6 n5 c6, .slice b6 m5 d6] 26 (0, 0)) ∧ FmsAt wc S1 (.slice a6 n5 c6) ∧ FmsAt wc S2 (.slice b6 m5 d6)) := ⟨hg6, hL6, hR6⟩
  have Q8 : Hid (wc.heap[g8]? = some (.cells #[.slice a8 n8 c8, .slice b8 m8 d8] 26 (0, 0)) ∧ FmsAt wc S1 (.slice a8 n8 c8) ∧ FmsAt wc S2 (.slice b8 m8 d8)) := ⟨hg8, hL8, hR8⟩
  clear hL5 hR5 hL6 hR6 hL8 hR8
  obtain ⟨p0, p1, -, -⟩ := row2 hg5
  obtain ⟨q0, q1, -, -⟩ := row2 hg6
  obtain ⟨s0, s1, -, -⟩ := row2 hg8
  clear hg5 hg6 hg8
  have V5 : Hid (SqVal wc L R (.agg #[.slice a5 n5 c5, .slice b5 m5 d5])) := ⟨_, _, _, _, _, _, rfl, Q5.out.2.1, Q5.out.2.2⟩
  have V6 : Hid (SqVal wc S1 S2 (.agg #[.slice a6 n5 c6, .slice b6 m5 d6])) := ⟨_, _, _, _, _, _, rfl, Q6.out.2.1, Q6.out.2.2⟩
  have V8 : Hid (SqVal wc S1 S2 (.agg #[.slice a8 n8 c8, .slice b8 m8 d8])) := ⟨_, _, _, _, _, _, rfl, Q8.out.2.1, Q8.out.2.2⟩
  have SE : Hid (sameSk L R S1 S2 = true) := sameSk_eq (by rw [SK.out, ID.out])
  go_upto_region 13 with (first
    | (go_at_call 12
       refine (Same_c L R S1 S2 _ _ _ (HR.out.keep (keeps_of_below U5.out.1)) (HP.out.below U5.out.1) V5.out V6.out OK1.out OK2.out).mono ?_
       rw [SE.out]
       rintro e w1 ⟨rfl, b1⟩
       have X1 := Lib.hid b1
       have K := keeps_of_below b1
       replace p0 := K _ _ p0; replace p1 := K _ _ p1; replace q0 := K _ _ q0; replace q1 := K _ _ q1; replace s0 := K _ _ s0; replace s1 := K _ _ s1
       clear b1 K)
    | (have Z := X1.out; clear Z; go_at_call 13
       refine (SameSeq_c S1 S2 S1 S2 _ _ _ (sqP_keep V6.out X1.out) (sqP_keep V8.out X1.out)).mono ?_
       rw [fmsSame_self]
       rintro e w2 ⟨rfl, b2⟩
       have X2 := Lib.hid (belowThen X1.out b2)
       have K := keeps_of_below b2
       replace p0 := K _ _ p0; replace p1 := K _ _ p1; replace q0 := K _ _ q0; replace q1 := K _ _ q1
       clear b2 K))
  obtain ⟨W9, hW9⟩ : ∃ W9, (w2.alloc (.cells #[.func (.func 15) #[] #[one (w2.heap.size + 1), one w2.heap.size]] 34)).alloc (.cells #[.func (.func 14) #[] #[one (w2.heap.size + 1)]] 35) = W9 := ⟨_, rfl⟩
  rw [hW9]
  have T9 : Hid (OgT w a5 b5 a6 b6 n5 c5 m5 d5 c6 d6 g5 g6 (w2.heap.size + 1) w2.heap.size L R S1 S2 W9) := by
    have hb : Below wc.heap.size wc W9 := by rw [← hW9]; exact belowThen X2.out (((Below.refl _ _).alloc (Nat.le_refl _) _).alloc (by simp) _)
    refine ⟨belowThen U5.out.1 hb, kc hb Q5.out.1, kc hb Q6.out.1, Q5.out.2.1.keep (keeps_of_below hb), Q5.out.2.2.keep (keeps_of_below hb), Q6.out.2.1.keep (keeps_of_below hb), Q6.out.2.2.keep (keeps_of_below hb), ?_, ?_⟩
    · rw [← hW9]
      have := heap_alloc_new (w2.alloc (.cells #[.func (.func 15) #[] #[one (w2.heap.size + 1), one w2.heap.size]] 34)) (.cells #[.func (.func 14) #[] #[one (w2.heap.size + 1)]] 35)
      rw [World.size_alloc] at this
      exact this
    · rw [← hW9]; exact keep_new _ (heap_alloc_new w2 _)
  obtain ⟨B, hB⟩ : ∃ B, w2.heap.size + 1 = B := ⟨_, rfl⟩
  obtain ⟨B2, hB2⟩ : ∃ B, w2.heap.size = B := ⟨_, rfl⟩
  rw [hB, hB2] at T9
  clear p0 p1 q0 q1 hW9 X1 X2 V5 V6 V8 SE U5 U6 U8 Q5 Q6 Q8 ID SK OK1 OK2 CC s0 s1 LL
  obtain ⟨p0, p1, -, -⟩ := row2 T9.out.r5
  rw [hB2]
  try rw [show B2 + 1 = B by omega]
  clear hB hB2
  go_wp2_with fail
  clear p0 p1
  go_loopw [78] (fun i wr => ∃ j : Nat, j ≤ n5 ∧ i = .int .i64 j ∧ Hid (OgT w a5 b5 a6 b6 n5 c5 m5 d5 c6 d6 g5 g6 B B2 L R S1 S2 wr)) (fun i _ => n5 - (intOf i).toNat)
  case atStart => exact ⟨0, Nat.zero_le _, rfl, T9.out⟩
  case round =>
    obtain ⟨j, hj, rfl, HS⟩ := hrel
    clear T9
    by_cases hlt : j < n5
    · obtain ⟨T, hT⟩ := get_of_lt (l := L) (j := j) (by rw [← HS.out.hL.len.1]; exact hlt)
      obtain ⟨U, hU⟩ := get_of_lt (l := S1) (j := j) (by rw [← HS.out.hS.len.1]; exact hlt)
      obtain ⟨hal, hur⟩ := GL.out j T U hT hU
      obtain ⟨bb, off, rfl, hc⟩ := HS.out.hL.get (ne_of_get hT)
      obtain ⟨x0, x1, x2, x3, x4, x5, hx⟩ := hc j _ hT
      obtain ⟨bb2, off2, rfl, hd⟩ := HS.out.hS.get (ne_of_get hU)
      obtain ⟨y0, y1, y2, y3, y4, y5, hy⟩ := hd j _ hU
      have k0 := hx.c0
      have k1 := hx.c1
      have k2 := hx.c2
      have k3 := hx.c3
      obtain ⟨wn, hwn⟩ : ∃ wn, wr.alloc (.cells #[.int .u8 T.op, str T.name, .slice x0 x1 x2, .slice x3 x4 x5] 40) = wn := ⟨_, rfl⟩
      have bn : Below wr.heap.size wr wn := by rw [← hwn]; exact below_new _ _
      have K := keeps_of_below bn
      have HX : Hid (wn.heap[wr.heap.size]? = some (.cells #[.int .u8 T.op, str T.name, .slice x0 x1 x2, .slice x3 x4 x5] 40 (0, 0))) := by rw [Hid, ← hwn]; exact heap_alloc_new _ _
      have HV : Hid (FmVal wn T (.agg #[.int .u8 T.op, str T.name, .slice x0 x1 x2, .slice x3 x4 x5])) := ⟨_, _, _, _, _, _, rfl, hx.at_.keep K, hx.at'.keep K⟩
      have HD : Hid (FmCells wn bb2 (off2 + j * 4) U y0 y1 y2 y3 y4 y5) := ⟨K _ _ hy.c0, K _ _ hy.c1, K _ _ hy.c2, K _ _ hy.c3, hy.at_.keep K, hy.at'.keep K⟩
      have HN := Lib.hid (HS.out.next bn)
      have HT : Hid (∀ w' x y, Below wn.heap.size wn w' → FmVal w' T x → FmVal w' U y → Calls Tryz.prog 15 #[x, y, one B, one B2] w' fun e w'' => e = .returned (.bool true) ∧ Below w'.heap.size w' w'') := fun w' x y hb h1 h2 => fl_all T U hal hur w' B B2 x y (HR.out.keep (keeps_of_below (belowThen HN.out.bw hb))) (kc hb HN.out.hB) (kc hb HN.out.hB2) h1 h2
      clear hc hd hx hy K hT hU hal hur bn HS
      go_wp2_with fail
      try rw [hwn]
      refine wp_region_flow_at ogLO (by kernel_rfl) (by kernel_rfl) (by kernel_rfl) 111 rfl (by kernel_rfl) [83, 84, 85, 86, 87, 88, 89, 90, 91] (by kernel_rfl) (rAt (ogLR T U bb2 off2 c6 j n5 B B2 g6 (.slice b6 m5 d6))) (rAt_stays (ogL_stays T U bb2 off2 c6 j n5 B B2 g6 (.slice b6 m5 d6))) [0, 1, 2, 3, 4, 5, 6, 7, 8] (by kernel_rfl) (ogL_steps T U bb2 off2 c6 j n5 B B2 g6 (.slice b6 m5 d6) _ _ _ rfl rfl rfl rfl hlt HX.out HV.out HN.out.r6 HD.out HN.out.hB2 HT.out) (fun x wy hby hx => ?_)
      have e8 : x 8 = .bool false := hx 8 (of_decide_eq_true (by kernel_rfl))
      simp only [setAll, List.map_cons, List.map_nil, List.setIfInBounds_toArray, List.set_cons_zero, List.set_cons_succ, e8]
      have BW := Lib.hid (HN.out.next hby)
      clear hx hby e8 HX HV HD HT HN hwn k0 k1 k2 k3
      go_wp2_with fail
      go_roundw
      case rel => exact ⟨j + 1, by omega, by go_num, BW.out⟩
      case measure => simp [intOf]; omega
    · have hge : ¬ ((j : Int) < (n5 : Int)) := by omega
      have HT9 := Lib.hid HS.out
      obtain ⟨p0, p1, -, -⟩ := row2 HS.out.r5
      clear HS hlt hj
      go_wp2_with fail
      clear hge
      clear p0 p1
      go_loopw [96] (fun i wr => ∃ j : Nat, j ≤ m5 ∧ i = .int .i64 j ∧ Hid (OgT w a5 b5 a6 b6 n5 c5 m5 d5 c6 d6 g5 g6 B B2 L R S1 S2 wr)) (fun i _ => m5 - (intOf i).toNat)
      case atStart => exact ⟨0, Nat.zero_le _, rfl, HT9.out⟩
      case round =>
        obtain ⟨j, hj, rfl, HS⟩ := hrel
        clear HT9
        by_cases hlt : j < m5
        · obtain ⟨T, hT⟩ := get_of_lt (l := R) (j := j) (by rw [← HS.out.hR.len.1]; exact hlt)
          obtain ⟨U, hU⟩ := get_of_lt (l := S2) (j := j) (by rw [← HS.out.hT.len.1]; exact hlt)
          obtain ⟨hal, hur⟩ := GR.out j T U hT hU
          obtain ⟨bb, off, rfl, hc⟩ := HS.out.hR.get (ne_of_get hT)
          obtain ⟨x0, x1, x2, x3, x4, x5, hx⟩ := hc j _ hT
          obtain ⟨bb2, off2, rfl, hd⟩ := HS.out.hT.get (ne_of_get hU)
          obtain ⟨y0, y1, y2, y3, y4, y5, hy⟩ := hd j _ hU
          have k0 := hx.c0
          have k1 := hx.c1
          have k2 := hx.c2
          have k3 := hx.c3
          obtain ⟨wn, hwn⟩ : ∃ wn, wr.alloc (.cells #[.int .u8 T.op, str T.name, .slice x0 x1 x2, .slice x3 x4 x5] 40) = wn := ⟨_, rfl⟩
          have bn : Below wr.heap.size wr wn := by rw [← hwn]; exact below_new _ _
          have K := keeps_of_below bn
          have HX : Hid (wn.heap[wr.heap.size]? = some (.cells #[.int .u8 T.op, str T.name, .slice x0 x1 x2, .slice x3 x4 x5] 40 (0, 0))) := by rw [Hid, ← hwn]; exact heap_alloc_new _ _
          have HV : Hid (FmVal wn T (.agg #[.int .u8 T.op, str T.name, .slice x0 x1 x2, .slice x3 x4 x5])) := ⟨_, _, _, _, _, _, rfl, hx.at_.keep K, hx.at'.keep K⟩
          have HD : Hid (FmCells wn bb2 (off2 + j * 4) U y0 y1 y2 y3 y4 y5) := ⟨K _ _ hy.c0, K _ _ hy.c1, K _ _ hy.c2, K _ _ hy.c3, hy.at_.keep K, hy.at'.keep K⟩
          have HN := Lib.hid (HS.out.next bn)
          have HT : Hid (∀ w' x y, Below wn.heap.size wn w' → FmVal w' T x → FmVal w' U y → Calls Tryz.prog 15 #[x, y, one B, one B2] w' fun e w'' => e = .returned (.bool true) ∧ Below w'.heap.size w' w'') := fun w' x y hb h1 h2 => fl_all T U hal hur w' B B2 x y (HR.out.keep (keeps_of_below (belowThen HN.out.bw hb))) (kc hb HN.out.hB) (kc hb HN.out.hB2) h1 h2
          clear hc hd hx hy K hT hU hal hur bn HS
          go_wp2_with fail
          try rw [hwn]
          refine wp_region_flow_at ogRO (by kernel_rfl) (by kernel_rfl) (by kernel_rfl) 111 rfl (by kernel_rfl) [101, 102, 103, 104, 105, 106, 107, 108, 109] (by kernel_rfl) (rAt (ogRR T U bb2 off2 d6 j m5 B B2 g6 (.slice a6 n5 c6))) (rAt_stays (ogR_stays T U bb2 off2 d6 j m5 B B2 g6 (.slice a6 n5 c6))) [0, 1, 2, 3, 4, 5, 6, 7, 8] (by kernel_rfl) (ogR_steps T U bb2 off2 d6 j m5 B B2 g6 (.slice a6 n5 c6) _ _ _ rfl rfl rfl rfl hlt HX.out HV.out HN.out.r6 HD.out HN.out.hB2 HT.out) (fun x wy hby hx => ?_)
          have e8 : x 8 = .bool false := hx 8 (of_decide_eq_true (by kernel_rfl))
          simp only [setAll, List.map_cons, List.map_nil, List.setIfInBounds_toArray, List.set_cons_zero, List.set_cons_succ, e8]
          have BW := Lib.hid (HN.out.next hby)
          clear hx hby e8 HX HV HD HT HN hwn k0 k1 k2 k3
          go_wp2_with fail
          go_roundw
          case rel => exact ⟨j + 1, by omega, by go_num, BW.out⟩
          case measure => simp [intOf]; omega
        · have hge : ¬ ((j : Int) < (m5 : Int)) := by omega
          go_wp2_with fail
          try rw [Exit.noGoto_ret]
          go_ret
          exact ⟨rfl, HS.out.bw⟩
end Go.Proofs.YtppfalbnhnpbnaaGreatDoor
