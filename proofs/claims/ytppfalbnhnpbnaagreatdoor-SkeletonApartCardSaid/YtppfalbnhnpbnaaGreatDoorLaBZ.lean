/- lyceumlaw30.SkeletonApart answers true. Conditions: the tables lie as laid. -/
import Derived.Test.YtppfalbnhnpbnaaGreatDoorAwFZ
import Derived.Test.YtppfalbnhnpbnaaGreatDoorLaAZ
import Derived.Test.YtppfalbnhnpbnaaGreatDoorAwyZ
set_option linter.unusedSimpArgs false
set_option linter.unusedVariables false
namespace Go.Proofs.YtppfalbnhnpbnaaGreatDoor
open Go Go.RowKit Ly
set_option maxRecDepth 10000
theorem hide_plain (p : Nat → Bool) (w : World) : Keeps (hide p w) w := fun a v h => by
  rw [hide_cell (hide_none h)] at h
  exact h
theorem nil_fs (W : World) : FmsAt W [] (.slice none 0 0) := At.sl_nil (Nat.zero_le _)
structure Tail (w : World) (g6 g7 : Nat) (L6 R6 L R : List Fm) (W : World) : Prop where
  bw : Below w.heap.size w W
  s6 : SqBox g6 L6 R6 W
  s7 : SqBox g7 L R W
theorem Tail.next {w : World} {g6 g7 : Nat} {L6 R6 L R : List Fm} {W W' : World} (h : Tail w g6 g7 L6 R6 L R W) (b : Below W.heap.size W W') : Tail w g6 g7 L6 R6 L R W' := ⟨belowThen h.bw b, h.s6.below b, h.s7.below b⟩
theorem tail_store {w W : World} {g6 g7 : Nat} {L6 R6 L R : List Fm} {x y : Value} {a b : Option Addr} {n c m d : Nat} (hb : Below w.heap.size w W) (hl : w.heap.size ≤ g7) (h6 : SqBox g6 L6 R6 W) (hne : g6 ≠ g7) (h7 : W.heap[g7]? = some (.cells #[x, y] 26 (0, 0))) (hL : FmsAt W L (.slice a n c)) (hR : FmsAt W R (.slice b m d)) :
    Tail w g6 g7 L6 R6 L R ((W.setCell ⟨g7, 0, none⟩ (.slice a n c)).setCell ⟨g7, 1, none⟩ (.slice b m d)) := by
  have key : ∀ k, k ≠ g7 → ((W.setCell ⟨g7, 0, none⟩ (.slice a n c)).setCell ⟨g7, 1, none⟩ (.slice b m d)).heap[k]? = W.heap[k]? := fun k hk => by rw [Below.heap_setCell _ _ _ _ hk, Below.heap_setCell _ _ _ _ hk]
  obtain ⟨a', n', c', b', m', d', h0, h1, h2⟩ := h6
  exact ⟨(hb.setCell hl _).setCell hl _, ⟨_, _, _, _, _, _, (key _ hne).trans h0, h1.away h7 key, h2.away h7 key⟩, _, _, _, _, _, _, (set_block (o := 1) (u := .slice b m d) (set_block (o := 0) (u := .slice a n c) h7)).trans rfl, hL.away h7 key, hR.away h7 key⟩
theorem SqBox.lt {g : Nat} {L R : List Fm} {W : World} (h : SqBox g L R W) : g < W.heap.size := by
  obtain ⟨a, n, c, b, m, d, h0, -⟩ := h
  exact (Array.getElem?_eq_some_iff.1 h0).1
theorem SqBox.vals {g : Nat} {L R : List Fm} {W : World} (h : SqBox g L R W) : ∃ a n c b m d, (W.cell? ⟨g, 0, none⟩ = some (.slice a n c) ∧ W.cell? ⟨g, 1, none⟩ = some (.slice b m d)) ∧ Hid (SqVal W L R (.agg #[.slice a n c, .slice b m d])) := by
  obtain ⟨a, n, c, b, m, d, h0, h1, h2⟩ := h
  obtain ⟨p0, p1, -, -⟩ := row2 h0
  exact ⟨a, n, c, b, m, d, ⟨p0, p1⟩, _, _, _, _, _, _, rfl, h1, h2⟩
theorem okSq_l {f : Fm} (h : f.right = true) : okSq [f] [] := ⟨fun g hg => (by rw [List.mem_singleton.1 hg]; exact h), fun g hg => (by cases hg), by simp, by simp⟩
theorem okSq_r {f : Fm} (h : f.right = true) : okSq [] [f] := ⟨fun g hg => (by cases hg), fun g hg => (by rw [List.mem_singleton.1 hg]; exact h), by simp, by simp⟩
structure LaS (w : World) (X : Fm) (g5 bb off d2 g6 g7 : Nat) (W : World) : Prop where
  bw : Below w.heap.size w W
  a5 : ApX X g5 bb off d2 W
  s6 : SqBox g6 [apF X] [] W
  z7 : W.heap[g7]? = some (.cells #[.slice none 0 0, .slice none 0 0] 26 (0, 0))
theorem LaS.next {w : World} {X : Fm} {g5 bb off d2 g6 g7 : Nat} {W W' : World} (h : LaS w X g5 bb off d2 g6 g7 W) (b : Below W.heap.size W W') : LaS w X g5 bb off d2 g6 g7 W' := ⟨belowThen h.bw b, h.a5.below b, h.s6.below b, kc b h.z7⟩
theorem LaS.store {w : World} {X : Fm} {g5 bb off d2 g6 g7 : Nat} {W : World} (h : LaS w X g5 bb off d2 g6 g7 W) (hl : w.heap.size ≤ g7) (hne : g6 ≠ g7) {L R : List Fm} {a b : Option Addr} {n c m d : Nat} (hL : FmsAt W L (.slice a n c)) (hR : FmsAt W R (.slice b m d)) :
    Tail w g6 g7 [apF X] [] L R ((W.setCell ⟨g7, 0, none⟩ (.slice a n c)).setCell ⟨g7, 1, none⟩ (.slice b m d)) := tail_store h.bw hl h.s6 hne h.z7 hL hR
set_option maxHeartbeats 8000000 in
theorem apart30_c (l : Bs) (a : Option Addr) (n c k : Nat) (hk : k < 256) (w : World) (hr : RowsAt w) (hp : PowAt w) (hl : BtsAt w l (.slice a n c)) :
    Calls Tryz.prog 4 #[.slice a n c, .int .u8 k] w fun e w' => e = .returned (.bool true) ∧ Below w.heap.size w w' := by
  have HR := Lib.hid hr
  have HP := Lib.hid hp
  have HL := Lib.hid hl
  clear hr hp hl
  obtain ⟨X, hX⟩ : ∃ X, built l = X := ⟨_, rfl⟩
  have RT := ap_right l
  have NE := ap_skeletons l
  rw [hX] at RT NE
  have BC : Hid (∀ W, Below w.heap.size w W → Calls Tryz.prog 19 #[.slice a n c] W (RetF X W)) := fun W hW => by rw [← hX]; exact built_c l a n c W (HL.out.keep (keeps_of_below hW))
  have NE := Lib.hid NE
  have OKF := Lib.hid (okSq_l RT.1)
  have OKF2 := Lib.hid (okSq_r RT.1)
  have OKG := Lib.hid (okSq_l RT.2.1)
  have OKH := Lib.hid (okSq_l RT.2.2)
  clear RT hX HL
  go_enter Tryz.func4, Tryz.ntmps4
  go_upto_region 3 with (go_at_call 9; refine (awake_c _ HR.out HP.out).mono ?_; rintro e w1 ⟨rfl, b1⟩; have B1 := Lib.hid b1; clear b1)
  go_cut [5] from 17 to 24 (fun u5 wx => ∃ g5 bb off d2, u5 = one g5 ∧ Hid (Below w.heap.size w wx ∧ ApX X g5 bb off d2 wx))
  case first =>
    go_wp2_with (first
      | (have Z := N4.out; clear Z; go_at_call 17
         refine (join30_c 4 [apI, X] _ _ _ _ (fmsA2 N4.out.2.1 N4.out.2.2)).mono ?_
         rintro e w5 ⟨v5, rfl, h5, b5⟩
         obtain ⟨xa, xn, xc, xb, xm, xd, rfl, -⟩ := id h5
         have N5 := Lib.hid (And.intro (belowThen N4.out.1 (below1 b5)) h5)
         clear h5 b5)
      | (have Z := N3.out; clear Z; go_at_call 19
         refine (BC.out _ N3.out.1).mono ?_
         rintro e w4 ⟨fa, fn, fc, fb, fm, fd, rfl, ht, hs, b4⟩
         have N4 := Lib.hid (And.intro (belowThen N3.out.1 b4) (And.intro (FmVal.keep N3.out.2 (keeps_of_below b4)) (show FmVal w4 X (.agg #[.int .u8 X.op, str X.name, .slice fa fn fc, .slice fb fm fd]) from ⟨_, _, _, _, _, _, rfl, ht.keep (hide_plain _ _), hs.keep (hide_plain _ _)⟩)))
         clear ht hs b4)
      | (have Z := N2.out; clear Z; go_at_call 17
         refine (join30_c 7 [atomY, atomZ] _ _ _ _ (fmsA2 (at_fm _ [89]) (at_fm _ [90]))).mono ?_
         rintro e w3 ⟨v3, rfl, h3, b3⟩
         obtain ⟨xa, xn, xc, xb, xm, xd, rfl, -⟩ := id h3
         have N3 := Lib.hid (And.intro (belowThen N2.out (below1 b3)) h3)
         clear h3 b3)
      | (have Z := N1.out; clear Z; go_at_call 18; refine (atom30_x _ _ _ _ _).mono ?_; rintro e w2 ⟨rfl, b2⟩; have N2 := Lib.hid (belowThen N1.out b2); clear b2)
      | (go_at_call 18; refine (atom30_x _ _ _ _ _).mono ?_; rintro e w2 ⟨rfl, b2⟩; have N1 := Lib.hid (belowThen B1.out b2); clear b2))
    go_meet
    obtain ⟨-, -, ht, hs⟩ := fm_parts N5.out.2
    obtain ⟨bb, off, rfl, -⟩ := hs.get (by simp [Fm.sub])
    obtain rfl : xm = 2 := hs.len.1
    exact ⟨_, bb, off, xd, rfl, belowThen N5.out.1 (below_new _ _), _, _, _, heap_alloc_new _ _, ht.keep (keeps_of_below (below_new _ _)), hs.keep (keeps_of_below (below_new _ _))⟩
  case rest =>
  obtain ⟨g5, bb, off, d2, rfl, A5⟩ := hcut
  obtain ⟨xa, xn, xc, hg, -⟩ := A5.out.2.val
  obtain ⟨⟨p0, p1, p2, p3⟩, -⟩ := row40 hg
  clear hg
  go_upto_region 4 with fail
  go_cut [6] from 25 to 28 (fun u6 wx => ∃ g6, u6 = one g6 ∧ Hid (Below wc.heap.size wc wx ∧ SqBox g6 [apF X] [] wx))
  case first =>
    go_wp2_with (first
      | (go_at_call 20
         refine (sq_c _ _ _ _ _ _ _).mono ?_
         rintro e w7 ⟨rfl, b7⟩
         have N7 := Lib.hid b7
         clear b7)
      | (go_at_call 21; refine (fs_c _ _).mono ?_; rintro e w1' ⟨rfl, rfl⟩))
    go_meet
    obtain ⟨ya, yn, yc, hg, hv⟩ := A5.out.2.val
    have hg2 := (row40 hg).1
    rw [p2] at hg2
    obtain ⟨-, -, hg2, -⟩ := hg2
    cases hg2
    exact ⟨_, rfl, belowThen (below1 N7.out) (below_new _ _), SqBox.mk (heap_alloc_new _ _) ((fmsA1 hv).keep (keeps_of_below (belowThen N7.out (below_new _ _)))) (At.sl_nil (Nat.zero_le _))⟩
  case rest =>
  obtain ⟨g6, rfl, S6⟩ := hcut
  have A6 := Lib.hid (And.intro (belowThen A5.out.1 S6.out.1) (A5.out.2.below S6.out.1))
  have LT := Lib.hid S6.out.2.lt
  clear A5 p0 p1 p2 p3
  go_upto_region 6 with fail
  obtain ⟨W7, hW7⟩ : ∃ W7, wc.alloc (.cells #[.slice none 0 0, .slice none 0 0] 26) = W7 := ⟨_, rfl⟩
  obtain ⟨g7, hg7⟩ : ∃ g, wc.heap.size = g := ⟨_, rfl⟩
  rw [hW7, hg7]
  have S7 : Hid (LaS w X g5 bb off d2 g6 g7 W7) := by rw [← hW7]; exact ⟨belowThen A6.out.1 (below_new _ _), A6.out.2.below (below_new _ _), S6.out.2.below (below_new _ _), by rw [← hg7]; exact heap_alloc_new _ _⟩
  have LE : Hid (w.heap.size ≤ g7) := by have := A6.out.1.size; show w.heap.size ≤ g7; omega
  have NE67 : Hid (g6 ≠ g7) := by have := LT.out; show g6 ≠ g7; omega
  clear hW7 hg7 A6 S6 LT
  rcases (show k % 3 = 0 ∨ k % 3 = 1 ∨ k % 3 = 2 by omega) with h3 | h3 | h3
  · have ht : (k : Int).tmod 3 = 0 := by rw [show (3 : Int) = ((3 : Nat) : Int) from rfl, ← Int.ofNat_tmod, h3]; rfl
    clear h3 hk
    go_wp2_with (first
      | (have Z := T2.out; clear Z; go_at_call 12
         refine (Same_c [apF X] [] [apF X] [] _ _ _ (HR.out.keep (keeps_of_below T2.out.bw)) (HP.out.below T2.out.bw) V6.out V6.out OKF.out OKF.out).mono ?_
         rw [sameSk_eq rfl]
         rintro e w9 ⟨rfl, b9⟩
         have T3 := Lib.hid (T2.out.next b9)
         clear b9 p0 p1)
      | (have Z := T1.out; clear Z; go_at_call 12
         refine (Same_c [apG X] [] [apF X] [] _ _ _ (HR.out.keep (keeps_of_below T1.out.bw)) (HP.out.below T1.out.bw) V7.out V6.out OKG.out OKF.out).mono ?_
         rw [sameSk_ne (fun e => NE.out.1 e.symm)]
         rintro e w8 ⟨rfl, b8⟩
         have T2 := Lib.hid (T1.out.next b8)
         clear b8 p0 p1 s0 s1 V6 V7
         obtain ⟨xa, xn, xc, xb, xm, xd, ⟨p0, p1⟩, V6⟩ := T2.out.s6.vals)
      | (have Z := T0.out; clear Z; go_at_call 12
         refine (Same_c [apF X] [] [apG X] [] _ _ _ (HR.out.keep (keeps_of_below T0.out.bw)) (HP.out.below T0.out.bw) V6.out V7.out OKF.out OKG.out).mono ?_
         rw [sameSk_ne NE.out.1]
         rintro e w7 ⟨rfl, b7⟩
         have T1 := Lib.hid (T0.out.next b7)
         clear b7 p0 p1 s0 s1 V6 V7
         obtain ⟨ya, yn, yc, yb, ym, yd, ⟨s0, s1⟩, V7⟩ := T1.out.s7.vals
         obtain ⟨xa, xn, xc, xb, xm, xd, ⟨p0, p1⟩, V6⟩ := T1.out.s6.vals)
      | (have Z := N5.out; clear Z; go_at_call 20
         refine (sq_c _ _ _ _ _ _ _).mono ?_
         rintro e w6 ⟨rfl, b6⟩
         have L5 := fmsA1 (FmVal.keep N5.out.2 (keeps_of_below (below_new _ (.cells #[.int .u8 4, str [], .slice ka kn kc, .slice kb km kd] 40))))
         rw [World.size_alloc] at L5
         have M := Lib.hid (N5.out.1.next (below1 (below1 b6)))
         obtain ⟨z0, z1, z2, z3⟩ := row2 M.out.z7
         have T0 := Lib.hid (M.out.store (by have := LE.out; omega) NE67.out (L5.keep (keeps_of_below b6)) (nil_fs _))
         obtain ⟨ya, yn, yc, yb, ym, yd, ⟨s0, s1⟩, V7⟩ := T0.out.s7.vals
         obtain ⟨xa, xn, xc, xb, xm, xd, ⟨p0, p1⟩, V6⟩ := T0.out.s6.vals
         clear b6 L5)
      | (have Z := N5.out; clear Z; go_at_call 21; refine (fs_c _ _).mono ?_; rintro e w1' ⟨rfl, rfl⟩)
      | (have Z := N4.out; clear Z; go_at_call 17
         refine (join30_c 4 [.mk 7 [] [] [atomY, atomY], X] _ _ _ _ (fmsA2 N4.out.2.1 N4.out.2.2)).mono ?_
         rintro e w5 ⟨v5, rfl, h5, b5⟩
         obtain ⟨ka, kn, kc, kb, km, kd, rfl, -⟩ := id h5
         have N5 := Lib.hid (And.intro (N4.out.1.next (below1 b5)) h5)
         clear h5 b5)
      | (have Z := N3.out; clear Z; go_at_call 19
         refine (BC.out _ N3.out.1.bw).mono ?_
         rintro e w4 ⟨fa, fn, fc, fb, fm, fd, rfl, ht, hs, b4⟩
         have N4 := Lib.hid (And.intro (N3.out.1.next b4) (And.intro (FmVal.keep N3.out.2 (keeps_of_below b4)) (show FmVal w4 X (.agg #[.int .u8 X.op, str X.name, .slice fa fn fc, .slice fb fm fd]) from ⟨_, _, _, _, _, _, rfl, ht.keep (hide_plain _ _), hs.keep (hide_plain _ _)⟩)))
         clear ht hs b4)
      | (have Z := N2.out; clear Z; go_at_call 17
         refine (join30_c 7 [atomY, atomY] _ _ _ _ (fmsA2 (at_fm _ [89]) (at_fm _ [89]))).mono ?_
         rintro e w3 ⟨v3, rfl, h3, b3⟩
         obtain ⟨xa, xn, xc, xb, xm, xd, rfl, -⟩ := id h3
         have N3 := Lib.hid (And.intro (N2.out.next (below1 b3)) h3)
         clear h3 b3)
      | (have Z := N1.out; clear Z; go_at_call 18; refine (atom30_x _ _ _ _ _).mono ?_; rintro e w2 ⟨rfl, b2⟩; have N2 := Lib.hid (N1.out.next b2); clear b2)
      | (go_at_call 18; refine (atom30_x _ _ _ _ _).mono ?_; rintro e w2 ⟨rfl, b2⟩; have N1 := Lib.hid (S7.out.next b2); clear b2))
    go_ret
    exact ⟨rfl, T3.out.bw⟩
  · have ht : (k : Int).tmod 3 = 1 := by rw [show (3 : Int) = ((3 : Nat) : Int) from rfl, ← Int.ofNat_tmod, h3]; rfl
    clear h3 hk
    go_wp2_with fail
    refine wp_region_flow_end la11 (by kernel_rfl) (by kernel_rfl) (by kernel_rfl) 103 rfl 15 (Op.store 26 (Operand.tmp 7) (Operand.tmp 61)) (by kernel_rfl) (by kernel_rfl) [47, 48, 49, 50, 51, 52, 53, 54, 55, 56, 57, 58, 59, 60, 61] [0, 1, 2, 3, 4, 5, 6, 7, 8, 9, 10, 11, 12, 13, 14] (by kernel_rfl) (by kernel_rfl) (rAt (la11R X g5 bb off d2)) (rAt_stays (la11_stays X g5 bb off d2)) (la11_steps X bb off d2 _ _ _ g5 rfl S7.out.a5) (fun x wy hby hx => ?_)
    have h14 : SqVal wy [apH X] [] (x 14) := hx 14 (by decide)
    obtain ⟨ja, jn, jc, jb, jm, jd, e14, hL, hR⟩ := h14
    have M := Lib.hid (S7.out.next hby)
    have HL := Lib.hid hL
    have HR2 := Lib.hid hR
    clear hx hby hL hR
    rintro ⟨dst, op, ty, pos, af, gd⟩ rfl rfl K hK
    simp only [setAll, List.map_cons, List.map_nil, List.setIfInBounds_toArray, List.set_cons_zero, List.set_cons_succ, e14]
    obtain ⟨z0, z1, z2, z3⟩ := row2 M.out.z7
    have T0 := Lib.hid (M.out.store (by have := LE.out; omega) NE67.out HL.out HR2.out)
    obtain ⟨ya, yn, yc, yb, ym, yd, ⟨s0, s1⟩, V7⟩ := T0.out.s7.vals
    obtain ⟨xa, xn, xc, xb, xm, xd, ⟨p0, p1⟩, V6⟩ := T0.out.s6.vals
    have HK := Lib.hid hK
    clear hK e14
    go_simp
    refine HK.out.out _ _ ?_
    clear z0 z1 z2 z3 HK
    go_wp2_with (first
      | (have Z := T2.out; clear Z; go_at_call 12
         refine (Same_c [apF X] [] [apF X] [] _ _ _ (HR.out.keep (keeps_of_below T2.out.bw)) (HP.out.below T2.out.bw) V6.out V6.out OKF.out OKF.out).mono ?_
         rw [sameSk_eq rfl]
         rintro e w9 ⟨rfl, b9⟩
         have T3 := Lib.hid (T2.out.next b9)
         clear b9 p0 p1)
      | (have Z := T1.out; clear Z; go_at_call 12
         refine (Same_c [apH X] [] [apF X] [] _ _ _ (HR.out.keep (keeps_of_below T1.out.bw)) (HP.out.below T1.out.bw) V7.out V6.out OKH.out OKF.out).mono ?_
         rw [sameSk_ne (fun e => NE.out.2.1 e.symm)]
         rintro e w8 ⟨rfl, b8⟩
         have T2 := Lib.hid (T1.out.next b8)
         clear b8 p0 p1 s0 s1 V6 V7
         obtain ⟨xa, xn, xc, xb, xm, xd, ⟨p0, p1⟩, V6⟩ := T2.out.s6.vals)
      | (have Z := T0.out; clear Z; go_at_call 12
         refine (Same_c [apF X] [] [apH X] [] _ _ _ (HR.out.keep (keeps_of_below T0.out.bw)) (HP.out.below T0.out.bw) V6.out V7.out OKF.out OKH.out).mono ?_
         rw [sameSk_ne NE.out.2.1]
         rintro e w7 ⟨rfl, b7⟩
         have T1 := Lib.hid (T0.out.next b7)
         clear b7 p0 p1 s0 s1 V6 V7
         obtain ⟨ya, yn, yc, yb, ym, yd, ⟨s0, s1⟩, V7⟩ := T1.out.s7.vals
         obtain ⟨xa, xn, xc, xb, xm, xd, ⟨p0, p1⟩, V6⟩ := T1.out.s6.vals))
    go_ret
    exact ⟨rfl, T3.out.bw⟩
  · have ht : (k : Int).tmod 3 = 2 := by rw [show (3 : Int) = ((3 : Nat) : Int) from rfl, ← Int.ofNat_tmod, h3]; rfl
    clear h3 hk
    obtain ⟨ja, jn, jc, hg, hv⟩ := S7.out.a5.val
    have HV := Lib.hid hv
    obtain ⟨⟨q0, q1, q2, q3⟩, -⟩ := row40 hg
    clear hg hv
    go_wp2_with (first
      | (have Z := T2.out; clear Z; go_at_call 12
         refine (Same_c [apF X] [] [apF X] [] _ _ _ (HR.out.keep (keeps_of_below T2.out.bw)) (HP.out.below T2.out.bw) V6.out V6.out OKF.out OKF.out).mono ?_
         rw [sameSk_eq rfl]
         rintro e w9 ⟨rfl, b9⟩
         have T3 := Lib.hid (T2.out.next b9)
         clear b9 p0 p1)
      | (have Z := T1.out; clear Z; go_at_call 12
         refine (Same_c [] [apF X] [apF X] [] _ _ _ (HR.out.keep (keeps_of_below T1.out.bw)) (HP.out.below T1.out.bw) V7.out V6.out OKF2.out OKF.out).mono ?_
         rw [sameSk_ne (fun e => NE.out.2.2 e.symm)]
         rintro e w8 ⟨rfl, b8⟩
         have T2 := Lib.hid (T1.out.next b8)
         clear b8 p0 p1 s0 s1 V6 V7
         obtain ⟨xa, xn, xc, xb, xm, xd, ⟨p0, p1⟩, V6⟩ := T2.out.s6.vals)
      | (have Z := T0.out; clear Z; go_at_call 12
         refine (Same_c [apF X] [] [] [apF X] _ _ _ (HR.out.keep (keeps_of_below T0.out.bw)) (HP.out.below T0.out.bw) V6.out V7.out OKF.out OKF2.out).mono ?_
         rw [sameSk_ne NE.out.2.2]
         rintro e w7 ⟨rfl, b7⟩
         have T1 := Lib.hid (T0.out.next b7)
         clear b7 p0 p1 s0 s1 V6 V7
         obtain ⟨ya, yn, yc, yb, ym, yd, ⟨s0, s1⟩, V7⟩ := T1.out.s7.vals
         obtain ⟨xa, xn, xc, xb, xm, xd, ⟨p0, p1⟩, V6⟩ := T1.out.s6.vals)
      | (go_at_call 20
         refine (sq_c _ _ _ _ _ _ _).mono ?_
         rintro e w6 ⟨rfl, b6⟩
         have M := Lib.hid (S7.out.next (below1 b6))
         obtain ⟨z0, z1, z2, z3⟩ := row2 M.out.z7
         have T0 := Lib.hid (M.out.store (by have := LE.out; omega) NE67.out (nil_fs _) ((fmsA1 HV.out).keep (keeps_of_below b6)))
         obtain ⟨ya, yn, yc, yb, ym, yd, ⟨s0, s1⟩, V7⟩ := T0.out.s7.vals
         obtain ⟨xa, xn, xc, xb, xm, xd, ⟨p0, p1⟩, V6⟩ := T0.out.s6.vals
         clear b6 q0 q1 q2 q3)
      | (go_at_call 21; refine (fs_c _ _).mono ?_; rintro e w1' ⟨rfl, rfl⟩))
    go_ret
    exact ⟨rfl, T3.out.bw⟩
end Go.Proofs.YtppfalbnhnpbnaaGreatDoor
