/- lyceumlaw30.Built returns the formula of its bytes, in memory of its own. Conditions: a slice of bytes that lies in memory. -/
import Derived.Test.YtcandidgaegghaaGreatDoorBuiltC0
import Derived.Test.YtcandidgaegghaaGreatDoorBuiltC1
import Derived.Test.YtcandidgaegghaaGreatDoorBuiltC2
import Derived.Test.YtcandidgaegghaaGreatDoorBuiltC3
import Derived.Test.YtcandidgaegghaaGreatDoorBuiltC4
import Derived.Test.YtcandidgaegghaaGreatDoorBuiltC5
import Derived.Test.YtcandidgaegghaaGreatDoorBuiltC6
import Derived.Test.YtcandidgaegghaaGreatDoorBuiltC7
import Derived.Test.YtcandidgaegghaaGreatDoorBuiltC8
import Derived.Test.YtcandidgaegghaaGreatDoorBuiltC9
namespace Go.Proofs.YtcandidgaegghaaGreatDoor
open Go Go.RowKit Ly
set_option maxRecDepth 10000
set_option linter.unusedSimpArgs false
set_option linter.unusedVariables false
set_option maxHeartbeats 2000000
attribute [local go_sem ↓] Go.wp_at_zero Go.wp_at_succ
set_option maxHeartbeats 16000000 in
theorem built_c (l : Bs) (a : Option Addr) (n c : Nat) (w : World) (h : BtsAt w l (.slice a n c)) : Calls Tryz.prog 20 #[.slice a n c] w (RetF (built l) w) := by
  obtain ⟨hn, hc, hm⟩ := h.len
  have hlen : n ≤ 9223372036854775807 := by have := le63 hm; omega
  have HN := Lib.hid hn
  have HL := Lib.hid h
  clear hn hc hm h
  obtain ⟨i0, hi0, hz0, hs0, hb0⟩ := info_parts info25
  go_enter Tryz.func20, Tryz.ntmps20
  go_wp2_with fail
  go_loopw [3, 4] (fun v i wr => ∃ k : Nat, k ≤ n ∧ k ≤ 20 ∧ i = .int .i64 k ∧ Hid (BRel w l k v wr)) (fun _ i _ => 20 - (intOf i).toNat)
  case atStart => exact ⟨0, by omega, by omega, rfl, ⟨OwnDs.nil _ _ _ _ _, (Below.refl _ _).alloc (Nat.le_refl _) _, heap_alloc_new _ _⟩⟩
  case round =>
    obtain ⟨k, hk, hk2, rfl, hs⟩ := hrel
    by_cases hlt : k < n ∧ k < 20
    · obtain ⟨hk3, hk4⟩ := hlt
      obtain ⟨x, hx⟩ := get_of_lt (l := l) (j := k) (by rw [← HN.out]; exact hk3)
      obtain ⟨b, off, rfl, hcell⟩ := HL.out.get (ne_of_get hx)
      have c0 := keeps_of_below hs.out.bw _ _ (hcell k x hx)
      have HCELL := Lib.hid hcell
      clear hcell
      obtain ⟨sa, sc, rfl, hsc⟩ := hs.out.own.form
      have hN := bAt_len l k
      generalize hNN : (bAt l k).length = N at hN hs ⊢
      have HNN := Lib.hid hNN
      generalize hxx : x.toNat = xx at c0
      have HXX := Lib.hid (And.intro hx hxx)
      have x1 : xx < 256 := by rw [← hxx]; exact x.toNat_lt
      have x0 : (0 : Int) ≤ xx := by omega
      have x2 : (xx : Int) < 256 := by omega
      have k0 : (0 : Int) ≤ k := by omega
      have k1 : (k : Int) < n := by omega
      have HSC := Lib.hid hsc
      have N20 : N ≤ 20 := by omega
      clear hNN hxx hx hsc
      go_upto_block 1 with fail
      go_cut [3, 8, 9] from 5 to 170 (fun u3 u8 u9 wx => u8 = undef ∧ u9 = undef ∧ Hid (BRel w l (k + 1) u3 wx))
      case rest =>
        obtain ⟨rfl, rfl, F5⟩ := hcut
        go_wp2_with fail
        go_roundw
        case rel => exact ⟨k + 1, by omega, by omega, by go_num, F5.out⟩
        case measure => simp [intOf]; omega
      case first =>
      rename_i J K' hJ hK'
      have HKM : Hid (∀ a' w', R20 w l k b off n c a' w' → K' a' w') := fun a' w' h => hK' _ _ (Met.intro (hJ _ _ h))
      rcases (show xx % 12 = 0 ∨ xx % 12 = 1 ∨ xx % 12 = 2 ∨ xx % 12 = 3 ∨ xx % 12 = 4 ∨ xx % 12 = 5 ∨ xx % 12 = 6 ∨ xx % 12 = 7 ∨ xx % 12 = 8 ∨ xx % 12 = 9 ∨ xx % 12 = 10 ∨ xx % 12 = 11 by omega) with hm | hm | hm | hm | hm | hm | hm | hm | hm | hm | hm | hm
      · exact Code.wp_mono then_mono (round20_0 l b off n c k N sc xx x sa w wr _ _ _ _ _ _ _ _ _ _ _ _ _ _ _ _ _ _ _ _ _ _ _ _ _ _ _ _ _ _ _ _ _ _ _ _ _ _ _ _ _ _ _ _ _ _ _ _ _ _ _ _ _ _ _ _ _ _ _ _ _ _ _ _ _ _ _ _ _ _ _ _ _ _ _ _ _ _ _ _ _ _ _ _ _ _ _ _ _ _ _ _ _ _ _ _ _ _ _ _ _ _ _ _ _ _ _ _ _ _ _ _ _ _ _ _ _ _ _ _ _ _ _ _ _ _ _ _ _ _ _ _ _ _ _ _ _ _ _ _ _ _ _ _ _ _ _ _ _ _ _ _ _ _ _ _ _ _ _ _ _ _ _ _ K' HKM hlen hk3 hk4 HCELL hs HNN HXX x1 HSC hN hm)
      · exact Code.wp_mono then_mono (round20_1 l b off n c k N sc xx x sa w wr _ _ _ _ _ _ _ _ _ _ _ _ _ _ _ _ _ _ _ _ _ _ _ _ _ _ _ _ _ _ _ _ _ _ _ _ _ _ _ _ _ _ _ _ _ _ _ _ _ _ _ _ _ _ _ _ _ _ _ _ _ _ _ _ _ _ _ _ _ _ _ _ _ _ _ _ _ _ _ _ _ _ _ _ _ _ _ _ _ _ _ _ _ _ _ _ _ _ _ _ _ _ _ _ _ _ _ _ _ _ _ _ _ _ _ _ _ _ _ _ _ _ _ _ _ _ _ _ _ _ _ _ _ _ _ _ _ _ _ _ _ _ _ _ _ _ _ _ _ _ _ _ _ _ _ _ _ _ _ _ _ _ _ _ K' HKM hlen hk3 hk4 HCELL hs HNN HXX x1 HSC hN hm)
      · exact Code.wp_mono then_mono (round20_2 l b off n c k N sc xx x sa w wr _ _ _ _ _ _ _ _ _ _ _ _ _ _ _ _ _ _ _ _ _ _ _ _ _ _ _ _ _ _ _ _ _ _ _ _ _ _ _ _ _ _ _ _ _ _ _ _ _ _ _ _ _ _ _ _ _ _ _ _ _ _ _ _ _ _ _ _ _ _ _ _ _ _ _ _ _ _ _ _ _ _ _ _ _ _ _ _ _ _ _ _ _ _ _ _ _ _ _ _ _ _ _ _ _ _ _ _ _ _ _ _ _ _ _ _ _ _ _ _ _ _ _ _ _ _ _ _ _ _ _ _ _ _ _ _ _ _ _ _ _ _ _ _ _ _ _ _ _ _ _ _ _ _ _ _ _ _ _ _ _ _ _ _ K' HKM hlen hk3 hk4 HCELL hs HNN HXX x1 HSC hN hm)
      · exact Code.wp_mono then_mono (round20_3 l b off n c k N sc xx x sa w wr _ _ _ _ _ _ _ _ _ _ _ _ _ _ _ _ _ _ _ _ _ _ _ _ _ _ _ _ _ _ _ _ _ _ _ _ _ _ _ _ _ _ _ _ _ _ _ _ _ _ _ _ _ _ _ _ _ _ _ _ _ _ _ _ _ _ _ _ _ _ _ _ _ _ _ _ _ _ _ _ _ _ _ _ _ _ _ _ _ _ _ _ _ _ _ _ _ _ _ _ _ _ _ _ _ _ _ _ _ _ _ _ _ _ _ _ _ _ _ _ _ _ _ _ _ _ _ _ _ _ _ _ _ _ _ _ _ _ _ _ _ _ _ _ _ _ _ _ _ _ _ _ _ _ _ _ _ _ _ _ _ _ _ _ K' HKM hlen hk3 hk4 HCELL hs HNN HXX x1 HSC hN hm)
      · exact Code.wp_mono then_mono (round20_4 l b off n c k N sc xx x sa w wr _ _ _ _ _ _ _ _ _ _ _ _ _ _ _ _ _ _ _ _ _ _ _ _ _ _ _ _ _ _ _ _ _ _ _ _ _ _ _ _ _ _ _ _ _ _ _ _ _ _ _ _ _ _ _ _ _ _ _ _ _ _ _ _ _ _ _ _ _ _ _ _ _ _ _ _ _ _ _ _ _ _ _ _ _ _ _ _ _ _ _ _ _ _ _ _ _ _ _ _ _ _ _ _ _ _ _ _ _ _ _ _ _ _ _ _ _ _ _ _ _ _ _ _ _ _ _ _ _ _ _ _ _ _ _ _ _ _ _ _ _ _ _ _ _ _ _ _ _ _ _ _ _ _ _ _ _ _ _ _ _ _ _ _ K' HKM hlen hk3 hk4 HCELL hs HNN HXX x1 HSC hN hm)
      · exact Code.wp_mono then_mono (round20_5 l b off n c k N sc xx x sa w wr _ _ _ _ _ _ _ _ _ _ _ _ _ _ _ _ _ _ _ _ _ _ _ _ _ _ _ _ _ _ _ _ _ _ _ _ _ _ _ _ _ _ _ _ _ _ _ _ _ _ _ _ _ _ _ _ _ _ _ _ _ _ _ _ _ _ _ _ _ _ _ _ _ _ _ _ _ _ _ _ _ _ _ _ _ _ _ _ _ _ _ _ _ _ _ _ _ _ _ _ _ _ _ _ _ _ _ _ _ _ _ _ _ _ _ _ _ _ _ _ _ _ _ _ _ _ _ _ _ _ _ _ _ _ _ _ _ _ _ _ _ _ _ _ _ _ _ _ _ _ _ _ _ _ _ _ _ _ _ _ _ _ _ _ K' HKM hlen hk3 hk4 HCELL hs HNN HXX x1 HSC hN hm)
      · exact Code.wp_mono then_mono (round20_6 l b off n c k N sc xx x sa w wr _ _ _ _ _ _ _ _ _ _ _ _ _ _ _ _ _ _ _ _ _ _ _ _ _ _ _ _ _ _ _ _ _ _ _ _ _ _ _ _ _ _ _ _ _ _ _ _ _ _ _ _ _ _ _ _ _ _ _ _ _ _ _ _ _ _ _ _ _ _ _ _ _ _ _ _ _ _ _ _ _ _ _ _ _ _ _ _ _ _ _ _ _ _ _ _ _ _ _ _ _ _ _ _ _ _ _ _ _ _ _ _ _ _ _ _ _ _ _ _ _ _ _ _ _ _ _ _ _ _ _ _ _ _ _ _ _ _ _ _ _ _ _ _ _ _ _ _ _ _ _ _ _ _ _ _ _ _ _ _ _ _ _ _ K' HKM hlen hk3 hk4 HCELL hs HNN HXX x1 HSC hN hm)
      · exact Code.wp_mono then_mono (round20_7 l b off n c k N sc xx x sa w wr _ _ _ _ _ _ _ _ _ _ _ _ _ _ _ _ _ _ _ _ _ _ _ _ _ _ _ _ _ _ _ _ _ _ _ _ _ _ _ _ _ _ _ _ _ _ _ _ _ _ _ _ _ _ _ _ _ _ _ _ _ _ _ _ _ _ _ _ _ _ _ _ _ _ _ _ _ _ _ _ _ _ _ _ _ _ _ _ _ _ _ _ _ _ _ _ _ _ _ _ _ _ _ _ _ _ _ _ _ _ _ _ _ _ _ _ _ _ _ _ _ _ _ _ _ _ _ _ _ _ _ _ _ _ _ _ _ _ _ _ _ _ _ _ _ _ _ _ _ _ _ _ _ _ _ _ _ _ _ _ _ _ _ _ K' HKM hlen hk3 hk4 HCELL hs HNN HXX x1 HSC hN hm)
      · exact Code.wp_mono then_mono (round20_8 l b off n c k N sc xx x sa w wr _ _ _ _ _ _ _ _ _ _ _ _ _ _ _ _ _ _ _ _ _ _ _ _ _ _ _ _ _ _ _ _ _ _ _ _ _ _ _ _ _ _ _ _ _ _ _ _ _ _ _ _ _ _ _ _ _ _ _ _ _ _ _ _ _ _ _ _ _ _ _ _ _ _ _ _ _ _ _ _ _ _ _ _ _ _ _ _ _ _ _ _ _ _ _ _ _ _ _ _ _ _ _ _ _ _ _ _ _ _ _ _ _ _ _ _ _ _ _ _ _ _ _ _ _ _ _ _ _ _ _ _ _ _ _ _ _ _ _ _ _ _ _ _ _ _ _ _ _ _ _ _ _ _ _ _ _ _ _ _ _ _ _ _ K' HKM hlen hk3 hk4 HCELL hs HNN HXX x1 HSC hN hm)
      · exact Code.wp_mono then_mono (round20_9 l b off n c k N sc xx x sa w wr _ _ _ _ _ _ _ _ _ _ _ _ _ _ _ _ _ _ _ _ _ _ _ _ _ _ _ _ _ _ _ _ _ _ _ _ _ _ _ _ _ _ _ _ _ _ _ _ _ _ _ _ _ _ _ _ _ _ _ _ _ _ _ _ _ _ _ _ _ _ _ _ _ _ _ _ _ _ _ _ _ _ _ _ _ _ _ _ _ _ _ _ _ _ _ _ _ _ _ _ _ _ _ _ _ _ _ _ _ _ _ _ _ _ _ _ _ _ _ _ _ _ _ _ _ _ _ _ _ _ _ _ _ _ _ _ _ _ _ _ _ _ _ _ _ _ _ _ _ _ _ _ _ _ _ _ _ _ _ _ _ _ _ _ K' HKM hlen hk3 hk4 HCELL hs HNN HXX x1 HSC hN hm)
      · exact Code.wp_mono then_mono (round20_10 l b off n c k N sc xx x sa w wr _ _ _ _ _ _ _ _ _ _ _ _ _ _ _ _ _ _ _ _ _ _ _ _ _ _ _ _ _ _ _ _ _ _ _ _ _ _ _ _ _ _ _ _ _ _ _ _ _ _ _ _ _ _ _ _ _ _ _ _ _ _ _ _ _ _ _ _ _ _ _ _ _ _ _ _ _ _ _ _ _ _ _ _ _ _ _ _ _ _ _ _ _ _ _ _ _ _ _ _ _ _ _ _ _ _ _ _ _ _ _ _ _ _ _ _ _ _ _ _ _ _ _ _ _ _ _ _ _ _ _ _ _ _ _ _ _ _ _ _ _ _ _ _ _ _ _ _ _ _ _ _ _ _ _ _ _ _ _ _ _ _ _ _ K' HKM hlen hk3 hk4 HCELL hs HNN HXX x1 HSC hN hm)
      · exact Code.wp_mono then_mono (round20_11 l b off n c k N sc xx x sa w wr _ _ _ _ _ _ _ _ _ _ _ _ _ _ _ _ _ _ _ _ _ _ _ _ _ _ _ _ _ _ _ _ _ _ _ _ _ _ _ _ _ _ _ _ _ _ _ _ _ _ _ _ _ _ _ _ _ _ _ _ _ _ _ _ _ _ _ _ _ _ _ _ _ _ _ _ _ _ _ _ _ _ _ _ _ _ _ _ _ _ _ _ _ _ _ _ _ _ _ _ _ _ _ _ _ _ _ _ _ _ _ _ _ _ _ _ _ _ _ _ _ _ _ _ _ _ _ _ _ _ _ _ _ _ _ _ _ _ _ _ _ _ _ _ _ _ _ _ _ _ _ _ _ _ _ _ _ _ _ _ _ _ _ _ K' HKM hlen hk3 hk4 HCELL hs HNN HXX x1 HSC hN hm)
    · obtain ⟨w9, hw9⟩ : ∃ w9, w9 = wr := ⟨_, rfl⟩
      subst hw9
      have HB := Lib.hid (bAt_end l n k HN.out hk hk2 hlt)
      obtain ⟨sa, sc, rfl, hsc⟩ := hs.out.own.form
      have hN := bAt_len l k
      generalize hNN : (bAt l k).length = N at hN hs ⊢
      have HNN := Lib.hid hNN
      have N20 : N ≤ 20 := by omega
      have k0 : (0 : Int) ≤ k := by omega
      clear hNN
      have HR := Lib.hid hs.out.res
      have zw : w.heap.size < w9.heap.size := (Array.getElem?_eq_some_iff.1 hs.out.res).1
      rcases Nat.eq_zero_or_pos N with hz | hz
      · subst hz
        have HQ : Hid (built l = fls) := by rw [Hid, HB.out, List.eq_nil_of_length_eq_zero HNN.out]; rfl
        rcases (show ¬ k < n ∨ (k < n ∧ ¬ k < 20) by omega) with h20 | ⟨h20, h21⟩
        all_goals
          go_wp2_with (go_at_call 83; refine (join30_x _ _ _ _ _).mono ?_; rintro e w1 ⟨rfl, b1⟩; have b1' := b1; obtain ⟨q0, q1, q2, q3, l0, l1, l2, l3⟩ := row25' (kc b1 HR.out); have B1 := Lib.hid b1; clear b1 b1')
          exact built_end (f := fls) (belowThen hs.out.bw B1.out) (kc B1.out HR.out) (At.sl_nil (Nat.zero_le _)) (At.sl_nil (Nat.zero_le _)) HQ.out rfl
      · obtain ⟨g, rfl, hgz, hNs⟩ := own_head hs.out (by rw [HNN.out]; omega)
        obtain ⟨ea, en, ec, eb, em, ed, el⟩ := own_elem hs.out (i := 0) (by rw [HNN.out]; omega)
        have HQ : Hid (built l = untils ((bAt l k).getD 0 fls) (((bAt l k).drop 1).take (N - 1))) := by rw [Hid, HB.out, builtOf_at _ (by rw [HNN.out]; exact hz), HNN.out]
        have EL := Lib.hid el
        have HS := Lib.hid hs.out
        generalize hf : (bAt l k).getD 0 fls = f0 at el EL HQ
        have HF0 := Lib.hid hf
        obtain ⟨e0, e1, e2, e3, -, -⟩ := el
        simp only [Nat.zero_mul, Nat.zero_add] at e0 e1 e2 e3
        clear hf hs hgz
        have hz1 : (0 : Int) < N := by omega
        have hz2 : ((N : Int) == 0) = false := beq_eq_false_iff_ne.2 (by omega)
        have hz3 : ¬ N = 0 := by omega
        rcases (show ¬ k < n ∨ (k < n ∧ ¬ k < 20) by omega) with h20 | ⟨h20, h21⟩
        all_goals
          go_wp2_with fail
          go_loopw [9] (fun u9 wq => ∃ p : Nat, 1 ≤ p ∧ p ≤ N ∧ u9 = .int .i64 (p : Int) ∧ Hid (∃ a n c b m d, URel w w9 (untils f0 (((bAt l k).drop 1).take (p - 1))) a n c b m d wq)) (fun u9 _ => N - (intOf u9).toNat)
          case atStart => exact ⟨1, by omega, by omega, rfl, ⟨_, _, _, _, _, _, urel_first EL.out⟩⟩
          case round =>
            obtain ⟨p, hp1, hp2, rfl, U⟩ := hrel
            obtain ⟨xa, xn, xc, xb, xm, xd, U⟩ := U.out
            have hF : ∃ F, untils f0 (((bAt l k).drop 1).take (p - 1)) = F := ⟨_, rfl⟩
            obtain ⟨F, hF⟩ := hF
            rw [hF] at U
            have HF := Lib.hid hF
            clear hF
            have UU := Lib.hid U
            obtain ⟨t0, t1, t2, t3, -, -, -, -⟩ := row25' U.cell
            by_cases hlt : p < N
            · obtain ⟨ga, gn, gc, gb, gm, gd, el⟩ := own_elem HS.out (i := p) (by rw [HNN.out]; exact hlt)
              generalize hG : (bAt l k).getD p fls = G at el
              have HG := Lib.hid hG
              have EL2 := Lib.hid el
              have f0' := keeps_of_below U.bw _ _ el.c0
              have f1' := keeps_of_below U.bw _ _ el.c1
              have f2' := keeps_of_below U.bw _ _ el.c2
              have f3' := keeps_of_below U.bw _ _ el.c3
              clear hG el U
              have p0 : (0 : Int) ≤ p := by omega
              have p1 : (p : Int) < N := by omega
              go_upto_block 4 with fail
              go_cut [9] from 184 to 190 (fun u9 wx => u9 = .int .i64 (p : Int) ∧ Hid (∃ a n c b m d, URel w w9 (.mk 14 [] [] [F, G]) a n c b m d wx))
              case first =>
                go_upto_region 27 with fail
                go_region_law (first
                  | (go_simp; go_at_call 83; refine (join30_x 14 _ _ _ _).mono ?_; rintro e w1 ⟨rfl, b1⟩
                     have BX : Below wr.heap.size wr w1 := belowThen ((Below.refl _ _).alloc (Nat.le_refl _) _).drew b1
                     have hh : w1.heap[wr.heap.size]? = some (.cells #[.int .u8 F.op, str F.name, .slice xa xn xc, .slice xb xm xd, .int .u8 G.op, str G.name, .slice ga gn gc, .slice gb gm gd] 25 (0, 0)) := kc b1 (kd (heap_alloc_new _ _))
                     have UN := Lib.hid (urel_next UU.out (by omega) EL2.out BX hh (Nat.le_refl _))
                     clear t0 t1 t2 t3
                     obtain ⟨t0, t1, t2, t3, l0, l1, l2, l3⟩ := row25' (kc BX UU.out.cell)
                     clear hh b1 BX
                     go_simp))
                all_goals
                  go_wp2_with fail
                  go_meet
                  exact ⟨rfl, _, _, _, _, _, _, UN.out⟩
              case rest =>
              obtain ⟨rfl, U2⟩ := hcut
              go_wp2_with fail
              have HU : Hid (untils f0 (((bAt l k).drop 1).take (p + 1 - 1)) = .mk 14 [] [] [F, G]) := by
                have := untils_at (bAt l k) (p - 1) (by rw [HNN.out]; omega)
                rw [show p - 1 + 1 = p by omega, HF0.out, HF.out, HG.out] at this
                exact this
              go_roundw
              case rel => exact ⟨p + 1, by omega, by omega, by go_num, by rw [Hid, HU.out]; exact U2.out⟩
              case measure => simp [intOf]; omega
            · have HQ2 : Hid (built l = F) := by rw [Hid, HQ.out, ← HF.out, show N = p by omega]
              have hz4 : ¬ p < N := hlt
              clear hlt
              have zq := (Array.getElem?_eq_some_iff.1 ((UU.out.bw.block _ (Array.getElem?_eq_some_iff.1 HR.out).1).trans HR.out)).1
              obtain ⟨q0, q1, q2, q3, l0, l1, l2, l3⟩ := row25' ((UU.out.bw.block _ (Array.getElem?_eq_some_iff.1 HR.out).1).trans HR.out)
              have KE : Keeps (hide (p8 w w9) wr) (hide (lo1 w) wr) := hide_keeps2 fun i h1 h2 => ⟨(Bool.or_eq_false_iff.1 h2).1, rfl⟩
              have HKE := Lib.hid KE
              clear KE
              go_wp2_with fail
              exact built_end (f := F) (belowThen HS.out.bw UU.out.bw) ((UU.out.bw.block _ (Array.getElem?_eq_some_iff.1 HR.out).1).trans HR.out) (UU.out.ht.keep HKE.out) (UU.out.hs.keep HKE.out) HQ2.out rfl
end Go.Proofs.YtcandidgaegghaaGreatDoor
