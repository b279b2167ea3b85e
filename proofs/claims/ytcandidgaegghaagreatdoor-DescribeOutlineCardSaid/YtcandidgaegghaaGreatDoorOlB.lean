/- lyceumlaw41.DescribeOutline answers true, whatever its bytes are. Conditions: the program's tables (rows, powers of ten, MaxLen) lie as laid. -/
import Derived.Test.YtcandidgaegghaaGreatDoorOlA
import Derived.Test.YtcandidgaegghaaGreatDoorPlE
import Derived.Test.YtcandidgaegghaaGreatDoorBuilt
import Derived.Deep.CutBlock
namespace Go.Proofs.YtcandidgaegghaaGreatDoor
open Go Go.RowKit Ly
set_option maxRecDepth 10000
set_option linter.unusedSimpArgs false
set_option linter.unusedVariables false
set_option maxHeartbeats 2000000
/-- strings.Join of strings in memory, whatever the separator. -/
theorem joinStrs_c {w : World} {l : List Bs} {a : Option Addr} {n c : Nat} (h : StrsAt w l (.slice a n c)) (h1 : l.length ≤ 1000000) (h2 : (joinSp l).length ≤ 1000000) :
    Calls Tryz.prog 37 #[.slice a n c, str [32]] w fun e w' => e = .returned (str (joinSp l)) ∧ Below w.heap.size w w' := by
  have hl := h.len
  by_cases hne : l = []
  · subst hne
    have h0 : n = 0 := hl.1
    subst h0
    refine (Tryz.strings_Join_none a c ⟨#[32]⟩ w).mono ?_
    rintro e w' ⟨rfl, rfl⟩
    exact ⟨rfl, Below.refl _ _⟩
  obtain ⟨b, off, rfl, hc⟩ := h.get hne
  have e : (l.map (fun x : Bs => (⟨x.toArray⟩ : ByteArray))).map (·.data.toList) = l := by simp [List.map_map, Function.comp_def]
  have hx := Tryz.strings_Join b off c (l.map (fun x : Bs => (⟨x.toArray⟩ : ByteArray))) ⟨#[32]⟩ w
    (fun j x hj => by
      rw [List.getElem?_map] at hj
      obtain ⟨y, hy, rfl⟩ := Option.map_eq_some_iff.1 hj
      exact hc j y hy)
    (by
      obtain ⟨x, hx⟩ := List.exists_mem_of_ne_nil l hne
      obtain ⟨j, hj⟩ := List.getElem?_of_mem hx
      exact World.block_lt_of_cell? w _ (hc j x hj))
    (by simp; omega) (by simp; have := hl.1; omega) (by rw [e]; show (Lib.join l [32]).length ≤ _; rw [join_eq]; omega)
  rw [e, List.length_map, ← hl.1] at hx
  refine hx.mono ?_
  rintro e w' ⟨rfl, h⟩
  refine ⟨?_, h⟩
  show Ending.returned (.string ⟨(Lib.join l [32]).toArray⟩) = _
  rw [join_eq]
theorem hasSp_c (J s : Bs) (w : World) : Calls Tryz.prog 36 #[.string (⟨J.toArray⟩ ++ ⟨#[32]⟩), .string (⟨s.toArray⟩ ++ ⟨#[32]⟩)] w fun e w' => e = .returned (.bool ((s ++ [32]).isPrefixOf (J ++ [32]))) ∧ w' = w := by
  have e1 : (⟨J.toArray⟩ ++ ⟨#[32]⟩ : ByteArray) = ⟨(J ++ [32]).toArray⟩ := mk_app J [32]
  have e2 : (⟨s.toArray⟩ ++ ⟨#[32]⟩ : ByteArray) = ⟨(s ++ [32]).toArray⟩ := mk_app s [32]
  rw [e1, e2]
  exact hasPrefix_c (J ++ [32]) (s ++ [32]) w
theorem split_count (s : Bs) : (Lib.split s [32]).length = s.count 32 + 1 := by
  rw [split_length, ← Lib.count_one]
/-- The words from the i-th on, in memory. -/
theorem words_from {w : World} {b : Nat} {T : List Bs} (h : w.heap[b]? = some (.cells (T.map str).toArray 9 (0, 0))) (hT : T.length ≤ 1000000) (i o : Nat) (hi : i ≤ T.length) (ho : o = i) : StrsAt w (T.drop i) (.slice (some ⟨b, o, none⟩) (T.length - i) (T.length - i)) := by
  subst ho
  have e : (T.drop o).length = T.length - o := by simp
  rw [← e]
  refine At.sl_mk (by simp) (Nat.le_refl _) (by unfold maxLen; simp; omega) fun j d hd => ?_
  rw [List.getElem?_map, List.getElem?_drop] at hd
  obtain ⟨y, hy, rfl⟩ := Option.map_eq_some_iff.1 hd
  refine ⟨str y, ?_, rfl⟩
  rw [box_cell h]
  simp [hy]
theorem wlen_join : ∀ l : List Bs, wlen l ≤ (joinSp l).length + 1
  | [] => by simp [wlen]
  | [x] => by simp [wlen, joinSp]
  | x :: y :: r => by
    have := wlen_join (y :: r)
    simp only [joinSp, wlen, List.length_append, List.length_cons] at this ⊢
    omega
theorem wlen_drop : ∀ (l : List Bs) (k : Nat), wlen (l.drop k) ≤ wlen l
  | l, 0 => by simp
  | [], k + 1 => by simp
  | x :: l, k + 1 => by
    have := wlen_drop l k
    simp only [List.drop_succ_cons, wlen]
    omega
theorem join_drop (l : List Bs) (k : Nat) : (joinSp (l.drop k)).length ≤ (joinSp l).length + 1 := by
  have := joinSp_le (l.drop k)
  have := wlen_drop l k
  have := wlen_join l
  omega
/-- A formula in its variable. -/
structure FV (F : Fm) (g : Nat) (a : Option Addr) (n c : Nat) (b : Option Addr) (m d : Nat) (wx : World) : Prop where
  cell : wx.heap[g]? = some (.cells #[.int .u8 F.op, str F.name, .slice a n c, .slice b m d] 25 (0, 0))
  h1 : TmsAt wx F.args (.slice a n c)
  h2 : FmsAt wx F.sub (.slice b m d)
theorem FV.below {F : Fm} {g : Nat} {a : Option Addr} {n c : Nat} {b : Option Addr} {m d : Nat} {wx wy : World} (h : FV F g a n c b m d wx) (k : Below wx.heap.size wx wy) : FV F g a n c b m d wy :=
  ⟨kc k h.cell, h.h1.keep (keeps_of_below k), h.h2.keep (keeps_of_below k)⟩
set_option maxHeartbeats 4000000 in
theorem outlineLaw_c (l : Bs) (a : Option Addr) (n c : Nat) (w : World) (hr : RowsAt w) (hp : PowAt w) (hm : MaxAt w) (hl : BtsAt w l (.slice a n c)) :
    Calls Tryz.prog 7 #[.slice a n c] w fun e w' => e = .returned (.bool true) ∧ Below w.heap.size w w' := by
  have HR := Lib.hid hr
  have HP := Lib.hid hp
  have HM := Lib.hid hm
  have HL := Lib.hid hl
  clear hr hp hm hl
  obtain ⟨F, hF⟩ : ∃ F, built l = F := ⟨_, rfl⟩
  have rF : Hid (F.right = true) := by rw [Hid, ← hF]; exact built_right l
  have EF := Lib.hid hF
  clear hF
  go_enter Tryz.func7, Tryz.ntmps7
  go_upto_region 3 with (go_at_call 14; refine (awake_c _ HR.out HP.out HM.out).mono ?_; rintro e w1 ⟨rfl, b1⟩; have B1 := Lib.hid b1; clear b1)
  go_cut [3] from 22 to 23 (fun u3 wx => ∃ fa fn fc fb fm fd g3, u3 = one g3 ∧ Hid (Below w.heap.size w wx ∧ FV F g3 fa fn fc fb fm fd wx))
  case first =>
    go_wp2_with (go_at_call 20; refine (built_c l _ _ _ _ (HL.out.keep (keeps_of_below B1.out))).mono ?_; rintro e w2 ⟨fa, fn, fc, fb, fm, fd, rfl, ht, hs, b2⟩; rw [EF.out] at ht hs ⊢; have H2 := Lib.hid (And.intro ht (And.intro hs b2)); clear ht hs b2)
    go_meet
    obtain ⟨ht, hs, b2⟩ := H2.out
    exact ⟨fa, fn, fc, fb, fm, fd, _, rfl, belowThen (belowThen B1.out b2) ((Below.refl _ _).alloc (Nat.le_refl _) _), heap_alloc_new _ _, (ht.keep (hide_keeps _ _)).keep (keeps1 _ _), (hs.keep (hide_keeps _ _)).keep (keeps1 _ _)⟩
  case rest =>
  obtain ⟨fa, fn, fc, fb, fm, fd, g3, rfl, H⟩ := hcut
  clear B1
  have V3 := Lib.hid H.out.2
  have BW := Lib.hid H.out.1
  clear H
  obtain ⟨p0, p1, p2, p3, -, -, -, -⟩ := row25' V3.out.cell
  go_upto_region 5 with (go_at_call 30; refine (Outline_c F _ _ (HR.out.keep (keeps_of_below BW.out)) (HP.out.below BW.out) ⟨_, _, _, _, _, _, rfl, V3.out.h1, V3.out.h2⟩ rF.out).mono ?_; rintro e w3 ⟨v, rfl, ho, b3⟩; obtain ⟨la, N, lc, rfl⟩ := StrsAt.slice ho.strsAt; have O3 := Lib.hid ho.strsAt; have BW3 := Lib.hid (belowThen BW.out b3); have V4 := Lib.hid (V3.out.below b3); clear ho b3 BW V3 p0 p1 p2 p3)
  obtain ⟨p0, p1, p2, p3, -, -, -, -⟩ := row25' V4.out.cell
  have hN : Hid (N = ((F.outl 0).map oText).length ∧ N ≤ lc ∧ lc ≤ maxLen) := O3.out.len
  have N0 : Hid (N = F.parts) := by show _ = _; rw [hN.out.1, List.length_map, Fm.outl_length]
  have N1 : 1 ≤ N := by rw [N0.out]; cases F; simp [Fm.parts]
  have N2 : N ≤ 400 := by
    have h1 := Fm.parts_le F
    have h2 := rF.out
    simp only [Fm.right, Bool.and_eq_true, decide_eq_true_eq] at h2
    have := N0.out
    omega
  go_upto_region 6 with (go_at_call 21; refine (Form_yes F rF.out _ _ (HR.out.keep (keeps_of_below BW3.out)) ⟨_, _, _, _, _, _, rfl, V4.out.h1, V4.out.h2⟩).mono ?_; rintro e w4 ⟨rfl, b4⟩; have O4 := Lib.hid (O3.out.keep (keeps_of_below b4)); have BW4 := Lib.hid (belowThen BW3.out b4); have V5 := Lib.hid (V4.out.below b4); clear b4 BW3 V4 O3 p0 p1 p2 p3)
  obtain ⟨T, hT⟩ : ∃ T, F.toks = T := ⟨_, rfl⟩
  have ET := Lib.hid hT
  have TL : T.length ≤ 16001 := by
    have h1 := (right_len rF.out).2
    have h2 := count_joinSp (Fm.noSp_toks F (ok_of_right rF.out)) (Fm.toks_ne F)
    have h3 := List.count_le_length (a := (32 : UInt8)) (l := joinSp F.toks)
    rw [← Fm.text_eq] at h2 h3
    rw [← hT]
    omega
  clear hT
  go_upto_region 9 with (go_at_call 31; refine (splitAt_c F.text [32] (by have := (right_len rF.out).2; omega) (by simp) T (by rw [← ET.out]; exact split_text F (ok_of_right rF.out)) _ (HM.out.keep (keeps_of_below BW4.out))).mono ?_; rintro e w5 ⟨rfl, hw5, b5⟩; have O5 := Lib.hid (O4.out.keep (keeps_of_below b5)); have BW5 := Lib.hid (belowThen BW4.out b5); have V6 := Lib.hid (V5.out.below b5); have S5 := Lib.hid hw5; clear hw5 b5 BW4 V5 O4)
  go_wp2_with fail
  obtain ⟨wb, hwb⟩ : ∃ wb, w4.heap.size = wb := ⟨_, rfl⟩
  rw [hwb] at S5 ⊢
  have ZB : Hid (wb < w5.heap.size) := by show _ < _; exact (Array.getElem?_eq_some_iff.1 S5.out).1
  clear hwb
  go_loopw [9, 10, 47] (fun u9 u10 u47 wr => ∃ (k at_ : Nat) (lv : Int), k ≤ N ∧ u47 = .int .i64 k ∧ u9 = .int .i64 at_ ∧ u10 = .int .i64 lv ∧ -1 ≤ lv ∧ lv ≤ 1000 ∧ Hid (ORel T (F.outl 0) k at_ lv ∧ Below w5.heap.size w5 wr)) (fun _ _ i _ => N - (intOf i).toNat)
  case atStart => exact ⟨0, 0, -1, Nat.zero_le _, rfl, rfl, rfl, by omega, by omega, by rw [← ET.out]; exact orel_start (ok_of_right rF.out), Below.refl _ _⟩
  case round =>
    obtain ⟨k, at_, lv, hk, rfl, rfl, rfl, lv1, lv2, hr⟩ := hrel
    have al : at_ ≤ T.length := orel_le hr.out.1
    by_cases hlt : k < N
    · have hL := O5.out
      obtain ⟨ln, hln⟩ := get_of_lt (l := F.outl 0) (j := k) (by have := hN.out.1; rw [List.length_map] at this; omega)
      have hlm : ((F.outl 0).map oText)[k]? = some (oText ln) := by rw [List.getElem?_map, hln]; rfl
      obtain ⟨lb, lo, rfl, hc⟩ := hL.get (ne_of_get hlm)
      have c0 := keeps_of_below hr.out.2 _ _ (hc k _ hlm)
      have OL := outl_len F 0 rF.out ln (List.mem_of_getElem? hln)
      have DP : F.depth ≤ 50 := by
        have := rF.out
        simp only [Fm.right, Bool.and_eq_true, decide_eq_true_eq] at this
        omega
      obtain ⟨nn, s⟩ := ln
      obtain ⟨at2, hs1, ho2⟩ := orel_next hr.out.1 hln
      obtain ⟨q1, q2, a1, q3, q4, q5⟩ := scan1_inv hs1
      simp only at OL q1 q2 q3 q4 q5
      obtain ⟨D, hD⟩ : ∃ D, Lib.itoa (nn : Int) = D := ⟨_, rfl⟩
      obtain ⟨LN, hLN⟩ : ∃ LN, oText (nn, s) = LN := ⟨_, rfl⟩
      obtain ⟨HD, hHD⟩ : ∃ HD, wLevel ++ D = HD := ⟨_, rfl⟩
      have n1 : nn ≤ 1000 := by omega
      have sl : s.length ≤ 16000 := OL.1
      have dl : D.length ≤ 7 := by rw [← hD]; exact itoa_len (by omega) (by omega)
      have CU : Hid (Lib.cut LN [58, 32] = (HD, s, true)) := by
        show _ = _
        rw [← hLN, ← hHD, ← hD]
        exact cut_line nn wLevel s (by decide)
      have LL : Hid (LN.length ≤ 1000000000) := by
        show _ ≤ _
        rw [← hLN]
        simp only [oText, List.length_append, hD, show wLevel.length = 6 from rfl, List.length_cons, List.length_nil]
        omega
      have TP : Hid (Lib.trimPrefix HD wLevel = D) := by show _ = _; rw [← hHD]; exact trimPrefix_append _ _
      have AT : Hid (∀ w, Calls Tryz.prog 33 #[str D] w fun e w' => e = .returned (.tuple #[.int .i64 nn, .nilIface]) ∧ Below w.heap.size w w') := fun w => by rw [← hD]; exact Atoi_c nn (by omega) w
      have IT : Hid (∀ w, PowAt w → Calls Tryz.prog 35 #[.int .i64 nn] w fun e w' => e = .returned (str D) ∧ Below w.heap.size w w') := fun w hp => by rw [← hD]; exact Itoa_c (nn : Int) (by omega) (by omega) w hp
      have e74 : (⟨#[108, 101, 118, 101, 108, 32]⟩ ++ ⟨D.toArray⟩ : ByteArray) = ⟨HD.toArray⟩ := by rw [← hHD]; exact mk_app wLevel D
      rw [hLN] at c0
      have Q := Lib.hid (And.intro q3 (And.intro q4 (And.intro q5 ho2)))
      have q2' : Hid ((nn = 0) ↔ (k = 0)) := by show _ ↔ _; simpa using q2
      have HH := Lib.hid hr.out
      clear hL hln hlm hc OL DP hs1 ho2 q2 q3 q4 q5 hD hLN hHD hr
      obtain ⟨bb, z1, z2⟩ : ∃ bb, ((nn : Int) == 0) = bb ∧ ((k : Int) == 0) = bb := by
        by_cases h : k = 0
        · exact ⟨true, by simp [q2'.out.2 h], by simp [h]⟩
        · have h' : nn ≠ 0 := fun e => h (q2'.out.1 e)
          exact ⟨false, by simpa using h', by simpa using h⟩
      have PW := Lib.hid (HP.out.below BW5.out)
      have MX := Lib.hid (HM.out.keep (keeps_of_below BW5.out))
      go_upto_region 14 with (go_at_call 32; refine (cut_c LN [58, 32] HD s true LL.out CU.out _ (MX.out.keep (keeps_of_below HH.out.2))).mono ?_; rintro e w6 ⟨rfl, b6⟩; have B6 := Lib.hid (HH.out.2.trans (b6.mono HH.out.2.size)); clear b6)
      go_upto_region 15 with (first
        | (go_at_call 34; refine (trimPrefix_c HD wLevel _).mono ?_; rintro e w7 ⟨rfl, rfl⟩; rw [TP.out])
        | (go_at_call 33; refine (AT.out _).mono ?_; rintro e w8 ⟨rfl, b8⟩; have B8 := Lib.hid (B6.out.trans (b8.mono B6.out.size)); clear b8))
      go_upto_region 17 with (go_at_call 35; refine (IT.out _ (PW.out.below B8.out)).mono ?_; rintro e w9 ⟨rfl, b9⟩; have B9 := Lib.hid (B8.out.trans (b9.mono B8.out.size)); clear b9)
      have a1l : a1 ≤ T.length := by
        have := Q.out.1
        split at this <;> omega
      have TD : Hid ((joinSp (T.drop a1)).length ≤ 1000000 ∧ (joinSp (T.drop at_)).length ≤ 1000000) := by
        have h1 := (right_len rF.out).2
        rw [Fm.text_eq, ET.out] at h1
        have h2 := join_drop T a1
        have h3 := join_drop T at_
        exact ⟨by omega, by omega⟩
      have MX9 := Lib.hid (MX.out.keep (keeps_of_below B9.out))
      go_upto_region 18 with (fail)
      go_cut [113] from 95 to 113 (fun u113 wx => ∃ tb : Bool, u113 = .bool tb ∧ Hid (a1 = (if tb = true then at_ + 1 else at_) ∧ Below w9.heap.size w9 wx))
      case first =>
        by_cases hk0 : k = 0
        · have ea : a1 = at_ := by have := Q.out.1; simp [hk0] at this; exact this
          have k0 : ¬ (0 < k) := by omega
          go_wp2_with fail
          go_meet
          exact ⟨false, rfl, ea, Below.refl _ _⟩
        · have k0 : 0 < k := by omega
          by_cases hat : at_ < T.length
          · obtain ⟨J, hJ⟩ : ∃ J, joinSp (T.drop at_) = J := ⟨_, rfl⟩
            obtain ⟨pb, hpb⟩ : ∃ pb, (s ++ [32]).isPrefixOf (J ++ [32]) = pb := ⟨_, rfl⟩
            have ea : Hid (a1 = (if (!pb) = true then at_ + 1 else at_)) := by
              show _ = _
              have := Q.out.1
              rw [hJ, hpb] at this
              rw [this]
              cases pb <;> simp [hk0, hat]
            have jl : J.length ≤ 1000000 := by rw [← hJ]; exact TD.out.2
            have EJ := Lib.hid hJ
            have EP := Lib.hid hpb
            have ST := Lib.hid (words_from (kc (B9.out.mono (Nat.le_refl _)) S5.out) (by omega) at_ at_ al rfl)
            clear hJ hpb
            go_wp2_with (first
              | (go_at_call 37; refine (joinStrs_c ST.out (by simp; omega) (by rw [EJ.out]; exact jl)).mono ?_; rintro e w10 ⟨rfl, b10⟩; rw [EJ.out]; have B10 := Lib.hid b10; clear b10)
              | (go_at_call 36; refine (hasSp_c J s _).mono ?_; rintro e w11 ⟨rfl, rfl⟩; rw [EP.out]))
            go_meet
            exact ⟨!pb, rfl, ea.out, B10.out⟩
          · have ea : a1 = at_ := by have := Q.out.1; simp [hat] at this; exact this
            go_wp2_with fail
            go_meet
            exact ⟨false, rfl, ea, Below.refl _ _⟩
      case rest =>
      obtain ⟨tb, rfl, HW⟩ := hcut
      go_upto_if 113 with (fail)
      go_cut [9] from 113 to 115 (fun u9 wx => u9 = .int .i64 a1 ∧ Hid (Below w9.heap.size w9 wx))
      case first =>
        have E1 := Lib.hid HW.out.1
        cases tb
        · go_wp2_with fail
          go_meet
          exact ⟨by rw [E1.out]; rfl, HW.out.2⟩
        · go_wp2_with fail
          go_meet
          exact ⟨by rw [E1.out]; rfl, HW.out.2⟩
      case rest =>
      obtain ⟨rfl, HW⟩ := hcut
      clear e74 z1 z2
      obtain ⟨J, hJ⟩ : ∃ J, joinSp (T.drop a1) = J := ⟨_, rfl⟩
      have hpb : Hid ((s ++ [32]).isPrefixOf (J ++ [32]) = true) := by
        have := Q.out.2.1
        rw [Nat.min_eq_left a1l, hJ] at this
        exact this
      have hmin : min (a1 : Int) (T.length : Int) = (a1 : Int) := by omega
      have jl : J.length ≤ 1000000 := by rw [← hJ]; exact TD.out.1
      have EJ := Lib.hid hJ
      obtain ⟨SP, hSP⟩ : ∃ SP, Lib.split s [32] = SP := ⟨_, rfl⟩
      have LSP : Hid (SP.length = s.count 32 + 1) := by show _ = _; rw [← hSP]; exact split_count s
      have SPl : SP.length ≤ 20000 := by
        have := List.count_le_length (a := (32 : UInt8)) (l := s)
        have := LSP.out
        omega
      have ESP := Lib.hid hSP
      have BC : Hid (Below w5.heap.size w5 wc) := B9.out.trans (HW.out.mono B9.out.size)
      have ST := Lib.hid (words_from (kc BC.out S5.out) (by omega) a1 a1 a1l rfl)
      have a1lt : a1 < T.length := by
        have h1 := orel_le Q.out.2.2.2
        have h2 := Q.out.2.2.1
        simp only [Prod.mk.injEq] at h2
        omega
      clear hJ hSP
      go_upto_region 22 with (first
        | (go_at_call 37; refine (joinStrs_c ST.out (by simp; omega) (by rw [EJ.out]; exact jl)).mono ?_; rintro e w10 ⟨rfl, b10⟩; rw [EJ.out]; have B10 := Lib.hid (BC.out.trans (b10.mono BC.out.size)); clear b10)
        | (go_at_call 36; refine (hasSp_c J s _).mono ?_; rintro e w11 ⟨rfl, rfl⟩; rw [hpb.out]))
      go_wp2_with (go_at_call 31; refine (splitAt_c s [32] (by omega) (by simp) SP ESP.out _ (MX.out.keep (keeps_of_below B10.out))).mono ?_; rintro e w12 ⟨rfl, -, b12⟩; have B12 := Lib.hid (B10.out.trans (b12.mono B10.out.size)); clear b12)
      go_roundw
      case rel =>
        have e2 := Q.out.2.2.1
        simp only [Prod.mk.injEq] at e2
        refine ⟨k + 1, at2, (nn : Int), by omega, by go_num, ?_, rfl, by omega, by omega, Q.out.2.2.2, B12.out⟩
        rw [e2.1, ← LSP.out]
        go_num
      case measure => simp [intOf]; omega
    · have hkN : k = N := by omega
      have eA : at_ = T.length := orel_end hr.out.1 (by rw [hkN, hN.out.1, List.length_map]) (by have := hN.out.1; rw [List.length_map] at this; omega)
      have V7 := Lib.hid (V6.out.below hr.out.2)
      have BR := Lib.hid (BW5.out.trans (hr.out.2.mono BW5.out.size))
      obtain ⟨p0, p1, p2, p3, -, -, -, -⟩ := row25' V7.out.cell
      have zg := (Array.getElem?_eq_some_iff.1 V7.out.cell).1
      clear hr hkN al lv1 lv2
      subst eA
      go_upto_region 28 with (go_at_call 38; refine (count_c F _ _ _ _ _ _ wr _ _ _ 0 V7.out.h2 (ct_new wr) (by have := N0.out; omega)).mono ?_; rintro e w6 ⟨rfl, C6⟩; have C6 := Lib.hid C6)
      obtain ⟨x0, -⟩ := row3 C6.out.hp
      rw [Nat.zero_add, ← N0.out] at x0
      go_wp2_with fail
      go_ret
      exact ⟨rfl, BR.out.trans (C6.out.bw.mono BR.out.size)⟩
end Go.Proofs.YtcandidgaegghaaGreatDoor
