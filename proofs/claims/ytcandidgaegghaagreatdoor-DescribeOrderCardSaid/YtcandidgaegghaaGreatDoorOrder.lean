/- lyceumlaw41.DescribeOrder answers true, whatever its bytes are. Conditions: the program's tables (rows, powers of ten, MaxLen) lie as laid. -/
import Derived.Test.YtcandidgaegghaaGreatDoorAwake
import Derived.Test.YtcandidgaegghaaGreatDoorProved
import Derived.Test.YtcandidgaegghaaGreatDoorShC
import Derived.Deep.OwnRows
import Derived.Outline
import Derived.Deep.CutBlock
namespace Go.Proofs.YtcandidgaegghaaGreatDoor
open Go Go.RowKit Ly
set_option maxRecDepth 10000
set_option linter.unusedSimpArgs false
set_option linter.unusedVariables false
set_option maxHeartbeats 2000000
/- The plain part: how long a line may be. -/
mutual
theorem Pf.line_len : ∀ (p : Pf) (k : Nat), p.ok = true → k + p.steps ≤ 1000000 → ∀ ln ∈ p.lines k, ln.length ≤ 20000000
  | .mk r f lb sub ms, k, hok, hk, ln, hl => by
    simp only [Pf.lines, List.mem_append, List.mem_cons, List.mem_nil_iff, or_false] at hl
    simp only [Pf.ok, Bool.and_eq_true] at hok
    simp only [Pf.steps] at hk
    rcases hl with hl | rfl
    · exact pfs_line_len sub k hok.2 (by omega) ln hl
    · have h1 := itoa_len (n := ((k + pfsSteps sub + 1 : Nat) : Int)) (by omega) (by omega)
      have h2 := (right_len hok.1.1).2
      have h3 := shaped_marks hok.1.2
      have h4 := prems_len sub k ms h3 (by omega)
      have h5 := joinBy_le' cs (by decide) (premTexts k sub ms) h4
      rw [premTexts_length] at h5
      have hs := hok.1.2
      unfold shaped at hs
      simp only [List.length_append, show colon.length = 2 from rfl]
      unfold bodyText
      by_cases r0 : r = []
      · simp only [r0, if_true, Bool.and_eq_true, decide_eq_true_eq] at hs ⊢
        have := itoa_len (n := lb) (by omega) (by omega)
        simp only [List.length_append, show wAssume.length = 7 from rfl, show cs.length = 2 from rfl]
        omega
      · by_cases r1 : r = hole
        · simp only [r1, if_true, if_false, show hole ≠ [] by decide]
          simp only [List.length_append, show wStill.length = 15 from rfl]
          omega
        · simp only [r0, r1, if_false, Bool.and_eq_true, decide_eq_true_eq] at hs ⊢
          have hr : r.length ≤ 16 := by
            have := hs.1.1.1.1
            cases r with
            | nil => simp
            | cons c t => simp [ruleName] at this; simp; omega
          have hj : sub.length * 4000010 ≤ 4 * 4000010 := Nat.mul_le_mul_right _ hs.1.1.2
          have hb : (if (premTexts k sub ms).isEmpty = true then [] else wFrom ++ joinBy cs (premTexts k sub ms)).length ≤ 6 + 4 * 4000010 := by
            split
            · simp
            · simp only [List.length_append, show wFrom.length = 6 from rfl]; omega
          generalize (if (premTexts k sub ms).isEmpty = true then [] else wFrom ++ joinBy cs (premTexts k sub ms)) = B at *
          simp only [List.length_append, show wBy.length = 5 from rfl]
          omega
theorem pfs_line_len : ∀ (ps : List Pf) (k : Nat), pfsOk ps = true → k + pfsSteps ps ≤ 1000000 → ∀ ln ∈ pfsLines k ps, ln.length ≤ 20000000
  | [], k, _, _, ln, hl => by simp [pfsLines] at hl
  | p :: ps, k, hok, hk, ln, hl => by
    simp only [pfsLines, List.mem_append] at hl
    simp only [pfsOk, Bool.and_eq_true] at hok
    simp only [pfsSteps] at hk
    rcases hl with hl | hl
    · exact Pf.line_len p k hok.1 (by omega) ln hl
    · exact pfs_line_len ps _ hok.2 (by omega) ln hl
end
/- How often each line has been used so far, in memory. -/
def counts (N : Nat) (L : List Nat) : Array Value := ((List.range (N + 1)).map fun n => Value.int .i64 ((L.count n : Nat) : Int)).toArray
theorem counts_get {N : Nat} {L : List Nat} {n : Nat} (h : n ≤ N) : (counts N L)[n]? = some (.int .i64 ((L.count n : Nat) : Int)) := by
  unfold counts
  rw [List.getElem?_toArray, List.getElem?_map, List.getElem?_range (by omega)]
  rfl
theorem counts_nil (N : Nat) : counts N [] = madeCells #[.int .i64 0] (N + 1) := by
  apply Array.ext'
  rw [toList_madeCells_one]
  unfold counts
  apply List.ext_getElem?
  intro j
  by_cases hj : j < N + 1
  · simp [hj]
  · simp [hj]
theorem counts_next {N : Nat} {L : List Nat} {n c : Nat} (hc : L.count n = c) : (counts N L).setIfInBounds n (.int .i64 ((c : Int) + 1)) = counts N (L ++ [n]) := by
  apply Array.ext'
  unfold counts
  simp only [Array.toList_setIfInBounds]
  apply List.ext_getElem?
  intro j
  rw [List.getElem?_set]
  by_cases hj : j < N + 1
  · by_cases e : n = j
    · subst e
      simp [hj, hc]
    · simp [hj, e, List.count_cons]
  · by_cases e : n = j
    · subst e
      simp [hj]
    · simp [hj, e]
/-- The counters lie in block U, made behind world w0. -/
def Cnt (w0 : World) (N : Nat) (L : List Nat) (wx : World) : Prop := Below w0.heap.size w0 wx ∧ wx.heap[w0.heap.size]? = some (.cells (counts N L) 3 (0, 0))
theorem Cnt.below {w0 : World} {N : Nat} {L : List Nat} {wx wy : World} (h : Cnt w0 N L wx) (b : Below wx.heap.size wx wy) : Cnt w0 N L wy := ⟨belowThen h.1 b, kc b h.2⟩
theorem Cnt.cell {w0 : World} {N : Nat} {L : List Nat} {wx : World} (h : Cnt w0 N L wx) {n : Nat} (hn : n ≤ N) : wx.cell? ⟨w0.heap.size, n, none⟩ = some (.int .i64 ((L.count n : Nat) : Int)) := (box_cell h.2 n).trans (counts_get hn)
theorem Cnt.frozen {w0 : World} {N : Nat} {L : List Nat} {wx : World} (h : Cnt w0 N L wx) (n : Nat) : wx.frozen? ⟨w0.heap.size, n, none⟩ = false := by simp [World.frozen?, h.2]
theorem Cnt.next {w0 : World} {N : Nat} {L : List Nat} {wx : World} (h : Cnt w0 N L wx) {n c : Nat} (hc : L.count n = c) : Cnt w0 N (L ++ [n]) (wx.setCell ⟨w0.heap.size, n, none⟩ (.int .i64 ((c : Int) + 1))) :=
  ⟨h.1.setCell (Nat.le_refl _) _, by rw [← counts_next hc]; exact set_block h.2⟩
/-- A line is used once at most, so far. -/
theorem count_le (P : Pf) {k : Nat} {nums : List Nat} (h : (P.uses 0)[k]? = some nums) (j n : Nat) : (((P.uses 0).take k).flatten ++ nums.take j).count n ≤ 1 := by
  have h1 : (((P.uses 0).take k).flatten ++ nums.take j).Sublist ((P.uses 0).flatten) := by
    have e : (P.uses 0).flatten = ((P.uses 0).take k).flatten ++ (nums ++ ((P.uses 0).drop (k + 1)).flatten) := by
      have : P.uses 0 = (P.uses 0).take k ++ (nums :: (P.uses 0).drop (k + 1)) := by
        have hk := (List.getElem?_eq_some_iff.1 h)
        obtain ⟨hk, e⟩ := hk
        rw [← e, ← List.drop_eq_getElem_cons hk, List.take_append_drop]
      conv => lhs; rw [this]
      simp
    rw [e]
    exact List.Sublist.append (List.Sublist.refl _) ((List.take_sublist _ _).trans (List.sublist_append_left _ _))
  have h2 := h1.count_le n
  rw [order_count] at h2
  split at h2 <;> omega
theorem split_len_le (s sep : Bs) (hn : sep ≠ []) : (Lib.split s sep).length ≤ s.length + 1 := by
  have h1 : 1 ≤ (⟨sep.toArray⟩ : ByteArray).size := by
    cases sep with
    | nil => exact absurd rfl hn
    | cons c t => simp [ByteArray.size]
  have h := congrArg List.length (splitB_sep s sep)
  simp only [List.length_map] at h
  rw [Lib.splitB_all _ h1 0 _ _ rfl] at h
  have := Lib.countB_le ⟨sep.toArray⟩ h1 _ ⟨s.toArray⟩ (Nat.le_refl _)
  simp [ByteArray.size] at this
  omega
/-- A proof in its variable. -/
structure OV (P : Pf) (g : Nat) (a : Option Addr) (n c : Nat) (b : Option Addr) (m d : Nat) (s : Option Addr) (sn sc : Nat) (q : Option Addr) (qn qc : Nat) (wx : World) : Prop where
  cell : wx.heap[g]? = some (.cells #[str P.rule, .int .u8 P.form.op, str P.form.name, .slice a n c, .slice b m d, .int .i64 P.label, .slice s sn sc, .slice q qn qc] 53 (0, 0))
  h1 : TmsAt wx P.form.args (.slice a n c)
  h2 : FmsAt wx P.form.sub (.slice b m d)
  h3 : PfsAt wx P.sub (.slice s sn sc)
  h4 : MarksAt wx P.marks (.slice q qn qc)
theorem OV.below {P : Pf} {g : Nat} {a : Option Addr} {n c : Nat} {b : Option Addr} {m d : Nat} {s : Option Addr} {sn sc : Nat} {q : Option Addr} {qn qc : Nat} {wx wy : World} (h : OV P g a n c b m d s sn sc q qn qc wx) (k : Below wx.heap.size wx wy) : OV P g a n c b m d s sn sc q qn qc wy :=
  ⟨kc k h.cell, h.h1.keep (keeps_of_below k), h.h2.keep (keeps_of_below k), h.h3.keep (keeps_of_below k), h.h4.keep (keeps_of_below k)⟩
theorem OV.val {P : Pf} {g : Nat} {a : Option Addr} {n c : Nat} {b : Option Addr} {m d : Nat} {s : Option Addr} {sn sc : Nat} {q : Option Addr} {qn qc : Nat} {wx : World} (h : OV P g a n c b m d s sn sc q qn qc wx) : PfVal wx P (.agg #[str P.rule, .int .u8 P.form.op, str P.form.name, .slice a n c, .slice b m d, .int .i64 P.label, .slice s sn sc, .slice q qn qc]) :=
  ⟨_, _, _, _, _, _, _, _, _, _, _, _, rfl, h.h1, h.h2, h.h3, h.h4⟩
theorem info3z : (Tryz.prog.info? 3).map (fun i => (i.zero, i.size, i.bytes)) = some (some (.int .i64 0), 1, 8) := by kernel_rfl
set_option maxHeartbeats 4000000 in
theorem order_c (l : Bs) (a : Option Addr) (n c : Nat) (w : World) (hr : RowsAt w) (hp : PowAt w) (hm : MaxAt w) (hl : BtsAt w l (.slice a n c)) :
    Calls Tryz.prog 8 #[.slice a n c] w fun e w' => e = .returned (.bool true) ∧ Below w.heap.size w w' := by
  have HR := Lib.hid hr
  have HP := Lib.hid hp
  have HM := Lib.hid hm
  have HL := Lib.hid hl
  clear hr hp hm hl
  obtain ⟨P, hP⟩ : ∃ P, proved l = P := ⟨_, rfl⟩
  have rP : Hid (P.right = true) := by rw [Hid, ← hP]; exact proved_right l
  have oP : Hid (P.ro) := by rw [Hid, ← hP]; exact proved_ro l
  have EP := Lib.hid hP
  clear hP
  have kP : Hid (P.ok = true ∧ P.steps ≤ 300) := by
    have := rP.out
    simp only [Pf.right, Bool.and_eq_true, decide_eq_true_eq] at this
    exact this.1
  go_enter Tryz.func8, Tryz.ntmps8
  go_upto_region 3 with (go_at_call 14; refine (awake_c _ HR.out HP.out HM.out).mono ?_; rintro e w1 ⟨rfl, b1⟩; have B1 := Lib.hid b1; clear b1)
  go_cut [3] from 26 to 27 (fun u3 wx => ∃ p1 p2 p3 p4 p5 p6 p7 p8 p9 p10 p11 p12 g3, u3 = one g3 ∧ Hid (Below w.heap.size w wx ∧ OV P g3 p1 p2 p3 p4 p5 p6 p7 p8 p9 p10 p11 p12 wx))
  case first =>
    go_wp2_with (go_at_call 23; refine (proved_c l _ _ _ _ (HL.out.keep (keeps_of_below B1.out))).mono ?_; rintro e w2 ⟨v, rfl, ⟨p1, p2, p3, p4, p5, p6, p7, p8, p9, p10, p11, p12, rfl, h1, h2, h3, h4⟩, b2⟩; rw [EP.out] at h1 h2 h3 h4 ⊢; have H2 := Lib.hid (And.intro h1 (And.intro h2 (And.intro h3 (And.intro h4 b2)))); clear h1 h2 h3 h4 b2)
    go_meet
    obtain ⟨h1, h2, h3, h4, b2⟩ := H2.out
    exact ⟨p1, p2, p3, p4, p5, p6, p7, p8, p9, p10, p11, p12, _, rfl, belowThen (belowThen B1.out b2) ((Below.refl _ _).alloc (Nat.le_refl _) _), ⟨heap_alloc_new _ _, h1.keep (keeps1 _ _), h2.keep (keeps1 _ _), h3.keep (keeps1 _ _), h4.keep (keeps1 _ _)⟩⟩
  case rest =>
  obtain ⟨p1, p2, p3, p4, p5, p6, p7, p8, p9, p10, p11, p12, g3, rfl, H⟩ := hcut
  clear B1
  have V3 := Lib.hid H.out.2
  have BW := Lib.hid H.out.1
  clear H
  obtain ⟨x0, x1, x2, x3, x4, x5, x6, x7⟩ := row53 V3.out.cell
  go_upto_region 5 with (go_at_call 24; refine (Proof_c P _ _ (HR.out.keep (keeps_of_below BW.out)) (HP.out.below BW.out) V3.out.val rP.out).mono ?_; rintro e w3 ⟨v, rfl, ho, b3⟩; obtain ⟨la, N, lc, rfl⟩ := StrsAt.slice ho.strsAt; have O3 := Lib.hid ho.strsAt; have BW3 := Lib.hid (belowThen BW.out b3); have V4 := Lib.hid (V3.out.below b3); clear ho b3 BW V3 x0 x1 x2 x3 x4 x5 x6 x7)
  obtain ⟨x0, x1, x2, x3, x4, x5, x6, x7⟩ := row53 V4.out.cell
  have fP : Hid (P.form.right = true) := by
    have := kP.out.1
    obtain ⟨r, f, lb, sub, ms⟩ := P
    simp only [Pf.ok, Bool.and_eq_true] at this
    exact this.1.1
  have hN : Hid (N = (P.lines 0).length ∧ N ≤ lc ∧ lc ≤ maxLen) := O3.out.len
  have N1 : 1 ≤ N := by rw [hN.out.1, Pf.lines_length]; exact Pf.steps_pos P
  have N2 : N ≤ 300 := by rw [hN.out.1, Pf.lines_length]; exact kP.out.2
  go_upto_region 6 with (go_at_call 21; refine (Form_yes P.form fP.out _ _ (HR.out.keep (keeps_of_below BW3.out)) ⟨_, _, _, _, _, _, rfl, V4.out.h1, V4.out.h2⟩).mono ?_; rintro e w4 ⟨rfl, b4⟩; have O4 := Lib.hid (O3.out.keep (keeps_of_below b4)); have BW4 := Lib.hid (belowThen BW3.out b4); clear b4 BW3 V4 O3 x0 x1 x2 x3 x4 x5 x6 x7)
  obtain ⟨i0, hi0, hz0, hs0, hb0⟩ := info_parts info3z
  go_upto_region 9 with (at_make; refine wpList_make_row _ rfl _ _ 29 rfl 3 i0 (.int .i64 0) Tryz.underlying29 hi0 hz0 hs0 rfl .i64 .i64 (N + 1) rfl rfl (by rw [hb0]; omega) (by omega) ?_)
  have C0 : Hid (Cnt w4 N [] (w4.alloc (.cells (madeCells #[.int .i64 0] (N + 1)) 3))) := ⟨(Below.refl _ _).alloc (Nat.le_refl _) _, by rw [counts_nil]; exact heap_alloc_new _ _⟩
  clear hi0 hz0 hs0 hb0
  go_wp2_with fail
  have PW4 := Lib.hid (HP.out.below BW4.out)
  have MX4 := Lib.hid (HM.out.keep (keeps_of_below BW4.out))
  go_loopw [54] (fun i wr => ∃ k : Nat, k ≤ N ∧ i = .int .i64 k ∧ Hid (Cnt w4 N ((P.uses 0).take k).flatten wr)) (fun i _ => N - (intOf i).toNat)
  case atStart => exact ⟨0, Nat.zero_le _, rfl, C0.out⟩
  case round =>
    obtain ⟨k, hk, rfl, hr⟩ := hrel
    clear C0
    by_cases hlt : k < N
    · obtain ⟨ln, hln⟩ := get_of_lt (l := P.lines 0) (j := k) (by have := hN.out.1; omega)
      have hL := O4.out
      obtain ⟨lb, lo, rfl, hc⟩ := hL.get (ne_of_get hln)
      have c0 := keeps_of_below hr.out.1 _ _ (hc k _ hln)
      have ll := Pf.line_len P 0 kP.out.1 (by have := kP.out.2; omega) ln (List.mem_of_getElem? hln)
      obtain ⟨nums, body, hu, hbody, hcase⟩ := order_line kP.out.1 oP.out hln
      obtain ⟨T, hT⟩ : ∃ T, Lib.itoa ((k : Int) + 1) = T := ⟨_, rfl⟩
      rw [hT] at hbody
      have tl : T.length ≤ 7 := by rw [← hT]; exact itoa_len (by omega) (by omega)
      have IT : Hid (∀ w, PowAt w → Calls Tryz.prog 35 #[.int .i64 ((k : Int) + 1)] w fun e w' => e = .returned (str T) ∧ Below w.heap.size w w') := fun w hp => by rw [← hT]; exact Itoa_c _ (by omega) (by omega) w hp
      have bl : body.length ≤ 20000000 := by
        have := ll
        rw [hbody] at this
        simp only [List.length_append] at this
        omega
      obtain ⟨s1, s2, tb, hcut, hcc⟩ : ∃ s1 s2 tb, Lib.cut body wFrom = (s1, s2, tb) ∧ ((tb = false ∧ nums = []) ∨ (tb = true ∧ ∃ ps, Lib.split s2 cs = ps ∧ ps.length = nums.length ∧ s2.length ≤ ln.length ∧ ∀ (j : Nat) (x : Bs), ps[j]? = some x → ∃ n, nums[j]? = some n ∧ 1 ≤ n ∧ n ≤ k ∧ ∃ r b, Lib.cut x [32] = (Lib.itoa (n : Int), r, b))) := by
        rcases hcase with ⟨h1, h2⟩ | ⟨h1, s, ps, h2, h3, h4, h5, h6⟩
        · exact ⟨_, _, _, h2, .inl ⟨rfl, h1⟩⟩
        · exact ⟨_, _, _, h2, .inr ⟨rfl, ps, h3, h4, h5, h6⟩⟩
      have CC := Lib.hid hcc
      have CU := Lib.hid hcut
      have HB := Lib.hid hbody
      have HU := Lib.hid hu
      have LL := Lib.hid ll
      have C1 := Lib.hid hr.out
      clear hcase hcc hcut hbody hu hL hc hr hT hln ll
      go_upto_region 13 with (first
        | (go_at_call 35; refine (IT.out _ (PW4.out.below C1.out.1)).mono ?_; rintro e w5 ⟨rfl, b5⟩; have C5 := Lib.hid (C1.out.below b5); clear b5)
        | (go_at_call 39; refine (cutPrefix_c HB.out _).mono ?_; rintro e w6 ⟨rfl, rfl⟩))
      go_upto_region 16 with (go_at_call 32; refine (cut_c body wFrom s1 s2 tb (by omega) CU.out _ (MX4.out.keep (keeps_of_below C5.out.1))).mono ?_; rintro e w7 ⟨rfl, b7⟩; have C7 := Lib.hid (C5.out.below b7); clear b7)
      rcases CC.out with ⟨h1, h2⟩ | ⟨h1, ps, h2, h3, h4, h5⟩
      · subst h1
        have EN := Lib.hid h2
        clear h2
        go_wp2_with fail
        go_roundw
        case rel => exact ⟨k + 1, by omega, by go_num, by rw [flatten_take_succ HU.out, EN.out, List.append_nil]; exact C7.out⟩
        case measure => simp [intOf]; omega
      · subst h1
        have SP := Lib.hid h2
        have PL := Lib.hid h3
        have SL : s2.length ≤ 20000000 := Nat.le_trans h4 LL.out
        have HX := Lib.hid h5
        clear h2 h3 h4 h5
        go_upto_region 18 with (go_at_call 31; refine (splitAt_c s2 cs (by omega) (by decide) ps SP.out _ (MX4.out.keep (keeps_of_below C7.out.1))).mono ?_; rintro e w8 ⟨rfl, hw8, b8⟩; have S8 := Lib.hid hw8; have C8 := Lib.hid (C7.out.below b8); clear hw8 b8)
        obtain ⟨sb, hsb⟩ : ∃ sb, w7.heap.size = sb := ⟨_, rfl⟩
        rw [hsb] at S8 ⊢
        have NE : Hid (sb ≠ w4.heap.size) := by
          have := (Array.getElem?_eq_some_iff.1 C7.out.2).1
          show _ ≠ _
          omega
        have zs := (Array.getElem?_eq_some_iff.1 S8.out).1
        clear hsb
        obtain ⟨prev, hprev⟩ : ∃ prev, ((P.uses 0).take k).flatten = prev := ⟨_, rfl⟩
        have E1 : Hid (((P.uses 0).take (k + 1)).flatten = prev ++ nums) := by show _ = _; rw [flatten_take_succ HU.out, hprev]
        have CL : Hid (∀ j n, (prev ++ nums.take j).count n ≤ 1) := fun j n => by rw [← hprev]; exact count_le P HU.out j n
        have C9 : Hid (Cnt w4 N prev w8) := by rw [← hprev]; exact C8.out
        clear hprev
        have pl4 : ps.length ≤ 9223372036854775807 := by
          have := split_len_le s2 cs (by decide)
          rw [SP.out] at this
          omega
        go_loopw [81] (fun i wr => ∃ j : Nat, j ≤ ps.length ∧ i = .int .i64 j ∧ Hid (Cnt w4 N (prev ++ nums.take j) wr ∧ wr.heap[sb]? = some (.cells (ps.map str).toArray 9 (0, 0)))) (fun i _ => ps.length - (intOf i).toNat)
        case atStart => exact ⟨0, Nat.zero_le _, rfl, by simpa using C9.out, S8.out⟩
        case round =>
          obtain ⟨j, hj, rfl, hr⟩ := hrel
          by_cases hlj : j < ps.length
          · obtain ⟨x, hx⟩ := get_of_lt (l := ps) (j := j) hlj
            obtain ⟨n, hn1, hn2, hn3, r, b, hcx⟩ := HX.out j x hx
            have cx : wr.cell? ⟨sb, j, none⟩ = some (str x) := by rw [box_cell hr.out.2]; simp [hx]
            have xl : x.length ≤ s2.length := by
              have := SP.out
              refine splitK_len cs (Lib.count s2 cs) s2 x ?_
              rw [← SP.out] at hx
              exact List.mem_of_getElem? hx
            obtain ⟨D, hD⟩ : ∃ D, Lib.itoa (n : Int) = D := ⟨_, rfl⟩
            have AT : Hid (∀ w, Calls Tryz.prog 33 #[str D] w fun e w' => e = .returned (.tuple #[.int .i64 n, .nilIface]) ∧ Below w.heap.size w w') := fun w => by rw [← hD]; exact Atoi_c n (by omega) w
            rw [hD] at hcx
            obtain ⟨c, hc⟩ : ∃ c, (prev ++ nums.take j).count n = c := ⟨_, rfl⟩
            have c1 : c ≤ 1 := by rw [← hc]; exact CL.out j n
            have HC := Lib.hid hc
            have CX := Lib.hid hcx
            have HN1 := Lib.hid hn1
            have R := Lib.hid hr.out
            clear hx hn1 hcx hD hc hr
            have nN : n ≤ N := by omega
            go_upto_region 21 with (go_at_call 32; refine (cut_c x [32] D r b (by omega) CX.out _ (MX4.out.keep (keeps_of_below R.out.1.1))).mono ?_; rintro e w9 ⟨rfl, b9⟩; have R9 := Lib.hid (And.intro (R.out.1.below b9) (kc b9 R.out.2)); clear b9)
            go_upto_region 22 with (go_at_call 33; refine (AT.out _).mono ?_; rintro e w10 ⟨rfl, b10⟩; have R10 := Lib.hid (And.intro (R9.out.1.below b10) (kc b10 R9.out.2)); clear b10)
            have cell := R10.out.1.cell nN
            rw [HC.out] at cell
            have froz := R10.out.1.frozen n
            have zc := (Array.getElem?_eq_some_iff.1 R10.out.1.2).1
            go_wp2_with fail
            go_roundw
            case rel => exact ⟨j + 1, by omega, by go_num, by rw [List.take_add_one, HN1.out, Option.toList_some, ← List.append_assoc]; exact R10.out.1.next HC.out, by rw [Below.heap_setCell _ _ _ _ NE.out]; exact R10.out.2⟩
            case measure => simp [intOf]; omega
          · have e : nums.take j = nums := List.take_of_length_le (by rw [← PL.out]; omega)
            have R := Lib.hid hr.out.1
            clear hr
            go_wp2_with fail
            go_roundw
            case rel => exact ⟨k + 1, by omega, by go_num, by rw [E1.out]; have := R.out; rw [e] at this; exact this⟩
            case measure => simp [intOf]; omega
    · have hkN : k = N := by omega
      have CN : Hid (Cnt w4 N ((P.uses 0).flatten) wr) := by
        have := hr.out
        rw [List.take_of_length_le (by rw [hkN, hN.out.1, Pf.uses_length, Pf.lines_length]; exact Nat.le_refl _)] at this
        exact this
      clear hr
      have cnt : Hid (∀ n, n ≤ N → wr.cell? ⟨w4.heap.size, n, none⟩ = some (.int .i64 (if 0 < n ∧ n < N then 1 else 0))) := fun n hn => by
        rw [CN.out.cell hn, order_count, ← hN.out.1]
        split <;> rfl
      have zc := (Array.getElem?_eq_some_iff.1 CN.out.2).1
      go_wp2_with fail
      clear hk hlt hkN
      go_loopw [23] (fun i wx => ∃ k : Nat, 1 ≤ k ∧ k ≤ N ∧ i = .int .i64 k ∧ wx = wr) (fun i _ => N - (intOf i).toNat)
      case atStart => exact ⟨1, by omega, N1, rfl, rfl⟩
      case round =>
        obtain ⟨k, hk1, hk, rfl, rfl⟩ := hrel
        by_cases hlt : k < N
        · have ck := cnt.out k (by omega)
          rw [if_pos ⟨by omega, hlt⟩] at ck
          go_wp2_with fail
          go_roundw
          case rel => exact ⟨k + 1, by omega, by omega, by go_num, by trivial⟩
          case measure => simp [intOf]; omega
        · have hkN : k = N := by omega
          subst hkN
          have ck := cnt.out k (by omega)
          rw [if_neg (by omega)] at ck
          obtain ⟨i, ln, hi, hln, hcon⟩ := order_last P
          have ei : k = i + 1 := by have := hN.out.1; omega
          have hL := O4.out
          obtain ⟨lb, lo, rfl, hc⟩ := hL.get (ne_of_get hln)
          have c0 := keeps_of_below CN.out.1 _ _ (hc i _ hln)
          have ll := Pf.line_len P 0 kP.out.1 (by have := kP.out.2; omega) ln (List.mem_of_getElem? hln)
          have HC := Lib.hid hcon
          subst ei
          clear hL hc hln hcon hi
          go_wp2_with (go_at_call 40; refine (contains_c ln P.form.text (by omega) _ (MX4.out.keep (keeps_of_below CN.out.1))).mono ?_; rintro e w5 ⟨rfl, rfl⟩; rw [HC.out])
          go_ret
          exact ⟨rfl, BW4.out.trans (CN.out.1.mono BW4.out.size)⟩
end Go.Proofs.YtcandidgaegghaaGreatDoor
