/- describe.readLine at the line of a step with premises: the walk. Conditions: those of each statement; the program's tables (rows, MaxLen) lie as laid. -/
import Derived.Test.YtcandidgaegghaaGreatDoorRdMZ
namespace Go.Proofs.YtcandidgaegghaaGreatDoor
open Go Go.RowKit Ly
set_option maxRecDepth 10000
set_option linter.unusedSimpArgs false
set_option linter.unusedVariables false
attribute [local go_sem] Oper.semAt_some
set_option maxHeartbeats 4000000 in
theorem readLine_list (r : Bs) (hr' : ruleName r = true) (h0 : r ≠ hole) (f : Fm) (hf : f.right = true) (l : Int) (ps : List Bs) (hps : ps ≠ []) (h44 : ∀ x ∈ ps, (44 : UInt8) ∉ x) (ms : List (List Int))
    (hms : ∀ (j : Nat) (x : Bs) (m : List Int), ps[j]? = some x → ms[j]? = some m → ∃ n, x = premText n m) (hml : ms.length = ps.length) (hmk : ∀ m ∈ ms, m.length ≤ 3 ∧ ∀ x ∈ m, 0 ≤ x ∧ x ≤ 1000000)
    (hpl : ∀ x ∈ ps, x.length ≤ 1000000000) (hlen : (bodyText r f l ps).length ≤ 1000000000) (w : World) (hm : MaxAt w) (hr : RowsAt w) :
    Calls Tryz.prog 120 #[str (bodyText r f l ps)] w (RetLine (.mk r f 0 [] ms) ps.length w) := by
  have HM := Lib.hid hm
  have HR := Lib.hid hr
  have HMS := Lib.hid hms
  have HML := Lib.hid hml
  have HMK := Lib.hid hmk
  have HPL := Lib.hid hpl
  have fok := ok_of_right hf
  have hne : r ≠ [] := fun e => by rw [e] at hr'; cases hr'
  obtain ⟨J, hJ⟩ : ∃ J, joinBy cs ps = J := ⟨_, rfl⟩
  obtain ⟨Y, hY⟩ : ∃ Y, r ++ (wFrom ++ J) = Y := ⟨_, rfl⟩
  obtain ⟨X, hX⟩ : ∃ X, [98, 121, 32] ++ Y = X := ⟨_, rfl⟩
  have hpe : ps.isEmpty = false := by cases ps with
    | nil => exact absurd rfl hps
    | cons a b => rfl
  have hB : bodyRest r ps = X := by rw [rest_rule h0, hpe, hJ, ← hX, ← hY]; rfl
  have CU : Hid (Lib.cut (bodyText r f l ps) cs = (f.text, X, true)) := (body_else fok hne l ps).trans (by rw [hB])
  have XL := Lib.hid hlen
  have NA := Lib.hid (Fm.no_assume fok)
  have CF : Hid (Lib.cut Y wFrom = (r, J, true)) := Lib.hid (by have := cut_from hr' ps; rw [hpe, hJ] at this; rw [← hY]; exact this)
  have NX : (X == [115, 116, 105, 108, 108, 32, 116, 111, 32, 115, 104, 111, 119]) = false := by rw [← hX]; simp
  have SPL : Hid (Lib.split J cs = ps) := Lib.hid (by rw [← hJ]; exact prems_split hps h44)
  have YL : Hid (Y.length ≤ 1000000000) := by have := rest_len hne hlen; rw [hB, ← hX] at this; show _ ≤ _; simp at this; omega
  have JL : Hid (J.length ≤ 1000000000) := by have := YL.out; rw [← hY] at this; show _ ≤ _; simp at this; omega
  generalize bodyText r f l ps = T at *
  clear hm hr hlen fok hr' h0 hne hJ hY hB hpe h44 hms hml hmk hpl
  refine (callsIn_wide (n := 100)).1 ?_
  refine callsIn_of_wp_marks Tryz.func120 rfl trivial ?_ rfl
  simp only [Tryz.ntmps120, List.size_toArray, List.length_cons, List.length_nil, Nat.reduceAdd, Nat.reduceSub, Array.replicate_succ, Array.replicate_zero, List.push_toArray, List.append_toArray, List.nil_append, List.cons_append]
  have Z := Lib.hid (line_vars w)
  gi_wp2_with (first
    | (have Z13' := Z13.out; clear Z13'; refine ⟨trivial, ?_⟩; gi_at_call 119; refine (callsIn_wide.2 (SplitSeq_c J cs _)).mono ?_; rintro e w14 ⟨rfl, rfl⟩)
    | (have Z10' := Z10.out; clear Z10'; first
        | (refine ⟨trivial, ?_⟩; gi_at_call 39; refine (callsIn_wide.2 (cutPrefix_yes [98, 121, 32] Y X hX.symm _)).mono ?_; rintro e w11 ⟨rfl, rfl⟩)
        | (refine ⟨trivial, ?_⟩; gi_at_call 32; refine (callsIn_wide.2 (cut_c Y wFrom _ _ _ YL.out CF.out _ ((HM.out.keep (keeps_of_below Z10.out.bw)).keep (keeps1 _ _)))).mono ?_; rintro e w12 ⟨rfl, b12⟩; have Z13 := Lib.hid ((Z10.out.below ((Below.refl _ _).alloc (Nat.le_refl _) (.cells #[.int .u8 f.op, str f.name, .slice fa fn fc, .slice fb fm fd] 25))).below b12); have zr := kc b12 (heap_alloc_new w10 (.cells #[.int .u8 f.op, str f.name, .slice fa fn fc, .slice fb fm fd] 25)); have B12 := Lib.hid (belowThen ((Below.refl _ _).alloc (Nat.le_refl _) (.cells #[.int .u8 f.op, str f.name, .slice fa fn fc, .slice fb fm fd] 25)) b12); obtain ⟨p0, p1, p2, p3, -, -, -, -⟩ := row25' zr; clear zr b12))
    | (refine ⟨trivial, ?_⟩; gi_at_call 32; refine (callsIn_wide.2 (cut_c T cs _ _ _ XL.out CU.out _ (HM.out.keep (keeps_of_below Z.out.bw)))).mono ?_; rintro e w7 ⟨rfl, b7⟩; have Z7 := Lib.hid (Z.out.below b7); clear b7)
    | (refine ⟨trivial, ?_⟩; gi_at_call 39; refine (callsIn_wide.2 (cutPrefix_no wAssume f.text NA.out _)).mono ?_; rintro e w8 ⟨rfl, rfl⟩)
    | (refine ⟨trivial, ?_⟩; gi_at_call 43; refine (callsIn_wide.2 (Read_yes f hf _ (HM.out.keep (keeps_of_below Z7.out.bw)) (HR.out.keep (keeps_of_below Z7.out.bw)))).mono ?_; rintro e w10 ⟨fa, fn, fc, fb, fm, fd, rfl, h1, h2, b10⟩; have Z10 := Lib.hid (Z7.out.below b10); have B10 := Lib.hid b10; have H1 := Lib.hid h1; have H2 := Lib.hid h2; clear h1 h2 b10))
  change Code.wpIn _ _ _ _ _ _ ((((w12.alloc (.cells #[str r, .int .u8 f.op, str f.name, .slice fa fn fc, .slice fb fm fd, .int .i64 0, .slice none 0 0, .slice none 0 0] 53)).alloc (.cells #[str J] 9)).alloc (.cells #[str cs] 9)).alloc (.cells #[.int .i64 0] 3))
  have zg := heap_alloc_new w12 (.cells #[str r, .int .u8 f.op, str f.name, .slice fa fn fc, .slice fb fm fd, .int .i64 0, .slice none 0 0, .slice none 0 0] 53)
  have bA : Below w12.heap.size w12 (w12.alloc (.cells #[str r, .int .u8 f.op, str f.name, .slice fa fn fc, .slice fb fm fd, .int .i64 0, .slice none 0 0, .slice none 0 0] 53)) := (Below.refl _ _).alloc (Nat.le_refl _) _
  have ZA := Lib.hid (Z13.out.below bA)
  have BA := Lib.hid (belowThen B12.out bA)
  have K1 : Keeps (hide (lo w8) w10) (hide (fun k => decide (k < w8.heap.size) || decide (k = w12.heap.size)) (w12.alloc (.cells #[str r, .int .u8 f.op, str f.name, .slice fa fn fc, .slice fb fm fd, .int .i64 0, .slice none 0 0, .slice none 0 0] 53))) := hide_keeps2 fun k h1 h2 => ⟨by have := B12.out.size; simp only [lo, decide_eq_false_iff_not, Bool.or_eq_false_iff] at h2 ⊢; exact ⟨h2, by omega⟩, BA.out.block k h1⟩
  have HA1 := Lib.hid (H1.out.keep K1)
  have HA2 := Lib.hid (H2.out.keep K1)
  have ZS : Hid ((w12.alloc (.cells #[str r, .int .u8 f.op, str f.name, .slice fa fn fc, .slice fb fm fd, .int .i64 0, .slice none 0 0, .slice none 0 0] 53)).heap.size = w12.heap.size + 1) := by show _ = _; simp
  have ZG := Lib.hid zg
  have ZL : Hid (w.heap.size + 1 + 1 < w12.heap.size) := (Array.getElem?_eq_some_iff.1 Z13.out.c4).1
  have Z78 : Hid (w8.heap.size ≤ w12.heap.size) := Nat.le_trans B10.out.size B12.out.size
  have Z8 : Hid (w.heap.size + 1 + 1 < w8.heap.size) := (Array.getElem?_eq_some_iff.1 Z7.out.c4).1
  clear zg bA K1 p0 p1 p2 p3 B12 BA H1 H2 Z10 Z13 Z7 B10
  generalize w12.alloc (.cells #[str r, .int .u8 f.op, str f.name, .slice fa fn fc, .slice fb fm fd, .int .i64 0, .slice none 0 0, .slice none 0 0] 53) = A at *
  generalize w12.heap.size = g at *
  generalize w10.heap.size = g15 at *
  have SA : Hid (SeqAt cs (g + 1) J (((A.alloc (.cells #[str J] 9)).alloc (.cells #[str cs] 9)).alloc (.cells #[.int .i64 0] 3))) := by
    have := seqAt_new (s := J) (sep := cs) (HM.out.keep (keeps_of_below ZA.out.bw))
    rw [ZS.out] at this
    exact this
  have B36 : Hid (Below A.heap.size A (((A.alloc (.cells #[str J] 9)).alloc (.cells #[str cs] 9)).alloc (.cells #[.int .i64 0] 3))) := (((Below.refl _ _).alloc (Nat.le_refl _) _).alloc (by simp) _).alloc (by simp; omega) _
  have Z6 : Hid ((((A.alloc (.cells #[str J] 9)).alloc (.cells #[str cs] 9)).alloc (.cells #[.int .i64 0] 3)).heap.size = A.heap.size + 3) := by show _ = _; simp
  have Z1 : Hid (1 < w.heap.size) := by obtain ⟨m, hm⟩ := HM.out; exact World.block_lt_of_cell? w _ hm
  generalize ((A.alloc (.cells #[str J] 9)).alloc (.cells #[str cs] 9)).alloc (.cells #[.int .i64 0] 3) = W6 at *
  have hgA : g < A.heap.size := by have := ZS.out; omega
  refine wp_rangeCell rfl (by omega) (gf := 272) (lb := #[one (g + 1 + 1), one (g + 1), one (g + 1 + 2)]) rfl trivial (enters_of Tryz.func272 (by kernel_rfl) rfl) (enc := str) (c := g + 1) (Kp := SeqKp (g + 1)) (l := ps) (w0 := W6) (by have := Z6.out; omega)
    (seqCell _ J cs (by decide) JL.out (by decide) (g + 1) (by have := Z1.out; have := ZL.out; omega) _ SPL.out W6 SA.out) SeqKp.trans (fun W r o' hr k hk => World.putObj_heap_other (by have := Z1.out; have := Z6.out; have := ZL.out; have := ZS.out; omega)) (Below.refl _ _) rfl
    (fun pre W => ∃ va vn vc, LI A g (str r) (.int .u8 f.op) (str f.name) (.slice fa fn fc) (.slice fb fm fd) (.int .i64 0) (.slice none 0 0) (ms.take pre.length) va vn vc W) (fun _ _ _ => False) (LI.lets hgA Z6.out ZS.out.symm) (fun _ _ _ _ _ hs _ _ => hs) ?start
    (fun a x => { tmps := (a.tmps.setIfInBounds 100 (str x)).setIfInBounds 22 (str x), defers := [] }) ?assign ?body ?done ?stop
  case start =>
    exact ⟨none, 0, 0, LI.new hgA ZG.out B36.out (Nat.le_of_eq Z6.out.symm)⟩
  case assign =>
    intro rr x W K hK
    simp only [List.setIfInBounds_toArray, List.set_cons_zero, List.set_cons_succ] at hK ⊢
    gi_wp2
    exact hK
  case body =>
    rintro rr pre x W hrr ⟨q, hq⟩ ⟨va, vn, vc, li⟩ hpre
    simp only [List.setIfInBounds_toArray, List.set_cons_zero, List.set_cons_succ]
    have hx := prefix_get hpre
    have hlt : pre.length < ms.length := by rw [HML.out]; exact (List.getElem?_eq_some_iff.1 hx).1
    obtain ⟨m, hm⟩ : ∃ m, ms[pre.length]? = some m := ⟨_, List.getElem?_eq_getElem hlt⟩
    obtain ⟨n, rfl⟩ := HMS.out _ _ _ hx hm
    have XN : Hid ((premText n m).length ≤ 1000000000) := HPL.out _ (List.mem_of_getElem? hx)
    have MK := Lib.hid (HMK.out m (List.mem_of_getElem? hm))
    have PC := Lib.hid (prem_cut n m)
    have TS : Hid (ms.take (pre ++ [premText n m]).length = ms.take pre.length ++ [m]) := by
      show _ = _
      rw [List.length_append, List.length_singleton]; exact take_snoc hm
    have NL : Hid ((ms.take pre.length).length ≤ 1000000001) := by
      have h := split_le J cs (by decide)
      have := JL.out
      rw [SPL.out, ← HML.out] at h
      show _ ≤ _
      rw [List.length_take]; omega
    have hvn := li.count
    have LW := Lib.hid li
    have HQ := Lib.hid hq
    have zW := li.sz
    have zA := ZS.out
    have z1 := Z1.out
    have zl := ZL.out
    have GW : w.heap.size ≤ A.heap.size := by omega
    have BW : Hid (Below w.heap.size w W) := (li.lv ZA.out ZL.out).bw
    obtain ⟨j0, hj0, hzj, hsj, hbj⟩ := info_parts info29
    clear hx hm hpre li hq hlt
    generalize hT1 : premText n m = T1 at *
    have TX := Lib.hid hT1
    clear hT1
    generalize ms.take pre.length = L at *
    subst hvn
    cases m with
    | nil =>
      gi_wp2_with (first
        | (refine ⟨trivial, ?_⟩; gi_at_call 32; refine (CallsIn.inRound rr (callsIn_wide.2 (cut_c T1 wEnding _ _ _ XN.out PC.out _ (HM.out.keep (keeps_of_below BW.out))))).mono ?_; rintro e w1 ⟨rfl, b1⟩; have B1 := Lib.hid b1; obtain ⟨-, -, -, -, -, -, -, x7⟩ := row53 (LW.out.below hgA b1).cell; have zg1 : g < w1.heap.size := (by have := b1.size; omega); obtain ⟨xs, OW, CT⟩ := LI.step (B := W6.heap.size) (c := g + 1) (m := []) (la := none) (ln := 0) (lc := 0) hgA Z6.out ZS.out.symm (by omega) (by omega) LW.out (belowThen b1 ((Below.refl _ _).alloc (Nat.le_refl _) (.cells #[.slice none 0 0] 29))) (At.sl_nil (Nat.zero_le _)); have OWH := Lib.hid OW; have CTH := Lib.hid CT; have zb1 := b1.size; clear b1 OW CT)
        | (gi_at_builtin; refine wpListIn_append_own_at _ rfl _ _ 51 rfl (A.heap.size + 3) 29 j0 (.slice none 0 0) 1 24 Tryz.underlying51 hj0 hzj hsj hbj rfl (by decide) _ L.length xs rfl OWH.out ⟨w1.heap.size + 1, 0, none⟩ 1 1 [.slice none 0 0] rfl rfl (by have := cell_one_new (w1.alloc (.cells #[.slice none 0 0] 29)) (.slice none 0 0) 29; rw [World.size_alloc] at this; exact this) (by intro u hu; simp at hu; subst hu; rfl) (by have := NL.out; unfold maxLen; omega) (by have := NL.out; omega) (by simp; omega) ?_; intro v5 w5 h5 hg5 hat5; obtain ⟨a5, c5, rfl⟩ := row_form h5; obtain ⟨c7, f7, FN⟩ := CTH.out _ w5 h5 hg5 hat5; have FNH := Lib.hid FN; clear h5 hg5 hat5 FN x7))
      obtain ⟨r1, r2, r3⟩ := FNH.out _ rfl
      refine ⟨r1, r2, ?_⟩
      show ∃ va vn vc, LI A g (str r) (.int .u8 f.op) (str f.name) (.slice fa fn fc) (.slice fb fm fd) (.int .i64 0) (.slice none 0 0) (ms.take (pre ++ [T1]).length) va vn vc _
      rw [TS.out]
      exact r3
    | cons m0 mt =>
      have mne : (m0 :: mt) ≠ [] := by simp
      have SP2 : Hid (Lib.split (numbers (m0 :: mt)) wAnds = (m0 :: mt).map Lib.itoa) := Lib.hid (numbers_split mne fun x hx => ((MK.out).2 x hx).1)
      have NN : Hid ((numbers (m0 :: mt)).length ≤ 1000000000) := by
        have := XN.out
        rw [← TX.out, premText, if_neg (by simp)] at this
        simp only [List.length_append] at this
        show _ ≤ _; omega
      have PC' : Hid (Lib.cut T1 wEnding = (Lib.itoa (n : Int), numbers (m0 :: mt), true)) := PC.out
      generalize hN : numbers (m0 :: mt) = N at *
      clear PC hN
      gi_wp2_with (first
        | (refine ⟨trivial, ?_⟩; gi_at_call 32; refine (CallsIn.inRound rr (callsIn_wide.2 (cut_c T1 wEnding _ _ _ XN.out PC'.out _ (HM.out.keep (keeps_of_below BW.out))))).mono ?_; rintro e w1 ⟨rfl, b1⟩; have B1 := Lib.hid b1; clear b1)
        | (refine ⟨trivial, ?_⟩; gi_at_call 119; refine (CallsIn.inRound rr (callsIn_wide.2 (SplitSeq_c N wAnds _))).mono ?_; rintro e w2 ⟨rfl, rfl⟩))
      change Code.wpIn _ _ _ _ _ _ ((((w1.alloc (.cells #[.slice none 0 0] 29)).alloc (.cells #[str N] 9)).alloc (.cells #[str wAnds] 9)).alloc (.cells #[.int .i64 0] 3))
      have BA2 := Lib.hid (belowThen B1.out ((Below.refl _ _).alloc (Nat.le_refl _) (.cells #[.slice none 0 0] 29)))
      have zg2 := Lib.hid (heap_alloc_new w1 (.cells #[.slice none 0 0] 29))
      have ZS2 : Hid ((w1.alloc (.cells #[.slice none 0 0] 29)).heap.size = w1.heap.size + 1) := by show _ = _; simp
      have ZW1 := Lib.hid B1.out.size
      clear B1
      generalize w1.alloc (.cells #[.slice none 0 0] 29) = A2 at *
      generalize w1.heap.size = gl at *
      have MX2 := Lib.hid (HM.out.keep (keeps_of_below (belowThen BW.out BA2.out)))
      have SA2 : Hid (SeqAt wAnds (gl + 1) N (((A2.alloc (.cells #[str N] 9)).alloc (.cells #[str wAnds] 9)).alloc (.cells #[.int .i64 0] 3))) := by
        have := seqAt_new (s := N) (sep := wAnds) MX2.out
        rw [ZS2.out] at this
        exact this
      have B37 : Hid (Below A2.heap.size A2 (((A2.alloc (.cells #[str N] 9)).alloc (.cells #[str wAnds] 9)).alloc (.cells #[.int .i64 0] 3))) := (((Below.refl _ _).alloc (Nat.le_refl _) _).alloc (by simp) _).alloc (by simp; omega) _
      have Z7' : Hid ((((A2.alloc (.cells #[str N] 9)).alloc (.cells #[str wAnds] 9)).alloc (.cells #[.int .i64 0] 3)).heap.size = A2.heap.size + 3) := by show _ = _; simp
      generalize ((A2.alloc (.cells #[str N] 9)).alloc (.cells #[str wAnds] 9)).alloc (.cells #[.int .i64 0] 3) = W7 at *
      have hgl : gl < A2.heap.size := by have := ZS2.out; omega
      have zz : W.heap.size ≤ gl := ZW1.out
      have HQ7 : W7.heap[rr]? = some (.loop q) := by
        have hl := (Array.getElem?_eq_some_iff.1 HQ.out).1
        have hs2 := BA2.out.size
        exact (B37.out.block rr (by omega)).trans ((BA2.out.block rr hl).trans HQ.out)
      obtain ⟨k0, hk0, hzk, hsk, hbk⟩ := info_parts info3z'
      generalize hM : m0 :: mt = M at *
      refine wp_rangeCellIn (l₀ := rr) (r₀ := q) rfl HQ7 (by omega) (gf := 272) (lb := #[one (gl + 1 + 1), one (gl + 1), one (gl + 1 + 2)]) rfl trivial (enters_of Tryz.func272 (by kernel_rfl) rfl) (enc := str) (c := gl + 1) (Kp := SeqKp (gl + 1)) (l := M.map Lib.itoa) (w0 := W7) (by have := Z7'.out; omega)
        (seqCell _ N wAnds (by decide) NN.out (by decide) (gl + 1) (by omega) _ SP2.out W7 SA2.out) SeqKp.trans (fun W' r o' hr k hk => World.putObj_heap_other (by have := Z7'.out; have := ZS2.out; omega)) (Below.refl _ _) rfl
        (fun pre W' => ∃ la ln lc, LJ A2 gl (M.take pre.length) la ln lc W') (fun _ _ _ => False) (LJ.lets hgl Z7'.out ZS2.out.symm) (fun _ _ _ _ _ hs _ _ => hs) ?start2
        (fun a x => { tmps := (a.tmps.setIfInBounds 110 (str x)).setIfInBounds 27 (str x), defers := [] }) ?assign2 ?body2 ?done2 ?stop2
      case start2 => exact ⟨none, 0, 0, LJ.new hgl zg2.out B37.out (Nat.le_of_eq Z7'.out.symm)⟩
      case assign2 =>
        intro r2 x2 W2 K hK
        simp only [List.setIfInBounds_toArray, List.set_cons_zero, List.set_cons_succ] at hK ⊢
        gi_wp2
        exact hK
      case stop2 =>
        intro j pre2 W2 _ h
        exact h.elim
      case body2 =>
        rintro r2 pre2 x2 W2 hr2 hq2 ⟨la, ln, lc, lj⟩ hpre2
        simp only [List.setIfInBounds_toArray, List.set_cons_zero, List.set_cons_succ]
        have hx2 := prefix_get hpre2
        rw [List.getElem?_map] at hx2
        obtain ⟨z, hz, rfl⟩ := Option.map_eq_some_iff.1 hx2
        obtain ⟨k, rfl⟩ : ∃ k : Nat, z = (k : Int) := ⟨z.toNat, by have := (MK.out.2 z (List.mem_of_getElem? hz)).1; omega⟩
        have hk : k ≤ 1000000 := by have := (MK.out.2 (k : Int) (List.mem_of_getElem? hz)).2; omega
        have TS2 : Hid (M.take (pre2 ++ [Lib.itoa (k : Int)]).length = M.take pre2.length ++ [(k : Int)]) := by
          show _ = _
          rw [List.length_append, List.length_singleton]; exact take_snoc hz
        have NL2 : Hid ((M.take pre2.length).length ≤ 3) := by
          have := MK.out.1
          show _ ≤ _
          rw [List.length_take]; omega
        have hvn2 := lj.count
        have JW := Lib.hid lj
        have zW2 := lj.sz
        clear hx2 hz lj hpre2 hq2
        generalize M.take pre2.length = L2 at *
        subst hvn2
        gi_wp2_with (first
          | (refine ⟨trivial, ?_⟩; gi_at_call 33; refine (CallsIn.inRound r2 (CallsIn.inRound rr (callsIn_wide.2 (Atoi_c k hk _)))).mono ?_; rintro e w3 ⟨rfl, b3⟩; obtain ⟨OW2, CT2⟩ := LJ.put (B := W7.heap.size) (c := gl + 1) (z := (k : Int)) (o := .cells #[.int .i64 (k : Int)] 3) hgl Z7'.out ZS2.out.symm (by omega) (by omega) JW.out b3; have OWH2 := Lib.hid OW2; have CTH2 := Lib.hid CT2; have y0 := (box_cell (JW.out.below hgl b3).cell 0).trans rfl; have zb3 := b3.size; have zg3 : gl < w3.heap.size := (by omega); clear b3 OW2 CT2)
          | (gi_at_builtin; refine wpListIn_append_own_at _ rfl _ _ 29 rfl (A2.heap.size + 3) 3 k0 (.int .i64 0) 1 8 Tryz.underlying29 hk0 hzk hsk hbk rfl (by decide) _ L2.length _ rfl OWH2.out ⟨w3.heap.size, 0, none⟩ 1 1 [.int .i64 (k : Int)] rfl rfl (cell_one_new _ _ _) (by intro u hu; simp at hu; subst hu; rfl) (by have := NL2.out; unfold maxLen; omega) (by have := NL2.out; omega) (by simp; omega) ?_; intro v5 w5 h5 hg5 hat5; obtain ⟨a5, c5, rfl⟩ := row_form h5; obtain ⟨c7, f7, FN⟩ := CTH2.out _ w5 h5 hg5 hat5; have FNH2 := Lib.hid FN; clear h5 hg5 hat5 FN y0))
        obtain ⟨r1, r2, r3⟩ := FNH2.out _ rfl
        refine ⟨r1, r2, ?_⟩
        show ∃ la ln lc, LJ A2 gl (M.take (pre2 ++ [Lib.itoa (k : Int)]).length) la ln lc _
        rw [TS2.out]
        exact r3
      case done2 =>
        rintro W2 ⟨la, ln, lc, lj⟩
        rw [List.length_map, List.take_of_length_le (Nat.le_refl _)] at lj
        have bw2 := lj.bw BA2.out zz
        have y0 := (box_cell lj.cell 0).trans rfl
        obtain ⟨-, -, -, -, -, -, -, x7⟩ := row53 (LW.out.below hgA bw2).cell
        obtain ⟨xs, OW, CT⟩ := LI.step (B := W6.heap.size) (c := g + 1) (m := M) (la := la) (ln := ln) (lc := lc) hgA Z6.out ZS.out.symm (by omega) (by omega) LW.out bw2 (lj.marks (by omega))
        have OWH := Lib.hid OW
        have CTH := Lib.hid CT
        have zb1 := bw2.size
        have zg3 : g < W2.heap.size := by omega
        have zg4 : gl < W2.heap.size := by have := lj.sz; omega
        clear bw2 OW CT lj
        gi_wp2_with (gi_at_builtin; refine wpListIn_append_own_at _ rfl _ _ 51 rfl (A.heap.size + 3) 29 j0 (.slice none 0 0) 1 24 Tryz.underlying51 hj0 hzj hsj hbj rfl (by decide) _ L.length xs rfl OWH.out ⟨W2.heap.size, 0, none⟩ 1 1 [.slice la ln lc] rfl rfl (cell_one_new _ _ _) (by intro u hu; simp at hu; subst hu; rfl) (by have := NL.out; unfold maxLen; omega) (by have := NL.out; omega) (by simp; omega) ?_; intro v5 w5 h5 hg5 hat5; obtain ⟨a5, c5, rfl⟩ := row_form h5; obtain ⟨c7, f7, FN⟩ := CTH.out _ w5 h5 hg5 hat5; have FNH := Lib.hid FN; clear h5 hg5 hat5 FN x7)
        obtain ⟨r1, r2, r3⟩ := FNH.out _ rfl
        refine ⟨r1, r2, ?_⟩
        show ∃ va vn vc, LI A g (str r) (.int .u8 f.op) (str f.name) (.slice fa fn fc) (.slice fb fm fd) (.int .i64 0) (.slice none 0 0) (ms.take (pre ++ [T1]).length) va vn vc _
        rw [TS.out]
        exact r3
  case done =>
    rintro D W hD ⟨va, vn, vc, li⟩ hK
    have LI' := Lib.hid li
    have HK := Lib.hid hK
    have HD := Lib.hid hD
    clear li hK hD
    have LVW := Lib.hid (LI'.out.lv ZA.out ZL.out)
    have hvn : vn = ps.length := by rw [LI'.out.count, List.length_take, HML.out]; omega
    have NL : Hid (ps.length ≤ 1000000001) := by
      have h := split_le J cs (by decide)
      have := JL.out
      rw [SPL.out] at h
      show _ ≤ _; omega
    have z16 := LI'.out.sz
    obtain ⟨f0, f1, f2, f3, f4, f5, f6, f7⟩ := row53f LVW.out.c2
    obtain ⟨u0, u1, u2, u3, u4, u5, u6, u7⟩ := row53 LVW.out.c2
    obtain ⟨y3, r3⟩ := row9 LVW.out.c3
    obtain ⟨y4, r4⟩ := row9 LVW.out.c4
    obtain ⟨x0, x1, x2, x3, x4, x5, x6, x7⟩ := row53 LI'.out.cell
    have n0 : g ≠ w.heap.size := by have := ZL.out; omega
    have n1 : g ≠ w.heap.size + 1 := by have := ZL.out; omega
    have n2 : g ≠ w.heap.size + 1 + 1 := by have := ZL.out; omega
    gi_wp2
    gi_region
    gi_wp2
    have hpp : ∀ k, A.heap.size + 3 ≤ k → (fun k => decide (k < w8.heap.size) || decide (k = g)) k = false := fun k hk => by have := Z8.out; have := ZS.out; have := Z78.out; simp; omega
    have MK := LI'.out.marks hpp
    rw [List.take_of_length_le (by rw [HML.out]; exact Nat.le_refl _), hvn] at MK
    have KF := LI'.out.form (p := fun k => decide (k < w8.heap.size) || decide (k = g)) (by simp)
    have hD' : w.heap.size + 1 + 1 < D := by have := HD.out; have := Z6.out; have := ZS.out; have := ZL.out; omega
    obtain ⟨e0, e1, e2, e3⟩ := line_fin (p := fun k => decide (k < w8.heap.size) || decide (k = g)) (n := ps.length) (r := r) (f := f) (lb := 0) (ms := ms) (sub := []) LVW.out (fun k hk => by have := Z8.out; simp; omega) (HA1.out.keep KF) (HA2.out.keep KF) MK rfl (below_drew1 _)
    have hk2 : ∀ W1, W1 = lineW W w.heap.size (str r) (.int .u8 f.op) (str f.name) (.slice fa fn fc) (.slice fb fm fd) (.int .i64 0) (.slice none 0 0) (.slice va ps.length vc) (.int .i64 ps.length) (.bool true) → W1.drew.heap[D]? = some (.deferred (some [])) := fun W1 h => by
      rw [h, drew_heap, lineW_low (by omega) (by omega) (by omega)]; exact HK.out
    have K := hk2 _ rfl
    exact ⟨by simp, .inl ⟨_, _, rfl, run_takeDeferred K, _, res120 _ _ _ _ _ _ _ _ _ _ _ _ _ _ _ rfl rfl rfl ((World.putObj_heap_other (by omega)).trans e0) ((World.putObj_heap_other (by omega)).trans e1) ((World.putObj_heap_other (by omega)).trans e2), line_put e3 (by omega) K⟩⟩
  case stop =>
    intro D j pre W _ _ h _
    exact h.elim
end Go.Proofs.YtcandidgaegghaaGreatDoor
