/- describe.ReadClaim at the text of a claim of right formulas: the walk. Conditions: those of the statement; the program's tables (rows, MaxLen) lie as laid. -/
import Derived.Test.YtcandidgaegghaaGreatDoorRdClZ
namespace Go.Proofs.YtcandidgaegghaaGreatDoor
open Go Go.RowKit Ly
set_option maxRecDepth 10000
set_option linter.unusedSimpArgs false
set_option linter.unusedVariables false
attribute [local go_sem] Oper.semAt_some
set_option maxHeartbeats 20000000 in
theorem ReadClaim_c (G S : List Fm) (hG : ∀ g ∈ G, g.right = true) (hS : ∀ g ∈ S, g.right = true) (hlen : (claimText G S).length ≤ 16384) (w : World) (hm : MaxAt w) (hr : RowsAt w) :
    Calls Tryz.prog 45 #[str (claimText G S)] w fun e w' => ∃ a n c b m d, e = .returned (.tuple #[.agg #[.slice a n c, .slice b m d], .int .i64 0]) ∧ FmsAt w' G (.slice a n c) ∧ FmsAt w' S (.slice b m d) ∧ Below w.heap.size w w' := by
  have HM := Lib.hid hm
  have HR := Lib.hid hr
  have HG := Lib.hid hG
  have HS := Lib.hid hS
  clear hm hr hG hS
  refine (callsIn_wide (n := 100)).1 ?_
  refine callsIn_of_wp_marks Tryz.func45 rfl trivial ?_ rfl
  simp only [Tryz.ntmps45, List.size_toArray, List.length_cons, List.length_nil, Nat.reduceAdd, Nat.reduceSub, Array.replicate_succ, Array.replicate_zero, List.push_toArray, List.append_toArray, List.nil_append, List.cons_append]
  obtain ⟨T, hT⟩ : ∃ T, claimText G S = T := ⟨_, rfl⟩
  rw [hT] at hlen ⊢
  have hl : (T.length : Int) ≤ 16384 := by omega
  cases hp : claimParts G S with
  | nil =>
    have hG0 : G = [] ∧ S = [] := by
      unfold claimParts at hp
      have := List.append_eq_nil_iff.1 hp
      exact ⟨List.map_eq_nil_iff.1 this.1, List.map_eq_nil_iff.1 this.2⟩
    obtain ⟨rfl, rfl⟩ := hG0
    have hT0 : T = [] := by rw [← hT]; rfl
    subst hT0
    have zg := heap_alloc_new w (.cells #[.slice none 0 0, .slice none 0 0] 48)
    have zh := heap_alloc_new (w.alloc (.cells #[.slice none 0 0, .slice none 0 0] 48)) (.cells #[.int .i64 0] 37)
    rw [World.size_alloc] at zh
    gi_wp2
    refine ⟨_, res45 _ _ w.heap.size (w.heap.size + 1) _ _ _ rfl rfl (keep_new _ (keep_new _ zg)) (keep_new _ zh), _, _, _, _, _, _, rfl, nilF _, nilF _, (((Below.refl _ _).alloc (Nat.le_refl _) _).alloc (by simp) _).alloc (by simp; omega) _⟩
  | cons x0 r0 =>
    have hne : ¬ T = [] := by rw [← hT]; exact claimParts_ne hp
    have hem : T.isEmpty = false := by cases T with
      | nil => exact absurd rfl hne
      | cons c t => rfl
    have SPL : Hid (Lib.split T cs = claimParts G S) := by
      show _ = _
      rw [← hT]
      exact split_join (c := 44) (t := [32]) _ (by rw [hp]; simp) (claimParts_not HG.out HS.out)
    have GL : Hid (G.length + S.length ≤ 20000) := by
      have h1 := split_le T cs (by decide)
      rw [SPL.out] at h1
      have h2 : (claimParts G S).length = G.length + S.length := by simp [claimParts]
      show _ ≤ _
      omega
    have HT := Lib.hid hT
    have HLN := Lib.hid hlen
    clear hT hlen hp hne
    have B3 : Hid (Below w.heap.size w (((w.alloc (.cells #[.slice none 0 0, .slice none 0 0] 48)).alloc (.cells #[.int .i64 0] 37)).alloc (.cells #[.slice none 0 0, .slice none 0 0] 48))) := (((Below.refl _ _).alloc (Nat.le_refl _) _).alloc (by simp) _).alloc (by simp; omega) _
    have Z2 : Hid ((((w.alloc (.cells #[.slice none 0 0, .slice none 0 0] 48)).alloc (.cells #[.int .i64 0] 37)).alloc (.cells #[.slice none 0 0, .slice none 0 0] 48)).heap[w.heap.size]? = some (.cells #[.slice none 0 0, .slice none 0 0] 48 (0, 0))) := keep_new _ (keep_new _ (heap_alloc_new w _))
    have Z3 : Hid ((((w.alloc (.cells #[.slice none 0 0, .slice none 0 0] 48)).alloc (.cells #[.int .i64 0] 37)).alloc (.cells #[.slice none 0 0, .slice none 0 0] 48)).heap[w.heap.size + 1]? = some (.cells #[.int .i64 0] 37 (0, 0))) := by
      have := heap_alloc_new (w.alloc (.cells #[.slice none 0 0, .slice none 0 0] 48)) (.cells #[.int .i64 0] 37)
      rw [World.size_alloc] at this
      exact keep_new _ this
    have Z4 : Hid ((((w.alloc (.cells #[.slice none 0 0, .slice none 0 0] 48)).alloc (.cells #[.int .i64 0] 37)).alloc (.cells #[.slice none 0 0, .slice none 0 0] 48)).heap[w.heap.size + 2]? = some (.cells #[.slice none 0 0, .slice none 0 0] 48 (0, 0))) := by
      have := heap_alloc_new ((w.alloc (.cells #[.slice none 0 0, .slice none 0 0] 48)).alloc (.cells #[.int .i64 0] 37)) (.cells #[.slice none 0 0, .slice none 0 0] 48)
      rw [World.size_alloc, World.size_alloc] at this
      exact this
    have ZS : Hid ((((w.alloc (.cells #[.slice none 0 0, .slice none 0 0] 48)).alloc (.cells #[.int .i64 0] 37)).alloc (.cells #[.slice none 0 0, .slice none 0 0] 48)).heap.size = w.heap.size + 3) := by show _ = _; simp
    gi_wp2_with (refine ⟨trivial, ?_⟩; gi_at_call 119; refine (callsIn_wide.2 (SplitSeq_c T cs _)).mono ?_; rintro e w2 ⟨rfl, rfl⟩)
    generalize ((w.alloc (.cells #[.slice none 0 0, .slice none 0 0] 48)).alloc (.cells #[.int .i64 0] 37)).alloc (.cells #[.slice none 0 0, .slice none 0 0] 48) = W3 at *
    have Z1 : Hid (1 < w.heap.size) := by obtain ⟨m, hm⟩ := HM.out; exact World.block_lt_of_cell? w _ hm
    have SA : Hid (SeqAt cs (w.heap.size + 1 + 1 + 1) T (((W3.alloc (.cells #[str T] 9)).alloc (.cells #[str cs] 9)).alloc (.cells #[.int .i64 0] 3))) := by
      have := seqAt_new (s := T) (sep := cs) (HM.out.keep (keeps_of_below B3.out))
      rw [ZS.out] at this
      exact this
    have B36 : Hid (Below W3.heap.size W3 (((W3.alloc (.cells #[str T] 9)).alloc (.cells #[str cs] 9)).alloc (.cells #[.int .i64 0] 3))) := (((Below.refl _ _).alloc (Nat.le_refl _) _).alloc (by simp) _).alloc (by simp; omega) _
    have Z6 : Hid ((((W3.alloc (.cells #[str T] 9)).alloc (.cells #[str cs] 9)).alloc (.cells #[.int .i64 0] 3)).heap.size = w.heap.size + 6) := by show _ = _; have := ZS.out; simp; omega
    change Code.wpIn _ _ _ _ _ _ (((W3.alloc (.cells #[str T] 9)).alloc (.cells #[str cs] 9)).alloc (.cells #[.int .i64 0] 3))
    generalize ((W3.alloc (.cells #[str T] 9)).alloc (.cells #[str cs] 9)).alloc (.cells #[.int .i64 0] 3) = W6 at *
    refine wp_rangeCell rfl (by omega) (gf := 272) (lb := #[one (w.heap.size + 1 + 1 + 1 + 1), one (w.heap.size + 1 + 1 + 1), one (w.heap.size + 1 + 1 + 1 + 2)]) rfl trivial (enters_of Tryz.func272 (by kernel_rfl) rfl) (enc := str) (c := w.heap.size + 1 + 1 + 1) (Kp := SeqKp (w.heap.size + 1 + 1 + 1)) (l := claimParts G S) (w0 := W6) (by have := Z6.out; omega)
      (seqCell _ T cs (by decide) (by have := HLN.out; omega) (by decide) (w.heap.size + 1 + 1 + 1) (by have := Z1.out; omega) _ SPL.out W6 SA.out) SeqKp.trans (fun W r o' hr k hk => World.putObj_heap_other (by have := Z1.out; have := Z6.out; omega)) (Below.refl _ _) rfl
      (fun pre W => ∃ va vn vc ua un uc, CI w G S pre.length va vn vc ua un uc W) (fun _ _ _ => False) (CI.lets Z6.out rfl) (fun _ _ _ _ _ hs _ _ => hs) ?start
      (fun a x => { tmps := (a.tmps.setIfInBounds 21 (str x)).setIfInBounds 5 (str x), defers := [] }) ?assign ?body ?done ?stop
    case start =>
      refine ⟨none, 0, 0, none, 0, 0, B3.out.trans (B36.out.mono B3.out.size), (B36.out.block _ (by have := ZS.out; omega)).trans Z2.out, (B36.out.block _ (by have := ZS.out; omega)).trans Z3.out, (B36.out.block _ (by have := ZS.out; omega)).trans Z4.out, ?_, by rw [Z6.out]; exact Nat.le_refl _⟩
      simpa using CL.nil (w.heap.size + 6) W6
    case assign =>
      intro r x W K hK
      simp only [List.setIfInBounds_toArray, List.set_cons_zero, List.set_cons_succ] at hK ⊢
      gi_wp2
      exact hK
    case body =>
      rintro r pre x W hr ⟨q, hq⟩ ⟨va, vn, vc, ua, un, uc, ci⟩ hpre
      simp only [List.setIfInBounds_toArray, List.set_cons_zero, List.set_cons_succ]
      have hx := prefix_get hpre
      have CIH := Lib.hid ci
      have HQ := Lib.hid hq
      have HP := Lib.hid hpre
      have z6 := ci.sz
      clear ci hq hpre
      rcases part_at hx with ⟨f, k1, k2, k3, k4⟩ | ⟨f, k1, k2, k3, k4⟩
      · have RF := Lib.hid (HG.out f k3)
        have TL := Lib.hid (right_len RF.out).2
        have CU : Hid (Lib.cut x [32] = ([103, 105, 118, 101, 110], f.text, true)) := by show _ = _; rw [k4]; exact cut_word _ _ (by decide)
        have XL : Hid (x.length ≤ 1000000000) := by show _ ≤ _; rw [k4]; have := TL.out; simp; omega
        have K1 := Lib.hid k1
        have K2 := Lib.hid k2
        have un0 : un = 0 := by
          have := CIH.out.cl.oy
          rw [Nat.sub_eq_zero_of_le (Nat.le_of_lt k1)] at this
          obtain ⟨xs, ho, _⟩ := this
          simp only [List.take_zero, List.length_nil] at ho
          rcases ho.2 with ⟨h, _⟩ | ⟨g, cap, cur, h, _⟩ <;> (simp only [Value.slice.injEq] at h; exact h.2.1)
        clear k1 k2 k3 k4 hx
        gi_wp2_with (first
          | (refine ⟨trivial, ?_⟩; gi_at_call 32; refine (CallsIn.inRound r (callsIn_wide.2 (cut_c x [32] _ _ _ XL.out CU.out _ (HM.out.keep (keeps_of_below CIH.out.bw))))).mono ?_; rintro e w7 ⟨rfl, b7⟩; have C7 := Lib.hid (CIH.out.below b7); have B7 := Lib.hid b7; clear b7)
          | (refine ⟨trivial, ?_⟩; gi_at_call 43; refine (CallsIn.inRound r (callsIn_wide.2 (Read_yes f RF.out _ (HM.out.keep (keeps_of_below C7.out.bw)) (HR.out.keep (keeps_of_below C7.out.bw))))).mono ?_; rintro e w8 ⟨fa, fn, fc, fb, fm, fd, rfl, h1, h2, b8⟩; have C8 := Lib.hid (C7.out.below b8); have H1 := Lib.hid h1; have H2 := Lib.hid h2; have B8 := Lib.hid b8; have LEN8 : (G.take pre.length).length ≤ G.length := (by simp; omega); obtain ⟨d0, d1, e0, e1⟩ := row48' C8.out.c4; have z8 : w.heap.size + 1 + 1 < w8.heap.size := (by have := C8.out.sz; omega); clear h1 h2 b8))
        have G9 : Hid ((Value.slice va vn vc).ownBlock ≠ some w8.heap.size) := fun e => by have := own_lt C8.out.cl.ox _ e; omega
        --GEN14
        have zr := heap_alloc_new w8 (.cells #[.int .u8 f.op, str f.name, .slice fa fn fc, .slice fb fm fd] 25)
        have bA : Below w8.heap.size w8 (w8.alloc (.cells #[.int .u8 f.op, str f.name, .slice fa fn fc, .slice fb fm fd] 25)) := (Below.refl _ _).alloc (Nat.le_refl _) _
        have CA := Lib.hid (C8.out.below bA)
        have HA1 := Lib.hid (H1.out.keep (hide_keeps2 (p := lo w7) (q := lo w7) fun k h1 h2 => ⟨h2, bA.block k h1⟩))
        have HA2 := Lib.hid (H2.out.keep (hide_keeps2 (p := lo w7) (q := lo w7) fun k h1 h2 => ⟨h2, bA.block k h1⟩))
        have BA : Hid (Below W.heap.size W (w8.alloc (.cells #[.int .u8 f.op, str f.name, .slice fa fn fc, .slice fb fm fd] 25))) := belowThen (belowThen B7.out B8.out) bA
        have Z7 : Hid (w7.heap.size ≤ w8.heap.size) := B8.out.size
        have z9 : w8.heap.size < (w8.alloc (.cells #[.int .u8 f.op, str f.name, .slice fa fn fc, .slice fb fm fd] 25)).heap.size := by simp
        change Code.wpIn _ _ _ _ _ _ (w8.alloc (.cells #[.int .u8 f.op, str f.name, .slice fa fn fc, .slice fb fm fd] 25))
        have Z76 := Lib.hid C7.out.sz
        have OX := Lib.hid (own_lt C7.out.cl.ox)
        have OY := Lib.hid (own_lt C7.out.cl.oy)
        clear bA C8 H1 H2 B7 B8 C7 d0 d1 e0 e1 z8
        generalize hWA : w8.alloc (.cells #[.int .u8 f.op, str f.name, .slice fa fn fc, .slice fb fm fd] 25) = WA at *
        clear hWA
        generalize hg9 : w8.heap.size = g9 at *
        clear hg9
        obtain ⟨d0, d1, e0, e1⟩ := row48' CA.out.c4
        obtain ⟨p0, p1, p2, p3, -, -, -, -⟩ := row25' zr
        have z4 := (Array.getElem?_eq_some_iff.1 CA.out.c4).1
        obtain ⟨xs, ho, hc⟩ := CA.out.cl.ox
        obtain ⟨i0, hi0, hz0, hs0, hb0⟩ := info_parts info25
        have xl : xs.length = (G.take pre.length).length * 4 := ho.1
        have xn : vn = (G.take pre.length).length := by rcases ho.2 with ⟨h, h0⟩ | ⟨g, cap, cur, h, _⟩ <;> (simp only [Value.slice.injEq] at h; omega)
        have nl : vn ≤ 20000 := by have := GL.out; omega
        have OW : Hid ((WA.alloc (.cells #[.int .u8 0, .string ⟨#[]⟩, .slice none 0 0, .slice none 0 0] 25)).drew.ownsRow (w.heap.size + 6) 25 4 (Value.slice va vn vc) vn xs) := by have h := ho.alloc (.cells #[.int .u8 0, .string ⟨#[]⟩, .slice none 0 0, .slice none 0 0] 25); rw [← xn] at h; exact h
        have HC := Lib.hid hc
        have XL := Lib.hid xl
        have XN := Lib.hid xn
        have hz := own_lt CA.out.cl.ox
        have HZ := Lib.hid hz
        clear ho hc xl xn hz
        refine region_in_held (S := fun w' => w'.heap[g9]? = WA.heap[g9]?) (by kernel_rfl) (by kernel_rfl) (by rintro ⟨a0, w0, h⟩; exact h) rfl (fun hHeld => ?_)
        refine wpAnyH_take (i := 0) (v := ?_) rfl (by kernel_rfl) (by kernel_rfl) (by kernel_rfl) (fun _ _ _ h => h) (Or.inl ⟨by rfl, ?_⟩) (by assumption) ?_
        rotate_left
        · (intro w hSw; go_simp; (try with_reducible rfl))
        try simp only [Act.put, List.getElem_toArray, List.getElem_cons_succ, List.getElem_cons_zero, List.setIfInBounds_toArray, List.set_cons_zero, List.set_cons_succ]
        refine wpAnyH_take (i := 2) (v := ?_) rfl (by kernel_rfl) (by kernel_rfl) (by kernel_rfl) (fun _ _ _ h => h) (Or.inl ⟨by rfl, ?_⟩) (by assumption) ?_
        rotate_left
        · (intro w hSw; have := (World.cell?_of_block (a := ⟨g9, 0, none⟩) hSw).trans p0; have := (World.cell?_of_block (a := ⟨g9, 1, none⟩) hSw).trans p1; have := (World.cell?_of_block (a := ⟨g9, 2, none⟩) hSw).trans p2; have := (World.cell?_of_block (a := ⟨g9, 3, none⟩) hSw).trans p3; go_simp; (try with_reducible rfl))
        try simp only [Act.put, List.getElem_toArray, List.getElem_cons_succ, List.getElem_cons_zero, List.setIfInBounds_toArray, List.set_cons_zero, List.set_cons_succ]
        refine wpAnyH_ready (rs := [1, 4]) (by kernel_rfl) (by simp) ?_
        refine AllReadyH.cons rfl (fun K hK => ?_) ?_
        · go_simp
          refine hK.out _ _ (hHeld) (fun hHeld1 => ?_)
          clear hK K
          try simp only [Act.put, List.getElem_toArray, List.getElem_cons_succ, List.getElem_cons_zero, List.setIfInBounds_toArray, List.set_cons_zero, List.set_cons_succ]
          refine wpAnyH_take (i := 3) (v := ?_) rfl (by kernel_rfl) (by kernel_rfl) (by kernel_rfl) (fun _ _ _ h => h) (Or.inl ⟨by rfl, ?_⟩) (by assumption) ?_
          rotate_left
          · (intro w hSw; go_simp; (try with_reducible rfl))
          try simp only [Act.put, List.getElem_toArray, List.getElem_cons_succ, List.getElem_cons_zero, List.setIfInBounds_toArray, List.set_cons_zero, List.set_cons_succ]
          refine wpAnyH_ready (rs := [4]) (by kernel_rfl) (by simp) ?_
          refine AllReadyH.cons rfl (fun K hK => ?_) AllReadyH.nil
          go_simp
          refine hK.out _ _ (Below.heap_alloc WA _ g9 z9) (fun hHeld2 => ?_)
          clear hK K
          try simp only [Act.put, List.getElem_toArray, List.getElem_cons_succ, List.getElem_cons_zero, List.setIfInBounds_toArray, List.set_cons_zero, List.set_cons_succ]
          refine wpAnyH_ready (rs := [5]) (by kernel_rfl) (by simp) ?_
          refine AllReadyH.cons rfl (fun K hK => ?_) AllReadyH.nil
          refine step_append_own rfl _ _ 23 rfl (w.heap.size + 6) 25 i0 (.agg #[.int .u8 0, .string ⟨#[]⟩, .slice none 0 0, .slice none 0 0]) 4 72 Tryz.underlying23 hi0 hz0 hs0 hb0 rfl (by decide) _ vn xs (by rfl) OW.out ⟨WA.heap.size, 0, none⟩ 1 1 [.int .u8 0, .string ⟨#[]⟩, .slice none 0 0, .slice none 0 0] (by rfl) rfl (news4 _ _ _ _ _ _) (by intro u hu; simp at hu; rcases hu with rfl | rfl | rfl | rfl <;> rfl) (by unfold maxLen; omega) (by omega) (by have := CA.out.sz; simp; omega) ?_
          intro v5 w5 h5 hg5 hat5
          obtain ⟨g5, c5, rfl⟩ := ownsRow_succ h5
          have hk5 : w5.heap[g9]? = WA.heap[g9]? := (hg5.block g9 (by simp; omega) (fun e => G9.out e.symm)).trans (Below.heap_alloc WA _ g9 z9)
          have z5 : Hid (w.heap.size + 6 ≤ g5) := (h5.lt g5 rfl).1
          have H5 := Lib.hid h5
          have HG5 := Lib.hid hg5
          have HA5 := Lib.hid hat5
          have c45 : w5.heap[w.heap.size + 1 + 1]? = some (.cells #[.slice va vn vc, .slice ua un uc] 48 (0, 0)) := (hg5.block _ (by simp; omega) (fun e => by have := HZ.out _ e.symm; omega)).trans ((Below.heap_alloc WA _ _ z4).trans CA.out.c4)
          have zz5 : (vn : Int) < (vn : Int) + 1 := by omega
          have f5 := row_thaw h5
          obtain ⟨x0, x1, x2, x3⟩ := row_last h5 (by rw [XL.out, XN.out])
          have zz6 := (h5.lt g5 rfl).2
          have N59 : Hid (g5 ≠ g9) := ne_new hat5 G9.out z9
          have ne1 : w.heap.size + 1 + 1 ≠ g5 := by have := z5.out; omega
          have ne2 : g5 ≠ w.heap.size + 1 + 1 := fun e => ne1 e.symm
          have n94 : Hid (g9 ≠ w.heap.size + 1 + 1) := fun e => by rw [e, CA.out.c4] at zr; simp at zr
          obtain ⟨q0, q1, r0', r1'⟩ := row48' c45
          have C45 := Lib.hid c45
          have zz7 := (Array.getElem?_eq_some_iff.1 c45).1
          clear c45
          clear h5 hg5 hat5
          refine hK.out _ _ hk5 (fun hHeld3 => ?_)
          clear hK K
          try simp only [Act.put, List.getElem_toArray, List.getElem_cons_succ, List.getElem_cons_zero, List.setIfInBounds_toArray, List.set_cons_zero, List.set_cons_succ]
          refine wpAnyH_take (i := 6) (v := ?_) rfl (by kernel_rfl) (by kernel_rfl) (by kernel_rfl) (fun _ _ _ h => h) (Or.inl ⟨by rfl, ?_⟩) (by assumption) ?_
          rotate_left
          · (intro w hSw; go_simp; (try with_reducible rfl))
          try simp only [Act.put, List.getElem_toArray, List.getElem_cons_succ, List.getElem_cons_zero, List.setIfInBounds_toArray, List.set_cons_zero, List.set_cons_succ]
          refine wpAnyH_take (i := 8) (v := ?_) rfl (by kernel_rfl) (by kernel_rfl) (by kernel_rfl) (fun _ _ _ h => h) (Or.inl ⟨by rfl, ?_⟩) (by assumption) ?_
          rotate_left
          · (intro w hSw; go_simp; (try with_reducible rfl))
          try simp only [Act.put, List.getElem_toArray, List.getElem_cons_succ, List.getElem_cons_zero, List.setIfInBounds_toArray, List.set_cons_zero, List.set_cons_succ]
          refine wpAnyH_ready (rs := [7, 9]) (by kernel_rfl) (by simp) ?_
          refine AllReadyH.cons rfl (fun K hK => ?_) ?_
          · go_simp
            refine hK.out _ _ ((Below.heap_setCell _ _ _ _ (Ne.symm N59.out)).trans ((Below.heap_setCell _ _ _ _ (Ne.symm N59.out)).trans ((Below.heap_setCell _ _ _ _ (Ne.symm N59.out)).trans ((Below.heap_setCell _ _ _ _ (Ne.symm N59.out)).trans hHeld3)))) (fun hHeld4 => ?_)
            clear hK K
            try simp only [Act.put, List.getElem_toArray, List.getElem_cons_succ, List.getElem_cons_zero, List.setIfInBounds_toArray, List.set_cons_zero, List.set_cons_succ]
            refine wpAnyH_ready (rs := [9]) (by kernel_rfl) (by simp) ?_
            refine AllReadyH.cons rfl (fun K hK => ?_) AllReadyH.nil
            go_simp
            refine hK.out _ _ ((Below.heap_setCell _ _ _ _ n94.out).trans hHeld4) (fun hHeld5 => ?_)
            clear hK K
            try simp only [Act.put, List.getElem_toArray, List.getElem_cons_succ, List.getElem_cons_zero, List.setIfInBounds_toArray, List.set_cons_zero, List.set_cons_succ]
            refine wpAnyH_done (by kernel_rfl) ?_ _
            gi_wp2
            exact claim_step0 Z6.out CA.out BA.out z6 K1.out K2.out OX.out OY.out Z76.out HA1.out HA2.out HC.out XL.out XN.out HG5.out HA5.out (fin_A H5.out (by rw [XL.out, XN.out]) z5.out C45.out rfl) rfl rfl rfl
          · refine AllReadyH.cons rfl (fun K hK => ?_) AllReadyH.nil
            go_simp
            refine hK.out _ _ ((Below.heap_setCell _ _ _ _ n94.out).trans hHeld3) (fun hHeld4 => ?_)
            clear hK K
            try simp only [Act.put, List.getElem_toArray, List.getElem_cons_succ, List.getElem_cons_zero, List.setIfInBounds_toArray, List.set_cons_zero, List.set_cons_succ]
            refine wpAnyH_ready (rs := [7]) (by kernel_rfl) (by simp) ?_
            refine AllReadyH.cons rfl (fun K hK => ?_) AllReadyH.nil
            go_simp
            refine hK.out _ _ ((Below.heap_setCell _ _ _ _ (Ne.symm N59.out)).trans ((Below.heap_setCell _ _ _ _ (Ne.symm N59.out)).trans ((Below.heap_setCell _ _ _ _ (Ne.symm N59.out)).trans ((Below.heap_setCell _ _ _ _ (Ne.symm N59.out)).trans hHeld4)))) (fun hHeld5 => ?_)
            clear hK K
            try simp only [Act.put, List.getElem_toArray, List.getElem_cons_succ, List.getElem_cons_zero, List.setIfInBounds_toArray, List.set_cons_zero, List.set_cons_succ]
            refine wpAnyH_done (by kernel_rfl) ?_ _
            gi_wp2
            exact claim_step0 Z6.out CA.out BA.out z6 K1.out K2.out OX.out OY.out Z76.out HA1.out HA2.out HC.out XL.out XN.out HG5.out HA5.out (fin_B H5.out (by rw [XL.out, XN.out]) z5.out C45.out rfl) rfl rfl rfl
        · refine AllReadyH.cons rfl (fun K hK => ?_) AllReadyH.nil
          go_simp
          refine hK.out _ _ (Below.heap_alloc WA _ g9 z9) (fun hHeld1 => ?_)
          clear hK K
          try simp only [Act.put, List.getElem_toArray, List.getElem_cons_succ, List.getElem_cons_zero, List.setIfInBounds_toArray, List.set_cons_zero, List.set_cons_succ]
          refine wpAnyH_ready (rs := [1]) (by kernel_rfl) (by simp) ?_
          refine AllReadyH.cons rfl (fun K hK => ?_) AllReadyH.nil
          go_simp
          refine hK.out _ _ (Below.heap_alloc WA _ g9 z9) (fun hHeld2 => ?_)
          clear hK K
          try simp only [Act.put, List.getElem_toArray, List.getElem_cons_succ, List.getElem_cons_zero, List.setIfInBounds_toArray, List.set_cons_zero, List.set_cons_succ]
          refine wpAnyH_take (i := 3) (v := ?_) rfl (by kernel_rfl) (by kernel_rfl) (by kernel_rfl) (fun _ _ _ h => h) (Or.inl ⟨by rfl, ?_⟩) (by assumption) ?_
          rotate_left
          · (intro w hSw; go_simp; (try with_reducible rfl))
          try simp only [Act.put, List.getElem_toArray, List.getElem_cons_succ, List.getElem_cons_zero, List.setIfInBounds_toArray, List.set_cons_zero, List.set_cons_succ]
          refine wpAnyH_ready (rs := [5]) (by kernel_rfl) (by simp) ?_
          refine AllReadyH.cons rfl (fun K hK => ?_) AllReadyH.nil
          refine step_append_own rfl _ _ 23 rfl (w.heap.size + 6) 25 i0 (.agg #[.int .u8 0, .string ⟨#[]⟩, .slice none 0 0, .slice none 0 0]) 4 72 Tryz.underlying23 hi0 hz0 hs0 hb0 rfl (by decide) _ vn xs (by rfl) OW.out ⟨WA.heap.size, 0, none⟩ 1 1 [.int .u8 0, .string ⟨#[]⟩, .slice none 0 0, .slice none 0 0] (by rfl) rfl (news4 _ _ _ _ _ _) (by intro u hu; simp at hu; rcases hu with rfl | rfl | rfl | rfl <;> rfl) (by unfold maxLen; omega) (by omega) (by have := CA.out.sz; simp; omega) ?_
          intro v5 w5 h5 hg5 hat5
          obtain ⟨g5, c5, rfl⟩ := ownsRow_succ h5
          have hk5 : w5.heap[g9]? = WA.heap[g9]? := (hg5.block g9 (by simp; omega) (fun e => G9.out e.symm)).trans (Below.heap_alloc WA _ g9 z9)
          have z5 : Hid (w.heap.size + 6 ≤ g5) := (h5.lt g5 rfl).1
          have H5 := Lib.hid h5
          have HG5 := Lib.hid hg5
          have HA5 := Lib.hid hat5
          have c45 : w5.heap[w.heap.size + 1 + 1]? = some (.cells #[.slice va vn vc, .slice ua un uc] 48 (0, 0)) := (hg5.block _ (by simp; omega) (fun e => by have := HZ.out _ e.symm; omega)).trans ((Below.heap_alloc WA _ _ z4).trans CA.out.c4)
          have zz5 : (vn : Int) < (vn : Int) + 1 := by omega
          have f5 := row_thaw h5
          obtain ⟨x0, x1, x2, x3⟩ := row_last h5 (by rw [XL.out, XN.out])
          have zz6 := (h5.lt g5 rfl).2
          have N59 : Hid (g5 ≠ g9) := ne_new hat5 G9.out z9
          have ne1 : w.heap.size + 1 + 1 ≠ g5 := by have := z5.out; omega
          have ne2 : g5 ≠ w.heap.size + 1 + 1 := fun e => ne1 e.symm
          have n94 : Hid (g9 ≠ w.heap.size + 1 + 1) := fun e => by rw [e, CA.out.c4] at zr; simp at zr
          obtain ⟨q0, q1, r0', r1'⟩ := row48' c45
          have C45 := Lib.hid c45
          have zz7 := (Array.getElem?_eq_some_iff.1 c45).1
          clear c45
          clear h5 hg5 hat5
          refine hK.out _ _ hk5 (fun hHeld3 => ?_)
          clear hK K
          try simp only [Act.put, List.getElem_toArray, List.getElem_cons_succ, List.getElem_cons_zero, List.setIfInBounds_toArray, List.set_cons_zero, List.set_cons_succ]
          refine wpAnyH_take (i := 6) (v := ?_) rfl (by kernel_rfl) (by kernel_rfl) (by kernel_rfl) (fun _ _ _ h => h) (Or.inl ⟨by rfl, ?_⟩) (by assumption) ?_
          rotate_left
          · (intro w hSw; go_simp; (try with_reducible rfl))
          try simp only [Act.put, List.getElem_toArray, List.getElem_cons_succ, List.getElem_cons_zero, List.setIfInBounds_toArray, List.set_cons_zero, List.set_cons_succ]
          refine wpAnyH_take (i := 8) (v := ?_) rfl (by kernel_rfl) (by kernel_rfl) (by kernel_rfl) (fun _ _ _ h => h) (Or.inl ⟨by rfl, ?_⟩) (by assumption) ?_
          rotate_left
          · (intro w hSw; go_simp; (try with_reducible rfl))
          try simp only [Act.put, List.getElem_toArray, List.getElem_cons_succ, List.getElem_cons_zero, List.setIfInBounds_toArray, List.set_cons_zero, List.set_cons_succ]
          refine wpAnyH_ready (rs := [7, 9]) (by kernel_rfl) (by simp) ?_
          refine AllReadyH.cons rfl (fun K hK => ?_) ?_
          · go_simp
            refine hK.out _ _ ((Below.heap_setCell _ _ _ _ (Ne.symm N59.out)).trans ((Below.heap_setCell _ _ _ _ (Ne.symm N59.out)).trans ((Below.heap_setCell _ _ _ _ (Ne.symm N59.out)).trans ((Below.heap_setCell _ _ _ _ (Ne.symm N59.out)).trans hHeld3)))) (fun hHeld4 => ?_)
            clear hK K
            try simp only [Act.put, List.getElem_toArray, List.getElem_cons_succ, List.getElem_cons_zero, List.setIfInBounds_toArray, List.set_cons_zero, List.set_cons_succ]
            refine wpAnyH_ready (rs := [9]) (by kernel_rfl) (by simp) ?_
            refine AllReadyH.cons rfl (fun K hK => ?_) AllReadyH.nil
            go_simp
            refine hK.out _ _ ((Below.heap_setCell _ _ _ _ n94.out).trans hHeld4) (fun hHeld5 => ?_)
            clear hK K
            try simp only [Act.put, List.getElem_toArray, List.getElem_cons_succ, List.getElem_cons_zero, List.setIfInBounds_toArray, List.set_cons_zero, List.set_cons_succ]
            refine wpAnyH_done (by kernel_rfl) ?_ _
            gi_wp2
            exact claim_step0 Z6.out CA.out BA.out z6 K1.out K2.out OX.out OY.out Z76.out HA1.out HA2.out HC.out XL.out XN.out HG5.out HA5.out (fin_A H5.out (by rw [XL.out, XN.out]) z5.out C45.out rfl) rfl rfl rfl
          · refine AllReadyH.cons rfl (fun K hK => ?_) AllReadyH.nil
            go_simp
            refine hK.out _ _ ((Below.heap_setCell _ _ _ _ n94.out).trans hHeld3) (fun hHeld4 => ?_)
            clear hK K
            try simp only [Act.put, List.getElem_toArray, List.getElem_cons_succ, List.getElem_cons_zero, List.setIfInBounds_toArray, List.set_cons_zero, List.set_cons_succ]
            refine wpAnyH_ready (rs := [7]) (by kernel_rfl) (by simp) ?_
            refine AllReadyH.cons rfl (fun K hK => ?_) AllReadyH.nil
            go_simp
            refine hK.out _ _ ((Below.heap_setCell _ _ _ _ (Ne.symm N59.out)).trans ((Below.heap_setCell _ _ _ _ (Ne.symm N59.out)).trans ((Below.heap_setCell _ _ _ _ (Ne.symm N59.out)).trans ((Below.heap_setCell _ _ _ _ (Ne.symm N59.out)).trans hHeld4)))) (fun hHeld5 => ?_)
            clear hK K
            try simp only [Act.put, List.getElem_toArray, List.getElem_cons_succ, List.getElem_cons_zero, List.setIfInBounds_toArray, List.set_cons_zero, List.set_cons_succ]
            refine wpAnyH_done (by kernel_rfl) ?_ _
            gi_wp2
            exact claim_step0 Z6.out CA.out BA.out z6 K1.out K2.out OX.out OY.out Z76.out HA1.out HA2.out HC.out XL.out XN.out HG5.out HA5.out (fin_B H5.out (by rw [XL.out, XN.out]) z5.out C45.out rfl) rfl rfl rfl
        --END
      · have RF := Lib.hid (HS.out f k3)
        have TL := Lib.hid (right_len RF.out).2
        have CU : Hid (Lib.cut x [32] = ([115, 104, 111, 119], f.text, true)) := by show _ = _; rw [k4]; exact cut_word _ _ (by decide)
        have XL : Hid (x.length ≤ 1000000000) := by show _ ≤ _; rw [k4]; have := TL.out; simp; omega
        have K1 := Lib.hid k1
        have K2 := Lib.hid k2
        clear k1 k2 k3 k4 hx
        gi_wp2_with (first
          | (refine ⟨trivial, ?_⟩; gi_at_call 32; refine (CallsIn.inRound r (callsIn_wide.2 (cut_c x [32] _ _ _ XL.out CU.out _ (HM.out.keep (keeps_of_below CIH.out.bw))))).mono ?_; rintro e w7 ⟨rfl, b7⟩; have C7 := Lib.hid (CIH.out.below b7); have B7 := Lib.hid b7; clear b7)
          | (refine ⟨trivial, ?_⟩; gi_at_call 43; refine (CallsIn.inRound r (callsIn_wide.2 (Read_yes f RF.out _ (HM.out.keep (keeps_of_below C7.out.bw)) (HR.out.keep (keeps_of_below C7.out.bw))))).mono ?_; rintro e w8 ⟨fa, fn, fc, fb, fm, fd, rfl, h1, h2, b8⟩; have C8 := Lib.hid (C7.out.below b8); have H1 := Lib.hid h1; have H2 := Lib.hid h2; have B8 := Lib.hid b8; have LEN8 : (S.take (pre.length - G.length)).length ≤ S.length := (by simp; omega); obtain ⟨d0, d1, e0, e1⟩ := row48' C8.out.c4; have z8 : w.heap.size + 1 + 1 < w8.heap.size := (by have := C8.out.sz; omega); clear h1 h2 b8))
        have G9 : Hid ((Value.slice ua un uc).ownBlock ≠ some w8.heap.size) := fun e => by have := own_lt C8.out.cl.oy _ e; omega
        --GEN16
        have zr := heap_alloc_new w8 (.cells #[.int .u8 f.op, str f.name, .slice fa fn fc, .slice fb fm fd] 25)
        have bA : Below w8.heap.size w8 (w8.alloc (.cells #[.int .u8 f.op, str f.name, .slice fa fn fc, .slice fb fm fd] 25)) := (Below.refl _ _).alloc (Nat.le_refl _) _
        have CA := Lib.hid (C8.out.below bA)
        have HA1 := Lib.hid (H1.out.keep (hide_keeps2 (p := lo w7) (q := lo w7) fun k h1 h2 => ⟨h2, bA.block k h1⟩))
        have HA2 := Lib.hid (H2.out.keep (hide_keeps2 (p := lo w7) (q := lo w7) fun k h1 h2 => ⟨h2, bA.block k h1⟩))
        have BA : Hid (Below W.heap.size W (w8.alloc (.cells #[.int .u8 f.op, str f.name, .slice fa fn fc, .slice fb fm fd] 25))) := belowThen (belowThen B7.out B8.out) bA
        have Z7 : Hid (w7.heap.size ≤ w8.heap.size) := B8.out.size
        have z9 : w8.heap.size < (w8.alloc (.cells #[.int .u8 f.op, str f.name, .slice fa fn fc, .slice fb fm fd] 25)).heap.size := by simp
        change Code.wpIn _ _ _ _ _ _ (w8.alloc (.cells #[.int .u8 f.op, str f.name, .slice fa fn fc, .slice fb fm fd] 25))
        have Z76 := Lib.hid C7.out.sz
        have OX := Lib.hid (own_lt C7.out.cl.ox)
        have OY := Lib.hid (own_lt C7.out.cl.oy)
        clear bA C8 H1 H2 B7 B8 C7 d0 d1 e0 e1 z8
        generalize hWA : w8.alloc (.cells #[.int .u8 f.op, str f.name, .slice fa fn fc, .slice fb fm fd] 25) = WA at *
        clear hWA
        generalize hg9 : w8.heap.size = g9 at *
        clear hg9
        obtain ⟨d0, d1, e0, e1⟩ := row48' CA.out.c4
        obtain ⟨p0, p1, p2, p3, -, -, -, -⟩ := row25' zr
        have z4 := (Array.getElem?_eq_some_iff.1 CA.out.c4).1
        obtain ⟨xs, ho, hc⟩ := CA.out.cl.oy
        obtain ⟨i0, hi0, hz0, hs0, hb0⟩ := info_parts info25
        have xl : xs.length = (S.take (pre.length - G.length)).length * 4 := ho.1
        have xn : un = (S.take (pre.length - G.length)).length := by rcases ho.2 with ⟨h, h0⟩ | ⟨g, cap, cur, h, _⟩ <;> (simp only [Value.slice.injEq] at h; omega)
        have nl : un ≤ 20000 := by have := GL.out; omega
        have OW : Hid ((WA.alloc (.cells #[.int .u8 0, .string ⟨#[]⟩, .slice none 0 0, .slice none 0 0] 25)).drew.ownsRow (w.heap.size + 6) 25 4 (Value.slice ua un uc) un xs) := by have h := ho.alloc (.cells #[.int .u8 0, .string ⟨#[]⟩, .slice none 0 0, .slice none 0 0] 25); rw [← xn] at h; exact h
        have HC := Lib.hid hc
        have XL := Lib.hid xl
        have XN := Lib.hid xn
        have hz := own_lt CA.out.cl.oy
        have HZ := Lib.hid hz
        clear ho hc xl xn hz
        refine region_in_held (S := fun w' => w'.heap[g9]? = WA.heap[g9]?) (by kernel_rfl) (by kernel_rfl) (by rintro ⟨a0, w0, h⟩; exact h) rfl (fun hHeld => ?_)
        refine wpAnyH_take (i := 0) (v := ?_) rfl (by kernel_rfl) (by kernel_rfl) (by kernel_rfl) (fun _ _ _ h => h) (Or.inl ⟨by rfl, ?_⟩) (by assumption) ?_
        rotate_left
        · (intro w hSw; go_simp; (try with_reducible rfl))
        try simp only [Act.put, List.getElem_toArray, List.getElem_cons_succ, List.getElem_cons_zero, List.setIfInBounds_toArray, List.set_cons_zero, List.set_cons_succ]
        refine wpAnyH_take (i := 2) (v := ?_) rfl (by kernel_rfl) (by kernel_rfl) (by kernel_rfl) (fun _ _ _ h => h) (Or.inl ⟨by rfl, ?_⟩) (by assumption) ?_
        rotate_left
        · (intro w hSw; have := (World.cell?_of_block (a := ⟨g9, 0, none⟩) hSw).trans p0; have := (World.cell?_of_block (a := ⟨g9, 1, none⟩) hSw).trans p1; have := (World.cell?_of_block (a := ⟨g9, 2, none⟩) hSw).trans p2; have := (World.cell?_of_block (a := ⟨g9, 3, none⟩) hSw).trans p3; go_simp; (try with_reducible rfl))
        try simp only [Act.put, List.getElem_toArray, List.getElem_cons_succ, List.getElem_cons_zero, List.setIfInBounds_toArray, List.set_cons_zero, List.set_cons_succ]
        refine wpAnyH_ready (rs := [1, 4]) (by kernel_rfl) (by simp) ?_
        refine AllReadyH.cons rfl (fun K hK => ?_) ?_
        · go_simp
          refine hK.out _ _ (hHeld) (fun hHeld1 => ?_)
          clear hK K
          try simp only [Act.put, List.getElem_toArray, List.getElem_cons_succ, List.getElem_cons_zero, List.setIfInBounds_toArray, List.set_cons_zero, List.set_cons_succ]
          refine wpAnyH_take (i := 3) (v := ?_) rfl (by kernel_rfl) (by kernel_rfl) (by kernel_rfl) (fun _ _ _ h => h) (Or.inl ⟨by rfl, ?_⟩) (by assumption) ?_
          rotate_left
          · (intro w hSw; go_simp; (try with_reducible rfl))
          try simp only [Act.put, List.getElem_toArray, List.getElem_cons_succ, List.getElem_cons_zero, List.setIfInBounds_toArray, List.set_cons_zero, List.set_cons_succ]
          refine wpAnyH_ready (rs := [4]) (by kernel_rfl) (by simp) ?_
          refine AllReadyH.cons rfl (fun K hK => ?_) AllReadyH.nil
          go_simp
          refine hK.out _ _ (Below.heap_alloc WA _ g9 z9) (fun hHeld2 => ?_)
          clear hK K
          try simp only [Act.put, List.getElem_toArray, List.getElem_cons_succ, List.getElem_cons_zero, List.setIfInBounds_toArray, List.set_cons_zero, List.set_cons_succ]
          refine wpAnyH_ready (rs := [5]) (by kernel_rfl) (by simp) ?_
          refine AllReadyH.cons rfl (fun K hK => ?_) AllReadyH.nil
          refine step_append_own rfl _ _ 23 rfl (w.heap.size + 6) 25 i0 (.agg #[.int .u8 0, .string ⟨#[]⟩, .slice none 0 0, .slice none 0 0]) 4 72 Tryz.underlying23 hi0 hz0 hs0 hb0 rfl (by decide) _ un xs (by rfl) OW.out ⟨WA.heap.size, 0, none⟩ 1 1 [.int .u8 0, .string ⟨#[]⟩, .slice none 0 0, .slice none 0 0] (by rfl) rfl (news4 _ _ _ _ _ _) (by intro u hu; simp at hu; rcases hu with rfl | rfl | rfl | rfl <;> rfl) (by unfold maxLen; omega) (by omega) (by have := CA.out.sz; simp; omega) ?_
          intro v5 w5 h5 hg5 hat5
          obtain ⟨g5, c5, rfl⟩ := ownsRow_succ h5
          have hk5 : w5.heap[g9]? = WA.heap[g9]? := (hg5.block g9 (by simp; omega) (fun e => G9.out e.symm)).trans (Below.heap_alloc WA _ g9 z9)
          have z5 : Hid (w.heap.size + 6 ≤ g5) := (h5.lt g5 rfl).1
          have H5 := Lib.hid h5
          have HG5 := Lib.hid hg5
          have HA5 := Lib.hid hat5
          have c45 : w5.heap[w.heap.size + 1 + 1]? = some (.cells #[.slice va vn vc, .slice ua un uc] 48 (0, 0)) := (hg5.block _ (by simp; omega) (fun e => by have := HZ.out _ e.symm; omega)).trans ((Below.heap_alloc WA _ _ z4).trans CA.out.c4)
          have zz5 : (un : Int) < (un : Int) + 1 := by omega
          have f5 := row_thaw h5
          obtain ⟨x0, x1, x2, x3⟩ := row_last h5 (by rw [XL.out, XN.out])
          have zz6 := (h5.lt g5 rfl).2
          have N59 : Hid (g5 ≠ g9) := ne_new hat5 G9.out z9
          have ne1 : w.heap.size + 1 + 1 ≠ g5 := by have := z5.out; omega
          have ne2 : g5 ≠ w.heap.size + 1 + 1 := fun e => ne1 e.symm
          have n94 : Hid (g9 ≠ w.heap.size + 1 + 1) := fun e => by rw [e, CA.out.c4] at zr; simp at zr
          obtain ⟨q0, q1, r0', r1'⟩ := row48' c45
          have C45 := Lib.hid c45
          have zz7 := (Array.getElem?_eq_some_iff.1 c45).1
          clear c45
          clear h5 hg5 hat5
          refine hK.out _ _ hk5 (fun hHeld3 => ?_)
          clear hK K
          try simp only [Act.put, List.getElem_toArray, List.getElem_cons_succ, List.getElem_cons_zero, List.setIfInBounds_toArray, List.set_cons_zero, List.set_cons_succ]
          refine wpAnyH_take (i := 6) (v := ?_) rfl (by kernel_rfl) (by kernel_rfl) (by kernel_rfl) (fun _ _ _ h => h) (Or.inl ⟨by rfl, ?_⟩) (by assumption) ?_
          rotate_left
          · (intro w hSw; go_simp; (try with_reducible rfl))
          try simp only [Act.put, List.getElem_toArray, List.getElem_cons_succ, List.getElem_cons_zero, List.setIfInBounds_toArray, List.set_cons_zero, List.set_cons_succ]
          refine wpAnyH_take (i := 8) (v := ?_) rfl (by kernel_rfl) (by kernel_rfl) (by kernel_rfl) (fun _ _ _ h => h) (Or.inl ⟨by rfl, ?_⟩) (by assumption) ?_
          rotate_left
          · (intro w hSw; go_simp; (try with_reducible rfl))
          try simp only [Act.put, List.getElem_toArray, List.getElem_cons_succ, List.getElem_cons_zero, List.setIfInBounds_toArray, List.set_cons_zero, List.set_cons_succ]
          refine wpAnyH_ready (rs := [7, 9]) (by kernel_rfl) (by simp) ?_
          refine AllReadyH.cons rfl (fun K hK => ?_) ?_
          · go_simp
            refine hK.out _ _ ((Below.heap_setCell _ _ _ _ (Ne.symm N59.out)).trans ((Below.heap_setCell _ _ _ _ (Ne.symm N59.out)).trans ((Below.heap_setCell _ _ _ _ (Ne.symm N59.out)).trans ((Below.heap_setCell _ _ _ _ (Ne.symm N59.out)).trans hHeld3)))) (fun hHeld4 => ?_)
            clear hK K
            try simp only [Act.put, List.getElem_toArray, List.getElem_cons_succ, List.getElem_cons_zero, List.setIfInBounds_toArray, List.set_cons_zero, List.set_cons_succ]
            refine wpAnyH_ready (rs := [9]) (by kernel_rfl) (by simp) ?_
            refine AllReadyH.cons rfl (fun K hK => ?_) AllReadyH.nil
            go_simp
            refine hK.out _ _ ((Below.heap_setCell _ _ _ _ n94.out).trans hHeld4) (fun hHeld5 => ?_)
            clear hK K
            try simp only [Act.put, List.getElem_toArray, List.getElem_cons_succ, List.getElem_cons_zero, List.setIfInBounds_toArray, List.set_cons_zero, List.set_cons_succ]
            refine wpAnyH_done (by kernel_rfl) ?_ _
            gi_wp2
            exact claim_step1 Z6.out CA.out BA.out z6 K1.out K2.out OX.out OY.out Z76.out HA1.out HA2.out HC.out XL.out XN.out HG5.out HA5.out (fin_A H5.out (by rw [XL.out, XN.out]) z5.out C45.out rfl) rfl rfl rfl
          · refine AllReadyH.cons rfl (fun K hK => ?_) AllReadyH.nil
            go_simp
            refine hK.out _ _ ((Below.heap_setCell _ _ _ _ n94.out).trans hHeld3) (fun hHeld4 => ?_)
            clear hK K
            try simp only [Act.put, List.getElem_toArray, List.getElem_cons_succ, List.getElem_cons_zero, List.setIfInBounds_toArray, List.set_cons_zero, List.set_cons_succ]
            refine wpAnyH_ready (rs := [7]) (by kernel_rfl) (by simp) ?_
            refine AllReadyH.cons rfl (fun K hK => ?_) AllReadyH.nil
            go_simp
            refine hK.out _ _ ((Below.heap_setCell _ _ _ _ (Ne.symm N59.out)).trans ((Below.heap_setCell _ _ _ _ (Ne.symm N59.out)).trans ((Below.heap_setCell _ _ _ _ (Ne.symm N59.out)).trans ((Below.heap_setCell _ _ _ _ (Ne.symm N59.out)).trans hHeld4)))) (fun hHeld5 => ?_)
            clear hK K
            try simp only [Act.put, List.getElem_toArray, List.getElem_cons_succ, List.getElem_cons_zero, List.setIfInBounds_toArray, List.set_cons_zero, List.set_cons_succ]
            refine wpAnyH_done (by kernel_rfl) ?_ _
            gi_wp2
            exact claim_step1 Z6.out CA.out BA.out z6 K1.out K2.out OX.out OY.out Z76.out HA1.out HA2.out HC.out XL.out XN.out HG5.out HA5.out (fin_B H5.out (by rw [XL.out, XN.out]) z5.out C45.out rfl) rfl rfl rfl
        · refine AllReadyH.cons rfl (fun K hK => ?_) AllReadyH.nil
          go_simp
          refine hK.out _ _ (Below.heap_alloc WA _ g9 z9) (fun hHeld1 => ?_)
          clear hK K
          try simp only [Act.put, List.getElem_toArray, List.getElem_cons_succ, List.getElem_cons_zero, List.setIfInBounds_toArray, List.set_cons_zero, List.set_cons_succ]
          refine wpAnyH_ready (rs := [1]) (by kernel_rfl) (by simp) ?_
          refine AllReadyH.cons rfl (fun K hK => ?_) AllReadyH.nil
          go_simp
          refine hK.out _ _ (Below.heap_alloc WA _ g9 z9) (fun hHeld2 => ?_)
          clear hK K
          try simp only [Act.put, List.getElem_toArray, List.getElem_cons_succ, List.getElem_cons_zero, List.setIfInBounds_toArray, List.set_cons_zero, List.set_cons_succ]
          refine wpAnyH_take (i := 3) (v := ?_) rfl (by kernel_rfl) (by kernel_rfl) (by kernel_rfl) (fun _ _ _ h => h) (Or.inl ⟨by rfl, ?_⟩) (by assumption) ?_
          rotate_left
          · (intro w hSw; go_simp; (try with_reducible rfl))
          try simp only [Act.put, List.getElem_toArray, List.getElem_cons_succ, List.getElem_cons_zero, List.setIfInBounds_toArray, List.set_cons_zero, List.set_cons_succ]
          refine wpAnyH_ready (rs := [5]) (by kernel_rfl) (by simp) ?_
          refine AllReadyH.cons rfl (fun K hK => ?_) AllReadyH.nil
          refine step_append_own rfl _ _ 23 rfl (w.heap.size + 6) 25 i0 (.agg #[.int .u8 0, .string ⟨#[]⟩, .slice none 0 0, .slice none 0 0]) 4 72 Tryz.underlying23 hi0 hz0 hs0 hb0 rfl (by decide) _ un xs (by rfl) OW.out ⟨WA.heap.size, 0, none⟩ 1 1 [.int .u8 0, .string ⟨#[]⟩, .slice none 0 0, .slice none 0 0] (by rfl) rfl (news4 _ _ _ _ _ _) (by intro u hu; simp at hu; rcases hu with rfl | rfl | rfl | rfl <;> rfl) (by unfold maxLen; omega) (by omega) (by have := CA.out.sz; simp; omega) ?_
          intro v5 w5 h5 hg5 hat5
          obtain ⟨g5, c5, rfl⟩ := ownsRow_succ h5
          have hk5 : w5.heap[g9]? = WA.heap[g9]? := (hg5.block g9 (by simp; omega) (fun e => G9.out e.symm)).trans (Below.heap_alloc WA _ g9 z9)
          have z5 : Hid (w.heap.size + 6 ≤ g5) := (h5.lt g5 rfl).1
          have H5 := Lib.hid h5
          have HG5 := Lib.hid hg5
          have HA5 := Lib.hid hat5
          have c45 : w5.heap[w.heap.size + 1 + 1]? = some (.cells #[.slice va vn vc, .slice ua un uc] 48 (0, 0)) := (hg5.block _ (by simp; omega) (fun e => by have := HZ.out _ e.symm; omega)).trans ((Below.heap_alloc WA _ _ z4).trans CA.out.c4)
          have zz5 : (un : Int) < (un : Int) + 1 := by omega
          have f5 := row_thaw h5
          obtain ⟨x0, x1, x2, x3⟩ := row_last h5 (by rw [XL.out, XN.out])
          have zz6 := (h5.lt g5 rfl).2
          have N59 : Hid (g5 ≠ g9) := ne_new hat5 G9.out z9
          have ne1 : w.heap.size + 1 + 1 ≠ g5 := by have := z5.out; omega
          have ne2 : g5 ≠ w.heap.size + 1 + 1 := fun e => ne1 e.symm
          have n94 : Hid (g9 ≠ w.heap.size + 1 + 1) := fun e => by rw [e, CA.out.c4] at zr; simp at zr
          obtain ⟨q0, q1, r0', r1'⟩ := row48' c45
          have C45 := Lib.hid c45
          have zz7 := (Array.getElem?_eq_some_iff.1 c45).1
          clear c45
          clear h5 hg5 hat5
          refine hK.out _ _ hk5 (fun hHeld3 => ?_)
          clear hK K
          try simp only [Act.put, List.getElem_toArray, List.getElem_cons_succ, List.getElem_cons_zero, List.setIfInBounds_toArray, List.set_cons_zero, List.set_cons_succ]
          refine wpAnyH_take (i := 6) (v := ?_) rfl (by kernel_rfl) (by kernel_rfl) (by kernel_rfl) (fun _ _ _ h => h) (Or.inl ⟨by rfl, ?_⟩) (by assumption) ?_
          rotate_left
          · (intro w hSw; go_simp; (try with_reducible rfl))
          try simp only [Act.put, List.getElem_toArray, List.getElem_cons_succ, List.getElem_cons_zero, List.setIfInBounds_toArray, List.set_cons_zero, List.set_cons_succ]
          refine wpAnyH_take (i := 8) (v := ?_) rfl (by kernel_rfl) (by kernel_rfl) (by kernel_rfl) (fun _ _ _ h => h) (Or.inl ⟨by rfl, ?_⟩) (by assumption) ?_
          rotate_left
          · (intro w hSw; go_simp; (try with_reducible rfl))
          try simp only [Act.put, List.getElem_toArray, List.getElem_cons_succ, List.getElem_cons_zero, List.setIfInBounds_toArray, List.set_cons_zero, List.set_cons_succ]
          refine wpAnyH_ready (rs := [7, 9]) (by kernel_rfl) (by simp) ?_
          refine AllReadyH.cons rfl (fun K hK => ?_) ?_
          · go_simp
            refine hK.out _ _ ((Below.heap_setCell _ _ _ _ (Ne.symm N59.out)).trans ((Below.heap_setCell _ _ _ _ (Ne.symm N59.out)).trans ((Below.heap_setCell _ _ _ _ (Ne.symm N59.out)).trans ((Below.heap_setCell _ _ _ _ (Ne.symm N59.out)).trans hHeld3)))) (fun hHeld4 => ?_)
            clear hK K
            try simp only [Act.put, List.getElem_toArray, List.getElem_cons_succ, List.getElem_cons_zero, List.setIfInBounds_toArray, List.set_cons_zero, List.set_cons_succ]
            refine wpAnyH_ready (rs := [9]) (by kernel_rfl) (by simp) ?_
            refine AllReadyH.cons rfl (fun K hK => ?_) AllReadyH.nil
            go_simp
            refine hK.out _ _ ((Below.heap_setCell _ _ _ _ n94.out).trans hHeld4) (fun hHeld5 => ?_)
            clear hK K
            try simp only [Act.put, List.getElem_toArray, List.getElem_cons_succ, List.getElem_cons_zero, List.setIfInBounds_toArray, List.set_cons_zero, List.set_cons_succ]
            refine wpAnyH_done (by kernel_rfl) ?_ _
            gi_wp2
            exact claim_step1 Z6.out CA.out BA.out z6 K1.out K2.out OX.out OY.out Z76.out HA1.out HA2.out HC.out XL.out XN.out HG5.out HA5.out (fin_A H5.out (by rw [XL.out, XN.out]) z5.out C45.out rfl) rfl rfl rfl
          · refine AllReadyH.cons rfl (fun K hK => ?_) AllReadyH.nil
            go_simp
            refine hK.out _ _ ((Below.heap_setCell _ _ _ _ n94.out).trans hHeld3) (fun hHeld4 => ?_)
            clear hK K
            try simp only [Act.put, List.getElem_toArray, List.getElem_cons_succ, List.getElem_cons_zero, List.setIfInBounds_toArray, List.set_cons_zero, List.set_cons_succ]
            refine wpAnyH_ready (rs := [7]) (by kernel_rfl) (by simp) ?_
            refine AllReadyH.cons rfl (fun K hK => ?_) AllReadyH.nil
            go_simp
            refine hK.out _ _ ((Below.heap_setCell _ _ _ _ (Ne.symm N59.out)).trans ((Below.heap_setCell _ _ _ _ (Ne.symm N59.out)).trans ((Below.heap_setCell _ _ _ _ (Ne.symm N59.out)).trans ((Below.heap_setCell _ _ _ _ (Ne.symm N59.out)).trans hHeld4)))) (fun hHeld5 => ?_)
            clear hK K
            try simp only [Act.put, List.getElem_toArray, List.getElem_cons_succ, List.getElem_cons_zero, List.setIfInBounds_toArray, List.set_cons_zero, List.set_cons_succ]
            refine wpAnyH_done (by kernel_rfl) ?_ _
            gi_wp2
            exact claim_step1 Z6.out CA.out BA.out z6 K1.out K2.out OX.out OY.out Z76.out HA1.out HA2.out HC.out XL.out XN.out HG5.out HA5.out (fin_B H5.out (by rw [XL.out, XN.out]) z5.out C45.out rfl) rfl rfl rfl
        --END
    case done =>
      rintro D W hD ⟨va, vn, vc, ua, un, uc, ci⟩ hK
      have e1 : (claimParts G S).length = G.length + S.length := by simp [claimParts]
      have cl := ci.cl
      rw [e1, List.take_of_length_le (by omega), List.take_of_length_le (by omega)] at cl
      obtain ⟨d0, d1, -, -⟩ := row48' ci.c4
      obtain ⟨-, -, f0, f1⟩ := row48' ci.c2
      obtain ⟨c0, g0⟩ := row9 ci.c3
      obtain ⟨b0, b1, -, -⟩ := row48' ci.c2
      have CIH := Lib.hid ci
      have CLH := Lib.hid cl
      have HK := Lib.hid hK
      have HD := Lib.hid hD
      have z6 := ci.sz
      clear ci cl hK hD e1
      gi_wp2
      obtain ⟨x1, x2, x2', x3, x4, x5⟩ := claim_done CIH.out CLH.out (Nat.le_trans (Nat.le_of_eq Z6.out.symm) HD.out) HK.out rfl rfl
      exact ⟨by simp, .inl ⟨_, _, rfl, run_takeDeferred x1, _, res45 _ _ _ _ _ _ _ rfl rfl x2 x2', _, _, _, _, _, _, rfl, x3, x4, x5⟩⟩
    case stop =>
      intro D j pre W _ _ h _
      exact h.elim
end Go.Proofs.YtcandidgaegghaaGreatDoor
