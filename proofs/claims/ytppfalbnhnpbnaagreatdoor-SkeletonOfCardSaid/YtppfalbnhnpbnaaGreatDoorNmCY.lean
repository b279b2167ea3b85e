/- skeleton.newNames' function: a symbol gets its name, or has it. Conditions: those of the statement; strconv's table lies as laid. -/
import Derived.Test.YtppfalbnhnpbnaaGreatDoorNmBY
set_option linter.unusedSimpArgs false
set_option linter.unusedVariables false
namespace Go.Proofs.YtppfalbnhnpbnaaGreatDoor
open Go Go.RowKit Ly
set_option maxRecDepth 10000
set_option maxHeartbeats 8000000 in
theorem newName_c (g1 c1 gm cm : Nat) (σ : List Sy) (s : Sy) (W : World) (h : NamesAt g1 c1 gm cm σ W) (hs : okY s) (hp : PowAt W) (hl : σ.length ≤ 900000) :
    Calls Tryz.prog 70 #[.agg #[str [s.sort], str s.name, .int .i64 s.ar], one g1, one c1] W fun e w' => e = .returned (str (Sy.told σ s)) ∧ NamesAt g1 c1 gm cm (Sy.add σ s) w' ∧ But2 gm cm W w' := by
  obtain ⟨W1, hW1⟩ : ∃ W1, W.alloc (.cells #[str [s.sort], str s.name, .int .i64 s.ar] 104) = W1 := ⟨_, rfl⟩
  have bw : Below W.heap.size W W1 := by rw [← hW1]; exact (Below.refl _ _).alloc (Nat.le_refl _) _
  have r0 : W1.heap[W.heap.size]? = some (.cells #[str [s.sort], str s.name, .int .i64 s.ar] 104 (0, 0)) := by rw [← hW1]; exact heap_alloc_new W _
  have h1 := h.below bw
  have LK2 : (Instr.lookup 117 (.map (some gm)) (.agg #[str [s.sort], str s.name, .int .i64 s.ar]) true).run Tryz.prog W1 = .ok (.tuple #[if s ∈ σ then str (Sy.told σ s) else str [], .bool (decide (s ∈ σ))]) W1 := h1.look2 hs
  obtain ⟨y0, y1, y2⟩ := row3 r0
  obtain ⟨c0, -⟩ := row1 h1.hg
  obtain ⟨d0, -⟩ := row1 h1.hc
  have H1 := Lib.hid h1
  have HS := Lib.hid hs
  have BW := Lib.hid bw
  have R0 := Lib.hid r0
  have HP := Lib.hid (hp.below bw)
  have HL := Lib.hid hl
  clear bw r0 h1 h hs hp hl
  by_cases hin : s ∈ σ
  · simp only [hin, if_true, decide_true] at LK2
    have e1 : Sy.add σ s = σ := by simp [Sy.add, hin]
    rw [e1]
    clear hin e1
    go_enter Tryz.func70, Tryz.ntmps70
    go_wp2
    go_ret
    exact ⟨rfl, H1.out, But2.of_below BW.out⟩
  · simp only [hin, if_false, decide_false] at LK2
    have e1 : Sy.add σ s = σ ++ [s] := by simp [Sy.add, hin]
    rw [e1]
    have HIN := Lib.hid hin
    have KL := kind_len s HS.out.2
    have OKK : Hid (okS s.kind) := by show s.kind.length ≤ maxLen; unfold maxLen; omega
    obtain ⟨z, hz⟩ : ∃ z, ((σ.countP (fun t => decide (t.kind = s.kind)) : Nat) : Int) = z := ⟨_, rfl⟩
    have zb : 0 ≤ z ∧ z ≤ 900000 := by
      have := List.countP_le_length (p := fun t : Sy => decide (t.kind = s.kind)) (l := σ)
      have := HL.out
      omega
    have HZ := Lib.hid hz
    obtain ⟨T2, hT2⟩ : ∃ T2, Lib.itoa (z + 1) = T2 := ⟨_, rfl⟩
    have TL : T2.length ≤ 8 := by
      obtain ⟨m, hm⟩ : ∃ m : Nat, z + 1 = m := ⟨(z + 1).toNat, by omega⟩
      rw [← hT2, hm]; exact itoa_len16 (by omega)
    have TD : Hid (Sy.told σ s = s.kind ++ T2) := by show _ = _; rw [told_new hin, ← hT2, hz]
    have IT : Hid (∀ w, PowAt w → Calls Tryz.prog 71 #[.int .i64 (z + 1)] w fun e w' => e = .returned (str T2) ∧ Below w.heap.size w w') := fun w hp => by rw [← hT2]; exact Itoa_c _ (by omega) (by omega) w hp
    have WZ : RowKit.wrap64 (z + 1) = z + 1 := (IntWalk.i64_left _).symm.trans (IntWalk.i64_in _ (by omega))
    clear hin e1 hz hT2
    go_enter Tryz.func70, Tryz.ntmps70
    by_cases hu : s.sort = 117
    · have K1 : Hid (s.kind = [117]) := by show s.kind = _; simp [Sy.kind, hu]
      have E1 : Hid (s.sort = 117) := hu
      rw [hu] at y0 R0 LK2 hW1 ⊢
      clear hu
      have LKC : Hid (∀ w', Below W1.heap.size W1 w' → (Instr.lookup 111 (.map (some cm)) (.string ⟨#[117]⟩) false).run Tryz.prog w' = .ok (.int .i64 z) w') := fun w' hb => by
        have := (H1.out.below hb).count OKK.out
        rw [HZ.out, K1.out] at this
        exact this
      have lk1 := LKC.out _ (Below.refl _ _)
      have KV : Hid ((.string ⟨#[117]⟩ : Value) = str s.kind) := by show _ = _; rw [K1.out]
      go_wp2_with (at_mapUpdate; obtain ⟨S0, hS0⟩ := H1.out.counts; refine wpList_store_G rfl _ _ _ 111 rfl 3 keyS map111 rfl hS0 (by have := HL.out; unfold maxLen; omega) s.kind OKK.out KV.out ?_; intro w5 hm5 hg5)
      have ADD := Lib.hid (H1.out.add HIN.out OKK.out (z + 1) (by rw [HZ.out]) (Below.refl _ _) hg5 hm5)
      have LK5 : Hid (∀ w', Below w5.heap.size w5 w' → (Instr.lookup 111 (.map (some cm)) (.string ⟨#[117]⟩) false).run Tryz.prog w' = .ok (.int .i64 (z + 1)) w') := fun w' hb => by
        have := (hm5.below hb).look keyS map111 (zero3 w') OKK.out
        rw [KV.out]
        simp only [if_true] at this
        exact this
      have G5 : Hid (w5.heap[g1]? = some (.cells #[.map (some gm)] 117 (0, 0))) := (hg5.block _ (Array.getElem?_eq_some_iff.1 H1.out.hg).1 (cell_ne_map hS0 H1.out.hg)).trans H1.out.hg
      have C5 : Hid (w5.heap[c1]? = some (.cells #[.map (some cm)] 111 (0, 0))) := (hg5.block _ (Array.getElem?_eq_some_iff.1 H1.out.hc).1 (cell_ne_map hS0 H1.out.hc)).trans H1.out.hc
      have R5 : Hid (w5.heap[W.heap.size]? = some (.cells #[str [117], str s.name, .int .i64 s.ar] 104 (0, 0))) := (hg5.block _ (Array.getElem?_eq_some_iff.1 R0.out).1 (cell_ne_map hS0 R0.out)).trans R0.out
      have P5 : Hid (PowAt w5) := PowAt.but HP.out (But2.right (R := gm) hg5) H1.out.given.isMap hS0.isMap
      have LE5 : Hid (W1.heap.size ≤ w5.heap.size) := hg5.size
      have LG : Hid (g1 < w5.heap.size ∧ c1 < w5.heap.size ∧ W.heap.size < w5.heap.size) := ⟨(Array.getElem?_eq_some_iff.1 G5.out).1, (Array.getElem?_eq_some_iff.1 C5.out).1, (Array.getElem?_eq_some_iff.1 R5.out).1⟩
      clear hm5 hg5 hS0 lk1 LKC y0 y1 y2 c0 d0 LK2 hW1
      refine wp_region_V (q := 8) (S := fun w' => Below w5.heap.size w5 w') (by kernel_rfl) (Below.refl _ _).drew (fun hHeld => ?_)
      refine wpAnyV_take (i := 0) (v := ?_) rfl (by kernel_rfl) (by kernel_rfl) (by kernel_rfl) (by kernel_rfl) (fun _ _ _ h => h) (Or.inl ⟨by rfl, ?_⟩) (by assumption) ?_
      rotate_left
      · (intro w0 hSw; obtain ⟨z0, -⟩ := row1 ((hSw.block g1 LG.out.1).trans G5.out); go_simp; (try with_reducible rfl))
      try simp only [Act.put, List.getElem_toArray, List.getElem_cons_succ, List.getElem_cons_zero, List.setIfInBounds_toArray, List.set_cons_zero, List.set_cons_succ]
      refine wpAnyV_take (i := 1) (v := ?_) rfl (by kernel_rfl) (by kernel_rfl) (by kernel_rfl) (by kernel_rfl) (fun _ _ _ h => h) (Or.inl ⟨by rfl, ?_⟩) (by assumption) ?_
      rotate_left
      · (intro w0 hSw; obtain ⟨z0, z1, z2⟩ := row3 ((hSw.block W.heap.size LG.out.2.2).trans R5.out); go_simp; (try with_reducible rfl))
      try simp only [Act.put, List.getElem_toArray, List.getElem_cons_succ, List.getElem_cons_zero, List.setIfInBounds_toArray, List.set_cons_zero, List.set_cons_succ]
      refine wpAnyV_take (i := 2) (v := ?_) rfl (by kernel_rfl) (by kernel_rfl) (by kernel_rfl) (by kernel_rfl) (fun _ _ _ h => h) (Or.inl ⟨by rfl, ?_⟩) (by assumption) ?_
      rotate_left
      · (intro w0 hSw; go_simp; (try with_reducible rfl))
      try simp only [Act.put, List.getElem_toArray, List.getElem_cons_succ, List.getElem_cons_zero, List.setIfInBounds_toArray, List.set_cons_zero, List.set_cons_succ]
      refine wpAnyV_take (i := 3) (v := ?_) rfl (by kernel_rfl) (by kernel_rfl) (by kernel_rfl) (by kernel_rfl) (fun _ _ _ h => h) (Or.inl ⟨by rfl, ?_⟩) (by assumption) ?_
      rotate_left
      · (intro w0 hSw; obtain ⟨z0, -⟩ := row1 ((hSw.block c1 LG.out.2.1).trans C5.out); go_simp; (try with_reducible rfl))
      try simp only [Act.put, List.getElem_toArray, List.getElem_cons_succ, List.getElem_cons_zero, List.setIfInBounds_toArray, List.set_cons_zero, List.set_cons_succ]
      refine wpAnyV_take (i := 4) (v := ?_) rfl (by kernel_rfl) (by kernel_rfl) (by kernel_rfl) (by kernel_rfl) (fun _ _ _ h => h) (Or.inl ⟨by rfl, ?_⟩) (by assumption) ?_
      rotate_left
      · (intro w0 hSw; go_simp; (try with_reducible rfl))
      try simp only [Act.put, List.getElem_toArray, List.getElem_cons_succ, List.getElem_cons_zero, List.setIfInBounds_toArray, List.set_cons_zero, List.set_cons_succ]
      refine wpAnyV_take (i := 5) (v := ?_) rfl (by kernel_rfl) (by kernel_rfl) (by kernel_rfl) (by kernel_rfl) (fun _ _ _ h => h) (Or.inl ⟨by rfl, ?_⟩) (by assumption) ?_
      rotate_left
      · (intro w0 hSw; have lk := LK5.out _ hSw; go_simp; (try with_reducible rfl))
      try simp only [Act.put, List.getElem_toArray, List.getElem_cons_succ, List.getElem_cons_zero, List.setIfInBounds_toArray, List.set_cons_zero, List.set_cons_succ]
      refine wpAnyV_one (j := 6) (by kernel_rfl) (by kernel_rfl) rfl (fun K hK => ?_)
      go_simp
      go_at_call 71
      refine (IT.out _ (P5.out.below (Below.refl _ _).drew)).mono ?_
      rintro e w6 ⟨rfl, b6⟩
      have hS6 := hHeld.trans b6
      clear b6 hHeld IT
      go_simp
      refine hK.out _ _ hS6 (fun hHeld => ?_)
      clear hK K hS6
      try simp only [Act.put, List.getElem_toArray, List.getElem_cons_succ, List.getElem_cons_zero, List.setIfInBounds_toArray, List.set_cons_zero, List.set_cons_succ]
      refine wpAnyV_take (i := 7) (v := ?_) rfl (by kernel_rfl) (by kernel_rfl) (by kernel_rfl) (by kernel_rfl) (fun _ _ _ h => h) (Or.inl ⟨by rfl, ?_⟩) (by assumption) ?_
      rotate_left
      · (intro w0 hSw; go_simp; rw [if_neg (by omega)]; (try with_reducible rfl))
      try simp only [Act.put, List.getElem_toArray, List.getElem_cons_succ, List.getElem_cons_zero, List.setIfInBounds_toArray, List.set_cons_zero, List.set_cons_succ]
      refine wpAnyV_last (by kernel_rfl) (by kernel_rfl) rfl (fun K hK => ?_)
      go_simp
      have EY : encY s = .agg #[str [117], str s.name, .int .i64 s.ar] := by unfold encY; rw [E1.out]
      have VV : (.string ({ data := #[117] } ++ { data := T2.toArray }) : Value) = str (Sy.told σ s) := by rw [TD.out]; rw [K1.out, mk_app117]
      obtain ⟨w7, hrun, m7, g7⟩ := (ADD.out.1 w6 hHeld).store keyY map117 (by have := HL.out; unfold maxLen; omega) HS.out (.string ({ data := #[117] } ++ { data := T2.toArray }))
      rw [EY] at hrun
      rw [hrun]
      rw [VV] at m7
      obtain ⟨na, b2⟩ := ADD.out.2 w6 w7 hHeld g7 m7
      have B2 := Lib.hid b2
      have LK := na.look HS.out
      rw [EY, if_pos (by simp), told_self HIN.out] at LK
      obtain ⟨c0, -⟩ := row1 na.hg
      obtain ⟨y0, y1, y2⟩ := row3 ((g7.block W.heap.size (by have := LG.out; have := hHeld.size; omega) (cell_ne_map (ADD.out.1 w6 hHeld) ((hHeld.block W.heap.size LG.out.2.2).trans R5.out))).trans ((hHeld.block W.heap.size LG.out.2.2).trans R5.out))
      have NA := Lib.hid na
      clear na b2 m7 g7 hrun hHeld ADD VV EY
      go_simp
      refine hK.out _ _ ?_
      clear hK K
      go_wp2
      go_ret
      exact ⟨rfl, NA.out, (But2.of_below BW.out).trans B2.out⟩
    · obtain ⟨T1, hT1⟩ : ∃ T1, Lib.itoa (s.ar : Int) = T1 := ⟨_, rfl⟩
      have TL1 : T1.length ≤ 8 := by rw [← hT1]; exact itoa_len16 (by have := HS.out.2; omega)
      have K1 : Hid (s.kind = [s.sort] ++ T1) := by show s.kind = _; rw [← hT1]; simp [Sy.kind, hu]
      have IA : Hid (∀ w, PowAt w → Calls Tryz.prog 71 #[.int .i64 s.ar] w fun e w' => e = .returned (str T1) ∧ Below w.heap.size w w') := fun w hp => by rw [← hT1]; exact Itoa_c _ (by omega) (by have := HS.out.2; omega) w hp
      have LKC : Hid (∀ w', Below W1.heap.size W1 w' → (Instr.lookup 111 (.map (some cm)) (.string ({ data := #[s.sort] } ++ { data := T1.toArray })) false).run Tryz.prog w' = .ok (.int .i64 z) w') := fun w' hb => by
        have := (H1.out.below hb).count OKK.out
        rw [HZ.out, K1.out, ← mk_app1] at this
        exact this
      have KV : Hid ((.string ({ data := #[s.sort] } ++ { data := T1.toArray }) : Value) = str s.kind) := by show _ = _; rw [K1.out, mk_app1]
      have TL0 : ¬ (9223372036854775807 < 1 + T1.length) := by omega
      have HU : (s.sort == 117) = false := by simpa using hu
      clear hT1 hu
      go_wp2_with (first
        | (go_at_call 71
           refine (IA.out _ HP.out).mono ?_
           rintro e w2 ⟨rfl, b2⟩
           have lk1 := LKC.out _ b2
           replace H1 : Hid (NamesAt g1 c1 gm cm σ w2) := H1.out.below b2
           replace R0 : Hid (w2.heap[W.heap.size]? = some (.cells #[str [s.sort], str s.name, .int .i64 s.ar] 104 (0, 0))) := (b2.block _ (Array.getElem?_eq_some_iff.1 R0.out).1).trans R0.out
           replace BW : Hid (Below W.heap.size W w2) := BW.out.trans (b2.mono BW.out.size)
           replace HP : Hid (PowAt w2) := PowAt.below HP.out b2
           clear LK2 y0 y1 y2 c0 d0 hW1 IA b2
           obtain ⟨y0, y1, y2⟩ := row3 R0.out
           obtain ⟨c0, -⟩ := row1 H1.out.hg
           obtain ⟨d0, -⟩ := row1 H1.out.hc)
        | (at_mapUpdate; obtain ⟨S0, hS0⟩ := H1.out.counts; refine wpList_store_G rfl _ _ _ 111 rfl 3 keyS map111 rfl hS0 (by have := HL.out; unfold maxLen; omega) s.kind OKK.out KV.out ?_; intro w5 hm5 hg5))
      have ADD := Lib.hid (H1.out.add HIN.out OKK.out (z + 1) (by rw [HZ.out]) (Below.refl _ _) hg5 hm5)
      have LK5 : Hid (∀ w', Below w5.heap.size w5 w' → (Instr.lookup 111 (.map (some cm)) (.string ({ data := #[s.sort] } ++ { data := T1.toArray })) false).run Tryz.prog w' = .ok (.int .i64 (z + 1)) w') := fun w' hb => by
        have := (hm5.below hb).look keyS map111 (zero3 w') OKK.out
        rw [KV.out]
        simp only [if_true] at this
        exact this
      have G5 : Hid (w5.heap[g1]? = some (.cells #[.map (some gm)] 117 (0, 0))) := (hg5.block _ (Array.getElem?_eq_some_iff.1 H1.out.hg).1 (cell_ne_map hS0 H1.out.hg)).trans H1.out.hg
      have C5 : Hid (w5.heap[c1]? = some (.cells #[.map (some cm)] 111 (0, 0))) := (hg5.block _ (Array.getElem?_eq_some_iff.1 H1.out.hc).1 (cell_ne_map hS0 H1.out.hc)).trans H1.out.hc
      have R5 : Hid (w5.heap[W.heap.size]? = some (.cells #[str [s.sort], str s.name, .int .i64 s.ar] 104 (0, 0))) := (hg5.block _ (Array.getElem?_eq_some_iff.1 R0.out).1 (cell_ne_map hS0 R0.out)).trans R0.out
      have P5 : Hid (PowAt w5) := PowAt.but HP.out (But2.right (R := gm) hg5) H1.out.given.isMap hS0.isMap
      have LE5 : Hid (w2.heap.size ≤ w5.heap.size) := hg5.size
      have LG : Hid (g1 < w5.heap.size ∧ c1 < w5.heap.size ∧ W.heap.size < w5.heap.size) := ⟨(Array.getElem?_eq_some_iff.1 G5.out).1, (Array.getElem?_eq_some_iff.1 C5.out).1, (Array.getElem?_eq_some_iff.1 R5.out).1⟩
      clear hm5 hg5 hS0 lk1 LKC y0 y1 y2 c0 d0
      refine wp_region_V (q := 8) (S := fun w' => Below w5.heap.size w5 w') (by kernel_rfl) (Below.refl _ _).drew (fun hHeld => ?_)
      refine wpAnyV_take (i := 0) (v := ?_) rfl (by kernel_rfl) (by kernel_rfl) (by kernel_rfl) (by kernel_rfl) (fun _ _ _ h => h) (Or.inl ⟨by rfl, ?_⟩) (by assumption) ?_
      rotate_left
      · (intro w0 hSw; obtain ⟨z0, -⟩ := row1 ((hSw.block g1 LG.out.1).trans G5.out); go_simp; (try with_reducible rfl))
      try simp only [Act.put, List.getElem_toArray, List.getElem_cons_succ, List.getElem_cons_zero, List.setIfInBounds_toArray, List.set_cons_zero, List.set_cons_succ]
      refine wpAnyV_take (i := 1) (v := ?_) rfl (by kernel_rfl) (by kernel_rfl) (by kernel_rfl) (by kernel_rfl) (fun _ _ _ h => h) (Or.inl ⟨by rfl, ?_⟩) (by assumption) ?_
      rotate_left
      · (intro w0 hSw; obtain ⟨z0, z1, z2⟩ := row3 ((hSw.block W.heap.size LG.out.2.2).trans R5.out); go_simp; (try with_reducible rfl))
      try simp only [Act.put, List.getElem_toArray, List.getElem_cons_succ, List.getElem_cons_zero, List.setIfInBounds_toArray, List.set_cons_zero, List.set_cons_succ]
      refine wpAnyV_take (i := 2) (v := ?_) rfl (by kernel_rfl) (by kernel_rfl) (by kernel_rfl) (by kernel_rfl) (fun _ _ _ h => h) (Or.inl ⟨by rfl, ?_⟩) (by assumption) ?_
      rotate_left
      · (intro w0 hSw; go_simp; (try with_reducible rfl))
      try simp only [Act.put, List.getElem_toArray, List.getElem_cons_succ, List.getElem_cons_zero, List.setIfInBounds_toArray, List.set_cons_zero, List.set_cons_succ]
      refine wpAnyV_take (i := 3) (v := ?_) rfl (by kernel_rfl) (by kernel_rfl) (by kernel_rfl) (by kernel_rfl) (fun _ _ _ h => h) (Or.inl ⟨by rfl, ?_⟩) (by assumption) ?_
      rotate_left
      · (intro w0 hSw; obtain ⟨z0, -⟩ := row1 ((hSw.block c1 LG.out.2.1).trans C5.out); go_simp; (try with_reducible rfl))
      try simp only [Act.put, List.getElem_toArray, List.getElem_cons_succ, List.getElem_cons_zero, List.setIfInBounds_toArray, List.set_cons_zero, List.set_cons_succ]
      refine wpAnyV_take (i := 4) (v := ?_) rfl (by kernel_rfl) (by kernel_rfl) (by kernel_rfl) (by kernel_rfl) (fun _ _ _ h => h) (Or.inl ⟨by rfl, ?_⟩) (by assumption) ?_
      rotate_left
      · (intro w0 hSw; go_simp; (try with_reducible rfl))
      try simp only [Act.put, List.getElem_toArray, List.getElem_cons_succ, List.getElem_cons_zero, List.setIfInBounds_toArray, List.set_cons_zero, List.set_cons_succ]
      refine wpAnyV_take (i := 5) (v := ?_) rfl (by kernel_rfl) (by kernel_rfl) (by kernel_rfl) (by kernel_rfl) (fun _ _ _ h => h) (Or.inl ⟨by rfl, ?_⟩) (by assumption) ?_
      rotate_left
      · (intro w0 hSw; have lk := LK5.out _ hSw; go_simp; (try with_reducible rfl))
      try simp only [Act.put, List.getElem_toArray, List.getElem_cons_succ, List.getElem_cons_zero, List.setIfInBounds_toArray, List.set_cons_zero, List.set_cons_succ]
      refine wpAnyV_one (j := 6) (by kernel_rfl) (by kernel_rfl) rfl (fun K hK => ?_)
      go_simp
      go_at_call 71
      refine (IT.out _ (P5.out.below (Below.refl _ _).drew)).mono ?_
      rintro e w6 ⟨rfl, b6⟩
      have hS6 := hHeld.trans b6
      clear b6 hHeld IT
      go_simp
      refine hK.out _ _ hS6 (fun hHeld => ?_)
      clear hK K hS6
      try simp only [Act.put, List.getElem_toArray, List.getElem_cons_succ, List.getElem_cons_zero, List.setIfInBounds_toArray, List.set_cons_zero, List.set_cons_succ]
      refine wpAnyV_take (i := 7) (v := ?_) rfl (by kernel_rfl) (by kernel_rfl) (by kernel_rfl) (by kernel_rfl) (fun _ _ _ h => h) (Or.inl ⟨by rfl, ?_⟩) (by assumption) ?_
      rotate_left
      · (intro w0 hSw; go_simp; rw [if_neg (by omega)]; (try with_reducible rfl))
      try simp only [Act.put, List.getElem_toArray, List.getElem_cons_succ, List.getElem_cons_zero, List.setIfInBounds_toArray, List.set_cons_zero, List.set_cons_succ]
      refine wpAnyV_last (by kernel_rfl) (by kernel_rfl) rfl (fun K hK => ?_)
      go_simp
      have EY : encY s = .agg #[str [s.sort], str s.name, .int .i64 s.ar] := rfl
      have VV : (.string (({ data := #[s.sort] } ++ { data := T1.toArray }) ++ { data := T2.toArray }) : Value) = str (Sy.told σ s) := by rw [TD.out]; rw [K1.out, mk_app, mk_app]
      obtain ⟨w7, hrun, m7, g7⟩ := (ADD.out.1 w6 hHeld).store keyY map117 (by have := HL.out; unfold maxLen; omega) HS.out (.string (({ data := #[s.sort] } ++ { data := T1.toArray }) ++ { data := T2.toArray }))
      rw [EY] at hrun
      rw [hrun]
      rw [VV] at m7
      obtain ⟨na, b2⟩ := ADD.out.2 w6 w7 hHeld g7 m7
      have B2 := Lib.hid b2
      have LK := na.look HS.out
      rw [EY, if_pos (by simp), told_self HIN.out] at LK
      obtain ⟨c0, -⟩ := row1 na.hg
      obtain ⟨y0, y1, y2⟩ := row3 ((g7.block W.heap.size (by have := LG.out; have := hHeld.size; omega) (cell_ne_map (ADD.out.1 w6 hHeld) ((hHeld.block W.heap.size LG.out.2.2).trans R5.out))).trans ((hHeld.block W.heap.size LG.out.2.2).trans R5.out))
      have NA := Lib.hid na
      clear na b2 m7 g7 hrun hHeld ADD VV EY
      go_simp
      refine hK.out _ _ ?_
      clear hK K
      go_wp2
      go_ret
      exact ⟨rfl, NA.out, (But2.of_below BW.out).trans B2.out⟩
end Go.Proofs.YtppfalbnhnpbnaaGreatDoor
