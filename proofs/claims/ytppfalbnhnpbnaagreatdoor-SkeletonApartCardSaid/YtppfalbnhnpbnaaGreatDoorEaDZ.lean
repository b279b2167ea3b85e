/- skeleton.sort; slices.Contains at symbols. Conditions: those of each statement. -/
import Derived.Test.YtppfalbnhnpbnaaGreatDoorPdCZ
import Derived.Test.YtppfalbnhnpbnaaGreatDoorNamesZ
import Derived.Test.YtppfalbnhnpbnaaGreatDoorEaBZ
set_option linter.unusedSimpArgs false
set_option linter.unusedVariables false
namespace Go.Proofs.YtppfalbnhnpbnaaGreatDoor
open Go Go.RowKit Ly
set_option maxRecDepth 10000
def sortB (s : Bs) : Bs := if predName s then [80] else if funName s then [97] else if varName s then [117] else []
set_option maxHeartbeats 2000000 in
theorem sort_c (s : Bs) (hs : s.length ≤ maxLen) (w : World) : Calls Tryz.prog 58 #[str s] w fun e w' => e = .returned (str (sortB s)) ∧ Below w.heap.size w w' := by
  have PC : Hid (∀ X, Calls Tryz.prog 103 #[str s] X fun e w' => e = .returned (.bool (predName s)) ∧ Below X.heap.size X w') := fun X => Predicate_c s X hs
  have FC : Hid (∀ X, Calls Tryz.prog 104 #[str s] X fun e w' => e = .returned (.bool (funName s)) ∧ Below X.heap.size X w') := fun X => Function_c s X hs
  have VC : Hid (∀ X, Calls Tryz.prog 105 #[str s] X fun e w' => e = .returned (.bool (varName s)) ∧ Below X.heap.size X w') := fun X => Variable_c s X hs
  unfold sortB
  generalize predName s = p at *
  generalize funName s = f at *
  generalize varName s = v at *
  clear hs
  cases p <;> cases f <;> cases v
  all_goals
    go_enter Tryz.func58, Tryz.ntmps58
    go_wp2_with (first
      | (go_at_call 103; refine (PC.out _).mono ?_; rintro e w1 ⟨rfl, b1⟩; have B1 := Lib.hid b1; clear b1 PC)
      | (go_at_call 104; refine (FC.out _).mono ?_; rintro e w2 ⟨rfl, b2⟩; have B2 := Lib.hid (B1.out.trans (b2.mono B1.out.size)); clear b2 FC)
      | (go_at_call 105; refine (VC.out _).mono ?_; rintro e w3 ⟨rfl, b3⟩; have B3 := Lib.hid (B2.out.trans (b3.mono B2.out.size)); clear b3 VC))
    go_ret
    exact ⟨rfl, by first | exact B3.out | exact B2.out | exact B1.out⟩
theorem symsD_get : ∀ (l : List (Bs × Nat)) (j : Nat) {s : Bs × Nat}, l[j]? = some s → (symsD l)[j * 2]? = some (.val (str s.1)) ∧ (symsD l)[j * 2 + 1]? = some (.val (.int .i64 s.2))
  | [], j, s, h => by simp at h
  | x :: l, 0, s, h => by simp at h; subst h; simp [symsD]
  | x :: l, j + 1, s, h => by
    obtain ⟨h1, h2⟩ := symsD_get l j (s := s) (by simpa using h)
    have e : symsD (x :: l) = .val (str x.1) :: .val (.int .i64 x.2) :: symsD l := rfl
    rw [e, show (j + 1) * 2 = j * 2 + 2 by omega]
    exact ⟨by simpa using h1, by simpa using h2⟩
theorem SymsList.get {w : World} {l : List (Bs × Nat)} {a : Option Addr} {n c : Nat} (h : SymsList w l (.slice a n c)) : n = l.length ∧ n ≤ maxLen ∧ (l ≠ [] → ∃ b off, a = some ⟨b, off, none⟩ ∧ ∀ (j : Nat) (s : Bs × Nat), l[j]? = some s → w.cell? ⟨b, off + j * 2, none⟩ = some (str s.1) ∧ w.cell? ⟨b, off + j * 2 + 1, none⟩ = some (.int .i64 s.2)) := by
  obtain ⟨a', cap, e, h1, h2, h3, h5⟩ := At.sl_inv h
  simp only [Value.slice.injEq] at e
  obtain ⟨rfl, rfl, rfl⟩ := e
  refine ⟨rfl, by omega, fun hne => ?_⟩
  rcases h5 with h5 | ⟨b, off, rfl, h5⟩
  · exact absurd (List.eq_nil_of_length_eq_zero h5) hne
  · refine ⟨b, off, rfl, fun j s hs => ?_⟩
    obtain ⟨g1, g2⟩ := symsD_get l j hs
    obtain ⟨u, hu, ha⟩ := h5 _ _ g1
    obtain ⟨v, hv, hb⟩ := h5 _ _ g2
    have e1 : u = str s.1 := ha
    have e2 : v = .int .i64 s.2 := hb
    rw [e1] at hu
    rw [e2] at hv
    exact ⟨hu, hv⟩
set_option maxHeartbeats 2000000 in
theorem Index160_c (l : List (Bs × Nat)) (s : Bs × Nat) (a : Option Addr) (n c : Nat) (w : World) (hx : SymsList w l (.slice a n c)) (hn : n ≤ 1000000) :
    Calls Tryz.prog 160 #[.slice a n c, .agg #[str s.1, .int .i64 s.2]] w fun e w' => ∃ z : Int, e = .returned (.int .i64 z) ∧ (0 ≤ z ↔ s ∈ l) ∧ Below w.heap.size w w' := by
  obtain ⟨hl, hm, hc⟩ := hx.get
  have HN := Lib.hid hl
  have HC := Lib.hid hc
  obtain ⟨sn, sk⟩ := s
  simp only
  obtain ⟨W0, hW0⟩ : ∃ W0, w.alloc (.cells #[str sn, .int .i64 sk] 51) = W0 := ⟨_, rfl⟩
  have b0 : Below w.heap.size w W0 := by rw [← hW0]; exact (Below.refl _ _).alloc (Nat.le_refl _) _
  have r0 : W0.heap[w.heap.size]? = some (.cells #[str sn, .int .i64 sk] 51 (0, 0)) := by rw [← hW0]; exact heap_alloc_new w _
  have B0 := Lib.hid b0
  have R0 := Lib.hid r0
  clear hl hm hc hx b0 r0
  go_enter Tryz.func160, Tryz.ntmps160
  go_wp2_with fail
  clear hW0
  go_loopw [8] (fun i wr => ∃ j : Nat, j ≤ n ∧ i = .int .i64 j ∧ Hid ((sn, sk) ∉ l.take j ∧ Below W0.heap.size W0 wr)) (fun i _ => n - (intOf i).toNat)
  case atStart => exact ⟨0, Nat.zero_le _, rfl, by simp, Below.refl _ _⟩
  case round =>
    obtain ⟨j, hj, rfl, hs⟩ := hrel
    have bw : Below w.heap.size w wr := B0.out.trans (hs.out.2.mono B0.out.size)
    have BW := Lib.hid bw
    have R1 := Lib.hid ((hs.out.2.block _ (Array.getElem?_eq_some_iff.1 R0.out).1).trans R0.out)
    by_cases hlt : j < n
    · obtain ⟨T, hT⟩ := get_of_lt (l := l) (j := j) (by rw [← HN.out]; exact hlt)
      obtain ⟨bb, off, rfl, hc⟩ := HC.out (ne_of_get hT)
      obtain ⟨h0, h1⟩ := hc j _ hT
      obtain ⟨tn, tk⟩ := T
      have C0 := Lib.hid (And.intro h0 h1)
      have HT := Lib.hid hT
      clear hc h0 h1 hT bw
      go_upto_region 4 with fail
      by_cases he : (sn, sk) = (tn, tk)
      · obtain ⟨rfl, rfl⟩ := Prod.mk.inj he
        clear he
        refine wp_region_held_drew (S := fun w' => Below wr.heap.size wr w') (by kernel_rfl) (Below.refl _ _).drew (fun hHeld => ?_)
        refine wpAnyH_take (i := 0) (v := ?_) rfl (by kernel_rfl) (by kernel_rfl) (by kernel_rfl) (fun _ _ _ h => h) (Or.inl ⟨by rfl, ?_⟩) (by assumption) ?_
        rotate_left
        · (intro w0 hSw; obtain ⟨z0, z1, -, -⟩ := row2 ((hSw.block _ (Array.getElem?_eq_some_iff.1 R1.out).1).trans R1.out); go_simp; (try with_reducible rfl))
        try simp only [Act.put, List.getElem_toArray, List.getElem_cons_succ, List.getElem_cons_zero, List.setIfInBounds_toArray, List.set_cons_zero, List.set_cons_succ]
        refine wpAnyH_take (i := 1) (v := ?_) rfl (by kernel_rfl) (by kernel_rfl) (by kernel_rfl) (fun _ _ _ h => h) (Or.inl ⟨by rfl, ?_⟩) (by assumption) ?_
        rotate_left
        · (intro w0 hSw; go_simp; (try with_reducible rfl))
        try simp only [Act.put, List.getElem_toArray, List.getElem_cons_succ, List.getElem_cons_zero, List.setIfInBounds_toArray, List.set_cons_zero, List.set_cons_succ]
        refine wpAnyH_take (i := 2) (v := ?_) rfl (by kernel_rfl) (by kernel_rfl) (by kernel_rfl) (fun _ _ _ h => h) (Or.inl ⟨by rfl, ?_⟩) (by assumption) ?_
        rotate_left
        · (intro w0 hSw; go_simp; (try with_reducible rfl))
        try simp only [Act.put, List.getElem_toArray, List.getElem_cons_succ, List.getElem_cons_zero, List.setIfInBounds_toArray, List.set_cons_zero, List.set_cons_succ]
        refine wpAnyH_take (i := 3) (v := ?_) rfl (by kernel_rfl) (by kernel_rfl) (by kernel_rfl) (fun _ _ _ h => h) (Or.inl ⟨by rfl, ?_⟩) (by assumption) ?_
        rotate_left
        · (intro w0 hSw; go_simp; (try with_reducible rfl))
        try simp only [Act.put, List.getElem_toArray, List.getElem_cons_succ, List.getElem_cons_zero, List.setIfInBounds_toArray, List.set_cons_zero, List.set_cons_succ]
        refine wpAnyH_take (i := 4) (v := ?_) rfl (by kernel_rfl) (by kernel_rfl) (by kernel_rfl) (fun _ _ _ h => h) (Or.inl ⟨by rfl, ?_⟩) (by assumption) ?_
        rotate_left
        · (intro w0 hSw; have z0 := keeps_of_below hSw _ _ (keeps_of_below BW.out _ _ C0.out.1); have z1 := keeps_of_below hSw _ _ (keeps_of_below BW.out _ _ C0.out.2); go_simp; (try with_reducible rfl))
        try simp only [Act.put, List.getElem_toArray, List.getElem_cons_succ, List.getElem_cons_zero, List.setIfInBounds_toArray, List.set_cons_zero, List.set_cons_succ]
        refine wpAnyH_ready (rs := [5]) (by kernel_rfl) (by simp) ?_
        refine AllReadyH.cons rfl (fun K hK => ?_) AllReadyH.nil
        go_simp
        refine hK.out _ _ hHeld (fun hHeld2 => ?_)
        clear hK K hHeld
        try simp only [Act.put, List.getElem_toArray, List.getElem_cons_succ, List.getElem_cons_zero, List.setIfInBounds_toArray, List.set_cons_zero, List.set_cons_succ]
        refine wpAnyH_done (by kernel_rfl) ?_ _
        go_wp2_with fail
        go_ret
        exact ⟨_, rfl, ⟨fun _ => List.mem_of_getElem? HT.out, fun _ => by omega⟩, BW.out.drew⟩
      · have HE := Lib.hid he
        by_cases h1 : sn = tn
        · have h2 : ¬ ((sk : Int) = tk) := fun e => he (by rw [h1, show sk = tk by omega])
          subst h1
          clear he
          refine wp_region_held_drew (S := fun w' => Below wr.heap.size wr w') (by kernel_rfl) (Below.refl _ _).drew (fun hHeld => ?_)
          refine wpAnyH_take (i := 0) (v := ?_) rfl (by kernel_rfl) (by kernel_rfl) (by kernel_rfl) (fun _ _ _ h => h) (Or.inl ⟨by rfl, ?_⟩) (by assumption) ?_
          rotate_left
          · (intro w0 hSw; obtain ⟨z0, z1, -, -⟩ := row2 ((hSw.block _ (Array.getElem?_eq_some_iff.1 R1.out).1).trans R1.out); go_simp; (try with_reducible rfl))
          try simp only [Act.put, List.getElem_toArray, List.getElem_cons_succ, List.getElem_cons_zero, List.setIfInBounds_toArray, List.set_cons_zero, List.set_cons_succ]
          refine wpAnyH_take (i := 1) (v := ?_) rfl (by kernel_rfl) (by kernel_rfl) (by kernel_rfl) (fun _ _ _ h => h) (Or.inl ⟨by rfl, ?_⟩) (by assumption) ?_
          rotate_left
          · (intro w0 hSw; go_simp; (try with_reducible rfl))
          try simp only [Act.put, List.getElem_toArray, List.getElem_cons_succ, List.getElem_cons_zero, List.setIfInBounds_toArray, List.set_cons_zero, List.set_cons_succ]
          refine wpAnyH_take (i := 2) (v := ?_) rfl (by kernel_rfl) (by kernel_rfl) (by kernel_rfl) (fun _ _ _ h => h) (Or.inl ⟨by rfl, ?_⟩) (by assumption) ?_
          rotate_left
          · (intro w0 hSw; go_simp; (try with_reducible rfl))
          try simp only [Act.put, List.getElem_toArray, List.getElem_cons_succ, List.getElem_cons_zero, List.setIfInBounds_toArray, List.set_cons_zero, List.set_cons_succ]
          refine wpAnyH_take (i := 3) (v := ?_) rfl (by kernel_rfl) (by kernel_rfl) (by kernel_rfl) (fun _ _ _ h => h) (Or.inl ⟨by rfl, ?_⟩) (by assumption) ?_
          rotate_left
          · (intro w0 hSw; go_simp; (try with_reducible rfl))
          try simp only [Act.put, List.getElem_toArray, List.getElem_cons_succ, List.getElem_cons_zero, List.setIfInBounds_toArray, List.set_cons_zero, List.set_cons_succ]
          refine wpAnyH_take (i := 4) (v := ?_) rfl (by kernel_rfl) (by kernel_rfl) (by kernel_rfl) (fun _ _ _ h => h) (Or.inl ⟨by rfl, ?_⟩) (by assumption) ?_
          rotate_left
          · (intro w0 hSw; have z0 := keeps_of_below hSw _ _ (keeps_of_below BW.out _ _ C0.out.1); have z1 := keeps_of_below hSw _ _ (keeps_of_below BW.out _ _ C0.out.2); go_simp; (try with_reducible rfl))
          try simp only [Act.put, List.getElem_toArray, List.getElem_cons_succ, List.getElem_cons_zero, List.setIfInBounds_toArray, List.set_cons_zero, List.set_cons_succ]
          refine wpAnyH_ready (rs := [5]) (by kernel_rfl) (by simp) ?_
          refine AllReadyH.cons rfl (fun K hK => ?_) AllReadyH.nil
          go_simp
          refine hK.out _ _ hHeld (fun hHeld2 => ?_)
          clear hK K hHeld
          try simp only [Act.put, List.getElem_toArray, List.getElem_cons_succ, List.getElem_cons_zero, List.setIfInBounds_toArray, List.set_cons_zero, List.set_cons_succ]
          refine wpAnyH_done (by kernel_rfl) ?_ _
          go_wp2_with fail
          go_roundw
          case rel => exact ⟨j + 1, by omega, by go_num, by rw [List.take_add_one, HT.out]; exact fun hm => (List.mem_append.1 hm).elim hs.out.1 (fun h => HE.out (List.mem_singleton.1 h)), hs.out.2.drew⟩
          case measure => simp [intOf]; omega
        · clear he
          refine wp_region_held_drew (S := fun w' => Below wr.heap.size wr w') (by kernel_rfl) (Below.refl _ _).drew (fun hHeld => ?_)
          refine wpAnyH_take (i := 0) (v := ?_) rfl (by kernel_rfl) (by kernel_rfl) (by kernel_rfl) (fun _ _ _ h => h) (Or.inl ⟨by rfl, ?_⟩) (by assumption) ?_
          rotate_left
          · (intro w0 hSw; obtain ⟨z0, z1, -, -⟩ := row2 ((hSw.block _ (Array.getElem?_eq_some_iff.1 R1.out).1).trans R1.out); go_simp; (try with_reducible rfl))
          try simp only [Act.put, List.getElem_toArray, List.getElem_cons_succ, List.getElem_cons_zero, List.setIfInBounds_toArray, List.set_cons_zero, List.set_cons_succ]
          refine wpAnyH_take (i := 1) (v := ?_) rfl (by kernel_rfl) (by kernel_rfl) (by kernel_rfl) (fun _ _ _ h => h) (Or.inl ⟨by rfl, ?_⟩) (by assumption) ?_
          rotate_left
          · (intro w0 hSw; go_simp; (try with_reducible rfl))
          try simp only [Act.put, List.getElem_toArray, List.getElem_cons_succ, List.getElem_cons_zero, List.setIfInBounds_toArray, List.set_cons_zero, List.set_cons_succ]
          refine wpAnyH_take (i := 2) (v := ?_) rfl (by kernel_rfl) (by kernel_rfl) (by kernel_rfl) (fun _ _ _ h => h) (Or.inl ⟨by rfl, ?_⟩) (by assumption) ?_
          rotate_left
          · (intro w0 hSw; go_simp; (try with_reducible rfl))
          try simp only [Act.put, List.getElem_toArray, List.getElem_cons_succ, List.getElem_cons_zero, List.setIfInBounds_toArray, List.set_cons_zero, List.set_cons_succ]
          refine wpAnyH_take (i := 3) (v := ?_) rfl (by kernel_rfl) (by kernel_rfl) (by kernel_rfl) (fun _ _ _ h => h) (Or.inl ⟨by rfl, ?_⟩) (by assumption) ?_
          rotate_left
          · (intro w0 hSw; go_simp; (try with_reducible rfl))
          try simp only [Act.put, List.getElem_toArray, List.getElem_cons_succ, List.getElem_cons_zero, List.setIfInBounds_toArray, List.set_cons_zero, List.set_cons_succ]
          refine wpAnyH_take (i := 4) (v := ?_) rfl (by kernel_rfl) (by kernel_rfl) (by kernel_rfl) (fun _ _ _ h => h) (Or.inl ⟨by rfl, ?_⟩) (by assumption) ?_
          rotate_left
          · (intro w0 hSw; have z0 := keeps_of_below hSw _ _ (keeps_of_below BW.out _ _ C0.out.1); have z1 := keeps_of_below hSw _ _ (keeps_of_below BW.out _ _ C0.out.2); go_simp; (try with_reducible rfl))
          try simp only [Act.put, List.getElem_toArray, List.getElem_cons_succ, List.getElem_cons_zero, List.setIfInBounds_toArray, List.set_cons_zero, List.set_cons_succ]
          refine wpAnyH_ready (rs := [5]) (by kernel_rfl) (by simp) ?_
          refine AllReadyH.cons rfl (fun K hK => ?_) AllReadyH.nil
          go_simp
          refine hK.out _ _ hHeld (fun hHeld2 => ?_)
          clear hK K hHeld
          try simp only [Act.put, List.getElem_toArray, List.getElem_cons_succ, List.getElem_cons_zero, List.setIfInBounds_toArray, List.set_cons_zero, List.set_cons_succ]
          refine wpAnyH_done (by kernel_rfl) ?_ _
          go_wp2_with fail
          go_roundw
          case rel => exact ⟨j + 1, by omega, by go_num, by rw [List.take_add_one, HT.out]; exact fun hm => (List.mem_append.1 hm).elim hs.out.1 (fun h => HE.out (List.mem_singleton.1 h)), hs.out.2.drew⟩
          case measure => simp [intOf]; omega
    · have e : l.take j = l := List.take_of_length_le (by rw [← HN.out]; omega)
      have NE := Lib.hid hs.out.1
      rw [e] at NE
      clear e hs bw
      go_wp2_with fail
      go_ret
      exact ⟨_, rfl, ⟨fun h => absurd h (by decide), fun h => absurd h NE.out⟩, BW.out⟩
theorem Contains107_c (l : List (Bs × Nat)) (s : Bs × Nat) (v : Value) (w : World) (hx : SymsList w l v) (hn : l.length ≤ 1000000) :
    Calls Tryz.prog 107 #[v, .agg #[str s.1, .int .i64 s.2]] w fun e w' => e = .returned (.bool (decide (s ∈ l))) ∧ Below w.heap.size w w' := by
  obtain ⟨a, c, rfl, -⟩ := At.sl_inv hx
  obtain ⟨W0, hW0⟩ : ∃ W0, w.alloc (.cells #[str s.1, .int .i64 s.2] 51) = W0 := ⟨_, rfl⟩
  have b0 : Below w.heap.size w W0 := by rw [← hW0]; exact (Below.refl _ _).alloc (Nat.le_refl _) _
  have r0 : W0.heap[w.heap.size]? = some (.cells #[str s.1, .int .i64 s.2] 51 (0, 0)) := by rw [← hW0]; exact heap_alloc_new w _
  have IC : Hid (Calls Tryz.prog 160 #[.slice a l.length c, .agg #[str s.1, .int .i64 s.2]] W0 fun e w' => ∃ z : Int, e = .returned (.int .i64 z) ∧ (0 ≤ z ↔ s ∈ l) ∧ Below W0.heap.size W0 w') := Index160_c l s a _ c W0 (At.keep (keeps_of_below b0) _ _ hx) hn
  have B0 := Lib.hid b0
  obtain ⟨y0, y1, -, -⟩ := row2 r0
  generalize hq : decide (s ∈ l) = q
  have HQ : Hid (q = decide (s ∈ l)) := hq.symm
  clear b0 r0 hx hn hq
  go_enter Tryz.func107, Tryz.ntmps107
  go_wp2_with (go_at_call 160; refine IC.out.mono ?_; rintro e w2 ⟨z, rfl, hz, b2⟩; have B2 := Lib.hid b2; have HZ := Lib.hid hz; clear b2 hz IC)
  go_ret
  refine ⟨?_, B0.out.trans (B2.out.mono B0.out.size)⟩
  rw [HQ.out]
  show Ending.returned (.bool (decide (z ≥ 0))) = _
  congr 2
  exact decide_eq_decide.2 HZ.out
end Go.Proofs.YtppfalbnhnpbnaaGreatDoor
namespace Go.Proofs.YtppfalbnhnpbnaaGreatDoor
open Go Go.RowKit Ly
set_option maxRecDepth 10000
set_option maxHeartbeats 8000000 in
theorem each38_c {St : Type} (E : Nat → Prop) (nv : Value) (I : St → World → Prop) (f : St → Fm → Fm × St) (W : World) (ts : List Fm) (s0 : St) (a : Option Addr) (n c : Nat) (hx : FmsAt W ts (.slice a n c)) (hn : ts.length ≤ 100000) (h0 : I s0 W) (hI : Steady W.heap.size I)
    (hmap : ∀ s X, I s X → ∀ k, E k → ∃ es c, X.heap[k]? = some (.map es c)) (hE : ∀ k, E k → k < W.heap.size)
    (hf : ∀ j t, ts[j]? = some t → ∀ X x, I (stAt f s0 ts j) X → ButE E W X → FmVal X t x → Calls Tryz.prog 38 #[nv, x] X fun e w' => ∃ v, e = .returned v ∧ FmVal (hide (lo X) w') (f (stAt f s0 ts j) t).1 v ∧ I (f (stAt f s0 ts j) t).2 w' ∧ ButE E X w') :
    Calls Tryz.prog 69 #[.slice a n c, .func (.func 38) #[nv] #[]] W fun e w' => ∃ v, e = .returned v ∧ FmsAt (hide (lo W) w') (inTurn f s0 ts).1 v ∧ I (inTurn f s0 ts).2 w' ∧ ButE E W w' := by
  have hl := hx.len
  have L2 := Lib.hid hl.1
  have N0 : n ≤ 100000 := by rw [hl.1]; exact hn
  have HX := Lib.hid hx
  have H0 := Lib.hid h0
  have HI := Lib.hid hI
  have HK : Hid (∀ X, ButE E W X → Keeps W X) := fun X hX => hX.keeps (hmap s0 W h0)
  have HE := Lib.hid hE
  have HF := Lib.hid hf
  obtain ⟨i0, hi0, hz0, hs0, hb0⟩ := info_parts info25
  clear hl hx hn h0 hI hmap hE hf
  go_enter Tryz.func69, Tryz.ntmps69
  by_cases hn0 : n = 0
  · subst hn0
    go_wp2
    have e : ts = [] := List.eq_nil_of_length_eq_zero L2.out.symm
    go_ret
    subst e
    exact ⟨_, rfl, At.sl_nil (by unfold maxLen; omega), H0.out, ButE.refl _ _⟩
  · go_wp2_with (at_make; refine wpList_make_full _ rfl _ _ 24 rfl W.heap.size 40 i0 (.agg #[.int .u8 0, .string ⟨#[]⟩, .slice none 0 0, .slice none 0 0]) 4 Tryz.underlying24 hi0 hz0 hs0 .i64 .i64 _ _ n rfl rfl (by first | rfl | omega) (by first | rfl | omega) (by rw [hb0]; omega) (by unfold maxLen; omega) (Nat.le_refl _) ?_; intro w1 hown1 hgrow1)
    obtain ⟨G, hG⟩ : ∃ G, W.heap.size = G := ⟨_, rfl⟩
    have A0 : Hid (FillAt G n 4 40 (fmsDs (inTurn f s0 (ts.take 0)).1) 0 w1 ∧ I (stAt f s0 ts 0) w1 ∧ ButE E W w1) := by
      have B : ButE E W w1 := ⟨hgrow1.os, hgrow1.tape, hgrow1.output, hgrow1.size, fun k hk _ => hgrow1.block k hk (by simp)⟩
      refine ⟨?_, HI.out s0 W w1 H0.out (fun k hk => hgrow1.block k hk (by simp)), B⟩
      rcases hown1.2 with ⟨e, -⟩ | ⟨g, cap, cur, e, -, h3, h4, h5, h6, h7⟩
      · cases e
      · simp only [Value.slice.injEq, Option.some.injEq, Addr.mk.injEq, and_true, true_and] at e
        obtain ⟨e1, rfl⟩ := e
        rw [← hG]
        rw [← e1] at h3
        exact ⟨cur.toList, by simpa using h3, by simpa using h6, by simpa [inTurn, fmsDs] using CellsAt.nil _⟩
    rw [hG]
    have HG := Lib.hid hG
    clear hown1 hgrow1 hn0 hG H0
    go_loopw [16] (fun i wr => ∃ j : Nat, j ≤ n ∧ i = .int .i64 j ∧ Hid (FillAt G n 4 40 (fmsDs (inTurn f s0 (ts.take j)).1) j wr ∧ I (stAt f s0 ts j) wr ∧ ButE E W wr)) (fun i _ => n - (intOf i).toNat)
    case atStart => exact ⟨0, Nat.zero_le _, rfl, A0.out⟩
    case round =>
      obtain ⟨j, hj, rfl, hs⟩ := hrel
      clear A0
      by_cases hlt : j < n
      · obtain ⟨T, hT⟩ := get_of_lt (l := ts) (j := j) (by rw [← L2.out]; exact hlt)
        obtain ⟨bb, off, rfl, hc⟩ := HX.out.get (ne_of_get hT)
        obtain ⟨x0, x1, x2, x3, x4, x5, hx⟩ := hc j _ hT
        have hK := HK.out _ hs.out.2.2
        have c0 := hK _ _ hx.c0; have c1 := hK _ _ hx.c1; have c2 := hK _ _ hx.c2; have c3 := hK _ _ hx.c3
        have HT := Lib.hid hT
        have IC : Hid (∀ o, Calls Tryz.prog 38 #[nv, .agg #[.int .u8 T.op, str T.name, .slice x0 x1 x2, .slice x3 x4 x5]] (wr.alloc o) fun e w' => ∃ v, e = .returned v ∧ FmVal (hide (lo (wr.alloc o)) w') (f (stAt f s0 ts j) T).1 v ∧ I (f (stAt f s0 ts j) T).2 w' ∧ ButE E (wr.alloc o) w') := fun o =>
          HF.out j T HT.out _ _ (HI.out _ _ _ hs.out.2.1 (fun k hk => ((Below.refl _ wr).alloc (Nat.le_refl _) o).block k (by have := hs.out.2.2.size; omega))) (hs.out.2.2.alloc o) ⟨_, _, _, _, _, _, rfl, (hx.at_.keep hK).keep (keeps_of_below ((Below.refl _ _).alloc (Nat.le_refl _) _)), (hx.at'.keep hK).keep (keeps_of_below ((Below.refl _ _).alloc (Nat.le_refl _) _))⟩
        clear hc hx hT hK
        go_wp2_with (go_at_call 38
                     refine (IC.out _).mono ?_
                     rintro e w3 ⟨v3, rfl, ⟨fa, fn, fc, fb, fm, fd, rfl, h3, h4⟩, i3, b3⟩
                     have FA := hs.out.1.keep (W' := w3) (fun k h1 h2 => (b3.block k (by simp; omega) (fun e => by have := HE.out k e; have := HG.out; omega)).trans (((Below.refl _ wr).alloc (Nat.le_refl _) _).block k h2))
                     obtain ⟨⟨p0, q0⟩, f0, p1, f1, p2, f2, p3, f3⟩ := FA.cells4 hlt
                     obtain ⟨u1, q1⟩ := Classical.axiomOfChoice p1
                     obtain ⟨u2, q2⟩ : ∃ u2 : Value → Value → Value, ∀ a b, ((w3.setCell ⟨G, j * 4, none⟩ a).setCell ⟨G, j * 4 + 1, none⟩ b).cell? ⟨G, j * 4 + 2, none⟩ = some (u2 a b) := ⟨fun a b => (p2 a b).choose, fun a b => (p2 a b).choose_spec⟩
                     obtain ⟨u3, q3⟩ : ∃ u3 : Value → Value → Value → Value, ∀ a b c, (((w3.setCell ⟨G, j * 4, none⟩ a).setCell ⟨G, j * 4 + 1, none⟩ b).setCell ⟨G, j * 4 + 2, none⟩ c).cell? ⟨G, j * 4 + 3, none⟩ = some (u3 a b c) := ⟨fun a b c => (p3 a b c).choose, fun a b c => (p3 a b c).choose_spec⟩
                     clear p1 p2 p3
                     have H3 := Lib.hid (And.intro FA (And.intro i3 b3))
                     have R3 := Lib.hid (And.intro h3 h4)
                     clear FA i3 b3 h3 h4)
        go_roundw
        case rel =>
          refine ⟨j + 1, by omega, by go_num, ?_⟩
          obtain ⟨FA, i3, b3⟩ := H3.out
          have e := inTurn_take f s0 HT.out
          have g := HG.out
          have lg : G < wr.heap.size := by obtain ⟨cs, h1, -, -⟩ := hs.out.1; exact (Array.getElem?_eq_some_iff.1 h1).1
          have K : ∀ o, Keeps (hide (lo (wr.alloc o)) w3) (hide (fun k => decide (k < G + 1)) w3) := fun o => hide_keeps2 fun k a b => ⟨by simp [lo] at b; simp; omega, rfl⟩
          refine ⟨?_, ?_, ?_⟩
          · rw [e, fmsDs_app]
            have := FillAt.put4 FA hlt (fm_cells (R3.out.1.keep (K _)) (R3.out.2.keep (K _)))
            simpa [fmsDs] using this
          · have : stAt f s0 ts (j + 1) = (f (stAt f s0 ts j) T).2 := by unfold stAt; rw [e]; rfl
            rw [this]
            exact HI.out _ w3 _ i3 (fun k hk => by rw [Below.heap_setCell _ _ _ _ (by show k ≠ G; omega), Below.heap_setCell _ _ _ _ (by show k ≠ G; omega), Below.heap_setCell _ _ _ _ (by show k ≠ G; omega), Below.heap_setCell _ _ _ _ (by show k ≠ G; omega)])
          · exact (((((hs.out.2.2.alloc _).trans b3).set (by omega) _ _).set (by omega) _ _).set (by omega) _ _).set (by omega) _ _
        case measure => simp [intOf]; omega
      · have ej : j = n := by omega
        obtain ⟨FA, i3, b3⟩ := hs.out
        have et : ts.take j = ts := List.take_of_length_le (by rw [← L2.out]; omega)
        rw [et] at FA
        have i4 : I (inTurn f s0 ts).2 wr := by have := i3; unfold stAt at this; rwa [et] at this
        have FE : Hid (FmsAt (hide (lo W) wr) (inTurn f s0 ts).1 (.slice (some ⟨G, 0, none⟩) n n) ∧ I (inTurn f s0 ts).2 wr ∧ ButE E W wr) := by
          refine ⟨?_, i4, b3⟩
          have le : (inTurn f s0 ts).1.length = n := by rw [inTurn_len, ← L2.out]
          show At _ (.sl 4 (inTurn f s0 ts).1.length (fmsDs (inTurn f s0 ts).1)) _
          rw [le]
          rw [ej] at FA
          have ld : (fmsDs (inTurn f s0 ts).1).length = n * 4 := by rw [fmsDs_four, le]
          exact FillAt.at FA ld (by unfold maxLen; omega) (by have := HG.out; omega)
        clear FA i3 b3 i4 et ej hs
        go_wp2_with fail
        go_ret
        exact ⟨_, rfl, FE.out⟩
end Go.Proofs.YtppfalbnhnpbnaaGreatDoor
