/- skeleton.forms, skeleton.right at claims whose formulas are right. Conditions: those of each statement. -/
import Derived.Test.YtppfalbnhnpbnaaGreatDoorFoAZ
import Derived.Test.YtppfalbnhnpbnaaGreatDoorEaDZ
set_option linter.unusedSimpArgs false
set_option linter.unusedVariables false
namespace Go.Proofs.YtppfalbnhnpbnaaGreatDoor
open Go Go.RowKit Ly
set_option maxRecDepth 10000
theorem forms_c (L R : List Fm) (x : Value) (w : World) (hx0 : SqVal w L R x) (hL : L.length ≤ 400) (hR : R.length ≤ 400) :
    Calls Tryz.prog 56 #[x] w fun e w' => ∃ v, e = .returned v ∧ FmsAt w' (L ++ R) v ∧ Below w.heap.size w w' := by
  obtain ⟨a, n, c, b, m, d, rfl, hx, hy⟩ := hx0
  obtain ⟨W0, hW0⟩ : ∃ W0, (w.alloc (.cells #[.slice a n c, .slice b m d] 26)) = W0 := ⟨_, rfl⟩
  obtain ⟨W1, hW1⟩ : ∃ W1, (W0.alloc (.cells #[.slice a n c, .slice b m d] 24)) = W1 := ⟨_, rfl⟩
  have b0 : Below w.heap.size w W0 := by rw [← hW0]; exact (Below.refl _ _).alloc (Nat.le_refl _) _
  have s0 : W0.heap.size = w.heap.size + 1 := by rw [← hW0]; simp
  have b1 : Below w.heap.size w W1 := by rw [← hW1]; exact b0.alloc (by omega) _
  have r0 : W0.heap[w.heap.size]? = some (.cells #[.slice a n c, .slice b m d] 26 (0, 0)) := by rw [← hW0]; exact heap_alloc_new w _
  have r1 : W1.heap[w.heap.size + 1]? = some (.cells #[.slice a n c, .slice b m d] 24 (0, 0)) := by rw [← hW1, ← s0]; exact heap_alloc_new W0 _
  have CC : Hid (Calls Tryz.prog 102 #[.slice (some ⟨w.heap.size + 1, 0, none⟩) 2 2] W1 fun e w' => ∃ v, e = .returned v ∧ FmsAt w' (L ++ R) v ∧ Below W1.heap.size W1 w') :=
    Concat2_c L R a b n c m d _ W1 (hx.keep (keeps_of_below b1)) (hy.keep (keeps_of_below b1)) r1 (by have := hx.len.1; omega) (by have := hy.len.1; omega)
  have B1 := Lib.hid b1
  obtain ⟨y0, y1, z0, z1⟩ := row2 r0
  clear b0 b1 r0 r1 hx hy hL hR
  go_enter Tryz.func56, Tryz.ntmps56
  go_wp2_with (go_at_call 102; refine CC.out.mono ?_; rintro e w2 ⟨v, rfl, h2, b2⟩; have H2 := Lib.hid (And.intro h2 b2); clear h2 b2 CC)
  go_ret
  exact ⟨_, rfl, H2.out.1, B1.out.trans (H2.out.2.mono B1.out.size)⟩
theorem right1_c (f : Fm) (x : Value) (w : World) (hr : RowsAt w) (hx0 : FmVal w f x) (h : f.right = true) : Calls Tryz.prog 68 #[x] w fun e w' => e = .returned (.bool false) ∧ Below w.heap.size w w' := by
  obtain ⟨a, n, c, b, m, d, rfl, hx, hy⟩ := hx0
  obtain ⟨W0, hW0⟩ : ∃ W0, (w.alloc (.cells #[.int .u8 f.op, str f.name, .slice a n c, .slice b m d] 40)) = W0 := ⟨_, rfl⟩
  have b0 : Below w.heap.size w W0 := by rw [← hW0]; exact (Below.refl _ _).alloc (Nat.le_refl _) _
  have r0 : W0.heap[w.heap.size]? = some (.cells #[.int .u8 f.op, str f.name, .slice a n c, .slice b m d] 40 (0, 0)) := by rw [← hW0]; exact heap_alloc_new w _
  have K := keeps_of_below b0
  have RC : Hid (Calls Tryz.prog 16 #[.agg #[.int .u8 f.op, str f.name, .slice a n c, .slice b m d]] W0 fun e w' => e = .returned (.bool true) ∧ Below W0.heap.size W0 w') := Right_yes f _ W0 (hr.keep K) ⟨_, _, _, _, _, _, rfl, hx.keep K, hy.keep K⟩ h
  have B0 := Lib.hid b0
  obtain ⟨⟨y0, y1, y2, y3⟩, -⟩ := row40 r0
  clear b0 r0 K hx hy hr h
  go_enter Tryz.func68, Tryz.ntmps68
  go_wp2_with (go_at_call 16; refine RC.out.mono ?_; rintro e w2 ⟨rfl, b2⟩; have B2 := Lib.hid b2; clear b2 RC)
  go_ret
  exact ⟨rfl, B0.out.trans (B2.out.mono B0.out.size)⟩
set_option maxHeartbeats 2000000 in
theorem IndexFunc_c (l : List Fm) (a : Option Addr) (n c : Nat) (w : World) (hr : RowsAt w) (hx : FmsAt w l (.slice a n c)) (h : ∀ f ∈ l, f.right = true) (hn : n ≤ 1000) :
    Calls Tryz.prog 118 #[.slice a n c, .func (.func 68) #[] #[]] w fun e w' => e = .returned (.int .i64 (-1)) ∧ Below w.heap.size w w' := by
  have hl := hx.len
  have LX := Lib.hid hl.1
  have HX := Lib.hid hx
  have RC : Hid (∀ f x X, f ∈ l → Below w.heap.size w X → FmVal X f x → Calls Tryz.prog 68 #[x] X fun e w' => e = .returned (.bool false) ∧ Below X.heap.size X w') := fun f x X hf hb hv => right1_c f x X (hr.keep (keeps_of_below hb)) hv (h f hf)
  clear hl hx hr h
  go_enter Tryz.func118, Tryz.ntmps118
  go_wp2_with fail
  go_loopw [8] (fun i wr => ∃ j : Nat, j ≤ n ∧ i = .int .i64 j ∧ Hid (Below w.heap.size w wr)) (fun i _ => n - (intOf i).toNat)
  case atStart => exact ⟨0, Nat.zero_le _, rfl, Below.refl _ _⟩
  case round =>
    obtain ⟨j, hj, rfl, hb⟩ := hrel
    by_cases hlt : j < n
    · obtain ⟨T, hT⟩ := get_of_lt (l := l) (j := j) (by rw [← LX.out]; exact hlt)
      obtain ⟨bb, off, rfl, hc⟩ := HX.out.get (ne_of_get hT)
      obtain ⟨x0, x1, x2, x3, x4, x5, hx⟩ := hc j _ hT
      have hK := keeps_of_below hb.out
      have c0 := hK _ _ hx.c0; have c1 := hK _ _ hx.c1; have c2 := hK _ _ hx.c2; have c3 := hK _ _ hx.c3
      have R1 : Hid (Calls Tryz.prog 68 #[.agg #[.int .u8 T.op, str T.name, .slice x0 x1 x2, .slice x3 x4 x5]] wr fun e w' => e = .returned (.bool false) ∧ Below wr.heap.size wr w') := RC.out T _ wr (List.mem_of_getElem? hT) hb.out ⟨_, _, _, _, _, _, rfl, hx.at_.keep hK, hx.at'.keep hK⟩
      clear hc hx hT hK
      go_wp2_with (go_at_call 68; refine R1.out.mono ?_; rintro e w2 ⟨rfl, b2⟩; have B2 := Lib.hid b2; clear b2 R1)
      go_roundw
      case rel => exact ⟨j + 1, by omega, by go_num, hb.out.trans (B2.out.mono hb.out.size)⟩
      case measure => simp [intOf]; omega
    · go_wp2_with fail
      go_ret
      exact ⟨rfl, hb.out⟩
theorem ContainsFunc_c (l : List Fm) (v : Value) (w : World) (hr : RowsAt w) (hx : FmsAt w l v) (h : ∀ f ∈ l, f.right = true) (hn : l.length ≤ 1000) :
    Calls Tryz.prog 67 #[v, .func (.func 68) #[] #[]] w fun e w' => e = .returned (.bool false) ∧ Below w.heap.size w w' := by
  obtain ⟨a, c, rfl, -⟩ := At.sl_inv hx
  have IC := Lib.hid (IndexFunc_c l a _ c w hr hx h hn)
  clear hr hx h hn
  go_enter Tryz.func67, Tryz.ntmps67
  go_wp2_with (go_at_call 118; refine IC.out.mono ?_; rintro e w2 ⟨rfl, b2⟩; have B2 := Lib.hid b2; clear b2 IC)
  go_ret
  exact ⟨rfl, B2.out⟩
set_option maxHeartbeats 2000000 in
theorem right_c (L R : List Fm) (x : Value) (w : World) (hr : RowsAt w) (hx0 : SqVal w L R x) (rL : ∀ f ∈ L, f.right = true) (rR : ∀ f ∈ R, f.right = true) (hL : L.length ≤ 64) (hR : R.length ≤ 64) :
    Calls Tryz.prog 35 #[x] w fun e w' => e = .returned (.bool true) ∧ Below w.heap.size w w' := by
  obtain ⟨a, n, c, b, m, d, rfl, hx, hy⟩ := hx0
  obtain ⟨W0, hW0⟩ : ∃ W0, (w.alloc (.cells #[.slice a n c, .slice b m d] 26)) = W0 := ⟨_, rfl⟩
  have b0 : Below w.heap.size w W0 := by rw [← hW0]; exact (Below.refl _ _).alloc (Nat.le_refl _) _
  have r0 : W0.heap[w.heap.size]? = some (.cells #[.slice a n c, .slice b m d] 26 (0, 0)) := by rw [← hW0]; exact heap_alloc_new w _
  have K := keeps_of_below b0
  have hn : n ≤ 64 := by rw [hx.len.1]; exact hL
  have hm : m ≤ 64 := by rw [hy.len.1]; exact hR
  have FC : Hid (Calls Tryz.prog 56 #[.agg #[.slice a n c, .slice b m d]] W0 fun e w' => ∃ v, e = .returned v ∧ FmsAt w' (L ++ R) v ∧ Below W0.heap.size W0 w') := forms_c L R _ W0 ⟨_, _, _, _, _, _, rfl, hx.keep K, hy.keep K⟩ (by omega) (by omega)
  have CC : Hid (∀ X v, Below w.heap.size w X → FmsAt X (L ++ R) v → Calls Tryz.prog 67 #[v, .func (.func 68) #[] #[]] X fun e w' => e = .returned (.bool false) ∧ Below X.heap.size X w') := fun X v hb hv =>
    ContainsFunc_c (L ++ R) v X (hr.keep (keeps_of_below hb)) hv (fun f hf => by rcases List.mem_append.1 hf with h | h; exact rL f h; exact rR f h) (by rw [List.length_append]; omega)
  have B0 := Lib.hid b0
  obtain ⟨y0, y1, z0, z1⟩ := row2 r0
  clear b0 r0 K hx hy hr rL rR hL hR
  go_enter Tryz.func35, Tryz.ntmps35
  go_wp2_with (first
    | (go_at_call 56
       refine FC.out.mono ?_
       rintro e w2 ⟨v2, rfl, h2, b2⟩
       obtain ⟨fa, fk, fc, rfl⟩ : ∃ a k c, v2 = .slice a k c := by obtain ⟨a, c, rfl, -⟩ := At.sl_inv h2; exact ⟨_, _, _, rfl⟩
       have H2 := Lib.hid (And.intro h2 (B0.out.trans (b2.mono B0.out.size)))
       clear h2 b2 FC)
    | (go_at_call 67
       refine (CC.out _ _ H2.out.2 H2.out.1).mono ?_
       rintro e w3 ⟨rfl, b3⟩
       have B3 := Lib.hid (H2.out.2.trans (b3.mono H2.out.2.size))
       clear b3 CC))
  go_ret
  exact ⟨rfl, B3.out⟩
end Go.Proofs.YtppfalbnhnpbnaaGreatDoor
namespace Go.Proofs.YtppfalbnhnpbnaaGreatDoor
open Go Go.RowKit Ly
set_option maxRecDepth 10000
theorem Contains107_in (l L : List (Bs × Nat)) (hL : ∀ s, s ∈ L ↔ s ∈ l) (s : Bs × Nat) : decide (s ∈ L) = decide (s ∈ l) := decide_eq_decide.2 (hL s)
set_option maxHeartbeats 4000000 in
theorem has1_c (hS : SortedC) (f : Fm) (x : Value) (cs : Nat) (nm : Bs) (ar : Nat) (W : World) (hc : W.heap[cs]? = some (.cells #[str [80], str nm, .int .i64 ar] 104 (0, 0))) (hx0 : FmVal W f x) (hok : f.ok = true) (hn : f.nodes ≤ 100000) :
    Calls Tryz.prog 106 #[x, one cs] W fun e w' => e = .returned (.bool (decide ((nm, ar) ∈ f.preds))) ∧ Below W.heap.size W w' := by
  obtain ⟨a, n, c, b, m, d, rfl, hx, hy⟩ := hx0
  obtain ⟨W1, hW1⟩ : ∃ W1, W.alloc (.cells #[.int .u8 f.op, str f.name, .slice a n c, .slice b m d] 40) = W1 := ⟨_, rfl⟩
  have b1 : Below W.heap.size W W1 := by rw [← hW1]; exact (Below.refl _ _).alloc (Nat.le_refl _) _
  have r0 : W1.heap[W.heap.size]? = some (.cells #[.int .u8 f.op, str f.name, .slice a n c, .slice b m d] 40 (0, 0)) := by rw [← hW1]; exact heap_alloc_new W _
  have r1 : W1.heap[cs]? = some (.cells #[str [80], str nm, .int .i64 ar] 104 (0, 0)) := (b1.block _ (Array.getElem?_eq_some_iff.1 hc).1).trans hc
  have PC : Hid (∀ X, Below W.heap.size W X → Calls Tryz.prog 108 #[.agg #[.int .u8 f.op, str f.name, .slice a n c, .slice b m d]] X fun e w' => ∃ L v, e = .returned v ∧ (∀ s, s ∈ L ↔ s ∈ f.preds) ∧ SymsList w' L v ∧ Below X.heap.size X w' ∧ L.length ≤ 100000) := fun X hb =>
    Predicates_c hS f _ X ⟨_, _, _, _, _, _, rfl, hx.keep (keeps_of_below hb), hy.keep (keeps_of_below hb)⟩ hok hn
  have B1 := Lib.hid b1
  have R0 := Lib.hid r0
  have R1 := Lib.hid r1
  obtain ⟨y0, y1, y2⟩ := row3 r1
  generalize hq : decide ((nm, ar) ∈ f.preds) = q
  have HQ := Lib.hid hq
  clear b1 r0 r1 hx hy hok hn hc hS hq
  go_enter Tryz.func106, Tryz.ntmps106
  go_upto_region 3 with fail
  refine wp_region_V (q := 5) (S := fun w' => Below W1.heap.size W1 w') (by kernel_rfl) (Below.refl _ _).drew (fun hHeld => ?_)
  refine wpAnyV_take (i := 0) (v := ?_) rfl (by kernel_rfl) (by kernel_rfl) (by kernel_rfl) (by kernel_rfl) (fun _ _ _ h => h) (Or.inl ⟨by rfl, ?_⟩) (by assumption) ?_
  rotate_left
  · (intro w0 hSw; obtain ⟨⟨z0, z1, z2, z3⟩, -⟩ := row40 ((hSw.block _ (Array.getElem?_eq_some_iff.1 R0.out).1).trans R0.out); go_simp; (try with_reducible rfl))
  try simp only [Act.put, List.getElem_toArray, List.getElem_cons_succ, List.getElem_cons_zero, List.setIfInBounds_toArray, List.set_cons_zero, List.set_cons_succ]
  refine wpAnyV_take (i := 2) (v := ?_) rfl (by kernel_rfl) (by kernel_rfl) (by kernel_rfl) (by kernel_rfl) (fun _ _ _ h => h) (Or.inl ⟨by rfl, ?_⟩) (by assumption) ?_
  rotate_left
  · (intro w0 hSw; go_simp; (try with_reducible rfl))
  try simp only [Act.put, List.getElem_toArray, List.getElem_cons_succ, List.getElem_cons_zero, List.setIfInBounds_toArray, List.set_cons_zero, List.set_cons_succ]
  refine wpAnyV_take (i := 3) (v := ?_) rfl (by kernel_rfl) (by kernel_rfl) (by kernel_rfl) (by kernel_rfl) (fun _ _ _ h => h) (Or.inl ⟨by rfl, ?_⟩) (by assumption) ?_
  rotate_left
  · (intro w0 hSw; obtain ⟨z0, z1, z2⟩ := row3 ((hSw.block _ (Array.getElem?_eq_some_iff.1 R1.out).1).trans R1.out); go_simp; (try with_reducible rfl))
  try simp only [Act.put, List.getElem_toArray, List.getElem_cons_succ, List.getElem_cons_zero, List.setIfInBounds_toArray, List.set_cons_zero, List.set_cons_succ]
  refine wpAnyV_one (j := 1) (by kernel_rfl) (by kernel_rfl) rfl (fun K hK => ?_)
  go_simp
  go_at_call 108
  refine (PC.out _ B1.out.drew).mono ?_
  rintro e w5 ⟨L, v, rfl, hL, hv, b5, hll⟩
  have H5 := Lib.hid (And.intro hL (And.intro hv hll))
  have hS5 := hHeld.trans b5
  clear hL hv b5 hll PC hHeld
  go_simp
  refine hK.out _ _ hS5 (fun hHeld => ?_)
  clear hK K hS5
  try simp only [Act.put, List.getElem_toArray, List.getElem_cons_succ, List.getElem_cons_zero, List.setIfInBounds_toArray, List.set_cons_zero, List.set_cons_succ]
  refine wpAnyV_one (j := 4) (by kernel_rfl) (by kernel_rfl) rfl (fun K hK => ?_)
  go_simp
  go_at_call 107
  refine (Contains107_c L (nm, ar) v w5 H5.out.2.1 (Nat.le_trans H5.out.2.2 (by omega))).mono ?_
  rintro e w6 ⟨he, b6⟩
  rw [Contains107_in f.preds L H5.out.1, HQ.out] at he
  subst he
  have hS6 := hHeld.trans (b6.mono hHeld.size)
  have BF : Hid (Below W.heap.size W w6) := B1.out.trans (hS6.mono B1.out.size)
  clear b6 hHeld
  go_simp
  refine hK.out _ _ hS6 (fun hHeld => ?_)
  clear hK K hS6
  try simp only [Act.put, List.getElem_toArray, List.getElem_cons_succ, List.getElem_cons_zero, List.setIfInBounds_toArray, List.set_cons_zero, List.set_cons_succ]
  refine wpAnyV_last (by kernel_rfl) (by kernel_rfl) rfl (fun K hK => ?_)
  go_simp
  refine hK.out _ _ ?_
  clear hK K hHeld
  go_wp2_with fail
  go_ret
  exact ⟨rfl, BF.out⟩
end Go.Proofs.YtppfalbnhnpbnaaGreatDoor
namespace Go.Proofs.YtppfalbnhnpbnaaGreatDoor
open Go Go.RowKit Ly
set_option maxRecDepth 10000
set_option maxHeartbeats 2000000 in
theorem IndexFunc106_c (l : List Fm) (p : Fm → Bool) (cs : Nat) (a : Option Addr) (n c : Nat) (w : World) (hx : FmsAt w l (.slice a n c)) (hn : n ≤ 1000)
    (h : ∀ f ∈ l, ∀ x X, Below w.heap.size w X → FmVal X f x → Calls Tryz.prog 106 #[x, one cs] X fun e w' => e = .returned (.bool (p f)) ∧ Below X.heap.size X w') :
    Calls Tryz.prog 118 #[.slice a n c, .func (.func 106) #[] #[one cs]] w fun e w' => ∃ z : Int, e = .returned (.int .i64 z) ∧ (0 ≤ z ↔ l.any p = true) ∧ Below w.heap.size w w' := by
  have hl := hx.len
  have LX := Lib.hid hl.1
  have HX := Lib.hid hx
  have RC := Lib.hid h
  clear hl hx h
  go_enter Tryz.func118, Tryz.ntmps118
  go_wp2_with fail
  go_loopw [8] (fun i wr => ∃ j : Nat, j ≤ n ∧ i = .int .i64 j ∧ Hid ((l.take j).any p = false ∧ Below w.heap.size w wr)) (fun i _ => n - (intOf i).toNat)
  case atStart => exact ⟨0, Nat.zero_le _, rfl, by simp, Below.refl _ _⟩
  case round =>
    obtain ⟨j, hj, rfl, hb⟩ := hrel
    by_cases hlt : j < n
    · obtain ⟨T, hT⟩ := get_of_lt (l := l) (j := j) (by rw [← LX.out]; exact hlt)
      obtain ⟨bb, off, rfl, hc⟩ := HX.out.get (ne_of_get hT)
      obtain ⟨x0, x1, x2, x3, x4, x5, hx⟩ := hc j _ hT
      have hK := keeps_of_below hb.out.2
      have c0 := hK _ _ hx.c0; have c1 := hK _ _ hx.c1; have c2 := hK _ _ hx.c2; have c3 := hK _ _ hx.c3
      have R1 : Hid (Calls Tryz.prog 106 #[.agg #[.int .u8 T.op, str T.name, .slice x0 x1 x2, .slice x3 x4 x5], one cs] wr fun e w' => e = .returned (.bool (p T)) ∧ Below wr.heap.size wr w') := RC.out T (List.mem_of_getElem? hT) _ wr hb.out.2 ⟨_, _, _, _, _, _, rfl, hx.at_.keep hK, hx.at'.keep hK⟩
      have HT := Lib.hid hT
      clear hc hx hT hK
      generalize hq : p T = q at *
      have HQ := Lib.hid hq
      clear hq
      cases q
      · go_wp2_with (go_at_call 106; refine R1.out.mono ?_; rintro e w2 ⟨rfl, b2⟩; have B2 := Lib.hid b2; clear b2 R1)
        go_roundw
        case rel =>
          refine ⟨j + 1, by omega, by go_num, ?_, hb.out.2.trans (B2.out.mono hb.out.2.size)⟩
          rw [List.take_add_one, HT.out, List.any_append, hb.out.1]
          show (false || (p T || false)) = false
          rw [HQ.out]; rfl
        case measure => simp [intOf]; omega
      · go_wp2_with (go_at_call 106; refine R1.out.mono ?_; rintro e w2 ⟨rfl, b2⟩; have B2 := Lib.hid b2; clear b2 R1)
        go_ret
        exact ⟨_, rfl, ⟨fun _ => List.any_eq_true.2 ⟨T, List.mem_of_getElem? HT.out, HQ.out⟩, fun _ => by omega⟩, hb.out.2.trans (B2.out.mono hb.out.2.size)⟩
    · have e : l.take j = l := List.take_of_length_le (by rw [← LX.out]; omega)
      have NE := Lib.hid hb.out.1
      rw [e] at NE
      have BF := Lib.hid hb.out.2
      clear e hb
      go_wp2_with fail
      go_ret
      exact ⟨_, rfl, ⟨fun h => absurd h (by decide), fun h => by rw [NE.out] at h; cases h⟩, BF.out⟩
theorem ContainsFunc106_c (l : List Fm) (p : Fm → Bool) (cs : Nat) (v : Value) (w : World) (hx : FmsAt w l v) (hn : l.length ≤ 1000)
    (h : ∀ f ∈ l, ∀ x X, Below w.heap.size w X → FmVal X f x → Calls Tryz.prog 106 #[x, one cs] X fun e w' => e = .returned (.bool (p f)) ∧ Below X.heap.size X w') :
    Calls Tryz.prog 67 #[v, .func (.func 106) #[] #[one cs]] w fun e w' => e = .returned (.bool (l.any p)) ∧ Below w.heap.size w w' := by
  obtain ⟨a, c, rfl, -⟩ := At.sl_inv hx
  have IC := Lib.hid (IndexFunc106_c l p cs a _ c w hx hn h)
  generalize hq : l.any p = q at *
  clear hx hn h hq
  go_enter Tryz.func67, Tryz.ntmps67
  go_wp2_with (go_at_call 118; refine IC.out.mono ?_; rintro e w2 ⟨z, rfl, hz, b2⟩; have B2 := Lib.hid b2; have HZ := Lib.hid hz; clear b2 hz IC)
  go_ret
  refine ⟨?_, B2.out⟩
  show Ending.returned (.bool (decide (z ≥ 0))) = _
  congr 2
  rw [Bool.eq_iff_iff, decide_eq_true_eq]
  exact HZ.out
end Go.Proofs.YtppfalbnhnpbnaaGreatDoor
namespace Go.Proofs.YtppfalbnhnpbnaaGreatDoor
open Go Go.RowKit Ly
set_option maxRecDepth 10000
def RetS (L R : List Fm) (w : World) (e : Ending) (w' : World) : Prop := ∃ a n c b m d, e = .returned (.tuple #[.agg #[.slice a n c, .slice b m d], .int .i64 0]) ∧ FmsAt (hide (lo w) w') L (.slice a n c) ∧ FmsAt (hide (lo w) w') R (.slice b m d) ∧ Below w.heap.size w w'
theorem res11 (tmps : Array Value) (w : World) (g : Nat) (a b z : Value) (h3 : tmps.getD 2 undef = one g) (h4 : tmps.getD 3 undef = z) (hg : w.heap[g]? = some (.cells #[a, b] 26 (0, 0))) :
    (results Tryz.f11 tmps).run Tryz.prog w = .ok (.tuple #[.agg #[a, b], z]) w := by
  have e3 : tmps[2]?.getD undef = .pointer (some ⟨g, 0, none⟩) := by simpa using h3
  have e4 : tmps[3]?.getD undef = z := by simpa using h4
  simp [results, Tryz.results11, e3, e4, asAddr, run_loadVar_row w g 26 26 #[a, b] (0, 0) _ hg Tryz.underlying26 rfl iSq]
set_option maxHeartbeats 8000000 in
theorem Of_c (L R : List Fm) (x : Value) (W : World) (hr : RowsAt W) (hp : PowAt W) (hx0 : SqVal W L R x) (rL : ∀ f ∈ L, f.right = true) (rR : ∀ f ∈ R, f.right = true) (hL : L.length ≤ 64) (hR : R.length ≤ 64) :
    Calls Tryz.prog 11 #[x] W (RetS (skOf L R).1 (skOf L R).2 W) := by
  obtain ⟨a, n, c, b, m, d, rfl, hx, hy⟩ := hx0
  obtain ⟨W3, hW3⟩ : ∃ W3, (W.alloc (.cells #[.slice a n c, .slice b m d] 26)).alloc (.cells #[.slice none 0 0, .slice none 0 0] 26) = W3 := ⟨_, rfl⟩
  have bw : Below W.heap.size W W3 := by rw [← hW3]; exact ((Below.refl _ _).alloc (Nat.le_refl _) _).alloc (by simp) _
  have r0 : W3.heap[W.heap.size]? = some (.cells #[.slice a n c, .slice b m d] 26 (0, 0)) := by rw [← hW3]; exact keep_new _ (heap_alloc_new W _)
  have r1 : W3.heap[W.heap.size + 1]? = some (.cells #[.slice none 0 0, .slice none 0 0] 26 (0, 0)) := by
    rw [← hW3]
    have := heap_alloc_new (W.alloc (.cells #[.slice a n c, .slice b m d] 26)) (.cells #[.slice none 0 0, .slice none 0 0] 26)
    rwa [World.size_alloc] at this
  have RC : Hid (Calls Tryz.prog 35 #[.agg #[.slice a n c, .slice b m d]] W3 fun e w' => e = .returned (.bool true) ∧ Below W3.heap.size W3 w') :=
    right_c L R _ W3 (hr.keep (keeps_of_below bw)) ⟨_, _, _, _, _, _, rfl, hx.keep (keeps_of_below bw), hy.keep (keeps_of_below bw)⟩ rL rR hL hR
  obtain ⟨S1, hS1⟩ : ∃ S1, (skOf L R).1 = S1 := ⟨_, rfl⟩
  obtain ⟨S2, hS2⟩ : ∃ S2, (skOf L R).2 = S2 := ⟨_, rfl⟩
  have CC : Hid (∀ X g1 c1 gm cm, Below W.heap.size W X → NamesAt g1 c1 gm cm [] X → Calls Tryz.prog 36 #[.agg #[.slice a n c, .slice b m d], .func (.func 38) #[.agg #[.func (.func 70) #[] #[one g1, one c1], .slice none 0 0]] #[]] X fun e w' => ∃ v, e = .returned v ∧ SqVal (hide (lo X) w') S1 S2 v ∧ ButE (EN gm cm) X w') := by
    rw [← hS1, ← hS2]
    exact fun X g1 c1 gm cm hb hn => changeSk_c g1 c1 gm cm X L R _ hn (hp.below hb) (hr.keep (keeps_of_below hb)) ⟨_, _, _, _, _, _, rfl, hx.keep (keeps_of_below hb), hy.keep (keeps_of_below hb)⟩ rL rR hL hR
  rw [hS1, hS2]
  have BW := Lib.hid bw
  have R0 := Lib.hid r0
  have R1 := Lib.hid r1
  obtain ⟨y0, y1, -, -⟩ := row2 r0
  clear hx hy hr hp rL rR hL hR bw r0 r1 hS1 hS2
  go_enter Tryz.func11, Tryz.ntmps11
  go_wp2_with (go_at_call 35; refine RC.out.mono ?_; rintro e w4 ⟨rfl, b4⟩; have B4 := Lib.hid b4; clear b4 RC y0 y1)
  have G0 : Hid (w4.heap[W.heap.size]? = some (.cells #[.slice a n c, .slice b m d] 26 (0, 0))) := (B4.out.block _ (Array.getElem?_eq_some_iff.1 R0.out).1).trans R0.out
  have G1 : Hid (w4.heap[W.heap.size + 1]? = some (.cells #[.slice none 0 0, .slice none 0 0] 26 (0, 0))) := (B4.out.block _ (Array.getElem?_eq_some_iff.1 R1.out).1).trans R1.out
  have BA : Hid (Below W.heap.size W w4) := BW.out.trans (B4.out.mono BW.out.size)
  clear B4 R0 R1 BW
  refine wp_region_V (q := 5) (S := fun w' => w'.heap[W.heap.size]? = some (.cells #[.slice a n c, .slice b m d] 26 (0, 0))) (by kernel_rfl) G0.out (fun hHeld => ?_)
  refine wpAnyV_take (i := 0) (v := ?_) rfl (by kernel_rfl) (by kernel_rfl) (by kernel_rfl) (by kernel_rfl) (fun _ _ _ h => h) (Or.inl ⟨by rfl, ?_⟩) (by assumption) ?_
  rotate_left
  · (intro w0 hSw; obtain ⟨z0, z1, -, -⟩ := row2 hSw; go_simp; (try with_reducible rfl))
  try simp only [Act.put, List.getElem_toArray, List.getElem_cons_succ, List.getElem_cons_zero, List.setIfInBounds_toArray, List.set_cons_zero, List.set_cons_succ]
  refine wpAnyV_one (j := 1) (by kernel_rfl) (by kernel_rfl) rfl (fun K hK => ?_)
  go_simp
  go_at_call 37
  refine (newNames_c _).mono ?_
  rintro e w5 ⟨g1, c1, gm, cm, rfl, n5, b5, lg, lc⟩
  have N5 := Lib.hid n5
  have B5 : Hid (Below w4.heap.size w4 w5) := belowThen (Below.refl _ _).drew b5
  have hS5 := (b5.block W.heap.size (by have := (Array.getElem?_eq_some_iff.1 G0.out).1; simp; omega)).trans hHeld
  have EL : Hid (∀ k, EN gm cm k → W.heap.size + 1 < k) := fun k hk => by
    have := (Array.getElem?_eq_some_iff.1 G1.out).1
    simp at lg lc
    rcases hk with rfl | rfl <;> omega
  clear n5 b5 lg lc
  go_simp
  refine hK.out _ _ hS5 (fun hHeld2 => ?_)
  clear hK K hHeld hS5
  try simp only [Act.put, List.getElem_toArray, List.getElem_cons_succ, List.getElem_cons_zero, List.setIfInBounds_toArray, List.set_cons_zero, List.set_cons_succ]
  refine wpAnyV_one (j := 2) (by kernel_rfl) (by kernel_rfl) rfl (fun K hK => ?_)
  unfold namesV
  go_simp
  refine hK.out _ _ hHeld2 (fun hHeld3 => ?_)
  clear hK K hHeld2
  try simp only [Act.put, List.getElem_toArray, List.getElem_cons_succ, List.getElem_cons_zero, List.setIfInBounds_toArray, List.set_cons_zero, List.set_cons_succ]
  refine wpAnyV_one (j := 3) (by kernel_rfl) (by kernel_rfl) rfl (fun K hK => ?_)
  go_simp
  go_at_call 36
  refine (CC.out w5 g1 c1 gm cm (BA.out.trans (B5.out.mono BA.out.size)) N5.out).mono ?_
  rintro e w7 ⟨v7, rfl, ⟨ga, gn, gc, gb, gm', gd, rfl, h3, h4⟩, b7⟩
  have H3 := Lib.hid h3
  have H4 := Lib.hid h4
  have L1 : Hid (W.heap.size + 1 < w5.heap.size) := by have := (Array.getElem?_eq_some_iff.1 G1.out).1; have := B5.out.size; show _ < _; omega
  have B7 : Hid (But2 gm cm w5 w7) := b7.to2
  have hS7 := (b7.block W.heap.size (by have := L1.out; omega) (fun e => by have := EL.out _ e; omega)).trans hHeld3
  have Q1 : Hid (w7.heap[W.heap.size + 1]? = some (.cells #[.slice none 0 0, .slice none 0 0] 26 (0, 0))) := (b7.block _ L1.out (fun e => by have := EL.out _ e; omega)).trans ((B5.out.block _ (Array.getElem?_eq_some_iff.1 G1.out).1).trans G1.out)
  have BB : Hid (Below W.heap.size W w7) := by
    have b := BA.out.trans (B5.out.mono BA.out.size)
    refine ⟨b7.os.trans b.os, b7.tape.trans b.tape, b7.output.trans b.output, Nat.le_trans b.size b7.size, fun k hk => ?_⟩
    rw [b7.block k (by have := b.size; omega) (fun e => by have := EL.out _ e; omega)]
    exact b.block k hk
  clear h3 h4 b7 CC
  go_simp
  refine hK.out _ _ hS7 (fun hHeld4 => ?_)
  clear hK K hHeld3 hS7
  try simp only [Act.put, List.getElem_toArray, List.getElem_cons_succ, List.getElem_cons_zero, List.setIfInBounds_toArray, List.set_cons_zero, List.set_cons_succ]
  refine wpAnyV_one (j := 4) (by kernel_rfl) (by kernel_rfl) rfl (fun K hK => ?_)
  obtain ⟨p0, p1, f0, f1⟩ := row2 Q1.out
  go_simp
  have J1 := Lib.hid (set_block (o := 1) (u := .slice gb gm' gd) (set_block (o := 0) (u := .slice ga gn gc) Q1.out))
  have J3 : Hid (∀ k, k ≠ W.heap.size + 1 → ((w7.setCell ⟨W.heap.size + 1, 0, none⟩ (.slice ga gn gc)).setCell ⟨W.heap.size + 1, 1, none⟩ (.slice gb gm' gd)).heap[k]? = w7.heap[k]?) := fun k hk => by rw [Below.heap_setCell _ _ _ _ hk, Below.heap_setCell _ _ _ _ hk]
  refine hK.out _ _ ((J3.out _ (by omega)).trans hHeld4) (fun hHeld5 => ?_)
  clear hK K hHeld4 p0 p1 f0 f1
  try simp only [Act.put, List.getElem_toArray, List.getElem_cons_succ, List.getElem_cons_zero, List.setIfInBounds_toArray, List.set_cons_zero, List.set_cons_succ]
  refine wpAnyV_last (by kernel_rfl) (by kernel_rfl) rfl (fun K hK => ?_)
  go_simp
  refine hK.out _ _ ?_
  clear hK K hHeld5
  go_wp2_with fail
  refine bodyPost_ret (res11 _ _ (W.heap.size + 1) _ _ _ rfl rfl J1.out) rfl ?_
  refine ⟨ga, gn, gc, gb, gm', gd, rfl, H3.out.keep ?_, H4.out.keep ?_, (BB.out.setCell (by simp) _).setCell (by simp) _⟩
  · refine hide_keeps2 fun k h1 h2 => ?_
    have h5 : w5.heap.size ≤ k := by simpa [lo] using h2
    have := L1.out
    exact ⟨by simp [lo]; omega, J3.out k (by omega)⟩
  · refine hide_keeps2 fun k h1 h2 => ?_
    have h5 : w5.heap.size ≤ k := by simpa [lo] using h2
    have := L1.out
    exact ⟨by simp [lo]; omega, J3.out k (by omega)⟩
end Go.Proofs.YtppfalbnhnpbnaaGreatDoor
