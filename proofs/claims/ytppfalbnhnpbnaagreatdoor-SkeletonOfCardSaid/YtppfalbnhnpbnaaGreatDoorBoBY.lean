/- subst.Normal at a right formula: its normal form, in memory of its own. Conditions: the tables lie as laid. -/
import Derived.Test.YtppfalbnhnpbnaaGreatDoorNrBY
import Derived.Test.YtppfalbnhnpbnaaGreatDoorNmBY
import Derived.Test.YtppfalbnhnpbnaaGreatDoorRightY
import Derived.RangeFuncCalls
set_option linter.unusedSimpArgs false
set_option linter.unusedVariables false
namespace Go.Proofs.YtppfalbnhnpbnaaGreatDoor
open Go Go.RowKit Ly
set_option maxRecDepth 10000
mutual
theorem nr_all (M : Nat) (free : List Bs) : ∀ f : Fm, NRM M free f
  | .mk op nm ts fs => nr_step M free op nm ts fs (nr_each M free fs)
theorem nr_each (M : Nat) (free : List Bs) : ∀ fs : List Fm, ∀ f ∈ fs, NRM M free f
  | [], _, h => by cases h
  | x :: xs, f, h => by
    rcases List.mem_cons.1 h with e | e
    · rw [e]; exact nr_all M free x
    · exact nr_each M free xs f e
end
def RetF0 (r : Fm) (w : World) (e : Ending) (w' : World) : Prop := ∃ a n c b m d, e = .returned (.tuple #[.agg #[.int .u8 r.op, str r.name, .slice a n c, .slice b m d], .int .i64 0]) ∧ TmsAt (hide (lo w) w') r.args (.slice a n c) ∧ FmsAt (hide (lo w) w') r.sub (.slice b m d) ∧ Below w.heap.size w w'
theorem res26 (tmps : Array Value) (w : World) (g : Nat) (a b c d z : Value) (h3 : tmps.getD 2 undef = one g) (h4 : tmps.getD 3 undef = z) (hg : w.heap[g]? = some (.cells #[a, b, c, d] 40 (0, 0))) :
    (results Tryz.f26 tmps).run Tryz.prog w = .ok (.tuple #[.agg #[a, b, c, d], z]) w := by
  obtain ⟨fs, h1⟩ := u25
  have e3 : tmps[2]?.getD undef = .pointer (some ⟨g, 0, none⟩) := by simpa using h3
  have e4 : tmps[3]?.getD undef = z := by simpa using h4
  simp [results, Tryz.results26, e3, e4, asAddr, run_loadVar_row w g 40 40 #[a, b, c, d] (0, 0) _ hg h1 rfl i25]
set_option maxHeartbeats 8000000 in
theorem Normal_c (f : Fm) (x : Value) (W : World) (hr : RowsAt W) (hp : PowAt W) (hx0 : FmVal W f x) (hf : f.right = true) : Calls Tryz.prog 26 #[x] W (RetF0 f.normal W) := by
  obtain ⟨a, n, c, b, m, d, rfl, hx, hx'⟩ := hx0
  have RC : Hid (∀ W', Below W.heap.size W W' → Calls Tryz.prog 16 #[.agg #[.int .u8 f.op, str f.name, .slice a n c, .slice b m d]] W' fun e w' => e = .returned (.bool true) ∧ Below W'.heap.size W' w') := fun W' hb => Right_yes f _ W' (hr.keep (keeps_of_below hb)) ⟨_, _, _, _, _, _, rfl, hx.keep (keeps_of_below hb), hx'.keep (keeps_of_below hb)⟩ hf
  simp only [Fm.right, Bool.and_eq_true, decide_eq_true_eq] at hf
  have OK := Fm.okNames_of f hf.1.1
  have NC : Hid (∀ W' mn M, Below W.heap.size W W' → SetAt W' M mn (f.free []) → Calls Tryz.prog 52 #[.agg #[.int .u8 f.op, str f.name, .slice a n c, .slice b m d], .map (some M), .slice none 0 0] W' (RetF f.normal W')) := fun W' mn M hb hs =>
    nr_all M (f.free []) f [] none 0 0 mn W' _ ⟨_, _, _, _, _, _, rfl, hx.keep (keeps_of_below hb), hx'.keep (keeps_of_below hb)⟩ hs (At.sl_nil (Nat.zero_le _)) (.inl ⟨rfl, rfl, rfl⟩) (hp.below hb) OK (fun p hp => by cases hp) (by omega) (by simp; omega) (by have := Fm.free_len f []; omega)
  have SC : Hid (∀ W' cf, Below W.heap.size W W' → W'.heap[cf]? = some (.cells #[.int .u8 f.op, str f.name, .slice a n c, .slice b m d] 40 (0, 0)) → Calls Tryz.prog 53 #[.func (.func 100) #[] #[one cf]] W' fun e w' => ∃ M, e = .returned (.map (some M)) ∧ SetAt w' M (f.free []).length (f.free []) ∧ Below W'.heap.size W' w') := fun W' cf hb hc =>
    (set_c f _ _ _ _ cf W' hc ⟨_, _, _, _, _, _, rfl, hx.keep (keeps_of_below hb), hx'.keep (keeps_of_below hb)⟩ OK (by omega) (by have := Fm.free_len f []; omega) (Fm.free_ok f [] OK)).mono fun e w' h => ⟨_, h⟩
  obtain ⟨W3, hW3⟩ : ∃ W3, (W.alloc (.cells #[.int .u8 f.op, str f.name, .slice a n c, .slice b m d] 40)).alloc (.cells #[.int .u8 0, str [], .slice none 0 0, .slice none 0 0] 40) = W3 := ⟨_, rfl⟩
  have bw : Below W.heap.size W W3 := by rw [← hW3]; exact ((Below.refl _ _).alloc (Nat.le_refl _) _).alloc (by simp) _
  have r0 : W3.heap[W.heap.size]? = some (.cells #[.int .u8 f.op, str f.name, .slice a n c, .slice b m d] 40 (0, 0)) := by rw [← hW3]; exact keep_new _ (heap_alloc_new W _)
  have r1 : W3.heap[W.heap.size + 1]? = some (.cells #[.int .u8 0, str [], .slice none 0 0, .slice none 0 0] 40 (0, 0)) := by
    rw [← hW3]
    have := heap_alloc_new (W.alloc (.cells #[.int .u8 f.op, str f.name, .slice a n c, .slice b m d] 40)) (.cells #[.int .u8 0, str [], .slice none 0 0, .slice none 0 0] 40)
    rwa [World.size_alloc] at this
  have BW := Lib.hid bw
  have R0 := Lib.hid r0
  have R1 := Lib.hid r1
  obtain ⟨⟨y0, y1, y2, y3⟩, -⟩ := row40 r0
  clear hx hx' hf hr hp bw r0 r1 OK
  go_enter Tryz.func26, Tryz.ntmps26
  go_wp2_with (go_at_call 16; refine (RC.out _ BW.out).mono ?_; rintro e w4 ⟨rfl, b4⟩; have B4 := Lib.hid b4; clear b4 RC y0 y1 y2 y3)
  have G0 : Hid (w4.heap[W.heap.size]? = some (.cells #[.int .u8 f.op, str f.name, .slice a n c, .slice b m d] 40 (0, 0))) := (B4.out.block _ (Array.getElem?_eq_some_iff.1 R0.out).1).trans R0.out
  have G1 : Hid (w4.heap[W.heap.size + 1]? = some (.cells #[.int .u8 0, str [], .slice none 0 0, .slice none 0 0] 40 (0, 0))) := (B4.out.block _ (Array.getElem?_eq_some_iff.1 R1.out).1).trans R1.out
  have BA : Hid (Below W.heap.size W w4) := BW.out.trans (B4.out.mono BW.out.size)
  clear B4 R0 R1 BW
  refine wp_region_V (q := 6) (S := fun w' => w'.heap[W.heap.size]? = some (.cells #[.int .u8 f.op, str f.name, .slice a n c, .slice b m d] 40 (0, 0))) (by kernel_rfl) G0.out (fun hHeld => ?_)
  refine wpAnyV_take (i := 0) (v := ?_) rfl (by kernel_rfl) (by kernel_rfl) (by kernel_rfl) (by kernel_rfl) (fun _ _ _ h => h) (Or.inl ⟨by rfl, ?_⟩) (by assumption) ?_
  rotate_left
  · (intro w0 hSw; obtain ⟨⟨z0, z1, z2, z3⟩, -⟩ := row40 hSw; go_simp; (try with_reducible rfl))
  try simp only [Act.put, List.getElem_toArray, List.getElem_cons_succ, List.getElem_cons_zero, List.setIfInBounds_toArray, List.set_cons_zero, List.set_cons_succ]
  refine wpAnyV_take (i := 1) (v := ?_) rfl (by kernel_rfl) (by kernel_rfl) (by kernel_rfl) (by kernel_rfl) (fun _ _ _ h => h) (Or.inl ⟨by rfl, ?_⟩) (by assumption) ?_
  rotate_left
  · (intro w0 hSw; obtain ⟨⟨z0, z1, z2, z3⟩, -⟩ := row40 hSw; go_simp; (try with_reducible rfl))
  try simp only [Act.put, List.getElem_toArray, List.getElem_cons_succ, List.getElem_cons_zero, List.setIfInBounds_toArray, List.set_cons_zero, List.set_cons_succ]
  refine wpAnyV_one (j := 2) (by kernel_rfl) (by kernel_rfl) rfl (fun K hK => ?_)
  go_simp
  go_at_call 54
  refine (freeNames_c _ _ _ _ _).mono ?_
  rintro e w5 ⟨rfl, rfl⟩
  go_simp
  refine hK.out _ _ (keep_new _ hHeld) (fun hHeld2 => ?_)
  clear hK K hHeld
  try simp only [Act.put, List.getElem_toArray, List.getElem_cons_succ, List.getElem_cons_zero, List.setIfInBounds_toArray, List.set_cons_zero, List.set_cons_succ]
  refine wpAnyV_one (j := 3) (by kernel_rfl) (by kernel_rfl) rfl (fun K hK => ?_)
  go_simp
  go_at_call 53
  refine (SC.out _ w4.heap.size (BA.out.drew.alloc BA.out.size _) (heap_alloc_new w4.drew _)).mono ?_
  rintro e w6 ⟨M6, rfl, s6, b6⟩
  have HS := Lib.hid s6
  have B6 : Hid (Below w4.heap.size w4 w6) := belowThen ((Below.refl _ _).drew.alloc (Nat.le_refl _) _) b6
  have hS6 := (b6.block W.heap.size (by have := (Array.getElem?_eq_some_iff.1 G0.out).1; simp; omega)).trans hHeld2
  clear s6 b6 SC
  go_simp
  refine hK.out _ _ hS6 (fun hHeld3 => ?_)
  clear hK K hHeld2 hS6
  try simp only [Act.put, List.getElem_toArray, List.getElem_cons_succ, List.getElem_cons_zero, List.setIfInBounds_toArray, List.set_cons_zero, List.set_cons_succ]
  refine wpAnyV_one (j := 4) (by kernel_rfl) (by kernel_rfl) rfl (fun K hK => ?_)
  go_simp
  go_at_call 52
  refine (NC.out w6 (f.free []).length M6 (BA.out.trans (B6.out.mono BA.out.size)) HS.out).mono ?_
  rintro e w7 ⟨ga, gn, gc, gb, gm, gd, rfl, h3, h4, b7⟩
  have H3 := Lib.hid h3
  have H4 := Lib.hid h4
  have B7 : Hid (Below w4.heap.size w4 w7) := B6.out.trans (b7.mono B6.out.size)
  have hS7 := (b7.block W.heap.size (by have := (Array.getElem?_eq_some_iff.1 hHeld3).1; omega)).trans hHeld3
  clear h3 h4 b7 NC
  go_simp
  refine hK.out _ _ hS7 (fun hHeld4 => ?_)
  clear hK K hHeld3 hS7
  try simp only [Act.put, List.getElem_toArray, List.getElem_cons_succ, List.getElem_cons_zero, List.setIfInBounds_toArray, List.set_cons_zero, List.set_cons_succ]
  refine wpAnyV_one (j := 5) (by kernel_rfl) (by kernel_rfl) rfl (fun K hK => ?_)
  have Q1 : Hid (w7.heap[W.heap.size + 1]? = some (.cells #[.int .u8 0, str [], .slice none 0 0, .slice none 0 0] 40 (0, 0))) := (B7.out.block _ (Array.getElem?_eq_some_iff.1 G1.out).1).trans G1.out
  obtain ⟨⟨p0, p1, p2, p3⟩, f0, f1, f2, f3⟩ := row40 Q1.out
  go_simp
  have BB : Below W.heap.size W w7 := BA.out.trans (B7.out.mono BA.out.size)
  obtain ⟨g1, g2, g3⟩ := fill4 (x' := .int .u8 f.normal.op) (y' := str f.normal.name) (z' := .slice ga gn gc) (t' := .slice gb gm gd) (b := W.heap.size + 1) (by omega) BB Q1.out
  have J1 := Lib.hid g1
  have J2 := Lib.hid g2
  have J3 := Lib.hid g3
  refine hK.out _ _ ((g3 _ (by omega)).trans hHeld4) (fun hHeld5 => ?_)
  clear hK K hHeld4 g1 g2 g3 BB p0 p1 p2 p3 f0 f1 f2 f3
  try simp only [Act.put, List.getElem_toArray, List.getElem_cons_succ, List.getElem_cons_zero, List.setIfInBounds_toArray, List.set_cons_zero, List.set_cons_succ]
  refine wpAnyV_last (by kernel_rfl) (by kernel_rfl) rfl (fun K hK => ?_)
  go_simp
  refine hK.out _ _ ?_
  clear hK K hHeld5
  go_wp2_with fail
  refine bodyPost_ret (res26 _ _ (W.heap.size + 1) _ _ _ _ _ rfl rfl J1.out) rfl ?_
  refine ⟨ga, gn, gc, gb, gm, gd, rfl, H3.out.keep ?_, H4.out.keep ?_, J2.out⟩
  · refine hide_keeps2 fun k h1 h2 => ?_
    have h5 : w6.heap.size ≤ k := by simpa [lo] using h2
    have := B6.out.size
    have := (Array.getElem?_eq_some_iff.1 G1.out).1
    exact ⟨by simp [lo]; omega, J3.out k (by omega)⟩
  · refine hide_keeps2 fun k h1 h2 => ?_
    have h5 : w6.heap.size ≤ k := by simpa [lo] using h2
    have := B6.out.size
    have := (Array.getElem?_eq_some_iff.1 G1.out).1
    exact ⟨by simp [lo]; omega, J3.out k (by omega)⟩
end Go.Proofs.YtppfalbnhnpbnaaGreatDoor
namespace Go.Proofs.YtppfalbnhnpbnaaGreatDoor
open Go Go.RowKit Ly
set_option maxRecDepth 10000
theorem mem_strKeys {P : Program} {w : World} {M n : Nat} {D : DataW Value} (h : w.ownsMap P 9 hR M n D) (hk : P.underlying 9 = some .string) (x : Bs) : x ∈ strKeys D ↔ Maps.has D (.string x) = true := by
  obtain ⟨es, rfl, hko⟩ := h.keysOf
  show x ∈ es.map (fun p => strOf p.1) ↔ _
  rw [Maps.has_eq, List.any_eq_true, List.mem_map]
  constructor
  · rintro ⟨p, hp, rfl⟩
    obtain ⟨v, hv⟩ := hko p hp
    obtain ⟨y, _, hy, _⟩ := Maps.keyOf_str hk hv
    exact ⟨p, hp, by rw [hy]; simp [strOf, Lit.sameKey]⟩
  · rintro ⟨p, hp, hs⟩
    obtain ⟨v, hv⟩ := hko p hp
    obtain ⟨y, _, hy, _⟩ := Maps.keyOf_str hk hv
    rw [hy] at hs
    refine ⟨p, hp, ?_⟩
    rw [hy]
    simpa [strOf, Lit.sameKey] using hs
theorem strs_of_row {w : World} {B n : Nat} {v : Value} {L : List Bs} (h : w.ownsRow B 9 1 v n (L.map str)) (hn : n = L.length) : StrsAt w L v := by
  subst hn
  rcases h.2 with ⟨rfl, h0⟩ | ⟨g, cap, cur, rfl, hb, hg, h1, h2, h3, h4⟩
  · have : L = [] := List.eq_nil_of_length_eq_zero h0
    subst this
    exact At.sl_nil (Nat.zero_le _)
  · refine At.sl_mk (by simp) h1 h2 fun j d hd => ?_
    rw [List.getElem?_map] at hd
    obtain ⟨x, hx, rfl⟩ := Option.map_eq_some_iff.1 hd
    refine ⟨str x, ?_, rfl⟩
    have hc := h.cells (g := g) rfl j (str x) (by rw [List.getElem?_map, hx]; rfl)
    rwa [addr_add] at hc
set_option maxHeartbeats 4000000 in
theorem Bound_c (f : Fm) (x : Value) (W : World) (hx0 : FmVal W f x) (hok : f.okNames = true) (hn : f.nodes ≤ 100000) (hbn : ∀ s ∈ f.binds, okS s) :
    Calls Tryz.prog 72 #[x] W fun e w' => ∃ L v, e = .returned v ∧ (∀ s, s ∈ L ↔ s ∈ f.binds) ∧ StrsAt w' L v ∧ Below W.heap.size W w' := by
  obtain ⟨a, n, c, b, m, d, rfl, hx, hx'⟩ := hx0
  obtain ⟨W1, hW1⟩ : ∃ W1, W.alloc (.cells #[.int .u8 f.op, str f.name, .slice a n c, .slice b m d] 40) = W1 := ⟨_, rfl⟩
  have bw : Below W.heap.size W W1 := by rw [← hW1]; exact (Below.refl _ _).alloc (Nat.le_refl _) _
  have r0 : W1.heap[W.heap.size]? = some (.cells #[.int .u8 f.op, str f.name, .slice a n c, .slice b m d] 40 (0, 0)) := by rw [← hW1]; exact heap_alloc_new W _
  have sz : W1.heap.size = W.heap.size + 1 := by rw [← hW1]; simp
  obtain ⟨M, hM⟩ : ∃ M, W1.heap.size = M := ⟨_, rfl⟩
  have AC : Hid (Calls Tryz.prog 120 #[.agg #[.int .u8 f.op, str f.name, .slice a n c, .slice b m d], .map (some M)] (W1.alloc (.map #[] 0)) fun e w' => e = .returned (.tuple #[]) ∧ But1 M (W1.alloc (.map #[] 0)) w' ∧ ∃ n', n' ≤ 0 + f.nodes ∧ SetAt w' M n' ([] ++ f.binds)) := by
    have b2 : Below W.heap.size W (W1.alloc (.map #[] 0)) := bw.alloc (by omega) _
    exact ab_all f (W1.alloc (.map #[] 0)) _ M 0 [] ⟨_, _, _, _, _, _, rfl, hx.keep (keeps_of_below b2), hx'.keep (keeps_of_below b2)⟩ (by rw [← hM]; exact SetAt.made W1) hok (by omega)
  have y : ∀ o, (W1.alloc o).cell? ⟨W.heap.size, 0, none⟩ = some (.int .u8 f.op) ∧ (W1.alloc o).cell? ⟨W.heap.size, 1, none⟩ = some (str f.name) ∧ (W1.alloc o).cell? ⟨W.heap.size, 2, none⟩ = some (.slice a n c) ∧ (W1.alloc o).cell? ⟨W.heap.size, 3, none⟩ = some (.slice b m d) := fun o => (row40 (keep_new o r0)).1
  have y0 := fun o => (y o).1; have y1 := fun o => (y o).2.1; have y2 := fun o => (y o).2.2.1; have y3 := fun o => (y o).2.2.2
  have BW := Lib.hid bw
  have SZ := Lib.hid sz
  have HM := Lib.hid hM
  have HN := Lib.hid hn
  have HB := Lib.hid hbn
  have hmm := @run_makeMap Tryz.prog
  clear hx hx' hok hn hbn bw r0 sz y
  go_enter Tryz.func72, Tryz.ntmps72
  go_wp2_with (first
    | (go_at_call 120; refine AC.out.mono ?_; rintro e w2 ⟨rfl, hb2, n', hn', hs2⟩; have B2 : Hid (Below W.heap.size W w2) := (BW.out.alloc BW.out.size _).trans (hb2.below (by have := SZ.out; have := HM.out; omega) (by have := SZ.out; simp; omega)); have S2 := Lib.hid hs2; have N2 := Lib.hid hn'; clear hb2 hs2 hn' AC)
    | (go_at_call 122; refine ((callsIn_wide (n := 5)).1 (Tryz.maps_Keys_122 (some M) w2)).mono ?_; rintro e w3 ⟨rfl, rfl⟩)
    | (go_at_call 121; obtain ⟨D, h1, h2, h3, -⟩ := S2.out; refine ((callsIn_wide (n := 5)).1 (Tryz.slices_Sorted_keys_121_122 M n' D hR w2 h1 (Nat.le_trans h1.size_le (by have := N2.out; have := HN.out; unfold maxLen; omega)) (by have := h1.size_le; have := N2.out; have := HN.out; omega))).mono ?_; rintro e w4 ⟨v, ss, rfl, hp, ho, hv, b4⟩; have HD := Lib.hid (And.intro h1 h2); have HO := Lib.hid ho; have HP := Lib.hid hp; have B4 := Lib.hid b4; clear h1 h2 h3 hp ho hv b4))
  go_ret
  have hsz : (w2.alloc (.cells #[.map (some M)] 93)).heap.size = w2.heap.size + 1 := by simp
  refine ⟨ss.mergeSort (fun x y => decide (x ≤ y)), v, rfl, fun s => ?_, strs_of_row HO.out (by rw [List.length_mergeSort]), B2.out.trans (((Below.refl _ w2).alloc (Nat.le_refl _) _).trans (B4.out.mono (by omega)) |>.mono B2.out.size)⟩
  rw [List.mem_mergeSort, HP.out.mem_iff, mem_strKeys HD.out.1 Tryz.underlying9]
  have hs := HD.out.2
  constructor
  · intro h
    by_cases hl : okS s
    · have := hs s hl
      rw [show litS s = .string s from rfl, h] at this
      simpa using this.symm
    · exfalso
      have hm : s ∈ strKeys D := (mem_strKeys HD.out.1 Tryz.underlying9 s).2 h
      exact hl (strKeys_le HD.out.1 Tryz.underlying9 s hm)
  · intro h
    have := hs s (HB.out s h)
    rw [show litS s = .string s from rfl] at this
    rw [this]
    simpa using h
end Go.Proofs.YtppfalbnhnpbnaaGreatDoor
