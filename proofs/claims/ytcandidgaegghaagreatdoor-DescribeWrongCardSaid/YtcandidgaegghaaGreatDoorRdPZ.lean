/- describe.readLine at a line of a right proof: all kinds of steps. Conditions: those of each statement; the program's tables (rows, MaxLen) lie as laid. slices.Clone at a list of proofs; the list that ReadProof keeps. Conditions: none but those of each statement. -/
import Derived.Test.YtcandidgaegghaaGreatDoorRdMWZ
import Derived.Test.YtcandidgaegghaaGreatDoorProofB
import Derived.Lib.SliceRun
section
namespace Go.Proofs.YtcandidgaegghaaGreatDoor
open Go Go.RowKit Ly
set_option maxRecDepth 10000
set_option linter.unusedSimpArgs false
set_option linter.unusedVariables false
/-- How long the text of a step is. -/
theorem body_len {q : Pf} (hok : q.ok = true) {k : Nat} (hk : k + q.steps ≤ 1000000) : (bodyText q.rule q.form q.label (premTexts k q.sub q.marks)).length ≤ 20000000 := by
  obtain ⟨r, f, lb, sub, ms⟩ := q
  simp only [Pf.ok, Bool.and_eq_true] at hok
  simp only [Pf.steps] at hk
  simp only [Pf.rule, Pf.form, Pf.label, Pf.sub, Pf.marks]
  have h2 := (right_len hok.1.1).2
  have h3 := shaped_marks hok.1.2
  have h4 := prems_len sub k ms h3 (by omega)
  have h5 := joinBy_le' cs (by decide) (premTexts k sub ms) h4
  rw [premTexts_length] at h5
  have hs := hok.1.2
  unfold shaped at hs
  unfold bodyText
  by_cases r0 : r = []
  · simp only [r0, if_true, Bool.and_eq_true, decide_eq_true_eq] at hs ⊢
    have := itoa_len (n := lb) (by omega) (by omega)
    simp only [List.length_append, show wAssume.length = 7 from rfl, show cs.length = 2 from rfl]
    omega
  · by_cases r1 : r = hole
    · simp only [r1, if_true, if_false, show hole ≠ [] by decide]
      simp only [List.length_append, show wStill.length = 15 from rfl]
      omega
    · simp only [r0, r1, if_false, Bool.and_eq_true, decide_eq_true_eq] at hs ⊢
      have hr : r.length ≤ 16 := by
        have := hs.1.1.1.1
        cases r with
        | nil => simp
        | cons c t => simp [ruleName] at this; simp; omega
      have hj : sub.length * 4000010 ≤ 4 * 4000010 := Nat.mul_le_mul_right _ hs.1.1.2
      have hb : (if (premTexts k sub ms).isEmpty = true then [] else wFrom ++ joinBy cs (premTexts k sub ms)).length ≤ 6 + 4 * 4000010 := by
        split
        · simp
        · simp only [List.length_append, show wFrom.length = 6 from rfl]; omega
      generalize (if (premTexts k sub ms).isEmpty = true then [] else wFrom ++ joinBy cs (premTexts k sub ms)) = B at *
      simp only [List.length_append, show wBy.length = 5 from rfl]
      omega
theorem readLine_c (q : Pf) (hok : q.ok = true) (k : Nat) (hk : k + q.steps ≤ 1000000) (w : World) (hm : MaxAt w) (hr : RowsAt w) :
    Calls Tryz.prog 120 #[str (bodyText q.rule q.form q.label (premTexts k q.sub q.marks))] w (RetLine q q.sub.length w) := by
  have hl := body_len hok hk
  obtain ⟨r, f, lb, sub, ms⟩ := q
  simp only [Pf.ok, Bool.and_eq_true] at hok
  simp only [Pf.steps] at hk
  simp only [Pf.rule, Pf.form, Pf.label, Pf.sub, Pf.marks] at hl ⊢
  have h3 := shaped_marks hok.1.2
  have h4 := prems_len sub k ms h3 (by omega)
  have hs := hok.1.2
  have hf := hok.1.1
  unfold shaped at hs
  by_cases r0 : r = []
  · subst r0
    simp only [if_true, Bool.and_eq_true, decide_eq_true_eq, List.isEmpty_iff] at hs
    obtain ⟨⟨h5, rfl⟩, h6, h7⟩ := hs
    have e : sub = [] := List.eq_nil_of_length_eq_zero h5
    subst e
    obtain ⟨n, rfl⟩ : ∃ n : Nat, lb = (n : Int) := ⟨lb.toNat, by omega⟩
    exact readLine_assume f hf n (by omega) _ w hm hr
  · by_cases r1 : r = hole
    · subst r1
      simp only [if_true, if_false, show hole ≠ [] by decide, Bool.and_eq_true, decide_eq_true_eq, List.isEmpty_iff] at hs
      obtain ⟨⟨h5, rfl⟩, rfl⟩ := hs
      have e : sub = [] := List.eq_nil_of_length_eq_zero h5
      subst e
      exact readLine_hole f hf 0 _ (by omega) w hm hr
    · simp only [r0, r1, if_false, Bool.and_eq_true, decide_eq_true_eq] at hs
      obtain ⟨⟨⟨⟨hrn, h6⟩, h7⟩, h8⟩, h9⟩ := hs
      subst h6
      by_cases hp : sub = []
      · subst hp
        have e : ms = [] := List.eq_nil_of_length_eq_zero h8
        subst e
        exact readLine_bare r hrn r1 f hf 0 (by simpa [premTexts] using (show (bodyText r f 0 (premTexts k [] [])).length ≤ 1000000000 by omega)) w hm hr
      · have hps : premTexts k sub ms ≠ [] := fun e => hp (premTexts_ne.1 e)
        have key := readLine_list r hrn r1 f hf 0 (premTexts k sub ms) hps (premTexts_not sub k ms (marksOk_of h9)) ms (premTexts_get sub k ms) (by rw [premTexts_length]; exact h8) h3 (fun x hx => by have := h4 x hx; omega) (by omega) w hm hr
        rw [premTexts_length] at key
        exact key
end Go.Proofs.YtcandidgaegghaaGreatDoor
end
section
namespace Go.Proofs.YtcandidgaegghaaGreatDoor
open Go Go.RowKit Ly
set_option maxRecDepth 10000
set_option linter.unusedSimpArgs false
set_option linter.unusedVariables false
def oneD : D → Prop
  | .val v => v.oneCell' = true
  | .sl _ _ _ => True
theorem Pf.ds_one : ∀ p : Pf, ∀ d ∈ p.ds, oneD d
  | .mk r (.mk o nm ts fs) l sub ms, d, hd => by
    simp only [Pf.ds, Fm.ds, List.mem_cons, List.mem_append, List.mem_nil_iff, or_false] at hd
    rcases hd with rfl | ((rfl | rfl | rfl | rfl) | rfl | rfl | rfl) <;> first | trivial | rfl
theorem pfsDs_one : ∀ l : List Pf, ∀ d ∈ pfsDs l, oneD d
  | [], d, hd => by simp [pfsDs] at hd
  | p :: ps, d, hd => by
    simp only [pfsDs, List.mem_append] at hd
    rcases hd with hd | hd
    · exact Pf.ds_one p d hd
    · exact pfsDs_one ps d hd
theorem cells_one {W : World} {ds : List D} {xs : List Value} (h : CellsAt W ds xs) (h1 : ∀ d ∈ ds, oneD d) : ∀ u ∈ xs, u.oneCell' = true := fun u hu => by
  obtain ⟨j, hj, e⟩ := List.mem_iff_getElem.1 hu
  have hd : ds[j]? = some (ds[j]'(by have := h.1; omega)) := List.getElem?_eq_getElem _
  obtain ⟨v, hv, ha⟩ := h.2 j _ hd
  have e1 : xs[j]? = some u := by rw [List.getElem?_eq_getElem hj, e]
  rw [e1] at hv; cases hv
  have o := h1 _ (List.mem_of_getElem? hd)
  revert ha o
  cases ds[j]'(by have := h.1; omega) with
  | val v => intro ha o; have : u = v := ha; rw [this]; exact o
  | sl s n l => intro ha _; obtain ⟨a, c, rfl, _⟩ := ha; rfl
set_option maxHeartbeats 2000000 in
theorem clone_c (a : Addr) (n c : Nat) (xs : List Value) (hl : xs.length = n * 8) (h1 : ∀ u ∈ xs, u.oneCell' = true) (hn : n ≤ 1000000) (w : World) (hc : ∀ j u, xs[j]? = some u → w.cell? (a.add j) = some u) :
    Calls Tryz.prog 121 #[.slice (some a) n c] w fun e w' => ∃ v', e = .returned v' ∧ w'.ownsRow w.heap.size 53 8 v' n xs ∧ Below w.heap.size w w' := by
  obtain ⟨i0, hi0, hz0, hs0, hb0⟩ := info_parts info53
  have q50 : ∀ (w : World) (a : Option Addr) (n c n' c' : Nat), (binOp .eql 50 (.slice a n c) (.slice none n' c')).run Tryz.prog w = .ok (.bool a.isNone) w := fun w a n c n' c' => Lib.run_eql_slice_nil w _ _ a n c n' c' Tryz.underlying50
  have A := Lib.hid hc
  clear hc
  go_enter Tryz.func121, Tryz.ntmps121
  go_wp2_with (at_builtin; refine wpList_append_own_at _ rfl _ _ 50 rfl w.heap.size 53 i0 (.agg #[.string ⟨#[]⟩, .int .u8 0, .string ⟨#[]⟩, .slice none 0 0, .slice none 0 0, .int .i64 0, .slice none 0 0, .slice none 0 0]) 8 144 Tryz.underlying50 hi0 hz0 hs0 hb0 rfl (by decide) _ 0 [] rfl (World.ownsRow_made w #[] 0 (Nat.le_refl _) (Nat.zero_le _) rfl) a n c xs rfl hl (fun j u hj => Lib.cell?_alloc_some _ (A.out j u hj)) h1 (by unfold maxLen; omega) (by omega) (by simp) ?_)
  intro v' w1 hown hgrow hnil hat
  go_wp2
  go_ret
  refine ⟨v', rfl, by simpa using hown, ?_⟩
  exact ((Below.refl _ w).alloc (Nat.le_refl _) _).grown hgrow (by simp) (by intro k hk; simp [Value.ownBlock] at hk; omega)
set_option maxHeartbeats 1000000 in
theorem clone_nil (n c : Nat) (w : World) : Calls Tryz.prog 121 #[.slice none n c] w fun e w' => e = .returned (.slice none 0 0) ∧ w' = w := by
  have q50 : ∀ (w : World) (a : Option Addr) (n c n' c' : Nat), (binOp .eql 50 (.slice a n c) (.slice none n' c')).run Tryz.prog w = .ok (.bool a.isNone) w := fun w a n c n' c' => Lib.run_eql_slice_nil w _ _ a n c n' c' Tryz.underlying50
  go_enter Tryz.func121, Tryz.ntmps121
  go_wp2
  go_ret
  exact ⟨rfl, rfl⟩
/- The list that ReadProof keeps. -/
theorem CellsAt.drop {W : World} {ds : List D} {xs : List Value} (h : CellsAt W ds xs) (m : Nat) : CellsAt W (ds.drop m) (xs.drop m) := by
  refine ⟨by simp [h.1], fun j d hd => ?_⟩
  rw [List.getElem?_drop] at hd
  obtain ⟨u, hu, ha⟩ := h.2 _ d hd
  exact ⟨u, by rw [List.getElem?_drop]; exact hu, ha⟩
theorem OwnDs.cut {p : Nat → Bool} {base size n j c : Nat} {w : World} {e : TypeId} {ds : List D} {a : Option Addr} (h : OwnDs p base w e size n ds (.slice a n c)) (hj : j ≤ n) : OwnDs p base w e size j (ds.take (j * size)) (.slice a j c) := by
  obtain ⟨xs, ho, hc⟩ := h
  have hjs : j * size ≤ n * size := Nat.mul_le_mul_right _ hj
  refine ⟨xs.take (j * size), ⟨by rw [List.length_take, ho.1]; omega, ?_⟩, ?_⟩
  · rcases ho.2 with ⟨h1, h2⟩ | ⟨g, cap, cur, h1, hb, hg, h2, h3, h4, h5⟩
    · cases h1
      obtain rfl : j = 0 := by omega
      exact .inl ⟨rfl, rfl⟩
    · cases h1
      exact .inr ⟨g, _, cur, rfl, hb, hg, by omega, h3, h4, by rw [← h5, List.take_take, Nat.min_eq_left hjs]⟩
  · cases a <;> exact hc.take _
structure RP (w : World) (S : List Pf) (v : Value) (wr : World) : Prop where
  bw : Below w.heap.size w wr
  res : wr.heap[w.heap.size]? = some (.cells #[str [], .int .u8 0, str [], .slice none 0 0, .slice none 0 0, .int .i64 0, .slice none 0 0, .slice none 0 0] 53 (0, 0))
  own : OwnDs (lo1 w) (w.heap.size + 1) wr 53 8 S.length (pfsDs S) v
theorem RP.form {w wr : World} {S : List Pf} {v : Value} (R : RP w S v wr) : ∃ a c, v = .slice a S.length c := by
  obtain ⟨xs, ho, _⟩ := R.own
  exact row_form ho
theorem RP.base {w wr : World} {S : List Pf} {v : Value} (R : RP w S v wr) : w.heap.size + 1 ≤ wr.heap.size := (Array.getElem?_eq_some_iff.1 R.res).1
/-- The last premises, copied: cells and where they lie. -/
theorem RP.tail {w wr : World} {T U : List Pf} {a : Option Addr} {n c : Nat} (R : RP w (T ++ U) (.slice a n c) wr) :
    ∃ xs, xs.length = U.length * 8 ∧ (∀ u ∈ xs, u.oneCell' = true) ∧ CellsAt (hide (fun k => lo1 w k || decide ((Value.slice a n c).ownBlock = some k)) wr) (pfsDs U) xs ∧ ∀ g o, a = some ⟨g, o, none⟩ → o = 0 ∧ ∀ j u, xs[j]? = some u → wr.cell? ⟨g, T.length * 8 + j, none⟩ = some u := by
  obtain ⟨xs, ho, hc⟩ := R.own
  have e : (pfsDs (T ++ U)).drop (T.length * 8) = pfsDs U := by rw [pfsDs_append, ← pfsDs_length, List.drop_left]
  have hc' := hc.drop (T.length * 8)
  rw [e] at hc'
  refine ⟨xs.drop (T.length * 8), by rw [hc'.1, pfsDs_length], cells_one hc' (pfsDs_one U), hc', fun g o ha => ?_⟩
  subst ha
  rcases ho.2 with ⟨h1, _⟩ | ⟨g', cap, cur, h1, _⟩
  · cases h1
  · cases h1
    refine ⟨rfl, fun j u hu => ?_⟩
    rw [List.getElem?_drop] at hu
    have := ho.cells (g := g) rfl _ u hu
    rw [Addr.add_lit] at this
    simpa using this
theorem RP.clone {w wr w8 : World} {T U : List Pf} {a : Option Addr} {n c : Nat} {xs : List Value} (R : RP w (T ++ U) (.slice a n c) wr) (b8 : Below wr.heap.size wr w8) (xl : xs.length = U.length * 8) (x1 : ∀ u ∈ xs, u.oneCell' = true)
    (xa : ∀ g o, a = some ⟨g, o, none⟩ → o = 0 ∧ ∀ j u, xs[j]? = some u → wr.cell? ⟨g, T.length * 8 + j, none⟩ = some u) (hU : U.length ≤ 1000000) (a' : Option Addr) (n' c' : Nat) (hn : n' = U.length) (ha : a' = a.map (fun x => x.add (T.length * 8)) ∨ (a' = a ∧ U.length = 0)) :
    Calls Tryz.prog 121 #[.slice a' n' c'] w8 fun e w' => ∃ v', e = .returned v' ∧ w'.ownsRow w8.heap.size 53 8 v' U.length xs ∧ Below w8.heap.size w8 w' := by
  subst hn
  obtain ⟨zs, ho, _⟩ := R.own
  obtain ⟨_, _, e⟩ := R.form
  cases e
  rcases ho.2 with ⟨h1, h2⟩ | ⟨g, cap, cur, h1, _⟩
  · obtain ⟨rfl, -, rfl⟩ := Value.slice.inj h1
    have hU0 : U.length = 0 := by rw [List.length_append] at h2; omega
    have e0 : a' = none := by rcases ha with h | h <;> simp [h]
    subst e0
    refine (clone_nil _ _ _).mono fun e w' ⟨h3, h4⟩ => ⟨_, h3, ?_, by rw [h4]; exact Below.refl _ _⟩
    have : xs = [] := List.eq_nil_of_length_eq_zero (by omega)
    rw [this, hU0]
    exact World.ownsRow_nil _ _ _ _
  · cases h1
    obtain ⟨-, xa⟩ := xa g 0 rfl
    rcases ha with rfl | ⟨rfl, h0⟩
    · refine clone_c _ _ _ xs xl x1 hU w8 fun j u hu => ?_
      have := keeps_of_below b8 _ _ (xa j u hu)
      show w8.cell? (((⟨g, 0, none⟩ : Addr).add (T.length * 8)).add j) = some u
      rw [Addr.add_lit, Addr.add_lit]
      simpa using this
    · refine clone_c _ _ _ xs xl x1 hU w8 fun j u hu => ?_
      have : xs = [] := List.eq_nil_of_length_eq_zero (by omega)
      rw [this] at hu; simp at hu
theorem RP.cap {w wr : World} {S : List Pf} {a : Option Addr} {n c : Nat} (R : RP w S (.slice a n c) wr) : n ≤ c ∧ c ≤ maxLen := by
  obtain ⟨zs, ho, _⟩ := R.own
  rcases ho.2 with ⟨h1, h2⟩ | ⟨g, cap, cur, h1, _, _, h2, h3, _⟩
  · obtain ⟨rfl, rfl, rfl⟩ := Value.slice.inj h1; exact ⟨Nat.le_refl _, Nat.zero_le _⟩
  · cases h1; exact ⟨h2, h3⟩
/-- The premises of a step, in the copy. -/
theorem RP.copied {w wr w1 : World} {T U : List Pf} {a : Option Addr} {n c base : Nat} {xs : List Value} {v : Value} (R : RP w (T ++ U) (.slice a n c) wr) (hs : wr.heap.size ≤ base) (hc : CellsAt (hide (fun k => lo1 w k || decide ((Value.slice a n c).ownBlock = some k)) wr) (pfsDs U) xs)
    (ho : w1.ownsRow base 53 8 v U.length xs) (B : Below wr.heap.size wr w1) : PfsAt (hide (fun k => lo1 w k || decide ((Value.slice a n c).ownBlock = some k)) w1) U v := by
  have lt := own_lt R.own
  have O : OwnDs (fun k => lo1 w k || decide ((Value.slice a n c).ownBlock = some k)) base w1 53 8 U.length (pfsDs U) v := by
    refine ⟨xs, ho, hc.keep (hide_keeps2 fun k h1 h2 => ⟨?_, B.block k h1⟩)⟩
    rw [Bool.or_eq_false_iff]
    refine ⟨h2, ?_⟩
    simp only [decide_eq_false_iff_not]
    intro e
    have := (ho.lt k e).1
    omega
  have hb := R.base
  exact O.at fun k hk => by
    simp only [lo1, Bool.or_eq_false_iff, decide_eq_false_iff_not]
    exact ⟨by omega, fun e => by have := lt k e; omega⟩
theorem row_fill6 {W : World} {g : Nat} {y z0 z1 z2 z3 z4 z5 z6 z7 : Value} (h : W.heap[g]? = some (.cells #[z0, z1, z2, z3, z4, z5, z6, z7] 53 (0, 0))) :
    (W.setCell ⟨g, 6, none⟩ y).heap[g]? = some (.cells #[z0, z1, z2, z3, z4, z5, y, z7] 53 (0, 0)) := by
  have h0 := set_block (o := 6) (u := y) h
  simp only [List.setIfInBounds_toArray, List.set_cons_zero, List.set_cons_succ] at h0
  exact h0
/-- The step's variable behind the store of its premises. -/
theorem RP.filled {w wr w5 w7 w9 : World} {T : List Pf} {q : Pf} {a fa fb s qa ca : Option Addr} {n c fn fc fm fd sn sc qn qc m cc : Nat} {xs : List Value} (R : RP w (T ++ q.sub) (.slice a n c) wr) (b5 : Below wr.heap.size wr w5) (b7 : Below w5.heap.size w5 w7)
    (h1 : TmsAt (hide (lo w5) w7) q.form.args (.slice fa fn fc)) (h2 : FmsAt (hide (lo w5) w7) q.form.sub (.slice fb fm fd)) (h4 : MarksAt (hide (lo w5) w7) q.marks (.slice qa qn qc))
    (xc : CellsAt (hide (fun k => lo1 w k || decide ((Value.slice a n c).ownBlock = some k)) wr) (pfsDs q.sub) xs)
    (ho : w9.ownsRow (w7.alloc (.cells #[str q.rule, .int .u8 q.form.op, str q.form.name, .slice fa fn fc, .slice fb fm fd, .int .i64 q.label, .slice s sn sc, .slice qa qn qc] 53)).heap.size 53 8 (.slice ca m cc) q.sub.length xs)
    (b9 : Below (w7.alloc (.cells #[str q.rule, .int .u8 q.form.op, str q.form.name, .slice fa fn fc, .slice fb fm fd, .int .i64 q.label, .slice s sn sc, .slice qa qn qc] 53)).heap.size (w7.alloc (.cells #[str q.rule, .int .u8 q.form.op, str q.form.name, .slice fa fn fc, .slice fb fm fd, .int .i64 q.label, .slice s sn sc, .slice qa qn qc] 53)) w9) :
    w9.heap[w7.heap.size]? = some (.cells #[str q.rule, .int .u8 q.form.op, str q.form.name, .slice fa fn fc, .slice fb fm fd, .int .i64 q.label, .slice s sn sc, .slice qa qn qc] 53 (0, 0)) ∧
    ∀ wF, wF = w9.setCell ⟨w7.heap.size, 6, none⟩ (.slice ca m cc) → wF.heap[w7.heap.size]? = some (.cells #[str q.rule, .int .u8 q.form.op, str q.form.name, .slice fa fn fc, .slice fb fm fd, .int .i64 q.label, .slice ca m cc, .slice qa qn qc] 53 (0, 0)) ∧ Below wr.heap.size wr wF ∧
      CellsAt (hide (fun k => lo1 w k || decide ((Value.slice a n c).ownBlock = some k)) wF) q.ds [str q.rule, .int .u8 q.form.op, str q.form.name, .slice fa fn fc, .slice fb fm fd, .int .i64 q.label, .slice ca m cc, .slice qa qn qc] := by
  have c9 := kc b9 (heap_alloc_new w7 _)
  refine ⟨c9, fun wF hF => ?_⟩
  have lt := own_lt R.own
  have hb := R.base
  have z5 := b5.size
  have z7 := b7.size
  have B8 := belowThen (belowThen b5 b7) ((Below.refl _ _).alloc (Nat.le_refl _) (.cells #[str q.rule, .int .u8 q.form.op, str q.form.name, .slice fa fn fc, .slice fb fm fd, .int .i64 q.label, .slice s sn sc, .slice qa qn qc] 53))
  have B9 := belowThen B8 b9
  rw [World.size_alloc] at ho
  have BF : Below wr.heap.size wr wF := by rw [hF]; exact B9.setCell (by show wr.heap.size ≤ w7.heap.size; omega) _
  have oF : wF.ownsRow (w7.heap.size + 1) 53 8 (.slice ca m cc) q.sub.length xs := ownsRow_turned ho fun i o hi hio _ => by rw [hF, Below.heap_setCell _ _ _ _ (by show i ≠ w7.heap.size; omega)]; exact hio
  have K : Keeps (hide (lo w5) w7) (hide (fun k => lo1 w k || decide ((Value.slice a n c).ownBlock = some k)) wF) := hide_keeps2 fun k h1 h2 => by
    simp only [lo, lo1, decide_eq_false_iff_not, Nat.not_lt, Bool.or_eq_false_iff] at h2 ⊢
    refine ⟨⟨by omega, fun e => by have := lt k e; omega⟩, ?_⟩
    rw [hF, Below.heap_setCell _ _ _ _ (by show k ≠ w7.heap.size; omega), b9.block k (by simp; omega)]
    exact Below.heap_alloc _ _ _ h1
  exact ⟨by rw [hF]; exact row_fill6 c9, BF, pf_cells (h1.keep K) (h2.keep K) (R.copied (by omega) xc oF BF) (h4.keep K)⟩
/-- One step more: its premises go, it comes. -/
theorem RP.step {w wr w1 : World} {T : List Pf} {q : Pf} {a : Option Addr} {n c : Nat} {ys : List Value} (R : RP w (T ++ q.sub) (.slice a n c) wr) (b1 : Below wr.heap.size wr w1)
    (he : CellsAt (hide (fun k => lo1 w k || decide ((Value.slice a n c).ownBlock = some k)) w1) q.ds ys) :
    ∃ xs, (w1.alloc (.cells ys.toArray 53)).ownsRow (w.heap.size + 1) 53 8 (.slice a T.length c) T.length xs ∧ ∀ v' w5, w5.ownsRow (w.heap.size + 1) 53 8 v' (T.length + 1) (xs ++ ys) →
      (w1.alloc (.cells ys.toArray 53)).grownBy w5 (Value.slice a T.length c).ownBlock → (v'.ownBlock = (Value.slice a T.length c).ownBlock ∨ v'.ownBlock = some (w1.alloc (.cells ys.toArray 53)).heap.size) → RP w (T ++ [q]) v' w5 := by
  have hv := own_lt R.own
  have hob : (Value.slice a T.length c).ownBlock = (Value.slice a n c).ownBlock := by cases a <;> rfl
  obtain ⟨a', c', e⟩ := R.form
  cases e
  have O := R.own.cut (j := T.length) (by simp)
  rw [← pfsDs_take, List.take_left] at O
  obtain ⟨xs, ho, hf⟩ := own_put (ty := 53) O lo1_off b1 (by rw [hob]; exact he)
  refine ⟨xs, ho, fun v' w5 h5 hg hat => ?_⟩
  have B1 : Below wr.heap.size wr (w1.alloc (.cells ys.toArray 53)) := belowThen b1 ((Below.refl _ _).alloc (Nat.le_refl _) _)
  have hb := R.base
  have hs := B1.size
  have gb : ∀ j, j < w.heap.size + 1 → w5.heap[j]? = wr.heap[j]? := fun j hj => by
    rw [hg.block j (by omega) (fun e => by rw [hob] at e; have := hv j e.symm; omega)]
    exact B1.block j (by omega)
  refine ⟨⟨hg.os.trans (B1.os.trans R.bw.os), hg.tape.trans (B1.tape.trans R.bw.tape), hg.output.trans (B1.output.trans R.bw.output), Nat.le_trans R.bw.size (Nat.le_trans hs hg.size), fun j hj => (gb j (by omega)).trans (R.bw.block j hj)⟩, (gb _ (by omega)).trans R.res, ?_⟩
  have := hf v' w5 h5 hg hat
  rwa [List.length_append, List.length_singleton, pfsDs_append, show pfsDs [q] = q.ds by simp [pfsDs]]
theorem unhide {p : Nat → Bool} {W : World} : Keeps (hide p W) W := fun a u hu => by rw [hide_cell (hide_none hu)] at hu; exact hu
/-- One proof is left: where it lies. -/
structure Only (w wr : World) (P : Pf) (g : Nat) (x : Option Addr) (xk xe : Nat) (y : Option Addr) (m d : Nat) (s : Option Addr) (sn sc : Nat) (q : Option Addr) (qn qc : Nat) : Prop where
  ge : w.heap.size + 1 ≤ g
  c0 : wr.cell? ⟨g, 0, none⟩ = some (str P.rule)
  c1 : wr.cell? ⟨g, 1, none⟩ = some (.int .u8 P.form.op)
  c2 : wr.cell? ⟨g, 2, none⟩ = some (str P.form.name)
  c3 : wr.cell? ⟨g, 3, none⟩ = some (.slice x xk xe)
  c4 : wr.cell? ⟨g, 4, none⟩ = some (.slice y m d)
  c5 : wr.cell? ⟨g, 5, none⟩ = some (.int .i64 P.label)
  c6 : wr.cell? ⟨g, 6, none⟩ = some (.slice s sn sc)
  c7 : wr.cell? ⟨g, 7, none⟩ = some (.slice q qn qc)
  h1 : TmsAt (hide (lo1 w) wr) P.form.args (.slice x xk xe)
  h2 : FmsAt (hide (lo1 w) wr) P.form.sub (.slice y m d)
  h3 : PfsAt (hide (lo1 w) wr) P.sub (.slice s sn sc)
  h4 : MarksAt (hide (lo1 w) wr) P.marks (.slice q qn qc)
theorem Only.below {w wr w' : World} {P : Pf} {g : Nat} {x y s q : Option Addr} {xk xe m d sn sc qn qc : Nat} (O : Only w wr P g x xk xe y m d s sn sc q qn qc) (b : Below wr.heap.size wr w') : Only w w' P g x xk xe y m d s sn sc q qn qc := by
  have k := keeps_of_below b
  have K : Keeps (hide (lo1 w) wr) (hide (lo1 w) w') := hide_keeps2 fun i h1 h2 => ⟨h2, b.block i h1⟩
  exact ⟨O.ge, k _ _ O.c0, k _ _ O.c1, k _ _ O.c2, k _ _ O.c3, k _ _ O.c4, k _ _ O.c5, k _ _ O.c6, k _ _ O.c7, O.h1.keep K, O.h2.keep K, O.h3.keep K, O.h4.keep K⟩
theorem RP.only {w wr : World} {P : Pf} {a : Option Addr} {n c : Nat} (R : RP w [P] (.slice a n c) wr) : ∃ g x xk xe y m d s sn sc q qn qc, a = some ⟨g, 0, none⟩ ∧ n = 1 ∧ g < wr.heap.size ∧ Only w wr P g x xk xe y m d s sn sc q qn qc := by
  have lt := own_lt R.own
  obtain ⟨xs, ho, hc⟩ := R.own
  obtain ⟨a0, c0, e0⟩ := row_form ho
  rcases ho.2 with ⟨e, h0⟩ | ⟨g, cap, cur, e, hb, hg, _⟩
  · cases h0
  · obtain rfl : a = some ⟨g, 0, none⟩ := by cases e; rfl
    have hx := fun j u h => ho.cells (g := g) rfl j u h
    have hk : Keeps (hide (fun k => lo1 w k || decide ((Value.slice (some ⟨g, 0, none⟩) n c).ownBlock = some k)) wr) (hide (lo1 w) wr) := hide_keeps2 fun k h1 h2 => ⟨(Bool.or_eq_false_iff.1 h2).1, rfl⟩
    obtain ⟨r, ⟨op, nm, ta, sub⟩, lb, ps, ms⟩ := P
    have cell : ∀ t d, (pfsDs [Pf.mk r (.mk op nm ta sub) lb ps ms])[t]? = some d → ∃ u, wr.cell? ⟨g, t, none⟩ = some u ∧ At (hide (lo1 w) wr) d u := by
      intro t d hd
      obtain ⟨u, h1, h2⟩ := hc.2 _ d hd
      have := hx _ u h1
      rw [Addr.add_lit] at this
      exact ⟨u, by simpa using this, At.keep hk _ _ h2⟩
    obtain ⟨u0, k0, p0⟩ := cell 0 (.val (str r)) rfl
    obtain ⟨u1, k1, p1⟩ := cell 1 (.val (.int .u8 op)) rfl
    obtain ⟨u2, k2, p2⟩ := cell 2 (.val (str nm)) rfl
    obtain ⟨u3, k3, p3⟩ := cell 3 (.sl 3 ta.length (tmsDs ta)) rfl
    obtain ⟨u4, k4, p4⟩ := cell 4 (.sl 4 sub.length (fmsDs sub)) rfl
    obtain ⟨u5, k5, p5⟩ := cell 5 (.val (.int .i64 lb)) rfl
    obtain ⟨u6, k6, p6⟩ := cell 6 (.sl 8 ps.length (pfsDs ps)) rfl
    obtain ⟨u7, k7, p7⟩ := cell 7 (.sl 1 ms.length (ms.map marksD)) rfl
    obtain ⟨x, xk, xe, rfl⟩ := TmsAt.slice (l := ta) p3
    obtain ⟨y, m, d, rfl⟩ := FmsAt.slice (l := sub) p4
    obtain ⟨s, sn, sc', rfl⟩ := PfsAt.slice (l := ps) p6
    obtain ⟨q, qn, qc, rfl⟩ := MarksAt.slice (l := ms) p7
    have e0 : u0 = _ := p0
    have e1 : u1 = _ := p1
    have e2 : u2 = _ := p2
    have e5 : u5 = _ := p5
    subst e0 e1 e2 e5
    exact ⟨g, x, xk, xe, y, m, d, s, sn, sc', q, qn, qc, rfl, by cases e; rfl, (Array.getElem?_eq_some_iff.1 hg).1, hb, k0, k1, k2, k3, k4, k5, k6, k7, p3, p4, p6, p7⟩
/-- The result's variable behind the store of a proof. -/
def proofW (W : World) (g : Nat) (a b c d e f x y : Value) : World :=
  (((((((W.setCell ⟨g, 0, none⟩ a).setCell ⟨g, 1, none⟩ b).setCell ⟨g, 2, none⟩ c).setCell ⟨g, 3, none⟩ d).setCell ⟨g, 4, none⟩ e).setCell ⟨g, 5, none⟩ f).setCell ⟨g, 6, none⟩ x).setCell ⟨g, 7, none⟩ y
theorem proofW_low {W : World} {g i : Nat} {a b c d e f x y : Value} (h0 : i ≠ g) : (proofW W g a b c d e f x y).heap[i]? = W.heap[i]? := by
  unfold proofW
  rw [Below.heap_setCell _ _ _ _ h0, Below.heap_setCell _ _ _ _ h0, Below.heap_setCell _ _ _ _ h0, Below.heap_setCell _ _ _ _ h0, Below.heap_setCell _ _ _ _ h0, Below.heap_setCell _ _ _ _ h0, Below.heap_setCell _ _ _ _ h0, Below.heap_setCell _ _ _ _ h0]
theorem proofW_rest {W : World} {g : Nat} {a b c d e f x y : Value} : (proofW W g a b c d e f x y).os = W.os ∧ (proofW W g a b c d e f x y).tape = W.tape ∧ (proofW W g a b c d e f x y).output = W.output := by
  unfold proofW
  simp only [setCell_rest, and_self]
theorem proofW_size {W : World} {g : Nat} {a b c d e f x y : Value} : (proofW W g a b c d e f x y).heap.size = W.heap.size := by simp [proofW]
theorem proof_fin {w W W' : World} {a b c d e f x y z0 z1 z2 z3 z4 z5 z6 z7 : Value} (bw : Below w.heap.size w W) (hres : W.heap[w.heap.size]? = some (.cells #[z0, z1, z2, z3, z4, z5, z6, z7] 53 (0, 0))) (hW : W' = proofW W w.heap.size a b c d e f x y) :
    Below w.heap.size w W' ∧ W'.heap[w.heap.size]? = some (.cells #[a, b, c, d, e, f, x, y] 53 (0, 0)) ∧ Keeps (hide (lo1 w) W) W' := by
  have low : ∀ i, i ≠ w.heap.size → W'.heap[i]? = W.heap[i]? := fun i hi => by rw [hW]; exact proofW_low hi
  have rest : W'.os = W.os ∧ W'.tape = W.tape ∧ W'.output = W.output := by rw [hW]; exact proofW_rest
  have size : W'.heap.size = W.heap.size := by rw [hW]; exact proofW_size
  have fill : W'.heap[w.heap.size]? = some (.cells #[a, b, c, d, e, f, x, y] 53 (0, 0)) := by rw [hW]; exact row_fill hres
  clear hW
  refine ⟨⟨rest.1.trans bw.os, rest.2.1.trans bw.tape, rest.2.2.trans bw.output, by rw [size]; exact bw.size, fun i hi => (low i (by omega)).trans (bw.block i hi)⟩, fill, fun p u hu => ?_⟩
  have h1 := hide_none hu
  rw [hide_cell h1] at hu
  simp only [lo1, decide_eq_false_iff_not] at h1
  rw [← hu]
  exact World.cell?_of_block (low _ (by omega))
end Go.Proofs.YtcandidgaegghaaGreatDoor
end
