/- skeleton.change at a method value: both sides of a claim in turn. Conditions: those of each statement. -/
import Derived.Test.YtppfalbnhnpbnaaGreatDoorEaDZ
import Derived.Test.YtppfalbnhnpbnaaGreatDoorNtDZ
import Derived.Test.YtppfalbnhnpbnaaGreatDoorSameBZ
import Derived.Test.YtppfalbnhnpbnaaGreatDoorTerm30Z
import Derived.Lib.AppendZerosOnto
set_option linter.unusedSimpArgs false
set_option linter.unusedVariables false
namespace Go.Proofs.YtppfalbnhnpbnaaGreatDoor
open Go Go.RowKit Ly
set_option maxRecDepth 10000
theorem inTurn_both {St A : Type} (f : St → A → A × St) : ∀ (s : St) (l l' : List A), inTurn f s (l ++ l') = ((inTurn f s l).1 ++ (inTurn f (inTurn f s l).2 l').1, (inTurn f (inTurn f s l).2 l').2)
  | s, [], l' => by simp [inTurn]
  | s, x :: l, l' => by simp [inTurn, inTurn_both f _ l l']
theorem iSq : (Tryz.prog.info? 26).map (·.size) = some 2 := by kernel_rfl
set_option maxHeartbeats 8000000 in
theorem change38_c {St : Type} (E : Nat → Prop) (nv : Value) (I : St → World → Prop) (f : St → Fm → Fm × St) (W : World) (L R : List Fm) (s0 : St) (x : Value) (hx0 : SqVal W L R x) (hL : L.length ≤ 100000) (hR : R.length ≤ 100000) (h0 : I s0 W) (hI : Steady W.heap.size I)
    (hmap : ∀ s X, I s X → ∀ k, E k → ∃ es c, X.heap[k]? = some (.map es c)) (hE : ∀ k, E k → k < W.heap.size)
    (hf : ∀ j t, (L ++ R)[j]? = some t → ∀ X x, I (stAt f s0 (L ++ R) j) X → ButE E W X → FmVal X t x → Calls Tryz.prog 38 #[nv, x] X fun e w' => ∃ v, e = .returned v ∧ FmVal (hide (lo X) w') (f (stAt f s0 (L ++ R) j) t).1 v ∧ I (f (stAt f s0 (L ++ R) j) t).2 w' ∧ ButE E X w') :
    Calls Tryz.prog 36 #[x, .func (.func 38) #[nv] #[]] W fun e w' => ∃ v, e = .returned v ∧ SqVal (hide (lo W) w') (inTurn f s0 L).1 (inTurn f (inTurn f s0 L).2 R).1 v ∧ I (inTurn f (inTurn f s0 L).2 R).2 w' ∧ ButE E W w' := by
  obtain ⟨a, n, c, b, m, d, rfl, hx, hy⟩ := hx0
  obtain ⟨W0, hW0⟩ : ∃ W0, (W.alloc (.cells #[.slice a n c, .slice b m d] 26)).alloc (.cells #[.slice none 0 0, .slice none 0 0] 26) = W0 := ⟨_, rfl⟩
  have bw : Below W.heap.size W W0 := by rw [← hW0]; exact ((Below.refl _ _).alloc (Nat.le_refl _) _).alloc (by simp) _
  have r0 : W0.heap[W.heap.size]? = some (.cells #[.slice a n c, .slice b m d] 26 (0, 0)) := by rw [← hW0]; exact keep_new _ (heap_alloc_new W _)
  have r1 : W0.heap[W.heap.size + 1]? = some (.cells #[.slice none 0 0, .slice none 0 0] 26 (0, 0)) := by
    rw [← hW0]
    have := heap_alloc_new (W.alloc (.cells #[.slice a n c, .slice b m d] 26)) (.cells #[.slice none 0 0, .slice none 0 0] 26)
    rw [World.size_alloc] at this
    exact this
  have B0 : ButE E W W0 := .of_below bw
  have KW : ∀ X, ButE E W X → Keeps W X := fun X hX => hX.keeps (hmap s0 W h0)
  have C1 : Hid (Calls Tryz.prog 69 #[.slice a n c, .func (.func 38) #[nv] #[]] W0 fun e w' => ∃ v, e = .returned v ∧ FmsAt (hide (lo W0) w') (inTurn f s0 L).1 v ∧ I (inTurn f s0 L).2 w' ∧ ButE E W0 w') := by
    refine each38_c E nv I f W0 L s0 a n c (hx.keep (KW _ B0)) hL (hI _ _ _ h0 (fun k hk => bw.block k hk)) (fun s X X' h e => hI s X X' h (fun k hk => e k (by have := bw.size; omega))) hmap (fun k hk => by have := hE k hk; have := bw.size; omega) (fun j t ht X x hI' hX hv => ?_)
    have e : stAt f s0 (L ++ R) j = stAt f s0 L j := by
      unfold stAt
      rw [List.take_append_of_le_length (Nat.le_of_lt (List.getElem?_eq_some_iff.1 ht).1)]
    have := hf j t (by rw [List.getElem?_append_left (List.getElem?_eq_some_iff.1 ht).1]; exact ht) X x (by rw [e]; exact hI') (B0.trans hX) hv
    rwa [e] at this
  have C2 : Hid (∀ X, I (inTurn f s0 L).2 X → ButE E W X → Calls Tryz.prog 69 #[.slice b m d, .func (.func 38) #[nv] #[]] X fun e w' => ∃ v, e = .returned v ∧ FmsAt (hide (lo X) w') (inTurn f (inTurn f s0 L).2 R).1 v ∧ I (inTurn f (inTurn f s0 L).2 R).2 w' ∧ ButE E X w') := by
    intro X hIX hX
    refine each38_c E nv I f X R _ b m d (hy.keep (KW _ hX)) hR hIX (fun s Y Y' h e => hI s Y Y' h (fun k hk => e k (by have := hX.size; omega))) hmap (fun k hk => by have := hE k hk; have := hX.size; omega) (fun j t ht Y x hI' hY hv => ?_)
    have e : stAt f s0 (L ++ R) (L.length + j) = stAt f (inTurn f s0 L).2 R j := by
      unfold stAt
      rw [List.take_append, List.take_of_length_le (by omega), Nat.add_sub_cancel_left, inTurn_both]
    have := hf (L.length + j) t (by rw [List.getElem?_append_right (by omega), Nat.add_sub_cancel_left]; exact ht) Y x (by rw [e]; exact hI') (hX.trans hY) hv
    rwa [e] at this
  have LE : Hid (∀ k, W.heap.size ≤ k → ¬ E k) := fun k hk e => by have := hE k e; omega
  have HB := Lib.hid B0
  have R0 := Lib.hid r0
  have R1 := Lib.hid r1
  have HI := Lib.hid hI
  obtain ⟨y0, y1, z0, z1⟩ := row2 r0
  clear hx hy hL hR h0 hI hmap hE hf bw r0 r1 B0 KW
  go_enter Tryz.func36, Tryz.ntmps36
  go_wp2_with (first
    | (go_at_call 69
       refine C1.out.mono ?_
       rintro e w3 ⟨v3, rfl, h3, i3, b3⟩
       obtain ⟨fa, fc, rfl, -, -, -, -⟩ := At.sl_inv h3
       have I3 := Lib.hid (And.intro h3 (And.intro i3 b3))
       have B3 := Lib.hid (HB.out.trans b3)
       have Q0 := Lib.hid ((b3.block _ (Array.getElem?_eq_some_iff.1 R0.out).1 (LE.out _ (Nat.le_refl _))).trans R0.out)
       have Q1 := Lib.hid ((b3.block _ (Array.getElem?_eq_some_iff.1 R1.out).1 (LE.out _ (by omega))).trans R1.out)
       clear C1 h3 i3 b3 y0 y1 z0 z1 hW0
       obtain ⟨y0, y1, z0, z1⟩ := row2 Q0.out)
    | (go_at_call 69
       refine (C2.out _ I3.out.2.1 B3.out).mono ?_
       rintro e w5 ⟨v5, rfl, h5, i5, b5⟩
       obtain ⟨ga, gc, rfl, -, -, -, -⟩ := At.sl_inv h5
       have I5 := Lib.hid (And.intro h5 (And.intro i5 b5))
       have P1 := Lib.hid ((b5.block _ (Array.getElem?_eq_some_iff.1 Q1.out).1 (LE.out _ (by omega))).trans Q1.out)
       clear h5 i5 b5 y0 y1 z0 z1
       obtain ⟨y0, y1, z0, z1⟩ := row2 P1.out))
  have g := set_block (o := 1) (u := .slice ga (inTurn f (inTurn f s0 L).2 R).1.length gc) (set_block (o := 0) (u := .slice fa (inTurn f s0 L).1.length fc) P1.out)
  refine bodyPost_ret (results_cell_row rfl _ _ (W.heap.size + 1) 26 _ (0, 0) _ rfl g Tryz.underlying26 rfl iSq) rfl ?_
  obtain ⟨h3, i3, b3⟩ := I3.out
  obtain ⟨h5, i5, b5⟩ := I5.out
  have key : ∀ k, k ≠ W.heap.size + 1 → ((w5.setCell ⟨W.heap.size + 1, 0, none⟩ (.slice fa (inTurn f s0 L).1.length fc)).setCell ⟨W.heap.size + 1, 1, none⟩ (.slice ga (inTurn f (inTurn f s0 L).2 R).1.length gc)).heap[k]? = w5.heap[k]? := fun k hk => by rw [Below.heap_setCell _ _ _ _ hk, Below.heap_setCell _ _ _ _ hk]
  have l1 := (Array.getElem?_eq_some_iff.1 R1.out).1
  have l3 := b3.size
  refine ⟨_, rfl, ⟨_, _, _, _, _, _, rfl, ?_, ?_⟩, ?_, ?_⟩
  · refine h3.keep (hide_keeps2 fun k h1 h2 => ?_)
    simp only [lo, decide_eq_false_iff_not, Nat.not_lt] at h2 ⊢
    exact ⟨by omega, by rw [key k (by omega), b5.block k h1 (LE.out k (by omega))]⟩
  · refine h5.keep (hide_keeps2 fun k h1 h2 => ?_)
    simp only [lo, decide_eq_false_iff_not, Nat.not_lt] at h2 ⊢
    exact ⟨by omega, key k (by omega)⟩
  · exact HI.out _ w5 _ i5 (fun k hk => key k (by omega))
  · exact ((B3.out.trans b5).set (by omega) _ _).set (by omega) _ _
theorem inTurn_sk : ∀ (σ : List Sy) (fs : List Fm), inTurn (fun σ f => Fm.sk σ f) σ fs = fmsSk σ fs
  | _, [] => by simp [inTurn, fmsSk]
  | σ, t :: ts => by simp [inTurn, fmsSk, inTurn_sk _ ts]
theorem fmsSk_len : ∀ (fs : List Fm) (σ : List Sy), (∀ f ∈ fs, f.right = true) → σ.length + 400 * fs.length ≤ 800000 → (fmsSk σ fs).2.length ≤ σ.length + 400 * fs.length
  | [], σ, _, _ => by simp [fmsSk]
  | f :: fs, σ, h, hl => by
    simp only [List.length_cons] at hl
    have h1 := (Fm.mid_right (σ := σ) (h f (by simp)) (by omega)).2.2.2
    have h2 := fmsSk_len fs (f.sk σ).2 (fun g hg => h g (by simp [hg])) (by omega)
    simp only [fmsSk, List.length_cons]
    omega
theorem changeSk_c (g1 c1 gm cm : Nat) (W : World) (L R : List Fm) (x : Value) (h : NamesAt g1 c1 gm cm [] W) (hp : PowAt W) (hr : RowsAt W) (hx : SqVal W L R x) (rL : ∀ f ∈ L, f.right = true) (rR : ∀ f ∈ R, f.right = true) (hL : L.length ≤ 64) (hR : R.length ≤ 64) :
    Calls Tryz.prog 36 #[x, .func (.func 38) #[namesV g1 c1 (.slice none 0 0)] #[]] W fun e w' => ∃ v, e = .returned v ∧ SqVal (hide (lo W) w') (skOf L R).1 (skOf L R).2 v ∧ ButE (EN gm cm) W w' := by
  have lt := h.lt
  refine (change38_c (EN gm cm) (namesV g1 c1 (.slice none 0 0)) (fun σ W => NamesAt g1 c1 gm cm σ W) (fun σ f => Fm.sk σ f) W L R [] x hx (by omega) (by omega) h (NamesAt.steady g1 c1 gm cm lt) (fun s X hX k hk => hX.maps hk) (fun k hk => by rcases hk with rfl | rfl <;> omega) (fun j t ht X y hI hX hv => ?_)).mono ?_
  · have e : stAt (fun σ f => Fm.sk σ f) [] (L ++ R) j = (fmsSk [] ((L ++ R).take j)).2 := by unfold stAt; rw [inTurn_sk]
    have rA : ∀ f ∈ L ++ R, f.right = true := fun f hf => by rcases List.mem_append.1 hf with h | h; exact rL f h; exact rR f h
    have lj : ((L ++ R).take j).length ≤ 128 := by have h1 := List.length_take_le' j (L ++ R); have h2 : (L ++ R).length = L.length + R.length := List.length_append; omega
    have := fmsSk_len ((L ++ R).take j) [] (fun f hf => rA f (List.mem_of_mem_take hf)) (by simp only [List.length_nil]; omega)
    rw [e] at hI ⊢
    exact form_c t g1 c1 gm cm _ _ X y hI (h.powE hX hp) (hr.keep (h.keepE hX)) hv (rA t (List.mem_of_getElem? ht)) (by simp only [List.length_nil] at this; omega) ⟨_, _, _, rfl⟩
  · rintro e w' ⟨v, rfl, h1, h2, h3⟩
    rw [inTurn_sk, inTurn_sk] at h1
    exact ⟨v, rfl, h1, h3⟩
end Go.Proofs.YtppfalbnhnpbnaaGreatDoor
namespace Go.Proofs.YtppfalbnhnpbnaaGreatDoor
open Go Go.RowKit Ly
set_option maxRecDepth 10000
theorem append_none' {P : Program} {w : World} {ops : Array Oper} {rest : List Oper} {o : Oper} {a : Act} {Q : Exit → Act → World → Prop} (hgd : o.guard = none) (s x : Operand) (t : TypeId)
    (ho : o.op = .call { callee := .builtin .append, args := #[s, x], argTypes := #[t, t] })
    (base : Nat) (e : TypeId) (i : TypeInfo) (size : Nat) (ht : P.underlying t = some (.slice e)) (hi : P.info? e = some i)
    (v : Value) (n : Nat) (xs : List Value) (hs : a.eval s = v) (hown : w.ownsRow base e size v n xs) (c : Nat) (hx : a.eval x = .slice none 0 c)
    (h : wpList P ops Q rest (a.put o.dst v) w) : wpList P ops Q (o :: rest) a w := by
  refine wpList_plain hgd fun K hK => ?_
  have hrun : (Builtin.append_ #[t, t] o.type #[v, .slice none 0 c]).run P w = .ok v w := by
    rcases hown.2 with ⟨rfl, rfl⟩ | ⟨g, cap, cur, rfl, _, _, hnc, _⟩
    · simp [Builtin.append_, run_underlying ht, sizeOf, typeInfo, hi, Builtin.lenOf, Builtin.firstCells]
    · simp [Builtin.append_, run_underlying ht, sizeOf, typeInfo, hi, Builtin.lenOf, Builtin.firstCells, hnc, storeCells]
  unfold Oper.wp
  simp [execOp, ho, resolve, invoke, builtin, hs, hx, hrun, Result.andThen]
  exact hK _ _ h
theorem row_vals {w : World} {b : Nat} : ∀ (ds : List D) (off : Nat), AtRow w b off ds → ∃ vs, CellsAt w ds vs ∧ ∀ (j : Nat) (u : Value), vs[j]? = some u → w.cell? ⟨b, off + j, none⟩ = some u
  | [], off, _ => ⟨[], CellsAt.nil _, fun j u h => by simp at h⟩
  | d :: ds, off, h => by
    obtain ⟨⟨u, hu, ha⟩, hr⟩ := h
    obtain ⟨vs, h1, h2⟩ := row_vals ds (off + 1) hr
    refine ⟨u :: vs, CellsAt.cons ha h1, fun j x hx => ?_⟩
    cases j with
    | zero => simp at hx; subst hx; exact hu
    | succ j =>
      have := h2 j x (by simpa using hx)
      rwa [show off + 1 + j = off + (j + 1) by omega] at this
theorem fm_one {w : World} : ∀ (l : List Fm) (vs : List Value), CellsAt w (fmsDs l) vs → ∀ u ∈ vs, u.oneCell' = true
  | [], vs, h, u, hu => by
    have : vs = [] := List.eq_nil_of_length_eq_zero (by simpa [fmsDs] using h.1)
    subst this; cases hu
  | .mk op nm ts sub :: l, vs, h, u, hu => by
    have hl := h.1
    simp [fmsDs, Fm.ds] at hl
    match vs, h, hl, hu with
    | v0 :: v1 :: v2 :: v3 :: vs, h, hl, hu =>
      have hr : CellsAt w (fmsDs l) vs := by
        refine ⟨by simp at hl; omega, fun j d hd => ?_⟩
        obtain ⟨x, hx, ha⟩ := h.2 (j + 4) d (by simpa [fmsDs, Fm.ds] using hd)
        exact ⟨x, by simpa using hx, ha⟩
      rcases List.mem_cons.1 hu with rfl | hu
      · obtain ⟨x, hx, ha⟩ := h.2 0 _ rfl
        simp at hx; subst hx
        have : u = .int .u8 op := ha
        subst this; rfl
      rcases List.mem_cons.1 hu with rfl | hu
      · obtain ⟨x, hx, ha⟩ := h.2 1 _ rfl
        simp at hx; subst hx
        have : u = str nm := ha
        subst this; rfl
      rcases List.mem_cons.1 hu with rfl | hu
      · obtain ⟨x, hx, ha⟩ := h.2 2 _ rfl
        simp at hx; subst hx
        obtain ⟨a, c, rfl, -⟩ := At.sl_inv ha
        rfl
      rcases List.mem_cons.1 hu with rfl | hu
      · obtain ⟨x, hx, ha⟩ := h.2 3 _ rfl
        simp at hx; subst hx
        obtain ⟨a, c, rfl, -⟩ := At.sl_inv ha
        rfl
      exact fm_one l vs hr u hu
    | [], h, hl, hu => simp at hl
    | [_], h, hl, hu => simp at hl
    | [_, _], h, hl, hu => simp at hl
    | [_, _, _], h, hl, hu => simp at hl
theorem fms_src {w : World} {l : List Fm} {a : Option Addr} {n c : Nat} (h : FmsAt w l (.slice a n c)) :
    (a = none ∧ n = 0 ∧ l = []) ∨ ∃ ad vs, a = some ad ∧ vs.length = n * 4 ∧ (∀ (j : Nat) (u : Value), vs[j]? = some u → w.cell? (ad.add j) = some u) ∧ (∀ u ∈ vs, u.oneCell' = true) ∧ CellsAt w (fmsDs l) vs := by
  obtain ⟨a', cap, e, h1, h2, h3, h4⟩ := h
  simp only [Value.slice.injEq] at e
  obtain ⟨rfl, rfl, rfl⟩ := e
  rcases h4 with h4 | ⟨b, off, rfl, h4⟩
  · have hl : l = [] := List.eq_nil_of_length_eq_zero h4
    subst hl
    cases a with
    | none => exact .inl ⟨rfl, rfl, rfl⟩
    | some ad => exact .inr ⟨ad, [], rfl, by simp, fun j u h => by simp at h, (by simp), CellsAt.nil _⟩
  · obtain ⟨vs, h5, h6⟩ := row_vals _ _ h4
    refine .inr ⟨_, vs, rfl, by rw [h5.1, fmsDs_four], fun j u hu => ?_, fm_one l vs h5, h5⟩
    rw [Addr.add_lit]
    exact h6 j u hu
theorem Grow153_nil (n : Nat) (w : World) (h : n ≤ 1000) : Calls Tryz.prog 153 #[.slice none 0 0, .int .i64 n] w fun e w' =>
    ∃ v, e = .returned v ∧ w'.ownsRow w.heap.size 40 4 v 0 [] ∧ Below w.heap.size w w' := by
  have hn : n ≤ 9223372036854775807 := by omega
  have h1 : ¬ ((n : Int) < 0) := by omega
  by_cases hz : n = 0
  · subst hz
    clear h hn h1
    go_enter Tryz.func153, Tryz.ntmps153
    go_wp2
    go_ret
    exact ⟨_, rfl, World.ownsRow_nil _ _ _ _, Below.refl _ _⟩
  · have h2 : 0 < n := by omega
    obtain ⟨i0, hi0, hz0, hs0, hb0⟩ := info_parts info25
    have h4 : (n : Int) > 0 := by omega
    have hold : (Builtin.firstCells i0.size 0 (.slice none 0 0)).run Tryz.prog w.drew = .ok #[] w.drew := run_firstCells_none w.drew i0.size 0 0 0
    have hGn : n ≤ grownCap w n 0 40 := grownCap_ge w _ _ _
    have hGm : grownCap w n 0 40 ≤ maxLen := grownCap_le_maxLen w _ _ _ (by unfold maxLen; omega)
    have hrz : ∀ ty, (Builtin.append_ #[24, 3] ty #[.slice none 0 0, .int .i64 (n : Int)]).run Tryz.prog w =
      .ok (.slice (some ⟨w.heap.size, 0, none⟩) n (grownCap w n 0 40)) (w.drew.alloc (.cells (Builtin.zeroCells (Value.agg #[.int .u8 0, .string ⟨#[]⟩, .slice none 0 0, .slice none 0 0]).cells n ++ Builtin.zeroCells (Value.agg #[.int .u8 0, .string ⟨#[]⟩, .slice none 0 0, .slice none 0 0]).cells (grownCap w n 0 40 - n)) 40)) := fun ty => by
      have h := Lib.run_append_grow_zeros w 24 3 ty 40 i0 (.agg #[.int .u8 0, .string ⟨#[]⟩, .slice none 0 0, .slice none 0 0]) .i64 .i64 Tryz.underlying24 Tryz.underlying3 hi0 hz0 none 0 0 [] hold n (by omega) (by omega) (by omega) (by omega)
        (by rw [hb0]; omega) (by rw [hb0]; exact growslice_fits (by omega) (by omega))
      simpa using h
    have hsz : (Builtin.zeroCells (Value.agg #[.int .u8 0, .string ⟨#[]⟩, .slice none 0 0, .slice none 0 0]).cells n ++ Builtin.zeroCells (Value.agg #[.int .u8 0, .string ⟨#[]⟩, .slice none 0 0, .slice none 0 0]).cells (grownCap w n 0 40 - n)).size = grownCap w n 0 40 * 4 := by
      simp [Builtin.zeroCells, Value.cells]; omega
    generalize (Builtin.zeroCells (Value.agg #[.int .u8 0, .string ⟨#[]⟩, .slice none 0 0, .slice none 0 0]).cells n ++ Builtin.zeroCells (Value.agg #[.int .u8 0, .string ⟨#[]⟩, .slice none 0 0, .slice none 0 0]).cells (grownCap w n 0 40 - n)) = Z at *
    generalize grownCap w n 0 40 = G at *
    have hG63 : G ≤ 9223372036854775807 := le63 hGm
    have HM := Lib.hid hGm
    have HS := Lib.hid hsz
    clear hold hi0 hz0 hs0 hb0 hGm hsz
    go_enter Tryz.func153, Tryz.ntmps153
    go_wp2_with (at_builtin; refine Lib.wpList_append_run _ rfl _ _ _ _ rfl _ _ rfl rfl _ _ (hrz _) ?_)
    go_ret
    refine ⟨_, rfl, ?_, ?_⟩
    · exact ⟨by simp, .inr ⟨w.heap.size, G, Z, rfl, Nat.le_refl _, heap_alloc_new w.drew _, Nat.zero_le _, HM.out, HS.out, by simp⟩⟩
    · exact (Below.refl _ _).drew.alloc (Nat.le_refl _) _
def pre2 (n m : Nat) : Nat → Nat
  | 0 => 0
  | 1 => n
  | _ => n + m
def preL (L R : List Fm) : Nat → List Fm
  | 0 => []
  | 1 => L
  | _ => L ++ R
def OwnFs (w w' : World) (l : List Fm) (n : Nat) (v : Value) : Prop := ∃ xs, w'.ownsRow w.heap.size 40 4 v n xs ∧ CellsAt w (fmsDs l) xs
theorem OwnFs.at {w w' : World} {l : List Fm} {n : Nat} {v : Value} (h : OwnFs w w' l n v) (hn : l.length = n) (k : Keeps w w') : FmsAt w' l v := by
  obtain ⟨xs, ⟨h1, h2⟩, h3⟩ := h
  subst hn
  rcases h2 with ⟨rfl, h0⟩ | ⟨g, cap, cur, rfl, hb, hg, hc, hm, hs, ht⟩
  · have : l = [] := List.eq_nil_of_length_eq_zero h0
    subst this
    exact At.sl_nil (Nat.zero_le _)
  · refine At.sl_mk (fmsDs_four l) hc hm fun j d hd => ?_
    obtain ⟨u, hu, ha⟩ := h3.2 j d hd
    refine ⟨u, ?_, ha.keep k⟩
    rw [Nat.zero_add, box_cell hg, ← Array.getElem?_toList]
    rw [← ht, List.getElem?_take] at hu
    split at hu
    · exact hu
    · cases hu
set_option maxHeartbeats 4000000 in
theorem Concat2_c (L R : List Fm) (a b : Option Addr) (n c m d g : Nat) (w : World) (hx : FmsAt w L (.slice a n c)) (hy : FmsAt w R (.slice b m d)) (hb0 : w.heap[g]? = some (.cells #[.slice a n c, .slice b m d] 24 (0, 0))) (hn : n ≤ 400) (hm : m ≤ 400) :
    Calls Tryz.prog 102 #[.slice (some ⟨g, 0, none⟩) 2 2] w fun e w' => ∃ v, e = .returned v ∧ FmsAt w' (L ++ R) v ∧ Below w.heap.size w w' := by
  have hlx := hx.len
  have hly := hy.len
  have LX := Lib.hid hlx.1
  have LY := Lib.hid hly.1
  have SX := Lib.hid (fms_src hx)
  have SY := Lib.hid (fms_src hy)
  have R0 := Lib.hid hb0
  obtain ⟨y0, y1, -, -⟩ := row2 hb0
  clear hx hy hlx hly hb0
  go_enter Tryz.func102, Tryz.ntmps102
  go_wp2_with fail
  go_loop [3, 11] (fun s i => ∃ j : Nat, j ≤ 2 ∧ i = .int .i64 j ∧ s = .int .i64 (pre2 n m j : Nat)) (fun _ i => 2 - (intOf i).toNat)
  case atStart => exact ⟨0, by omega, rfl, rfl⟩
  case round =>
    obtain ⟨j, hj, rfl, rfl⟩ := hrel
    match j, hj with
    | 0, hj =>
      simp only [pre2]
      go_wp2_with fail
      all_goals go_round
      case rel => exact ⟨1, by omega, rfl, by simp [pre2]⟩
      case measure => simp [intOf]
    | 1, hj =>
      simp only [pre2]
      go_wp2_with fail
      all_goals go_round
      case rel => exact ⟨2, by omega, rfl, by simp [pre2]⟩
      case measure => simp [intOf]
    | 2, hj =>
      simp only [pre2]
      have GC : Hid (Calls Tryz.prog 153 #[.slice none 0 0, .int .i64 ((n : Int) + m)] w fun e w' => ∃ v, e = .returned v ∧ w'.ownsRow w.heap.size 40 4 v 0 [] ∧ Below w.heap.size w w') := by
        have := Grow153_nil (n + m) w (by omega)
        rw [Int.natCast_add] at this
        exact this
      go_wp2_with (go_at_call 153; refine GC.out.mono ?_; rintro e w1 ⟨v, rfl, hown, hb⟩; have HO := Lib.hid (And.intro hown hb); clear hown hb GC)
      obtain ⟨i0, hi0, hz0, hs0, hb0⟩ := info_parts info25
      go_loopw [6, 27] (fun u i wr => ∃ (q : Nat) (U : Value), q ≤ 2 ∧ i = .int .i64 q ∧ U = u ∧ Hid (OwnFs w wr (preL L R q) (pre2 n m q) U ∧ Below w.heap.size w wr)) (fun _ i _ => 2 - (intOf i).toNat)
      case atStart => exact ⟨0, _, by omega, rfl, rfl, ⟨[], HO.out.1, CellsAt.nil _⟩, HO.out.2⟩
      case round =>
      obtain ⟨q, U, hq, rfl, rfl, hr⟩ := hrel
      clear HO
      match q, hq with
      | 0, hq =>
        have hK := keeps_of_below hr.out.2
        have d0 := hK _ _ y0
        obtain ⟨⟨xs, ho, hxs⟩, hbb⟩ := hr.out
        rcases SX.out with ⟨e1, e2, e3⟩ | ⟨ad, vs, e1, h1, h2, h3, h4⟩
        · have NX : Hid (OwnFs w wr (preL L R 1) (pre2 n m 1) U ∧ Below w.heap.size w wr) := by
            refine ⟨⟨xs, ?_, ?_⟩, hbb⟩
            · rw [show pre2 n m 1 = pre2 n m 0 by simp [pre2, e2]]; exact ho
            · rw [show preL L R 1 = preL L R 0 by simp [preL, e3]]; exact hxs
          have HO := Lib.hid ho
          clear ho hxs hK hbb e3
          subst e1 e2
          go_wp2_with (at_builtin; refine append_none' rfl _ _ 24 rfl w.heap.size 40 i0 4 Tryz.underlying24 hi0 U _ xs (by rfl) HO.out c (by rfl) ?_)
          go_roundw
          case rel => exact ⟨_, _, _, ⟨1, by omega, rfl, NX.out⟩, rfl, rfl, rfl⟩
          case measure => simp [intOf]
        · have HO := Lib.hid ho
          have HV := Lib.hid (And.intro h1 (And.intro (fun j u hu => hK _ _ (h2 j u hu)) h3))
          have HC := Lib.hid (And.intro hxs h4)
          have HB := Lib.hid hbb
          clear ho hxs hK hbb h1 h2 h3 h4
          subst e1
          go_wp2_with (at_builtin; refine wpList_append_own _ rfl _ _ 24 rfl w.heap.size 40 i0 (.agg #[.int .u8 0, .string ⟨#[]⟩, .slice none 0 0, .slice none 0 0]) 4 72 Tryz.underlying24 hi0 hz0 hs0 hb0 rfl (by decide) U (pre2 n m 0) xs (by rfl) HO.out ad n c vs (by rfl) HV.out.1 HV.out.2.1 HV.out.2.2 (by simp only [pre2]; unfold maxLen; omega) (by simp only [pre2]; omega) HB.out.size ?_; intro v' w2 hown2 hg2 hat2)
          go_roundw
          case rel =>
            refine ⟨1, _, by omega, rfl, rfl, ⟨xs ++ vs, ?_, ?_⟩, HB.out.grown hg2 HB.out.size (fun kk hkk => (HO.out.lt kk hkk).1)⟩
            · have e : pre2 n m 0 + n = pre2 n m 1 := by simp [pre2]
              show w2.ownsRow w.heap.size 40 4 v' (pre2 n m 1) _; rw [← e]; exact hown2
            · have e : preL L R 1 = preL L R 0 ++ L := by simp [preL]
              rw [e, fmsDs_app]
              exact HC.out.1.append HC.out.2
          case measure => simp [intOf]
      | 1, hq =>
        have hK := keeps_of_below hr.out.2
        have d0 := hK _ _ y1
        obtain ⟨⟨xs, ho, hxs⟩, hbb⟩ := hr.out
        rcases SY.out with ⟨e1, e2, e3⟩ | ⟨ad, vs, e1, h1, h2, h3, h4⟩
        · have NX : Hid (OwnFs w wr (preL L R 2) (pre2 n m 2) U ∧ Below w.heap.size w wr) := by
            refine ⟨⟨xs, ?_, ?_⟩, hbb⟩
            · rw [show pre2 n m 2 = pre2 n m 1 by simp [pre2, e2]]; exact ho
            · rw [show preL L R 2 = preL L R 1 by simp [preL, e3]]; exact hxs
          have HO := Lib.hid ho
          clear ho hxs hK hbb e3
          subst e1 e2
          go_wp2_with (at_builtin; refine append_none' rfl _ _ 24 rfl w.heap.size 40 i0 4 Tryz.underlying24 hi0 U _ xs (by rfl) HO.out d (by rfl) ?_)
          go_roundw
          case rel => exact ⟨_, _, _, ⟨2, by omega, rfl, NX.out⟩, rfl, rfl, rfl⟩
          case measure => simp [intOf]
        · have HO := Lib.hid ho
          have HV := Lib.hid (And.intro h1 (And.intro (fun j u hu => hK _ _ (h2 j u hu)) h3))
          have HC := Lib.hid (And.intro hxs h4)
          have HB := Lib.hid hbb
          clear ho hxs hK hbb h1 h2 h3 h4
          subst e1
          go_wp2_with (at_builtin; refine wpList_append_own _ rfl _ _ 24 rfl w.heap.size 40 i0 (.agg #[.int .u8 0, .string ⟨#[]⟩, .slice none 0 0, .slice none 0 0]) 4 72 Tryz.underlying24 hi0 hz0 hs0 hb0 rfl (by decide) U (pre2 n m 1) xs (by rfl) HO.out ad m d vs (by rfl) HV.out.1 HV.out.2.1 HV.out.2.2 (by simp only [pre2]; unfold maxLen; omega) (by simp only [pre2]; omega) HB.out.size ?_; intro v' w2 hown2 hg2 hat2)
          go_roundw
          case rel =>
            refine ⟨2, _, by omega, rfl, rfl, ⟨xs ++ vs, ?_, ?_⟩, HB.out.grown hg2 HB.out.size (fun kk hkk => (HO.out.lt kk hkk).1)⟩
            · have e : pre2 n m 1 + m = pre2 n m 2 := by simp [pre2]
              show w2.ownsRow w.heap.size 40 4 v' (pre2 n m 2) _; rw [← e]; exact hown2
            · have e : preL L R 2 = preL L R 1 ++ R := by simp [preL]
              rw [e, fmsDs_app]
              exact HC.out.1.append HC.out.2
          case measure => simp [intOf]
      | 2, hq =>
        obtain ⟨ho, hbb⟩ := hr.out
        have AT := Lib.hid (OwnFs.at ho (by simp only [preL, pre2, List.length_append]; rw [LX.out, LY.out]) (keeps_of_below hbb))
        have HB := Lib.hid hbb
        clear ho hbb hr
        go_wp2_with fail
        go_ret
        exact ⟨_, rfl, AT.out, HB.out⟩
end Go.Proofs.YtppfalbnhnpbnaaGreatDoor
