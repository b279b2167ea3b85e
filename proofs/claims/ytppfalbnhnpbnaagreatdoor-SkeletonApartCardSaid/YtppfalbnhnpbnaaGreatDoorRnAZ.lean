/- skeleton.each at formulas: a list is made, element by element, by a method value. Conditions: those of each statement. -/
import Derived.Test.YtppfalbnhnpbnaaGreatDoorEaBZ
import Derived.Test.YtppfalbnhnpbnaaGreatDoorShelfZ
import Derived.Test.YtppfalbnhnpbnaaGreatDoorSkAZ
set_option linter.unusedSimpArgs false
set_option linter.unusedVariables false
namespace Go.Proofs.YtppfalbnhnpbnaaGreatDoor
open Go Go.RowKit Ly
set_option maxRecDepth 10000
set_option maxHeartbeats 8000000 in
theorem each73_c {St : Type} (E : Nat → Prop) (nv : Value) (I : St → World → Prop) (f : St → Fm → Fm × St) (W : World) (ts : List Fm) (s0 : St) (a : Option Addr) (n c : Nat) (hx : FmsAt W ts (.slice a n c)) (hn : ts.length ≤ 100000) (h0 : I s0 W) (hI : Steady W.heap.size I)
    (hmap : ∀ s X, I s X → ∀ k, E k → ∃ es c, X.heap[k]? = some (.map es c)) (hE : ∀ k, E k → k < W.heap.size)
    (hf : ∀ j t, ts[j]? = some t → ∀ X x, I (stAt f s0 ts j) X → ButE E W X → FmVal X t x → Calls Tryz.prog 73 #[nv, x] X fun e w' => ∃ v, e = .returned v ∧ FmVal (hide (lo X) w') (f (stAt f s0 ts j) t).1 v ∧ I (f (stAt f s0 ts j) t).2 w' ∧ ButE E X w') :
    Calls Tryz.prog 69 #[.slice a n c, .func (.func 73) #[nv] #[]] W fun e w' => ∃ v, e = .returned v ∧ FmsAt (hide (lo W) w') (inTurn f s0 ts).1 v ∧ I (inTurn f s0 ts).2 w' ∧ ButE E W w' := by
  have hl := hx.len
  have L2 := Lib.hid hl.1
  have N0 : n ≤ 100000 := by rw [hl.1]; exact hn
  have HX := Lib.hid hx
  have H0 := Lib.hid h0
  have HI := Lib.hid hI
  have HK : Hid (∀ X, ButE E W X → Keeps W X) := fun X hX => hX.keeps (hmap s0 W h0)
  have HE := Lib.hid hE
  have HF := Lib.hid hf
  obtain ⟨i0, hi0, hz0, hs0, hb0⟩ := info_parts info25
  clear hl hx hn h0 hI hmap hE hf
  go_enter Tryz.func69, Tryz.ntmps69
  by_cases hn0 : n = 0
  · subst hn0
    go_wp2
    have e : ts = [] := List.eq_nil_of_length_eq_zero L2.out.symm
    go_ret
    subst e
    exact ⟨_, rfl, At.sl_nil (by unfold maxLen; omega), H0.out, ButE.refl _ _⟩
  · go_wp2_with (at_make; refine wpList_make_full _ rfl _ _ 24 rfl W.heap.size 40 i0 (.agg #[.int .u8 0, .string ⟨#[]⟩, .slice none 0 0, .slice none 0 0]) 4 Tryz.underlying24 hi0 hz0 hs0 .i64 .i64 _ _ n rfl rfl (by first | rfl | omega) (by first | rfl | omega) (by rw [hb0]; omega) (by unfold maxLen; omega) (Nat.le_refl _) ?_; intro w1 hown1 hgrow1)
    obtain ⟨G, hG⟩ : ∃ G, W.heap.size = G := ⟨_, rfl⟩
    have A0 : Hid (FillAt G n 4 40 (fmsDs (inTurn f s0 (ts.take 0)).1) 0 w1 ∧ I (stAt f s0 ts 0) w1 ∧ ButE E W w1) := by
      have B : ButE E W w1 := ⟨hgrow1.os, hgrow1.tape, hgrow1.output, hgrow1.size, fun k hk _ => hgrow1.block k hk (by simp)⟩
      refine ⟨?_, HI.out s0 W w1 H0.out (fun k hk => hgrow1.block k hk (by simp)), B⟩
      rcases hown1.2 with ⟨e, -⟩ | ⟨g, cap, cur, e, -, h3, h4, h5, h6, h7⟩
      · cases e
      · simp only [Value.slice.injEq, Option.some.injEq, Addr.mk.injEq, and_true, true_and] at e
        obtain ⟨e1, rfl⟩ := e
        rw [← hG]
        rw [← e1] at h3
        exact ⟨cur.toList, by simpa using h3, by simpa using h6, by simpa [inTurn, fmsDs] using CellsAt.nil _⟩
    rw [hG]
    have HG := Lib.hid hG
    clear hown1 hgrow1 hn0 hG H0
    go_loopw [16] (fun i wr => ∃ j : Nat, j ≤ n ∧ i = .int .i64 j ∧ Hid (FillAt G n 4 40 (fmsDs (inTurn f s0 (ts.take j)).1) j wr ∧ I (stAt f s0 ts j) wr ∧ ButE E W wr)) (fun i _ => n - (intOf i).toNat)
    case atStart => exact ⟨0, Nat.zero_le _, rfl, A0.out⟩
    case round =>
      obtain ⟨j, hj, rfl, hs⟩ := hrel
      clear A0
      by_cases hlt : j < n
      · obtain ⟨T, hT⟩ := get_of_lt (l := ts) (j := j) (by rw [← L2.out]; exact hlt)
        obtain ⟨bb, off, rfl, hc⟩ := HX.out.get (ne_of_get hT)
        obtain ⟨x0, x1, x2, x3, x4, x5, hx⟩ := hc j _ hT
        have hK := HK.out _ hs.out.2.2
        have c0 := hK _ _ hx.c0; have c1 := hK _ _ hx.c1; have c2 := hK _ _ hx.c2; have c3 := hK _ _ hx.c3
        have HT := Lib.hid hT
        have IC : Hid (∀ o, Calls Tryz.prog 73 #[nv, .agg #[.int .u8 T.op, str T.name, .slice x0 x1 x2, .slice x3 x4 x5]] (wr.alloc o) fun e w' => ∃ v, e = .returned v ∧ FmVal (hide (lo (wr.alloc o)) w') (f (stAt f s0 ts j) T).1 v ∧ I (f (stAt f s0 ts j) T).2 w' ∧ ButE E (wr.alloc o) w') := fun o =>
          HF.out j T HT.out _ _ (HI.out _ _ _ hs.out.2.1 (fun k hk => ((Below.refl _ wr).alloc (Nat.le_refl _) o).block k (by have := hs.out.2.2.size; omega))) (hs.out.2.2.alloc o) ⟨_, _, _, _, _, _, rfl, (hx.at_.keep hK).keep (keeps_of_below ((Below.refl _ _).alloc (Nat.le_refl _) _)), (hx.at'.keep hK).keep (keeps_of_below ((Below.refl _ _).alloc (Nat.le_refl _) _))⟩
        clear hc hx hT hK
        go_wp2_with (go_at_call 73
                     refine (IC.out _).mono ?_
                     rintro e w3 ⟨v3, rfl, ⟨fa, fn, fc, fb, fm, fd, rfl, h3, h4⟩, i3, b3⟩
                     have FA := hs.out.1.keep (W' := w3) (fun k h1 h2 => (b3.block k (by simp; omega) (fun e => by have := HE.out k e; have := HG.out; omega)).trans (((Below.refl _ wr).alloc (Nat.le_refl _) _).block k h2))
                     obtain ⟨⟨p0, q0⟩, f0, p1, f1, p2, f2, p3, f3⟩ := FA.cells4 hlt
                     obtain ⟨u1, q1⟩ := Classical.axiomOfChoice p1
                     obtain ⟨u2, q2⟩ : ∃ u2 : Value → Value → Value, ∀ a b, ((w3.setCell ⟨G, j * 4, none⟩ a).setCell ⟨G, j * 4 + 1, none⟩ b).cell? ⟨G, j * 4 + 2, none⟩ = some (u2 a b) := ⟨fun a b => (p2 a b).choose, fun a b => (p2 a b).choose_spec⟩
                     obtain ⟨u3, q3⟩ : ∃ u3 : Value → Value → Value → Value, ∀ a b c, (((w3.setCell ⟨G, j * 4, none⟩ a).setCell ⟨G, j * 4 + 1, none⟩ b).setCell ⟨G, j * 4 + 2, none⟩ c).cell? ⟨G, j * 4 + 3, none⟩ = some (u3 a b c) := ⟨fun a b c => (p3 a b c).choose, fun a b c => (p3 a b c).choose_spec⟩
                     clear p1 p2 p3
                     have H3 := Lib.hid (And.intro FA (And.intro i3 b3))
                     have R3 := Lib.hid (And.intro h3 h4)
                     clear FA i3 b3 h3 h4)
        go_roundw
        case rel =>
          refine ⟨j + 1, by omega, by go_num, ?_⟩
          obtain ⟨FA, i3, b3⟩ := H3.out
          have e := inTurn_take f s0 HT.out
          have g := HG.out
          have lg : G < wr.heap.size := by obtain ⟨cs, h1, -, -⟩ := hs.out.1; exact (Array.getElem?_eq_some_iff.1 h1).1
          have K : ∀ o, Keeps (hide (lo (wr.alloc o)) w3) (hide (fun k => decide (k < G + 1)) w3) := fun o => hide_keeps2 fun k a b => ⟨by simp [lo] at b; simp; omega, rfl⟩
          refine ⟨?_, ?_, ?_⟩
          · rw [e, fmsDs_app]
            have := FillAt.put4 FA hlt (fm_cells (R3.out.1.keep (K _)) (R3.out.2.keep (K _)))
            simpa [fmsDs] using this
          · have : stAt f s0 ts (j + 1) = (f (stAt f s0 ts j) T).2 := by unfold stAt; rw [e]; rfl
            rw [this]
            exact HI.out _ w3 _ i3 (fun k hk => by rw [Below.heap_setCell _ _ _ _ (by show k ≠ G; omega), Below.heap_setCell _ _ _ _ (by show k ≠ G; omega), Below.heap_setCell _ _ _ _ (by show k ≠ G; omega), Below.heap_setCell _ _ _ _ (by show k ≠ G; omega)])
          · exact (((((hs.out.2.2.alloc _).trans b3).set (by omega) _ _).set (by omega) _ _).set (by omega) _ _).set (by omega) _ _
        case measure => simp [intOf]; omega
      · have ej : j = n := by omega
        obtain ⟨FA, i3, b3⟩ := hs.out
        have et : ts.take j = ts := List.take_of_length_le (by rw [← L2.out]; omega)
        rw [et] at FA
        have i4 : I (inTurn f s0 ts).2 wr := by have := i3; unfold stAt at this; rwa [et] at this
        have FE : Hid (FmsAt (hide (lo W) wr) (inTurn f s0 ts).1 (.slice (some ⟨G, 0, none⟩) n n) ∧ I (inTurn f s0 ts).2 wr ∧ ButE E W wr) := by
          refine ⟨?_, i4, b3⟩
          have le : (inTurn f s0 ts).1.length = n := by rw [inTurn_len, ← L2.out]
          show At _ (.sl 4 (inTurn f s0 ts).1.length (fmsDs (inTurn f s0 ts).1)) _
          rw [le]
          rw [ej] at FA
          have ld : (fmsDs (inTurn f s0 ts).1).length = n * 4 := by rw [fmsDs_four, le]
          exact FillAt.at FA ld (by unfold maxLen; omega) (by have := HG.out; omega)
        clear FA i3 b3 i4 et ej hs
        go_wp2_with fail
        go_ret
        exact ⟨_, rfl, FE.out⟩
end Go.Proofs.YtppfalbnhnpbnaaGreatDoor
namespace Go.Proofs.YtppfalbnhnpbnaaGreatDoor
open Go Go.RowKit Ly
set_option maxRecDepth 10000
theorem contains_c {w : World} {l : List Bs} {v : Value} (h : StrsAt w l v) (s : Bs) : Calls Tryz.prog 110 #[v, str s] w fun e w' => e = .returned (.bool (decide (s ∈ l))) ∧ w' = w := by
  obtain ⟨a, c, rfl, -, -, -, -⟩ := At.sl_inv h
  by_cases hne : l = []
  · subst hne
    exact (Tryz.slices_Contains_string_empty a c ⟨s.toArray⟩ w).mono fun e w' h => ⟨h.1, h.2⟩
  · obtain ⟨bb, off, rfl, hc⟩ := h.get hne
    have hn := h.len
    have C := Tryz.slices_Contains_string bb off l.length c (l.map fun x => ⟨x.toArray⟩) ⟨s.toArray⟩ w (by simp) (by have := hn.2; unfold maxLen at this; omega) (by
      intro j hj
      simp only [List.length_map] at hj
      have := hc j l[j] (List.getElem?_eq_getElem hj)
      rw [this]
      simp [hj])
    have e : Lib.containsS ((l.map fun x => (⟨x.toArray⟩ : ByteArray)).take l.length) ⟨s.toArray⟩ = decide (s ∈ l) := by
      rw [List.take_of_length_le (by simp), Bool.eq_iff_iff, Lib.containsS_iff, decide_eq_true_eq, List.mem_map]
      constructor
      · rintro ⟨x, hx, he⟩
        have : x = s := by have := congrArg (fun b : ByteArray => b.data.toList) he; simpa using this
        rw [this] at hx; exact hx
      · intro hx; exact ⟨s, hx, rfl⟩
    rw [e] at C
    exact C
def namesV (g1 c1 : Nat) (vb : Value) : Value := .agg #[.func (.func 70) #[] #[one g1, one c1], vb]
def EN (gm cm : Nat) (k : Nat) : Prop := k = gm ∨ k = cm
theorem But2.toE {gm cm : Nat} {A X : World} (h : But2 gm cm A X) : ButE (EN gm cm) A X := ⟨h.os, h.tape, h.output, h.size, fun k hk hn => h.block k hk (fun e => hn (.inl e)) (fun e => hn (.inr e))⟩
theorem ButE.to2 {gm cm : Nat} {A X : World} (h : ButE (EN gm cm) A X) : But2 gm cm A X := ⟨h.os, h.tape, h.output, h.size, fun k hk h1 h2 => h.block k hk (fun e => e.elim h1 h2)⟩
theorem NamesAt.lt {g1 c1 gm cm : Nat} {σ : List Sy} {W : World} (h : NamesAt g1 c1 gm cm σ W) : g1 < W.heap.size ∧ c1 < W.heap.size ∧ gm < W.heap.size ∧ cm < W.heap.size := by
  obtain ⟨S, hS⟩ := h.counts
  exact ⟨(Array.getElem?_eq_some_iff.1 h.hg).1, (Array.getElem?_eq_some_iff.1 h.hc).1, h.given.lt, hS.lt⟩
theorem NamesAt.heap {g1 c1 gm cm : Nat} {σ : List Sy} {W W' : World} (h : NamesAt g1 c1 gm cm σ W) {n : Nat} (hn : g1 < n ∧ c1 < n ∧ gm < n ∧ cm < n) (e : ∀ k, k < n → W'.heap[k]? = W.heap[k]?) : NamesAt g1 c1 gm cm σ W' := by
  obtain ⟨S, hS⟩ := h.counts
  exact ⟨(e _ hn.1).trans h.hg, (e _ hn.2.1).trans h.hc, h.given.heap (e _ hn.2.2.1), ⟨S, hS.heap (e _ hn.2.2.2)⟩, h.ne⟩
theorem inTurn_tms (b : List Bs) : ∀ (σ : List Sy) (ts : List Tm), inTurn (fun σ t => Tm.told b σ t) σ ts = tmsTold b σ ts
  | _, [] => by simp [inTurn, tmsTold]
  | σ, t :: ts => by simp [inTurn, tmsTold, inTurn_tms b _ ts]
theorem inTurn_fms (b : List Bs) : ∀ (σ : List Sy) (fs : List Fm), inTurn (fun σ f => Fm.told b σ f) σ fs = fmsTold b σ fs
  | _, [] => by simp [inTurn, fmsTold]
  | σ, t :: ts => by simp [inTurn, fmsTold, inTurn_fms b _ ts]
theorem add_len (σ : List Sy) (s : Sy) : (Sy.add σ s).length ≤ σ.length + 1 := by unfold Sy.add; split <;> simp
theorem nameT_len (b : List Bs) (σ : List Sy) (v : Bool) (n : Bs) (k : Nat) : (nameT b σ v n k).2.length ≤ σ.length + 1 := by
  unfold nameT
  repeat' split
  all_goals first | exact add_len _ _ | simp
theorem nameF_len (σ : List Sy) (op : Int) (n : Bs) (k : Nat) : (nameF σ op n k).2.length ≤ σ.length + 1 := by
  unfold nameF
  split
  · exact add_len _ _
  · simp
mutual
theorem told_len (b : List Bs) : ∀ (σ : List Sy) (t : Tm), (t.told b σ).2.length ≤ σ.length + t.nodes
  | σ, .mk v n ts => by
    have h1 := nameT_len b σ v n ts.length
    have h2 := tmsTold_len b (nameT b σ v n ts.length).2 ts
    simp only [Tm.told, Tm.nodes]
    omega
theorem tmsTold_len (b : List Bs) : ∀ (σ : List Sy) (ts : List Tm), (tmsTold b σ ts).2.length ≤ σ.length + tmsNodes ts
  | σ, [] => by simp [tmsTold]
  | σ, t :: ts => by
    have h1 := told_len b σ t
    have h2 := tmsTold_len b (t.told b σ).2 ts
    simp only [tmsTold, tmsNodes]
    omega
end
mutual
theorem ftold_len (b : List Bs) : ∀ (σ : List Sy) (f : Fm), (f.told b σ).2.length ≤ σ.length + f.nodes
  | σ, .mk op n ts fs => by
    have h1 := nameF_len σ op n ts.length
    have h2 := tmsTold_len b (nameF σ op n ts.length).2 ts
    have h3 := fmsTold_len b (tmsTold b (nameF σ op n ts.length).2 ts).2 fs
    simp only [Fm.told, Fm.nodes]
    omega
theorem fmsTold_len (b : List Bs) : ∀ (σ : List Sy) (fs : List Fm), (fmsTold b σ fs).2.length ≤ σ.length + fmsNodes fs
  | σ, [] => by simp [fmsTold]
  | σ, t :: ts => by
    have h1 := ftold_len b σ t
    have h2 := fmsTold_len b (t.told b σ).2 ts
    simp only [fmsTold, fmsNodes]
    omega
end
theorem tmsNodes_take : ∀ (ts : List Tm) (j : Nat) {t : Tm}, ts[j]? = some t → tmsNodes (ts.take j) + t.nodes ≤ tmsNodes ts
  | [], j, t, h => by simp at h
  | x :: ts, 0, t, h => by simp at h; subst h; simp [tmsNodes]
  | x :: ts, j + 1, t, h => by
    have := tmsNodes_take ts j (t := t) (by simpa using h)
    simp [tmsNodes]; omega
theorem fmsNodes_take : ∀ (ts : List Fm) (j : Nat) {t : Fm}, ts[j]? = some t → fmsNodes (ts.take j) + t.nodes ≤ fmsNodes ts
  | [], j, t, h => by simp at h
  | x :: ts, 0, t, h => by simp at h; subst h; simp [fmsNodes]
  | x :: ts, j + 1, t, h => by
    have := fmsNodes_take ts j (t := t) (by simpa using h)
    simp [fmsNodes]; omega
theorem row2 {w : World} {b : Nat} {x y : Value} {t : TypeId} (h : w.heap[b]? = some (.cells #[x, y] t (0, 0))) : w.cell? ⟨b, 0, none⟩ = some x ∧ w.cell? ⟨b, 1, none⟩ = some y ∧ w.frozen? ⟨b, 0, none⟩ = false ∧ w.frozen? ⟨b, 1, none⟩ = false :=
  ⟨(box_cell h 0).trans rfl, (box_cell h 1).trans rfl, by simp [World.frozen?, h], by simp [World.frozen?, h]⟩
theorem u80 : ∃ fs, Tryz.prog.underlying 80 = some (.struct fs) := ⟨_, Tryz.underlying80⟩
theorem i80 : (Tryz.prog.info? 80).map (·.size) = some 2 := by kernel_rfl
set_option maxHeartbeats 4000000 in
theorem newNames_c (W : World) : Calls Tryz.prog 37 #[] W fun e w' => ∃ g1 c1 gm cm, e = .returned (namesV g1 c1 (.slice none 0 0)) ∧ NamesAt g1 c1 gm cm [] w' ∧ Below W.heap.size W w' ∧ W.heap.size ≤ gm ∧ W.heap.size ≤ cm := by
  have hmm := @run_makeMap Tryz.prog
  go_enter Tryz.func37, Tryz.ntmps37
  go_wp2
  obtain ⟨A, hA⟩ : ∃ A, W.alloc (.cells #[.func (.func 70) #[] #[one (W.heap.size + 1 + 1), one (W.heap.size + 1 + 1 + 1 + 1)], .slice none 0 0] 80) = A := ⟨_, rfl⟩
  have sA : A.heap.size = W.heap.size + 1 := by rw [← hA]; simp
  have rA : A.heap[W.heap.size]? = some (.cells #[.func (.func 70) #[] #[one (W.heap.size + 1 + 1), one (W.heap.size + 1 + 1 + 1 + 1)], .slice none 0 0] 80 (0, 0)) := by rw [← hA]; exact heap_alloc_new W _
  have bA : Below W.heap.size W A := by rw [← hA]; exact (Below.refl _ _).alloc (Nat.le_refl _) _
  obtain ⟨B, hB⟩ : ∃ B, A.alloc (.map #[] 0) = B := ⟨_, rfl⟩
  have sB : B.heap.size = W.heap.size + 1 + 1 := by rw [← hB]; simp [sA]
  obtain ⟨C, hC⟩ : ∃ C, B.alloc (.cells #[.map (some (W.heap.size + 1))] 117) = C := ⟨_, rfl⟩
  have sC : C.heap.size = W.heap.size + 1 + 1 + 1 := by rw [← hC]; simp [sB]
  obtain ⟨D, hD⟩ : ∃ D, C.alloc (.map #[] 0) = D := ⟨_, rfl⟩
  have sD : D.heap.size = W.heap.size + 1 + 1 + 1 + 1 := by rw [← hD]; simp [sC]
  obtain ⟨F, hF⟩ : ∃ F, D.alloc (.cells #[.map (some (W.heap.size + 1 + 1 + 1))] 111) = F := ⟨_, rfl⟩
  have bF : Below D.heap.size D F := by rw [← hF]; exact (Below.refl _ _).alloc (Nat.le_refl _) _
  have bD : Below C.heap.size C F := by refine Below.trans ?_ (bF.mono (by omega)); rw [← hD]; exact (Below.refl _ _).alloc (Nat.le_refl _) _
  have bC : Below B.heap.size B F := by refine Below.trans ?_ (bD.mono (by omega)); rw [← hC]; exact (Below.refl _ _).alloc (Nat.le_refl _) _
  have bB : Below A.heap.size A F := by refine Below.trans ?_ (bC.mono (by omega)); rw [← hB]; exact (Below.refl _ _).alloc (Nat.le_refl _) _
  rw [hA, hB, hC, hD, hF]
  have g1 : F.heap[W.heap.size + 1 + 1]? = some (.cells #[.map (some (W.heap.size + 1))] 117 (0, 0)) := by
    rw [bD.block _ (by omega), ← hC, ← sB]; exact heap_alloc_new B _
  have g2 : F.heap[W.heap.size + 1 + 1 + 1 + 1]? = some (.cells #[.map (some (W.heap.size + 1 + 1 + 1))] 111 (0, 0)) := by
    rw [← hF, ← sD]; exact heap_alloc_new D _
  have m1 : MapG Tryz.prog 104 okY litY (str []) F (W.heap.size + 1) 0 (fun s => decide (s ∈ ([] : List Sy))) (fun s => if s ∈ ([] : List Sy) then str (Sy.told [] s) else str []) := by
    have := (MapG.made (P := Tryz.prog) (k := 104) (ok := okY) (lit := litY) (z := str []) A)
    rw [hB, sA] at this
    exact (this.below bC).cong (fun _ _ => by simp) (fun _ _ => by simp)
  have m2 : MapG Tryz.prog 9 okS litS (.int .i64 0) F (W.heap.size + 1 + 1 + 1) 0 (fun _ => false) (fun k => .int .i64 ((([] : List Sy).countP (fun t => decide (t.kind = k)) : Nat) : Int)) := by
    have := (MapG.made (P := Tryz.prog) (k := 9) (ok := okS) (lit := litS) (z := .int .i64 0) C)
    rw [hD, sC] at this
    exact (this.below bF).cong (fun _ _ => by simp) (fun _ _ => by simp)
  refine bodyPost_ret (results_cell_row rfl _ _ W.heap.size 80 _ (0, 0) _ rfl ((bB.block _ (by omega)).trans rA) u80.choose_spec rfl i80) rfl ⟨_, _, _, _, rfl, ⟨g1, g2, m1, ⟨_, m2⟩, by omega⟩, bA.trans (bB.mono (by omega)), by omega, by omega⟩
end Go.Proofs.YtppfalbnhnpbnaaGreatDoor
namespace Ly
open Go.Lib (itoa decDigits)
mutual
theorem Tm.swap_ok {g : Bs → Option Bs} (hg : ∀ n m, g n = some m → varName m = true) : ∀ t : Tm, t.ok = true → (t.swap g).ok = true ∧ (t.swap g).nodes = t.nodes ∧ (t.swap g).depth = t.depth
  | .mk v n ts, h => by
    rw [Tm.ok] at h
    cases v with
    | true =>
      simp only [if_true, Bool.and_eq_true, List.isEmpty_iff] at h
      obtain ⟨rfl, hn⟩ := h
      rw [Tm.swap]
      simp only [if_true]
      cases e : g n with
      | none => simp [Tm.ok, hn, tmsSwap, Tm.nodes, Tm.depth]
      | some m => simp [Tm.ok, hg n m e, Tm.nodes, Tm.depth]
    | false =>
      simp only [Bool.false_eq_true, if_false, Bool.and_eq_true, decide_eq_true_eq] at h
      obtain ⟨h1, h2, h3, h4⟩ := tmsSwap_ok hg ts h.2
      rw [Tm.swap]
      simp only [Bool.false_eq_true, if_false]
      rw [Tm.ok, Tm.nodes, Tm.nodes, Tm.depth, Tm.depth, h2, h3, h4, h1]
      simp [h.1.1, h.1.2]
theorem tmsSwap_ok {g : Bs → Option Bs} (hg : ∀ n m, g n = some m → varName m = true) : ∀ l : List Tm, tmsOk l = true → tmsOk (tmsSwap g l) = true ∧ (tmsSwap g l).length = l.length ∧ tmsNodes (tmsSwap g l) = tmsNodes l ∧ tmsDepth (tmsSwap g l) = tmsDepth l
  | [], _ => by simp [tmsSwap, tmsOk]
  | t :: ts, h => by
    simp only [tmsOk, Bool.and_eq_true] at h
    obtain ⟨h1, h2, h3⟩ := Tm.swap_ok hg t h.1
    obtain ⟨k1, k2, k3, k4⟩ := tmsSwap_ok hg ts h.2
    simp [tmsSwap, tmsOk, tmsNodes, tmsDepth, h1, h2, h3, k1, k2, k3, k4]
end
theorem arOf_mem {ar : List (Bs × Bs)} {n m : Bs} (h : arOf ar n = some m) : ∃ p ∈ ar, p.2 = m := by
  unfold arOf at h
  rw [Option.map_eq_some_iff] at h
  obtain ⟨p, h1, h2⟩ := h
  exact ⟨p, List.mem_of_find?_eq_some h1, h2⟩
mutual
theorem Fm.norm_ok {free : List Bs} : ∀ (ar : List (Bs × Bs)) (f : Fm), f.ok = true → (∀ p ∈ ar, varName p.2 = true) → free.length + ar.length + f.depth ≤ 1000000 → (f.norm free ar).ok = true ∧ (f.norm free ar).nodes = f.nodes ∧ (f.norm free ar).depth = f.depth ∧ (f.norm free ar).op = f.op
  | ar, .mk op n ts fs, h, ha, hd => by
    simp only [Fm.ok, Bool.and_eq_true, decide_eq_true_eq] at h
    rw [Fm.depth] at hd
    have hg : ∀ n m, arOf ar n = some m → varName m = true := fun n m e => by
      obtain ⟨p, hp, rfl⟩ := arOf_mem e; exact ha p hp
    obtain ⟨t1, t2, t3, t4⟩ := tmsSwap_ok hg ts h.1.2
    have hv : varName (least (free ++ ar.map (·.2))) = true := var_least (by simp; omega)
    rw [Fm.norm]
    by_cases hq : op = 8 ∨ op = 9
    · have e : quant op = true := by simp [quant, hq]
      rw [if_pos e]
      obtain ⟨k1, k2, k3, k4⟩ := fmsNorm_ok (free := free) ((n, least (free ++ ar.map (·.2))) :: ar) fs h.2 (fun p hp => by
        rcases List.mem_cons.1 hp with rfl | hp
        · exact hv
        · exact ha p hp) (by simp; omega)
      have h1 : ¬ op = 1 := by rcases hq with rfl | rfl <;> decide
      have hm := h.1.1.2
      rw [if_neg h1, if_pos hq, Bool.and_eq_true, List.isEmpty_iff] at hm
      obtain ⟨rfl, hm⟩ := hm
      simp only [Fm.ok, Fm.nodes, Fm.depth, Fm.op, k1, k2, k3, k4, t1, t3, t4, tmsSwap]
      have h2 : arity op ≤ 2 := by have := h.1.1.1; omega
      simp [h1, hq, hv, h.1.1.1, tmsOk, h2]
    · have e : quant op = false := by simp [quant, hq]
      rw [e]
      obtain ⟨k1, k2, k3, k4⟩ := fmsNorm_ok (free := free) ar fs h.2 ha (by omega)
      simp only [Bool.false_eq_true, if_false]
      have hm := h.1.1.2
      have hem : (tmsSwap (arOf ar) ts).isEmpty = ts.isEmpty := by
        have := t2
        cases ts with
        | nil => rfl
        | cons a b => simp [tmsSwap]
      simp only [Fm.ok, Fm.nodes, Fm.depth, Fm.op, k1, k2, k3, k4, t1, t2, t3, t4, hem, hm]
      have h2 : arity op ≤ 2 := by have := h.1.1.1; omega
      simp [h.1.1.1, h2]
theorem fmsNorm_ok {free : List Bs} : ∀ (ar : List (Bs × Bs)) (l : List Fm), fmsOk l = true → (∀ p ∈ ar, varName p.2 = true) → free.length + ar.length + fmsDepth l ≤ 1000000 → fmsOk (fmsNorm free ar l) = true ∧ (fmsNorm free ar l).length = l.length ∧ fmsNodes (fmsNorm free ar l) = fmsNodes l ∧ fmsDepth (fmsNorm free ar l) = fmsDepth l
  | ar, [], _, _, _ => by simp [fmsNorm, fmsOk]
  | ar, f :: fs, h, ha, hd => by
    simp only [fmsOk, Bool.and_eq_true] at h
    rw [fmsDepth] at hd
    obtain ⟨h1, h2, h3, -⟩ := Fm.norm_ok (free := free) ar f h.1 ha (by omega)
    obtain ⟨k1, k2, k3, k4⟩ := fmsNorm_ok (free := free) ar fs h.2 ha (by omega)
    simp [fmsNorm, fmsOk, fmsNodes, fmsDepth, h1, h2, h3, k1, k2, k3, k4]
end
mutual
theorem Tm.vars_le : ∀ t : Tm, t.vars.length ≤ t.nodes
  | .mk v n ts => by
    have := tmsVars_le ts
    rw [Tm.vars, Tm.nodes]
    cases v <;> simp <;> omega
theorem tmsVars_le : ∀ l : List Tm, (tmsVars l).length ≤ tmsNodes l
  | [] => by simp [tmsVars, tmsNodes]
  | t :: ts => by
    have := Tm.vars_le t; have := tmsVars_le ts
    simp [tmsVars, tmsNodes]; omega
end
mutual
theorem Fm.free_le : ∀ (b : List Bs) (f : Fm), (f.free b).length ≤ f.nodes
  | b, .mk op n ts fs => by
    have h1 := tmsVars_le ts
    have h2 := List.length_filter_le (fun x => decide (x ∉ b)) (tmsVars ts)
    have h3 := fmsFree_le (if quant op then n :: b else b) fs
    rw [Fm.free, Fm.nodes, List.length_append]; omega
theorem fmsFree_le : ∀ (b : List Bs) (l : List Fm), (fmsFree b l).length ≤ fmsNodes l
  | _, [] => by simp [fmsFree]
  | b, f :: fs => by
    have := Fm.free_le b f; have := fmsFree_le b fs
    simp [fmsFree, fmsNodes]; omega
end
theorem Fm.normal_right {f : Fm} (h : f.right = true) : f.normal.right = true ∧ f.normal.nodes = f.nodes ∧ f.normal.depth = f.depth ∧ f.normal.op = f.op := by
  simp only [Fm.right, Bool.and_eq_true, decide_eq_true_eq] at h
  have hl := Fm.free_le [] f
  obtain ⟨h1, h2, h3, h4⟩ := Fm.norm_ok (free := f.free []) [] f h.1.1 (fun p hp => by cases hp) (by simp; omega)
  unfold Fm.normal
  refine ⟨?_, h2, h3, h4⟩
  simp only [Fm.right, h1, h2, h3]
  simp [h.1.2, h.2]

/- Told names. -/
theorem place_le (σ : List Sy) (s : Sy) : Sy.place σ s ≤ σ.length + 1 := by
  unfold Sy.place
  have h1 := List.countP_le_length (p := fun t : Sy => decide (t.kind = s.kind)) (l := σ.takeWhile (fun t => decide (t ≠ s)))
  have h2 := (List.takeWhile_prefix (fun t : Sy => decide (t ≠ s)) (l := σ)).length_le
  omega
theorem add_le (σ : List Sy) (s : Sy) : (Sy.add σ s).length ≤ σ.length + 1 ∧ σ.length ≤ (Sy.add σ s).length := by
  unfold Sy.add; split <;> simp
theorem itoa_small {n : Nat} (h : n ≤ 4) : (itoa (n : Int)).length = 1 := by
  rw [itoa_nat, decDigits, dif_pos (by omega)]; simp
theorem told_var {σ : List Sy} {n : Bs} (h : σ.length ≤ 1000000) : varName (Sy.told σ ⟨117, n, 0⟩) = true := by
  have hp := place_le σ ⟨117, n, 0⟩
  unfold Sy.told Sy.kind
  rw [if_pos rfl]
  show checker _ _ (117 :: itoa _) = true
  exact checker_num (by decide) (fun _ h => h) itoa_ne (itoa_all _) (by have := itoa_len16 (n := Sy.place σ ⟨117, n, 0⟩) (by omega); omega)
theorem told_num {first other : UInt8 → Bool} {σ : List Sy} {c : UInt8} {n : Bs} {k : Nat} (hc : c ≠ 117) (hf : first c = true) (ho : ∀ x, digit x = true → other x = true) (hk : k ≤ 4) (h : σ.length ≤ 1000000) : checker first other (Sy.told σ ⟨c, n, k⟩) = true := by
  have hp := place_le σ ⟨c, n, k⟩
  have hl := itoa_len16 (n := Sy.place σ ⟨c, n, k⟩) (by omega)
  have hs := itoa_small hk
  unfold Sy.told Sy.kind
  rw [if_neg hc]
  simp only [List.cons_append]
  refine checker_num hf ho ?_ ?_ (by simp; omega)
  · intro e; have := congrArg List.length e; simp [hs] at this
  · rw [List.all_append, itoa_all, itoa_all]; rfl
mutual
theorem Tm.told_ok {b : List Bs} : ∀ (t : Tm) (σ : List Sy), t.ok = true → σ.length + t.nodes ≤ 1000000 → (t.told b σ).1.ok = true ∧ (t.told b σ).1.nodes = t.nodes ∧ (t.told b σ).1.depth = t.depth ∧ (t.told b σ).2.length ≤ σ.length + t.nodes
  | .mk v n ts, σ, h, hs => by
    rw [Tm.ok] at h
    rw [Tm.nodes] at hs
    have hl : (nameT b σ v n ts.length).2.length ≤ σ.length + 1 := by
      unfold nameT
      split
      · split
        · simp
        · exact (add_le _ _).1
      · exact (add_le _ _).1
    cases v with
    | true =>
      simp only [if_true, Bool.and_eq_true, List.isEmpty_iff] at h
      obtain ⟨rfl, hn⟩ := h
      have hv : varName (nameT b σ true n 0).1 = true := by
        unfold nameT
        rw [if_pos rfl]
        split
        · exact hn
        · exact told_var (by omega)
      simp only [List.length_nil] at hl
      rw [Tm.told]
      simp only [Tm.ok, Tm.nodes, Tm.depth, tmsTold, List.length_nil, hv, if_true, tmsNodes]
      simp; omega
    | false =>
      simp only [Bool.false_eq_true, if_false, Bool.and_eq_true, decide_eq_true_eq] at h
      obtain ⟨k1, k2, k3, k4, k5⟩ := tmsTold_ok (b := b) ts (nameT b σ false n ts.length).2 h.2 (by omega)
      have hv : funName (nameT b σ false n ts.length).1 = true := by
        unfold nameT
        simp only [Bool.false_eq_true, if_false]
        exact told_num (by decide) (by decide) alnum_digit h.1.1 (by omega)
      rw [Tm.told]
      simp only [Tm.ok, Tm.nodes, Tm.depth, k1, k2, k3, k4, hv]
      refine ⟨by simp [h.1.1], trivial, trivial, by omega⟩
theorem tmsTold_ok {b : List Bs} : ∀ (l : List Tm) (σ : List Sy), tmsOk l = true → σ.length + tmsNodes l ≤ 1000000 → tmsOk (tmsTold b σ l).1 = true ∧ (tmsTold b σ l).1.length = l.length ∧ tmsNodes (tmsTold b σ l).1 = tmsNodes l ∧ tmsDepth (tmsTold b σ l).1 = tmsDepth l ∧ (tmsTold b σ l).2.length ≤ σ.length + tmsNodes l
  | [], σ, _, _ => by simp [tmsTold, tmsOk, tmsNodes]
  | t :: ts, σ, h, hs => by
    simp only [tmsOk, Bool.and_eq_true] at h
    rw [tmsNodes] at hs
    obtain ⟨h1, h2, h3, h4⟩ := Tm.told_ok (b := b) t σ h.1 (by omega)
    obtain ⟨k1, k2, k3, k4, k5⟩ := tmsTold_ok (b := b) ts (t.told b σ).2 h.2 (by omega)
    simp only [tmsTold, tmsOk, tmsNodes, tmsDepth, List.length_cons, h1, h2, h3, k1, k2, k3, k4]
    refine ⟨rfl, trivial, trivial, trivial, by omega⟩
end
mutual
theorem Fm.told_ok {b : List Bs} : ∀ (f : Fm) (σ : List Sy), f.ok = true → σ.length + f.nodes ≤ 1000000 → (f.told b σ).1.ok = true ∧ (f.told b σ).1.nodes = f.nodes ∧ (f.told b σ).1.depth = f.depth ∧ (f.told b σ).1.op = f.op ∧ (f.told b σ).2.length ≤ σ.length + f.nodes
  | .mk op n ts fs, σ, h, hs => by
    simp only [Fm.ok, Bool.and_eq_true, decide_eq_true_eq] at h
    rw [Fm.nodes] at hs
    have hl : (nameF σ op n ts.length).2.length ≤ σ.length + 1 := by
      unfold nameF
      split
      · exact (add_le _ _).1
      · simp
    obtain ⟨k1, k2, k3, k4, k5⟩ := tmsTold_ok (b := b) ts (nameF σ op n ts.length).2 h.1.2 (by omega)
    obtain ⟨j1, j2, j3, j4, j5⟩ := fmsTold_ok (b := b) fs (tmsTold b (nameF σ op n ts.length).2 ts).2 h.2 (by omega)
    have hem : (tmsTold b (nameF σ op n ts.length).2 ts).1.isEmpty = ts.isEmpty := by
      cases ts with
      | nil => rfl
      | cons x y => simp [tmsTold]
    have hm := h.1.1.2
    have hm2 : (if op = 1 then predName (nameF σ op n ts.length).1 && decide (ts.length ≤ 4) else ts.isEmpty && (if op = 8 ∨ op = 9 then varName (nameF σ op n ts.length).1 else (nameF σ op n ts.length).1.isEmpty)) = true := by
      by_cases h1 : op = 1
      · rw [if_pos h1, Bool.and_eq_true, decide_eq_true_eq] at hm
        rw [if_pos h1]
        unfold nameF
        rw [if_pos h1]
        have : predName (Sy.told σ ⟨80, n, ts.length⟩) = true := told_num (by decide) (by decide) alnum_digit hm.2 (by omega)
        simp [this, hm.2]
      · unfold nameF
        rw [if_neg h1] at hm ⊢
        rw [if_neg h1]
        exact hm
    rw [Fm.told]
    simp only [Fm.ok, Fm.nodes, Fm.depth, Fm.op, k1, k2, k3, k4, j1, j2, j3, j4, hem, hm2]
    have h2 : arity op ≤ 2 := by have := h.1.1.1; omega
    refine ⟨by simp [h.1.1.1, h2], trivial, trivial, trivial, by omega⟩
theorem fmsTold_ok {b : List Bs} : ∀ (l : List Fm) (σ : List Sy), fmsOk l = true → σ.length + fmsNodes l ≤ 1000000 → fmsOk (fmsTold b σ l).1 = true ∧ (fmsTold b σ l).1.length = l.length ∧ fmsNodes (fmsTold b σ l).1 = fmsNodes l ∧ fmsDepth (fmsTold b σ l).1 = fmsDepth l ∧ (fmsTold b σ l).2.length ≤ σ.length + fmsNodes l
  | [], σ, _, _ => by simp [fmsTold, fmsOk, fmsNodes]
  | f :: fs, σ, h, hs => by
    simp only [fmsOk, Bool.and_eq_true] at h
    rw [fmsNodes] at hs
    obtain ⟨h1, h2, h3, -, h4⟩ := Fm.told_ok (b := b) f σ h.1 (by omega)
    obtain ⟨k1, k2, k3, k4, k5⟩ := fmsTold_ok (b := b) fs (f.told b σ).2 h.2 (by omega)
    simp only [fmsTold, fmsOk, fmsNodes, fmsDepth, List.length_cons, h1, h2, h3, k1, k2, k3, k4]
    refine ⟨rfl, trivial, trivial, trivial, by omega⟩
end
theorem Fm.mid_right {f : Fm} {σ : List Sy} (h : f.right = true) (hs : σ.length ≤ 900000) : (f.normal.told f.normal.binds σ).1.right = true ∧ (f.normal.told f.normal.binds σ).1.nodes = f.nodes ∧ (f.normal.told f.normal.binds σ).1.op = f.op ∧ (f.sk σ).2.length ≤ σ.length + 400 := by
  obtain ⟨h1, h2, h3, h4⟩ := Fm.normal_right h
  have h5 := h1
  simp only [Fm.right, Bool.and_eq_true, decide_eq_true_eq] at h5
  obtain ⟨k1, k2, k3, k4, k5⟩ := Fm.told_ok (b := f.normal.binds) f.normal σ h5.1.1 (by omega)
  refine ⟨?_, by rw [k2, h2], by rw [k4, h4], by show (f.normal.told f.normal.binds σ).2.length ≤ _; omega⟩
  simp only [Fm.right, k1, k2, k3]
  simp [h5.1.2, h5.2]
theorem Fm.sk_right {f : Fm} {σ : List Sy} (h : f.right = true) (hs : σ.length ≤ 900000) : (f.sk σ).1.right = true ∧ (f.sk σ).1.nodes = f.nodes ∧ (f.sk σ).1.op = f.op := by
  obtain ⟨h1, h2, h3, -⟩ := Fm.mid_right h hs
  obtain ⟨k1, k2, -, k4⟩ := Fm.normal_right h1
  exact ⟨k1, k2.trans h2, k4.trans h3⟩
end Ly
namespace Ly
open Go.Lib (itoa decDigits)
theorem leastN_le_of {A B : List Bs} (h : ∀ x, x ∈ A → x ∈ B) : leastN A ≤ leastN B := by
  rcases Nat.lt_or_ge (leastN B) (leastN A) with h1 | h1
  · exact absurd (h _ (leastN_below A _ (leastN_pos B) h1)) (leastN_new B)
  · exact h1
theorem least_congr {A B : List Bs} (h : ∀ x, x ∈ A ↔ x ∈ B) : least A = least B := by
  unfold least
  rw [Nat.le_antisymm (leastN_le_of fun x => (h x).1) (leastN_le_of fun x => (h x).2)]
/- The free variables stay. -/
theorem arOf_none {ar : List (Bs × Bs)} {x : Bs} : arOf ar x = none ↔ x ∉ ar.map (·.1) := by
  unfold arOf
  rw [Option.map_eq_none_iff, List.find?_eq_none]
  simp only [List.mem_map, beq_iff_eq]
  constructor
  · rintro h ⟨p, hp, rfl⟩; exact h p hp rfl
  · intro h p hp e; exact h ⟨p, hp, e⟩
end Ly
namespace Ly
open Go.Lib (itoa decDigits)
/- The places of symbols. -/
def cnt : List Sy → Sy → Nat
  | [], _ => 0
  | x :: σ, s => if x = s then 0 else (if x.kind = s.kind then 1 else 0) + cnt σ s
/- What begins with x. -/
def hx (n : Bs) : Prop := n.head? = some 120
theorem tmsSwap_len (g : Bs → Option Bs) : ∀ l : List Tm, (tmsSwap g l).length = l.length
  | [] => rfl
  | t :: ts => by simp [tmsSwap, tmsSwap_len g ts]
theorem tmsTold_len (b : List Bs) : ∀ (l : List Tm) (σ : List Sy), (tmsTold b σ l).1.length = l.length
  | [], _ => rfl
  | t :: ts, σ => by simp [tmsTold, tmsTold_len b ts]
theorem arOf_some {ar : List (Bs × Bs)} {x : Bs} (h : x ∈ ar.map (·.1)) : ∃ p ∈ ar, arOf ar x = some p.2 := by
  cases e : arOf ar x with
  | none => exact absurd h (arOf_none.1 e)
  | some m =>
    obtain ⟨p, hp, rfl⟩ := arOf_mem e
    exact ⟨p, hp, rfl⟩
theorem fmsSk_len : ∀ (l : List Fm) (σ : List Sy), (fmsSk σ l).1.length = l.length
  | [], _ => rfl
  | f :: fs, σ => by simp [fmsSk, fmsSk_len fs]
end Ly
namespace Ly
open Go.Lib (itoa decDigits)
def sortOf (n : Bs) : UInt8 := if predName n then 80 else if funName n then 97 else if varName n then 117 else 0
mutual
def Tm.funs : Tm → List (Bs × Nat)
  | .mk v n ts => (if v then [] else [(n, ts.length)]) ++ tmsFuns ts
def tmsFuns : List Tm → List (Bs × Nat)
  | [] => []
  | t :: ts => t.funs ++ tmsFuns ts
end
mutual
def Fm.funs : Fm → List (Bs × Nat)
  | .mk op n ts fs => tmsFuns ts ++ fmsFuns fs
def fmsFuns : List Fm → List (Bs × Nat)
  | [] => []
  | f :: fs => f.funs ++ fmsFuns fs
end
mutual
def Fm.preds : Fm → List (Bs × Nat)
  | .mk op n ts fs => (if op = 1 then [(n, ts.length)] else []) ++ fmsPreds fs
def fmsPreds : List Fm → List (Bs × Nat)
  | [] => []
  | f :: fs => f.preds ++ fmsPreds fs
end
mutual
def Tm.ren (s : Sy) (tz : Bs) : Tm → Tm
  | .mk v n ts => .mk v (if (if v then (⟨117, n, 0⟩ : Sy) else ⟨97, n, ts.length⟩) = s then tz else n) (tmsRen s tz ts)
def tmsRen (s : Sy) (tz : Bs) : List Tm → List Tm
  | [] => []
  | t :: ts => t.ren s tz :: tmsRen s tz ts
end
mutual
def Fm.ren (s : Sy) (tz : Bs) : Fm → Fm
  | .mk op n ts fs =>
    if op = 1 ∧ s = ⟨80, n, ts.length⟩ then .mk op tz (tmsRen s tz ts) (fmsRen s tz fs)
    else if quant op = true ∧ s = ⟨117, n, 0⟩ then .mk op n ts fs
    else .mk op n (tmsRen s tz ts) (fmsRen s tz fs)
def fmsRen (s : Sy) (tz : Bs) : List Fm → List Fm
  | [] => []
  | f :: fs => f.ren s tz :: fmsRen s tz fs
end
/- What awake asks. -/
def aP : Fm := .mk 1 [80] [] []
def aQ : Fm := .mk 1 [81] [] []
def aR : Fm := .mk 1 [82] [] []
theorem itoaDg {n : Nat} (h : n < 10) : itoa (n : Int) = [UInt8.ofNat (48 + n)] := by rw [itoa_nat, Go.Lib.decDigits_one h]
theorem itoa0 : itoa 0 = [48] := itoaDg (n := 0) (by decide)
theorem itoa1 : itoa 1 = [49] := itoaDg (n := 1) (by decide)
theorem itoa2 : itoa 2 = [50] := itoaDg (n := 2) (by decide)
theorem aw2 : skOf [] [.mk 4 [] [] [aP, aQ]] = skOf [] [.mk 4 [] [] [aQ, aP]] := by
  simp [skOf, fmsSk, Fm.sk, Fm.normal, aP, aQ, Fm.norm, fmsNorm, quant, tmsSwap, Fm.told, fmsTold, tmsTold, nameF, Sy.told, Sy.add, Sy.kind, Sy.place, itoa0, itoa1, itoa2]
theorem aw3 : skOf [] [.mk 4 [] [] [aP, aQ]] ≠ skOf [] [.mk 4 [] [] [aP, aP]] := by
  simp [skOf, fmsSk, Fm.sk, Fm.normal, aP, aQ, Fm.norm, fmsNorm, quant, tmsSwap, Fm.told, fmsTold, tmsTold, nameF, Sy.told, Sy.add, Sy.kind, Sy.place, itoa0, itoa1, itoa2]
theorem aw4 : skOf [.mk 6 [] [] [aP, aQ], aP] [aQ] ≠ skOf [aP, .mk 6 [] [] [aP, aQ]] [aQ] := by
  simp [skOf, fmsSk, Fm.sk, Fm.normal, aP, aQ, Fm.norm, fmsNorm, quant, tmsSwap, Fm.told, fmsTold, tmsTold, nameF, Sy.told, Sy.add, Sy.kind, Sy.place, itoa0, itoa1, itoa2]
def aS : Fm := .mk 9 [121] [] [.mk 1 [83] [.mk true [121] [], .mk false [102] [.mk true [122] []]] []]
def aW : Fm := .mk 9 [120, 49] [] [.mk 1 [80, 50, 49] [.mk true [120, 49] [], .mk false [97, 49, 49] [.mk true [117, 49] []]] []]
theorem aw1 : skOf [.mk 6 [] [] [aQ, aR]] [aS] = ([.mk 6 [] [] [.mk 1 [80, 48, 49] [] [], .mk 1 [80, 48, 50] [] []]], [aW]) := by
  simp [skOf, fmsSk, Fm.sk, Fm.normal, aQ, aR, aS, aW, Fm.norm, fmsNorm, Fm.free, fmsFree, Tm.vars, tmsVars, quant, Tm.swap, tmsSwap, arOf, Fm.binds, fmsBinds, least, leastN, leastFrom, xN, Fm.told, fmsTold, Tm.told, tmsTold, nameF, nameT, Sy.told, Sy.add, Sy.kind, Sy.place, itoa0, itoa1, itoa2]
end Ly
namespace Go.Proofs.YtppfalbnhnpbnaaGreatDoor
open Go Go.RowKit Ly
set_option maxRecDepth 10000
def renV (s : Sy) (tn : Bs) : Value := .agg #[str [s.sort], str s.name, .int .i64 s.ar, str tn]
theorem ButE.toBelow {A X : World} (h : ButE (fun _ => False) A X) : Below A.heap.size A X := ⟨h.os, h.tape, h.output, h.size, fun k hk => h.block k hk (fun e => e)⟩
theorem inTurn_ren (s : Sy) (tn : Bs) : ∀ ts : List Tm, (inTurn (fun (_ : Unit) t => (Tm.ren s tn t, ())) () ts).1 = tmsRen s tn ts
  | [] => rfl
  | t :: ts => by simp [inTurn, tmsRen, inTurn_ren s tn ts]
theorem inTurn_renF (s : Sy) (tn : Bs) : ∀ fs : List Fm, (inTurn (fun (_ : Unit) f => (Fm.ren s tn f, ())) () fs).1 = fmsRen s tn fs
  | [] => rfl
  | t :: ts => by simp [inTurn, fmsRen, inTurn_renF s tn ts]
def RT (s : Sy) (tn : Bs) (t : Tm) : Prop := ∀ (W : World) (x : Value), TmVal W t x → t.nodes ≤ 1000 → Calls Tryz.prog 115 #[renV s tn, x] W (RetH (t.ren s tn) W)
theorem terms_ren (s : Sy) (tn : Bs) (ts : List Tm) (ih : ∀ t ∈ ts, RT s tn t) (W : World) (a : Option Addr) (n c : Nat) (hx : TmsAt W ts (.slice a n c)) (hn : tmsNodes ts ≤ 1000) :
    Calls Tryz.prog 114 #[.slice a n c, .func (.func 115) #[renV s tn] #[]] W fun e w' => ∃ v, e = .returned v ∧ TmsAt (hide (lo W) w') (tmsRen s tn ts) v ∧ Below W.heap.size W w' := by
  refine (each115_c (fun _ => False) (renV s tn) (fun (_ : Unit) _ => True) (fun _ t => (Tm.ren s tn t, ())) W ts () a n c hx (by have := tmsLen_le ts; omega) trivial (fun _ _ _ _ _ => trivial) (fun _ _ _ k hk => absurd hk (fun e => e)) (fun k hk => absurd hk (fun e => e)) (fun j t ht X x hI hX hv => ?_)).mono ?_
  · have hm := List.mem_of_getElem? ht
    refine (ih t hm X x hv (by have := tmsNodes_mem hm; omega)).mono ?_
    rintro e w' ⟨v, rfl, h1, h2⟩
    exact ⟨v, rfl, h1, trivial, .of_below h2⟩
  · rintro e w' ⟨v, rfl, h1, -, h3⟩
    rw [inTurn_ren] at h1
    exact ⟨v, rfl, h1, h3.toBelow⟩
end Go.Proofs.YtppfalbnhnpbnaaGreatDoor
