/- skeleton.each at terms: a list is made, element by element, by a method value. Conditions: those of each statement. -/
import Derived.Test.YtppfalbnhnpbnaaGreatDoorEaBY
import Derived.Test.YtppfalbnhnpbnaaGreatDoorNtDY
set_option linter.unusedSimpArgs false
set_option linter.unusedVariables false
namespace Go.Proofs.YtppfalbnhnpbnaaGreatDoor
open Go Go.RowKit Ly
set_option maxRecDepth 10000
set_option maxHeartbeats 8000000 in
theorem each115_c {St : Type} (E : Nat → Prop) (nv : Value) (I : St → World → Prop) (f : St → Tm → Tm × St) (W : World) (ts : List Tm) (s0 : St) (a : Option Addr) (n c : Nat) (hx : TmsAt W ts (.slice a n c)) (hn : ts.length ≤ 100000) (h0 : I s0 W) (hI : Steady W.heap.size I)
    (hmap : ∀ s X, I s X → ∀ k, E k → ∃ es c, X.heap[k]? = some (.map es c)) (hE : ∀ k, E k → k < W.heap.size)
    (hf : ∀ j t, ts[j]? = some t → ∀ X x, I (stAt f s0 ts j) X → ButE E W X → TmVal X t x → Calls Tryz.prog 115 #[nv, x] X fun e w' => ∃ v, e = .returned v ∧ TmVal (hide (lo X) w') (f (stAt f s0 ts j) t).1 v ∧ I (f (stAt f s0 ts j) t).2 w' ∧ ButE E X w') :
    Calls Tryz.prog 114 #[.slice a n c, .func (.func 115) #[nv] #[]] W fun e w' => ∃ v, e = .returned v ∧ TmsAt (hide (lo W) w') (inTurn f s0 ts).1 v ∧ I (inTurn f s0 ts).2 w' ∧ ButE E W w' := by
  have hl := hx.len
  have L2 := Lib.hid hl.1
  have N0 : n ≤ 100000 := by rw [hl.1]; exact hn
  have HX := Lib.hid hx
  have H0 := Lib.hid h0
  have HI := Lib.hid hI
  have HK : Hid (∀ X, ButE E W X → Keeps W X) := fun X hX => hX.keeps (hmap s0 W h0)
  have HE := Lib.hid hE
  have HF := Lib.hid hf
  obtain ⟨i0, hi0, hz0, hs0, hb0⟩ := info_parts info38
  clear hl hx hn h0 hI hmap hE hf
  go_enter Tryz.func114, Tryz.ntmps114
  by_cases hn0 : n = 0
  · subst hn0
    go_wp2
    have e : ts = [] := List.eq_nil_of_length_eq_zero L2.out.symm
    go_ret
    subst e
    exact ⟨_, rfl, At.sl_nil (by unfold maxLen; omega), H0.out, ButE.refl _ _⟩
  · go_wp2_with (at_make; refine wpList_make_full _ rfl _ _ 36 rfl W.heap.size 38 i0 (.agg #[.bool false, .string ⟨#[]⟩, .slice none 0 0]) 3 Tryz.underlying36 hi0 hz0 hs0 .i64 .i64 _ _ n rfl rfl (by first | rfl | omega) (by first | rfl | omega) (by rw [hb0]; omega) (by unfold maxLen; omega) (Nat.le_refl _) ?_; intro w1 hown1 hgrow1)
    obtain ⟨G, hG⟩ : ∃ G, W.heap.size = G := ⟨_, rfl⟩
    have A0 : Hid (FillAt G n 3 38 (tmsDs (inTurn f s0 (ts.take 0)).1) 0 w1 ∧ I (stAt f s0 ts 0) w1 ∧ ButE E W w1) := by
      have B : ButE E W w1 := ⟨hgrow1.os, hgrow1.tape, hgrow1.output, hgrow1.size, fun k hk _ => hgrow1.block k hk (by simp)⟩
      refine ⟨?_, HI.out s0 W w1 H0.out (fun k hk => hgrow1.block k hk (by simp)), B⟩
      rcases hown1.2 with ⟨e, -⟩ | ⟨g, cap, cur, e, -, h3, h4, h5, h6, h7⟩
      · cases e
      · simp only [Value.slice.injEq, Option.some.injEq, Addr.mk.injEq, and_true, true_and] at e
        obtain ⟨e1, rfl⟩ := e
        rw [← hG]
        rw [← e1] at h3
        exact ⟨cur.toList, by simpa using h3, by simpa using h6, by simpa [inTurn, tmsDs] using CellsAt.nil _⟩
    rw [hG]
    have HG := Lib.hid hG
    clear hown1 hgrow1 hn0 hG H0
    go_loopw [16] (fun i wr => ∃ j : Nat, j ≤ n ∧ i = .int .i64 j ∧ Hid (FillAt G n 3 38 (tmsDs (inTurn f s0 (ts.take j)).1) j wr ∧ I (stAt f s0 ts j) wr ∧ ButE E W wr)) (fun i _ => n - (intOf i).toNat)
    case atStart => exact ⟨0, Nat.zero_le _, rfl, A0.out⟩
    case round =>
      obtain ⟨j, hj, rfl, hs⟩ := hrel
      clear A0
      by_cases hlt : j < n
      · obtain ⟨T, hT⟩ := get_of_lt (l := ts) (j := j) (by rw [← L2.out]; exact hlt)
        obtain ⟨bb, off, rfl, hc⟩ := HX.out.get (ne_of_get hT)
        obtain ⟨x0, x1, x2, hx⟩ := hc j _ hT
        have hK := HK.out _ hs.out.2.2
        have c0 := hK _ _ hx.c0; have c1 := hK _ _ hx.c1; have c2 := hK _ _ hx.c2
        have HT := Lib.hid hT
        have IC : Hid (∀ o, Calls Tryz.prog 115 #[nv, .agg #[.bool T.v, str T.name, .slice x0 x1 x2]] (wr.alloc o) fun e w' => ∃ v, e = .returned v ∧ TmVal (hide (lo (wr.alloc o)) w') (f (stAt f s0 ts j) T).1 v ∧ I (f (stAt f s0 ts j) T).2 w' ∧ ButE E (wr.alloc o) w') := fun o =>
          HF.out j T HT.out _ _ (HI.out _ _ _ hs.out.2.1 (fun k hk => ((Below.refl _ wr).alloc (Nat.le_refl _) o).block k (by have := hs.out.2.2.size; omega))) (hs.out.2.2.alloc o) ⟨_, _, _, rfl, (hx.at_.keep hK).keep (keeps_of_below ((Below.refl _ _).alloc (Nat.le_refl _) _))⟩
        clear hc hx hT hK
        go_wp2_with (go_at_call 115
                     refine (IC.out _).mono ?_
                     rintro e w3 ⟨v3, rfl, ⟨fa, fn, fc, rfl, h3⟩, i3, b3⟩
                     have FA := hs.out.1.keep (W' := w3) (fun k h1 h2 => (b3.block k (by simp; omega) (fun e => by have := HE.out k e; have := HG.out; omega)).trans (((Below.refl _ wr).alloc (Nat.le_refl _) _).block k h2))
                     obtain ⟨⟨p0, q0⟩, f0, p1, f1, p2, f2⟩ := FA.cells3 hlt
                     obtain ⟨u1, q1⟩ := Classical.axiomOfChoice p1
                     obtain ⟨u2, q2⟩ : ∃ u2 : Value → Value → Value, ∀ a b, ((w3.setCell ⟨G, j * 3, none⟩ a).setCell ⟨G, j * 3 + 1, none⟩ b).cell? ⟨G, j * 3 + 2, none⟩ = some (u2 a b) := ⟨fun a b => (p2 a b).choose, fun a b => (p2 a b).choose_spec⟩
                     clear p1 p2
                     have H3 := Lib.hid (And.intro FA (And.intro i3 b3))
                     have R3 := Lib.hid h3
                     clear FA i3 b3 h3)
        go_roundw
        case rel =>
          refine ⟨j + 1, by omega, by go_num, ?_⟩
          obtain ⟨FA, i3, b3⟩ := H3.out
          have e := inTurn_take f s0 HT.out
          have g := HG.out
          have lg : G < wr.heap.size := by obtain ⟨cs, h1, -, -⟩ := hs.out.1; exact (Array.getElem?_eq_some_iff.1 h1).1
          have K : ∀ o, Keeps (hide (lo (wr.alloc o)) w3) (hide (fun k => decide (k < G + 1)) w3) := fun o => hide_keeps2 fun k a b => ⟨by simp [lo] at b; simp; omega, rfl⟩
          refine ⟨?_, ?_, ?_⟩
          · rw [e, tmsDs_app]
            have := FillAt.put3 FA hlt (tm_cells (R3.out.keep (K _)))
            simpa [tmsDs] using this
          · have : stAt f s0 ts (j + 1) = (f (stAt f s0 ts j) T).2 := by unfold stAt; rw [e]; rfl
            rw [this]
            exact HI.out _ w3 _ i3 (fun k hk => by rw [Below.heap_setCell _ _ _ _ (by show k ≠ G; omega), Below.heap_setCell _ _ _ _ (by show k ≠ G; omega), Below.heap_setCell _ _ _ _ (by show k ≠ G; omega)])
          · exact ((((hs.out.2.2.alloc _).trans b3).set (by omega) _ _).set (by omega) _ _).set (by omega) _ _
        case measure => simp [intOf]; omega
      · have ej : j = n := by omega
        obtain ⟨FA, i3, b3⟩ := hs.out
        have et : ts.take j = ts := List.take_of_length_le (by rw [← L2.out]; omega)
        rw [et] at FA
        have i4 : I (inTurn f s0 ts).2 wr := by have := i3; unfold stAt at this; rwa [et] at this
        have FE : Hid (TmsAt (hide (lo W) wr) (inTurn f s0 ts).1 (.slice (some ⟨G, 0, none⟩) n n) ∧ I (inTurn f s0 ts).2 wr ∧ ButE E W wr) := by
          refine ⟨?_, i4, b3⟩
          have le : (inTurn f s0 ts).1.length = n := by rw [inTurn_len, ← L2.out]
          show At _ (.sl 3 (inTurn f s0 ts).1.length (tmsDs (inTurn f s0 ts).1)) _
          rw [le]
          rw [ej] at FA
          have ld : (tmsDs (inTurn f s0 ts).1).length = n * 3 := by rw [tmsDs_three, le]
          exact FillAt.at FA ld (by unfold maxLen; omega) (by have := HG.out; omega)
        clear FA i3 b3 i4 et ej hs
        go_wp2_with fail
        go_ret
        exact ⟨_, rfl, FE.out⟩
end Go.Proofs.YtppfalbnhnpbnaaGreatDoor
namespace Ly
open Go.Lib (itoa decDigits)
theorem leastN_le_of {A B : List Bs} (h : ∀ x, x ∈ A → x ∈ B) : leastN A ≤ leastN B := by
  rcases Nat.lt_or_ge (leastN B) (leastN A) with h1 | h1
  · exact absurd (h _ (leastN_below A _ (leastN_pos B) h1)) (leastN_new B)
  · exact h1
theorem least_congr {A B : List Bs} (h : ∀ x, x ∈ A ↔ x ∈ B) : least A = least B := by
  unfold least
  rw [Nat.le_antisymm (leastN_le_of fun x => (h x).1) (leastN_le_of fun x => (h x).2)]
def selfs (ar : List (Bs × Bs)) : List (Bs × Bs) := ar.map fun p => (p.2, p.2)
theorem selfs_snd (ar : List (Bs × Bs)) : (selfs ar).map (·.2) = ar.map (·.2) := by simp [selfs]
theorem arOf_selfs (ar : List (Bs × Bs)) (x : Bs) : arOf (selfs ar) x = none ∨ arOf (selfs ar) x = some x := by
  unfold arOf selfs
  induction ar with
  | nil => exact .inl rfl
  | cons p r ih =>
    simp only [List.map_cons, List.find?_cons]
    by_cases h : p.2 = x
    · right; simp [h]
    · have : (p.2 == x) = false := by simpa using h
      rw [this]; exact ih
mutual
theorem Tm.swap_self {g : Bs → Option Bs} (hg : ∀ x, g x = none ∨ g x = some x) : ∀ t : Tm, t.ok = true → t.swap g = t
  | .mk v n ts, h => by
    rw [Tm.ok] at h
    cases v with
    | true =>
      simp only [if_true, Bool.and_eq_true, List.isEmpty_iff] at h
      obtain ⟨rfl, -⟩ := h
      rw [Tm.swap]
      simp only [if_true]
      rcases hg n with e | e <;> rw [e] <;> rfl
    | false =>
      simp only [Bool.false_eq_true, if_false, Bool.and_eq_true] at h
      rw [Tm.swap]
      simp only [Bool.false_eq_true, if_false]
      rw [tmsSwap_self hg ts h.2]
theorem tmsSwap_self {g : Bs → Option Bs} (hg : ∀ x, g x = none ∨ g x = some x) : ∀ l : List Tm, tmsOk l = true → tmsSwap g l = l
  | [], _ => rfl
  | t :: ts, h => by
    simp only [tmsOk, Bool.and_eq_true] at h
    rw [tmsSwap, Tm.swap_self hg t h.1, tmsSwap_self hg ts h.2]
end
mutual
theorem Fm.norm_idem {fr fr2 : List Bs} (hf : ∀ x, x ∈ fr2 ↔ x ∈ fr) : ∀ (ar : List (Bs × Bs)) (f : Fm), f.ok = true → (∀ p ∈ ar, varName p.2 = true) → fr.length + ar.length + f.depth ≤ 1000000 → (f.norm fr ar).norm fr2 (selfs ar) = f.norm fr ar
  | ar, .mk op n ts fs, h, ha, hd => by
    simp only [Fm.ok, Bool.and_eq_true, decide_eq_true_eq] at h
    rw [Fm.depth] at hd
    have hg : ∀ n m, arOf ar n = some m → varName m = true := fun n m e => by
      obtain ⟨p, hp, rfl⟩ := arOf_mem e; exact ha p hp
    have t1 := (tmsSwap_ok hg ts h.1.2).1
    have hv : varName (least (fr ++ ar.map (·.2))) = true := var_least (by simp; omega)
    have hl : least (fr2 ++ (selfs ar).map (·.2)) = least (fr ++ ar.map (·.2)) := by
      rw [selfs_snd]; exact least_congr fun x => by simp [hf x]
    by_cases hq : quant op = true
    · rw [Fm.norm, if_pos hq, Fm.norm, if_pos hq, hl, tmsSwap_self (arOf_selfs ar) _ t1]
      have := fmsNorm_idem hf ((n, least (fr ++ ar.map (·.2))) :: ar) fs h.2 (fun p hp => by
        rcases List.mem_cons.1 hp with rfl | hp
        · exact hv
        · exact ha p hp) (by simp; omega)
      rw [show selfs ((n, least (fr ++ ar.map (·.2))) :: ar) = (least (fr ++ ar.map (·.2)), least (fr ++ ar.map (·.2))) :: selfs ar from rfl] at this
      rw [this]
    · rw [Fm.norm, if_neg hq, Fm.norm, if_neg hq, tmsSwap_self (arOf_selfs ar) _ t1, fmsNorm_idem hf ar fs h.2 ha (by omega)]
theorem fmsNorm_idem {fr fr2 : List Bs} (hf : ∀ x, x ∈ fr2 ↔ x ∈ fr) : ∀ (ar : List (Bs × Bs)) (l : List Fm), fmsOk l = true → (∀ p ∈ ar, varName p.2 = true) → fr.length + ar.length + fmsDepth l ≤ 1000000 → fmsNorm fr2 (selfs ar) (fmsNorm fr ar l) = fmsNorm fr ar l
  | ar, [], _, _, _ => rfl
  | ar, f :: fs, h, ha, hd => by
    simp only [fmsOk, Bool.and_eq_true] at h
    rw [fmsDepth] at hd
    rw [fmsNorm, fmsNorm, Fm.norm_idem hf ar f h.1 ha (by omega), fmsNorm_idem hf ar fs h.2 ha (by omega)]
end
/- The free variables stay. -/
theorem arOf_none {ar : List (Bs × Bs)} {x : Bs} : arOf ar x = none ↔ x ∉ ar.map (·.1) := by
  unfold arOf
  rw [Option.map_eq_none_iff, List.find?_eq_none]
  simp only [List.mem_map, beq_iff_eq]
  constructor
  · rintro h ⟨p, hp, rfl⟩; exact h p hp rfl
  · intro h p hp e; exact h ⟨p, hp, e⟩
mutual
theorem Tm.swap_vars {fr : List Bs} {ar : List (Bs × Bs)} (h2 : ∀ p ∈ ar, p.2 ∉ fr) : ∀ t : Tm, t.ok = true → (∀ x ∈ t.vars, x ∉ ar.map (·.1) → x ∈ fr) → ∀ x, (x ∈ (t.swap (arOf ar)).vars ∧ x ∉ ar.map (·.2)) ↔ (x ∈ t.vars ∧ x ∉ ar.map (·.1))
  | .mk v n ts, h, hx, x => by
    rw [Tm.ok] at h
    cases v with
    | true =>
      simp only [if_true, Bool.and_eq_true, List.isEmpty_iff] at h
      obtain ⟨rfl, -⟩ := h
      rw [Tm.swap]
      simp only [if_true]
      simp only [Tm.vars, if_true, tmsVars, List.append_nil, List.mem_singleton] at hx ⊢
      cases e : arOf ar n with
      | none =>
        have hn := arOf_none.1 e
        simp only [Tm.vars, if_true, tmsSwap, tmsVars, List.append_nil, List.mem_singleton]
        constructor
        · rintro ⟨rfl, -⟩; exact ⟨rfl, hn⟩
        · rintro ⟨rfl, -⟩
          refine ⟨rfl, fun hm => ?_⟩
          obtain ⟨p, hp, e2⟩ := List.mem_map.1 hm
          exact h2 p hp (by rw [e2]; exact hx _ rfl hn)
      | some m =>
        obtain ⟨p, hp, rfl⟩ := arOf_mem e
        simp only [Tm.vars, if_true, tmsVars, List.append_nil, List.mem_singleton]
        constructor
        · rintro ⟨rfl, h3⟩; exact absurd (List.mem_map.2 ⟨p, hp, rfl⟩) h3
        · rintro ⟨rfl, h3⟩
          rw [arOf_none.2 h3] at e; cases e
    | false =>
      simp only [Bool.false_eq_true, if_false, Bool.and_eq_true] at h
      rw [Tm.swap]
      simp only [Bool.false_eq_true, if_false]
      simp only [Tm.vars, Bool.false_eq_true, if_false, List.nil_append] at hx ⊢
      exact tmsSwap_vars h2 ts h.2 hx x
theorem tmsSwap_vars {fr : List Bs} {ar : List (Bs × Bs)} (h2 : ∀ p ∈ ar, p.2 ∉ fr) : ∀ l : List Tm, tmsOk l = true → (∀ x ∈ tmsVars l, x ∉ ar.map (·.1) → x ∈ fr) → ∀ x, (x ∈ tmsVars (tmsSwap (arOf ar) l) ∧ x ∉ ar.map (·.2)) ↔ (x ∈ tmsVars l ∧ x ∉ ar.map (·.1))
  | [], _, _, x => by simp [tmsSwap, tmsVars]
  | t :: ts, h, hx, x => by
    simp only [tmsOk, Bool.and_eq_true] at h
    have a := Tm.swap_vars h2 t h.1 (fun y hy => hx y (by simp [tmsVars, hy])) x
    have b := tmsSwap_vars h2 ts h.2 (fun y hy => hx y (by simp [tmsVars, hy])) x
    simp only [tmsSwap, tmsVars, List.mem_append, or_and_right]
    rw [a, b]
end
mutual
theorem Fm.norm_free {fr : List Bs} : ∀ (ar : List (Bs × Bs)) (f : Fm), f.ok = true → (∀ p ∈ ar, p.2 ∉ fr) → (∀ x ∈ f.free (ar.map (·.1)), x ∈ fr) → ∀ x, x ∈ (f.norm fr ar).free (ar.map (·.2)) ↔ x ∈ f.free (ar.map (·.1))
  | ar, .mk op n ts fs, h, h2, hx, x => by
    simp only [Fm.ok, Bool.and_eq_true, decide_eq_true_eq] at h
    simp only [Fm.free, List.mem_append, List.mem_filter, decide_eq_true_eq] at hx
    have a := tmsSwap_vars (fr := fr) h2 ts h.1.2 (fun y hy hn => hx y (.inl ⟨hy, hn⟩)) x
    rw [Fm.norm]
    by_cases hq : quant op = true
    · rw [if_pos hq]
      rw [if_pos hq] at hx
      have b := fmsNorm_free (fr := fr) ((n, least (fr ++ ar.map (·.2))) :: ar) fs h.2 (fun p hp => by
        rcases List.mem_cons.1 hp with rfl | hp
        · exact fun hm => leastN_new (fr ++ ar.map (·.2)) (List.mem_append_left _ hm)
        · exact h2 p hp) (fun y hy => hx y (.inr hy)) x
      simp only [List.map_cons] at b
      simp only [Fm.free, hq, if_true, List.mem_append, List.mem_filter, decide_eq_true_eq]
      rw [a, b]
    · rw [if_neg hq]
      rw [if_neg hq] at hx
      have b := fmsNorm_free (fr := fr) ar fs h.2 h2 (fun y hy => hx y (.inr hy)) x
      simp only [Fm.free, if_neg hq, List.mem_append, List.mem_filter, decide_eq_true_eq]
      rw [a, b]
theorem fmsNorm_free {fr : List Bs} : ∀ (ar : List (Bs × Bs)) (l : List Fm), fmsOk l = true → (∀ p ∈ ar, p.2 ∉ fr) → (∀ x ∈ fmsFree (ar.map (·.1)) l, x ∈ fr) → ∀ x, x ∈ fmsFree (ar.map (·.2)) (fmsNorm fr ar l) ↔ x ∈ fmsFree (ar.map (·.1)) l
  | ar, [], _, _, _, x => by simp [fmsNorm, fmsFree]
  | ar, f :: fs, h, h2, hx, x => by
    simp only [fmsOk, Bool.and_eq_true] at h
    simp only [fmsFree, List.mem_append] at hx
    have a := Fm.norm_free (fr := fr) ar f h.1 h2 (fun y hy => hx y (.inl hy)) x
    have b := fmsNorm_free (fr := fr) ar fs h.2 h2 (fun y hy => hx y (.inr hy)) x
    simp only [fmsNorm, fmsFree, List.mem_append]
    rw [a, b]
end
theorem Fm.normal_free {f : Fm} (h : f.ok = true) (x : Bs) : x ∈ f.normal.free [] ↔ x ∈ f.free [] :=
  Fm.norm_free [] f h (fun p hp => by cases hp) (fun x hx => hx) x
theorem Fm.normal_idem {f : Fm} (h : f.right = true) : f.normal.normal = f.normal := by
  simp only [Fm.right, Bool.and_eq_true, decide_eq_true_eq] at h
  have hl := Fm.free_le [] f
  have := Fm.norm_idem (fr := f.free []) (fr2 := f.normal.free []) (fun x => Fm.normal_free h.1.1 x) [] f h.1.1 (fun p hp => by cases hp) (by simp; omega)
  exact this
end Ly
