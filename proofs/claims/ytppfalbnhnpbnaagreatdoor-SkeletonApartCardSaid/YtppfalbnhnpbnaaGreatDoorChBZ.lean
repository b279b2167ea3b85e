/- slices.EqualFunc with syntax.Same, skeleton.Same. Conditions: those of each statement; the tables lie as laid. -/
import Derived.Test.YtppfalbnhnpbnaaGreatDoorOfAZ
import Derived.Test.YtppfalbnhnpbnaaGreatDoorCmpZ
import Derived.Test.YtppfalbnhnpbnaaGreatDoorEaEZ
import Derived.Test.YtppfalbnhnpbnaaGreatDoorFoAZ
import Derived.Test.YtppfalbnhnpbnaaGreatDoorSameBZ
set_option linter.unusedSimpArgs false
set_option linter.unusedVariables false
namespace Go.Proofs.YtppfalbnhnpbnaaGreatDoor
open Go Go.RowKit Ly
set_option maxRecDepth 10000
set_option maxHeartbeats 4000000 in
theorem EqualFunc_c (l l' : List Fm) (a b : Option Addr) (n c m d : Nat) (w : World) (hx : FmsAt w l (.slice a n c)) (hy : FmsAt w l' (.slice b m d)) (hn : n ≤ 1000) (hm : m ≤ 1000) :
    Calls Tryz.prog 39 #[.slice a n c, .slice b m d, .func (.func 40) #[] #[]] w fun e w' => e = .returned (.bool (fmsSame l l')) ∧ Below w.heap.size w w' := by
  have hlx := hx.len
  have hly := hy.len
  have LX := Lib.hid hlx.1
  have LY := Lib.hid hly.1
  have HX := Lib.hid hx
  have HY := Lib.hid hy
  clear hx hy hlx hly
  go_enter Tryz.func39, Tryz.ntmps39
  by_cases hnm : n = m
  · subst hnm
    go_wp2_with fail
    go_loopw [17] (fun i wr => ∃ j : Nat, j ≤ n ∧ i = .int .i64 j ∧ Hid (l.take j = l'.take j ∧ Below w.heap.size w wr)) (fun i _ => n - (intOf i).toNat)
    case atStart => exact ⟨0, Nat.zero_le _, rfl, by simp, Below.refl _ _⟩
    case round =>
      obtain ⟨j, hj, rfl, hs⟩ := hrel
      by_cases hlt : j < n
      · obtain ⟨T, hT⟩ := get_of_lt (l := l) (j := j) (by rw [← LX.out]; exact hlt)
        obtain ⟨T2, hT2⟩ := get_of_lt (l := l') (j := j) (by rw [← LY.out]; exact hlt)
        obtain ⟨bb, off, rfl, hc⟩ := HX.out.get (ne_of_get hT)
        obtain ⟨b2, o2, rfl, hc2⟩ := HY.out.get (ne_of_get hT2)
        obtain ⟨x0, x1, x2, x3, x4, x5, hx⟩ := hc j _ hT
        obtain ⟨v0, v1, v2, v3, v4, v5, hy⟩ := hc2 j _ hT2
        have hK := keeps_of_below hs.out.2
        have c0 := hK _ _ hx.c0; have c1 := hK _ _ hx.c1; have c2 := hK _ _ hx.c2; have c3 := hK _ _ hx.c3
        have KA : ∀ o, Keeps wr (wr.alloc o) := fun o => keeps_of_below ((Below.refl _ _).alloc (Nat.le_refl _) _)
        have d0 := KA (.cells #[.int .u8 T.op, str T.name, .slice x0 x1 x2, .slice x3 x4 x5] 40) _ _ (hK _ _ hy.c0)
        have d1 := KA (.cells #[.int .u8 T.op, str T.name, .slice x0 x1 x2, .slice x3 x4 x5] 40) _ _ (hK _ _ hy.c1)
        have d2 := KA (.cells #[.int .u8 T.op, str T.name, .slice x0 x1 x2, .slice x3 x4 x5] 40) _ _ (hK _ _ hy.c2)
        have d3 := KA (.cells #[.int .u8 T.op, str T.name, .slice x0 x1 x2, .slice x3 x4 x5] 40) _ _ (hK _ _ hy.c3)
        have SC : Hid (∀ X, Below w.heap.size w X → Calls Tryz.prog 40 #[.agg #[.int .u8 T.op, str T.name, .slice x0 x1 x2, .slice x3 x4 x5], .agg #[.int .u8 T2.op, str T2.name, .slice v0 v1 v2, .slice v3 v4 v5]] X fun e w' => e = .returned (.bool (T.same T2)) ∧ Below X.heap.size X w') := fun X hb =>
          synSame_c T T2 _ _ X ⟨_, _, _, _, _, _, rfl, hx.at_.keep (keeps_of_below hb), hx.at'.keep (keeps_of_below hb)⟩ ⟨_, _, _, _, _, _, rfl, hy.at_.keep (keeps_of_below hb), hy.at'.keep (keeps_of_below hb)⟩
        have HT := Lib.hid (And.intro hT hT2)
        have AB : Hid (∀ o o', Below w.heap.size w ((wr.alloc o).alloc o')) := fun o o' => (hs.out.2.alloc hs.out.2.size _).alloc (by have := hs.out.2.size; simp; omega) _
        clear hc hc2 hx hy hT hT2 hK KA
        by_cases he : T.same T2 = true
        · have HE := Lib.hid he
          rw [he] at SC
          clear he
          go_wp2_with (go_at_call 40; refine (SC.out _ (AB.out _ _)).mono ?_; rintro e w2 ⟨rfl, q2⟩; have Q2 := Lib.hid q2; clear q2 SC)
          go_roundw
          case rel =>
            refine ⟨j + 1, by omega, by go_num, ?_, ((AB.out _ _).trans (Q2.out.mono (AB.out _ _).size))⟩
            rw [List.take_add_one, List.take_add_one, hs.out.1, HT.out.1, HT.out.2, (Fm.same_iff _ _).1 HE.out]
          case measure => simp [intOf]; omega
        · have he2 : T.same T2 = false := by simpa using he
          have FE : Hid (fmsSame l l' = false) := by
            show _ = _
            rw [← Bool.not_eq_true]
            intro h
            have := (fmsSame_iff _ _).1 h
            subst this
            have h1 := HT.out.1
            have h2 := HT.out.2
            rw [h1] at h2
            cases h2
            exact he ((Fm.same_iff _ _).2 rfl)
          rw [he2] at SC
          clear he he2
          go_wp2_with (go_at_call 40; refine (SC.out _ (AB.out _ _)).mono ?_; rintro e w2 ⟨rfl, q2⟩; have Q2 := Lib.hid q2; clear q2 SC)
          go_ret
          exact ⟨by rw [FE.out] <;> rfl, (AB.out _ _).trans (Q2.out.mono (AB.out _ _).size)⟩
      · have FE : Hid (fmsSame l l' = true) := by
          have h := hs.out.1
          rw [List.take_of_length_le (by rw [← LX.out]; omega), List.take_of_length_le (by rw [← LY.out]; omega)] at h
          exact (fmsSame_iff _ _).2 h
        go_wp2_with fail
        go_ret
        exact ⟨by rw [FE.out] <;> rfl, hs.out.2⟩
  · have FE : Hid (fmsSame l l' = false) := by
      show _ = _
      rw [← Bool.not_eq_true]
      intro h
      have := (fmsSame_iff _ _).1 h
      subst this
      exact hnm (LX.out.trans LY.out.symm)
    have hn2 : ¬ ((n : Int) = m) := by omega
    go_wp2_with fail
    go_ret
    exact ⟨by rw [FE.out] <;> rfl, Below.refl _ _⟩
end Go.Proofs.YtppfalbnhnpbnaaGreatDoor
namespace Go.Proofs.YtppfalbnhnpbnaaGreatDoor
open Go Go.RowKit Ly
set_option maxRecDepth 10000
def okSq (L R : List Fm) : Prop := (∀ f ∈ L, f.right = true) ∧ (∀ f ∈ R, f.right = true) ∧ L.length ≤ 64 ∧ R.length ≤ 64
def sameSk (L R L2 R2 : List Fm) : Bool := fmsSame (skOf L R).1 (skOf L2 R2).1 && fmsSame (skOf L R).2 (skOf L2 R2).2
theorem fmsSk_length : ∀ (σ : List Sy) (l : List Fm), (fmsSk σ l).1.length = l.length
  | _, [] => rfl
  | σ, f :: l => by simp [fmsSk, fmsSk_length _ l]
theorem skOf_len (L R : List Fm) : (skOf L R).1.length = L.length ∧ (skOf L R).2.length = R.length := ⟨fmsSk_length _ _, fmsSk_length _ _⟩
theorem res12 (tmps : Array Value) (w : World) (x z : Value) (h3 : tmps.getD 4 undef = x) (h4 : tmps.getD 5 undef = z) : (results Tryz.f12 tmps).run Tryz.prog w = .ok (.tuple #[x, z]) w := by
  have e3 : tmps[4]?.getD undef = x := by simpa using h3
  have e4 : tmps[5]?.getD undef = z := by simpa using h4
  simp [results, Tryz.results12, e3, e4]
set_option maxHeartbeats 8000000 in
theorem Same_c (L R L2 R2 : List Fm) (x y : Value) (W : World) (hr : RowsAt W) (hp : PowAt W) (hx0 : SqVal W L R x) (hy0 : SqVal W L2 R2 y) (h1 : okSq L R) (h2 : okSq L2 R2) :
    Calls Tryz.prog 12 #[x, y] W fun e w' => e = .returned (.tuple #[.bool (sameSk L R L2 R2), .int .i64 0]) ∧ Below W.heap.size W w' := by
  obtain ⟨a, n, c, b, m, d, rfl, hx, hy⟩ := hx0
  obtain ⟨a2, n2, c2, b2, m2, d2, rfl, hx2, hy2⟩ := hy0
  obtain ⟨W0, hW0⟩ : ∃ W0, (W.alloc (.cells #[.slice a n c, .slice b m d] 26)).alloc (.cells #[.slice a2 n2 c2, .slice b2 m2 d2] 26) = W0 := ⟨_, rfl⟩
  have bw : Below W.heap.size W W0 := by rw [← hW0]; exact ((Below.refl _ _).alloc (Nat.le_refl _) _).alloc (by simp) _
  have r0 : W0.heap[W.heap.size]? = some (.cells #[.slice a n c, .slice b m d] 26 (0, 0)) := by rw [← hW0]; exact keep_new _ (heap_alloc_new W _)
  have r1 : W0.heap[W.heap.size + 1]? = some (.cells #[.slice a2 n2 c2, .slice b2 m2 d2] 26 (0, 0)) := by
    rw [← hW0]
    have := heap_alloc_new (W.alloc (.cells #[.slice a n c, .slice b m d] 26)) (.cells #[.slice a2 n2 c2, .slice b2 m2 d2] 26)
    rwa [World.size_alloc] at this
  obtain ⟨A1, hA1⟩ : ∃ A1, (skOf L R).1 = A1 := ⟨_, rfl⟩
  obtain ⟨A2, hA2⟩ : ∃ A2, (skOf L R).2 = A2 := ⟨_, rfl⟩
  obtain ⟨B1, hB1⟩ : ∃ B1, (skOf L2 R2).1 = B1 := ⟨_, rfl⟩
  obtain ⟨B2, hB2⟩ : ∃ B2, (skOf L2 R2).2 = B2 := ⟨_, rfl⟩
  have lA := skOf_len L R
  have lB := skOf_len L2 R2
  have OC1 : Hid (Calls Tryz.prog 11 #[.agg #[.slice a n c, .slice b m d]] W0 (RetS A1 A2 W0)) := by
    rw [← hA1, ← hA2]
    exact Of_c L R _ W0 (hr.keep (keeps_of_below bw)) (hp.below bw) ⟨_, _, _, _, _, _, rfl, hx.keep (keeps_of_below bw), hy.keep (keeps_of_below bw)⟩ h1.1 h1.2.1 h1.2.2.1 h1.2.2.2
  have OC2 : Hid (∀ X, Below W.heap.size W X → Calls Tryz.prog 11 #[.agg #[.slice a2 n2 c2, .slice b2 m2 d2]] X (RetS B1 B2 X)) := by
    rw [← hB1, ← hB2]
    exact fun X hb => Of_c L2 R2 _ X (hr.keep (keeps_of_below hb)) (hp.below hb) ⟨_, _, _, _, _, _, rfl, hx2.keep (keeps_of_below hb), hy2.keep (keeps_of_below hb)⟩ h2.1 h2.2.1 h2.2.2.1 h2.2.2.2
  rw [show sameSk L R L2 R2 = (fmsSame A1 B1 && fmsSame A2 B2) by unfold sameSk; rw [hA1, hA2, hB1, hB2]]
  rw [hA1, hA2] at lA
  rw [hB1, hB2] at lB
  have LL : Hid (A1.length ≤ 64 ∧ A2.length ≤ 64 ∧ B1.length ≤ 64 ∧ B2.length ≤ 64) := ⟨by have := h1.2.2.1; omega, by have := h1.2.2.2; omega, by have := h2.2.2.1; omega, by have := h2.2.2.2; omega⟩
  have BW := Lib.hid bw
  have R0 := Lib.hid r0
  have R1 := Lib.hid r1
  obtain ⟨y0, y1, -, -⟩ := row2 r0
  clear hx hy hx2 hy2 h1 h2 hr hp bw r0 r1 hA1 hA2 hB1 hB2 lA lB
  have EQ : Hid (∀ l l' a n c b m d X, l.length ≤ 64 → l'.length ≤ 64 → FmsAt X l (.slice a n c) → FmsAt X l' (.slice b m d) → Calls Tryz.prog 39 #[.slice a n c, .slice b m d, .func (.func 40) #[] #[]] X fun e w' => e = .returned (.bool (fmsSame l l')) ∧ Below X.heap.size X w') := fun l l' a n c b m d X h1 h2 hx hy => EqualFunc_c l l' a b n c m d X hx hy (by have := hx.len.1; omega) (by have := hy.len.1; omega)
  obtain ⟨q1, hq1⟩ : ∃ q, fmsSame A1 B1 = q := ⟨_, rfl⟩
  obtain ⟨q2, hq2⟩ : ∃ q, fmsSame A2 B2 = q := ⟨_, rfl⟩
  have Q1 := Lib.hid hq1
  have Q2 := Lib.hid hq2
  rw [hq1, hq2]
  clear hq1 hq2
  cases q1 <;> cases q2
  all_goals go_enter Tryz.func12, Tryz.ntmps12
  all_goals go_wp2_with (first
    | (go_at_call 11
       refine OC1.out.mono ?_
       rintro e w2 ⟨fa, fn, fc, fb, fm, fd, rfl, h3, h4, b3⟩
       have I2 := Lib.hid (And.intro (h3.keep unhid) (h4.keep unhid))
       have BB2 := Lib.hid (BW.out.trans (b3.mono BW.out.size))
       have G1 := Lib.hid ((b3.block _ (Array.getElem?_eq_some_iff.1 R1.out).1).trans R1.out)
       have N2 : Hid ((w2.alloc (.cells #[.slice fa fn fc, .slice fb fm fd] 26)).heap[w2.heap.size]? = some (.cells #[.slice fa fn fc, .slice fb fm fd] 26 (0, 0))) := heap_alloc_new w2 _
       clear h3 h4 b3 OC1 y0 y1 hW0
       obtain ⟨y0, y1, -, -⟩ := row2 (keep_new (.cells #[.slice fa fn fc, .slice fb fm fd] 26) G1.out))
    | (go_at_call 11
       refine (OC2.out _ (BB2.out.alloc BB2.out.size _)).mono ?_
       rintro e w4 ⟨ga, gn, gc, gb, gm, gd, rfl, h3, h4, b3⟩
       have I4 := Lib.hid (And.intro (h3.keep unhid) (h4.keep unhid))
       have BX : Below w2.heap.size w2 w4 := ((Below.refl _ _).alloc (Nat.le_refl _) _).trans (b3.mono (by simp))
       have BB4 := Lib.hid (BB2.out.trans (BX.mono BB2.out.size))
       have K4 := Lib.hid (keeps_of_below BX)
       have G2 := Lib.hid ((b3.block _ (by simp)).trans N2.out)
       clear h3 h4 b3 BX OC2 y0 y1
       have N4 : Hid ((w4.alloc (.cells #[.slice ga gn gc, .slice gb gm gd] 26)).heap[w4.heap.size]? = some (.cells #[.slice ga gn gc, .slice gb gm gd] 26 (0, 0))) := heap_alloc_new w4 _
       have KK : Hid (Keeps w4 (w4.alloc (.cells #[.slice ga gn gc, .slice gb gm gd] 26))) := keeps_of_below ((Below.refl _ _).alloc (Nat.le_refl _) _)
       obtain ⟨y0, y1, -, -⟩ := row2 (keep_new (.cells #[.slice ga gn gc, .slice gb gm gd] 26) G2.out)
       obtain ⟨z0, z1, -, -⟩ := row2 N4.out)
    | (go_at_call 39
       refine (EQ.out _ _ _ _ _ _ _ _ _ LL.out.1 LL.out.2.2.1 (I2.out.1.keep (K4.out.trans KK.out)) (I4.out.1.keep KK.out)).mono ?_
       rintro e w6 ⟨he, b6⟩
       rw [Q1.out] at he
       subst he
       have KQ := Lib.hid (keeps_of_below b6)
       have BB6 := Lib.hid ((BB4.out.alloc BB4.out.size _).trans (b6.mono (BB4.out.alloc BB4.out.size (.cells #[.slice ga gn gc, .slice gb gm gd] 26)).size))
       have e2 := EQ.out _ _ _ _ _ _ _ _ w6 LL.out.2.1 LL.out.2.2.2 (I2.out.2.keep ((K4.out.trans KK.out).trans KQ.out)) (I4.out.2.keep (KK.out.trans KQ.out))
       rw [Q2.out] at e2
       have E2 := Lib.hid e2
       clear e2
       clear Q1 y0 y1 z0 z1
       obtain ⟨y0, y1, -, -⟩ := row2 ((b6.block _ (by have := (Array.getElem?_eq_some_iff.1 G2.out).1; simp; omega)).trans (keep_new (.cells #[.slice ga gn gc, .slice gb gm gd] 26) G2.out))
       obtain ⟨z0, z1, -, -⟩ := row2 ((b6.block _ (by simp)).trans N4.out)
       clear b6 EQ LL I2 I4 K4 KK KQ BB4 BB2 G1 G2 N2 N4 R0 R1 BW Q2)
    | (go_at_call 39
       refine E2.out.mono ?_
       rintro e w7 ⟨rfl, b7⟩
       have BB7 := Lib.hid (BB6.out.trans (b7.mono BB6.out.size))
       clear b7))
  all_goals refine bodyPost_ret (res12 _ _ _ _ rfl rfl) rfl ?_
  all_goals first | exact ⟨rfl, BB7.out⟩ | exact ⟨rfl, BB6.out⟩
end Go.Proofs.YtppfalbnhnpbnaaGreatDoor
namespace Go.Proofs.YtppfalbnhnpbnaaGreatDoor
open Go Go.RowKit Ly
set_option maxRecDepth 10000
set_option maxHeartbeats 4000000 in
theorem hasP_c (hS : SortedC) (L R : List Fm) (x : Value) (nm : Bs) (ar : Nat) (W : World) (hx0 : SqVal W L R x) (h1 : okSq L R) :
    Calls Tryz.prog 59 #[x, .agg #[str [80], str nm, .int .i64 ar]] W fun e w' => e = .returned (.bool ((L ++ R).any (fun f => decide ((nm, ar) ∈ f.preds)))) ∧ Below W.heap.size W w' := by
  obtain ⟨a, n, c, b, m, d, rfl, hx, hy⟩ := hx0
  obtain ⟨W1, hW1⟩ : ∃ W1, (W.alloc (.cells #[.slice a n c, .slice b m d] 26)).alloc (.cells #[str [80], str nm, .int .i64 ar] 104) = W1 := ⟨_, rfl⟩
  have b1 : Below W.heap.size W W1 := by rw [← hW1]; exact ((Below.refl _ _).alloc (Nat.le_refl _) _).alloc (by simp) _
  have r0 : W1.heap[W.heap.size]? = some (.cells #[.slice a n c, .slice b m d] 26 (0, 0)) := by rw [← hW1]; exact keep_new _ (heap_alloc_new W _)
  have r1 : W1.heap[W.heap.size + 1]? = some (.cells #[str [80], str nm, .int .i64 ar] 104 (0, 0)) := by
    rw [← hW1]
    have := heap_alloc_new (W.alloc (.cells #[.slice a n c, .slice b m d] 26)) (.cells #[str [80], str nm, .int .i64 ar] 104)
    rwa [World.size_alloc] at this
  have FC : Hid (Calls Tryz.prog 56 #[.agg #[.slice a n c, .slice b m d]] W1 fun e w' => ∃ v, e = .returned v ∧ FmsAt w' (L ++ R) v ∧ Below W1.heap.size W1 w') := forms_c L R _ W1 ⟨_, _, _, _, _, _, rfl, hx.keep (keeps_of_below b1), hy.keep (keeps_of_below b1)⟩ (by have := h1.2.2.1; omega) (by have := h1.2.2.2; omega)
  have rA : ∀ f ∈ L ++ R, f.right = true := fun f hf => by rcases List.mem_append.1 hf with h | h; exact h1.1 f h; exact h1.2.1 f h
  have CC : Hid (∀ X v, Below W1.heap.size W1 X → FmsAt X (L ++ R) v → Calls Tryz.prog 67 #[v, .func (.func 106) #[] #[one (W.heap.size + 1)]] X fun e w' => e = .returned (.bool ((L ++ R).any (fun f => decide ((nm, ar) ∈ f.preds)))) ∧ Below X.heap.size X w') := fun X v hb hv =>
    ContainsFunc106_c (L ++ R) _ _ v X hv (by have h2 := h1.2.2.1; have h3 := h1.2.2.2; rw [List.length_append]; omega) (fun f hf y Y hY hy' => by
      have fr := rA f hf
      simp only [Fm.right, Bool.and_eq_true, decide_eq_true_eq] at fr
      exact has1_c hS f y _ nm ar Y ((hY.block _ (by have := (Array.getElem?_eq_some_iff.1 r1).1; have := hb.size; omega)).trans ((hb.block _ (Array.getElem?_eq_some_iff.1 r1).1).trans r1)) hy' fr.1.1 (by omega))
  have B1 := Lib.hid b1
  obtain ⟨y0, y1, -, -⟩ := row2 r0
  generalize (L ++ R).any (fun f => decide ((nm, ar) ∈ f.preds)) = q at *
  clear b1 r0 r1 hx hy h1 hS rA
  go_enter Tryz.func59, Tryz.ntmps59
  go_wp2_with (first
    | (go_at_call 56
       refine FC.out.mono ?_
       rintro e w2 ⟨v2, rfl, h2, b2⟩
       obtain ⟨fa, fk, fc, rfl⟩ : ∃ a k c, v2 = .slice a k c := by obtain ⟨a, c, rfl, -⟩ := At.sl_inv h2; exact ⟨_, _, _, rfl⟩
       have H2 := Lib.hid (And.intro h2 b2)
       clear h2 b2 FC)
    | (go_at_call 67
       refine (CC.out _ _ H2.out.2 H2.out.1).mono ?_
       rintro e w3 ⟨rfl, b3⟩
       have B3 := Lib.hid (B1.out.trans ((H2.out.2.trans (b3.mono H2.out.2.size)).mono B1.out.size))
       clear b3 CC))
  go_ret
  exact ⟨rfl, B3.out⟩
end Go.Proofs.YtppfalbnhnpbnaaGreatDoor
namespace Go.Proofs.YtppfalbnhnpbnaaGreatDoor
open Go Go.RowKit Ly
set_option maxRecDepth 10000

set_option maxHeartbeats 8000000 in
theorem change61_c {St : Type} (E : Nat → Prop) (nv : Value) (I : St → World → Prop) (f : St → Fm → Fm × St) (W : World) (L R : List Fm) (s0 : St) (x : Value) (hx0 : SqVal W L R x) (hL : L.length ≤ 100000) (hR : R.length ≤ 100000) (h0 : I s0 W) (hI : Steady W.heap.size I)
    (hmap : ∀ s X, I s X → ∀ k, E k → ∃ es c, X.heap[k]? = some (.map es c)) (hE : ∀ k, E k → k < W.heap.size)
    (hf : ∀ j t, (L ++ R)[j]? = some t → ∀ X x, I (stAt f s0 (L ++ R) j) X → ButE E W X → FmVal X t x → Calls Tryz.prog 61 #[nv, x] X fun e w' => ∃ v, e = .returned v ∧ FmVal (hide (lo X) w') (f (stAt f s0 (L ++ R) j) t).1 v ∧ I (f (stAt f s0 (L ++ R) j) t).2 w' ∧ ButE E X w') :
    Calls Tryz.prog 36 #[x, .func (.func 61) #[nv] #[]] W fun e w' => ∃ v, e = .returned v ∧ SqVal (hide (lo W) w') (inTurn f s0 L).1 (inTurn f (inTurn f s0 L).2 R).1 v ∧ I (inTurn f (inTurn f s0 L).2 R).2 w' ∧ ButE E W w' := by
  obtain ⟨a, n, c, b, m, d, rfl, hx, hy⟩ := hx0
  obtain ⟨W0, hW0⟩ : ∃ W0, (W.alloc (.cells #[.slice a n c, .slice b m d] 26)).alloc (.cells #[.slice none 0 0, .slice none 0 0] 26) = W0 := ⟨_, rfl⟩
  have bw : Below W.heap.size W W0 := by rw [← hW0]; exact ((Below.refl _ _).alloc (Nat.le_refl _) _).alloc (by simp) _
  have r0 : W0.heap[W.heap.size]? = some (.cells #[.slice a n c, .slice b m d] 26 (0, 0)) := by rw [← hW0]; exact keep_new _ (heap_alloc_new W _)
  have r1 : W0.heap[W.heap.size + 1]? = some (.cells #[.slice none 0 0, .slice none 0 0] 26 (0, 0)) := by
    rw [← hW0]
    have := heap_alloc_new (W.alloc (.cells #[.slice a n c, .slice b m d] 26)) (.cells #[.slice none 0 0, .slice none 0 0] 26)
    rw [World.size_alloc] at this
    exact this
  have B0 : ButE E W W0 := .of_below bw
  have KW : ∀ X, ButE E W X → Keeps W X := fun X hX => hX.keeps (hmap s0 W h0)
  have C1 : Hid (Calls Tryz.prog 69 #[.slice a n c, .func (.func 61) #[nv] #[]] W0 fun e w' => ∃ v, e = .returned v ∧ FmsAt (hide (lo W0) w') (inTurn f s0 L).1 v ∧ I (inTurn f s0 L).2 w' ∧ ButE E W0 w') := by
    refine each61_c E nv I f W0 L s0 a n c (hx.keep (KW _ B0)) hL (hI _ _ _ h0 (fun k hk => bw.block k hk)) (fun s X X' h e => hI s X X' h (fun k hk => e k (by have := bw.size; omega))) hmap (fun k hk => by have := hE k hk; have := bw.size; omega) (fun j t ht X x hI' hX hv => ?_)
    have e : stAt f s0 (L ++ R) j = stAt f s0 L j := by
      unfold stAt
      rw [List.take_append_of_le_length (Nat.le_of_lt (List.getElem?_eq_some_iff.1 ht).1)]
    have := hf j t (by rw [List.getElem?_append_left (List.getElem?_eq_some_iff.1 ht).1]; exact ht) X x (by rw [e]; exact hI') (B0.trans hX) hv
    rwa [e] at this
  have C2 : Hid (∀ X, I (inTurn f s0 L).2 X → ButE E W X → Calls Tryz.prog 69 #[.slice b m d, .func (.func 61) #[nv] #[]] X fun e w' => ∃ v, e = .returned v ∧ FmsAt (hide (lo X) w') (inTurn f (inTurn f s0 L).2 R).1 v ∧ I (inTurn f (inTurn f s0 L).2 R).2 w' ∧ ButE E X w') := by
    intro X hIX hX
    refine each61_c E nv I f X R _ b m d (hy.keep (KW _ hX)) hR hIX (fun s Y Y' h e => hI s Y Y' h (fun k hk => e k (by have := hX.size; omega))) hmap (fun k hk => by have := hE k hk; have := hX.size; omega) (fun j t ht Y x hI' hY hv => ?_)
    have e : stAt f s0 (L ++ R) (L.length + j) = stAt f (inTurn f s0 L).2 R j := by
      unfold stAt
      rw [List.take_append, List.take_of_length_le (by omega), Nat.add_sub_cancel_left, inTurn_both]
    have := hf (L.length + j) t (by rw [List.getElem?_append_right (by omega), Nat.add_sub_cancel_left]; exact ht) Y x (by rw [e]; exact hI') (hX.trans hY) hv
    rwa [e] at this
  have LE : Hid (∀ k, W.heap.size ≤ k → ¬ E k) := fun k hk e => by have := hE k e; omega
  have HB := Lib.hid B0
  have R0 := Lib.hid r0
  have R1 := Lib.hid r1
  have HI := Lib.hid hI
  obtain ⟨y0, y1, z0, z1⟩ := row2 r0
  clear hx hy hL hR h0 hI hmap hE hf bw r0 r1 B0 KW
  go_enter Tryz.func36, Tryz.ntmps36
  go_wp2_with (first
    | (go_at_call 69
       refine C1.out.mono ?_
       rintro e w3 ⟨v3, rfl, h3, i3, b3⟩
       obtain ⟨fa, fc, rfl, -, -, -, -⟩ := At.sl_inv h3
       have I3 := Lib.hid (And.intro h3 (And.intro i3 b3))
       have B3 := Lib.hid (HB.out.trans b3)
       have Q0 := Lib.hid ((b3.block _ (Array.getElem?_eq_some_iff.1 R0.out).1 (LE.out _ (Nat.le_refl _))).trans R0.out)
       have Q1 := Lib.hid ((b3.block _ (Array.getElem?_eq_some_iff.1 R1.out).1 (LE.out _ (by omega))).trans R1.out)
       clear C1 h3 i3 b3 y0 y1 z0 z1 hW0
       obtain ⟨y0, y1, z0, z1⟩ := row2 Q0.out)
    | (go_at_call 69
       refine (C2.out _ I3.out.2.1 B3.out).mono ?_
       rintro e w5 ⟨v5, rfl, h5, i5, b5⟩
       obtain ⟨ga, gc, rfl, -, -, -, -⟩ := At.sl_inv h5
       have I5 := Lib.hid (And.intro h5 (And.intro i5 b5))
       have P1 := Lib.hid ((b5.block _ (Array.getElem?_eq_some_iff.1 Q1.out).1 (LE.out _ (by omega))).trans Q1.out)
       clear h5 i5 b5 y0 y1 z0 z1
       obtain ⟨y0, y1, z0, z1⟩ := row2 P1.out))
  have g := set_block (o := 1) (u := .slice ga (inTurn f (inTurn f s0 L).2 R).1.length gc) (set_block (o := 0) (u := .slice fa (inTurn f s0 L).1.length fc) P1.out)
  refine bodyPost_ret (results_cell_row rfl _ _ (W.heap.size + 1) 26 _ (0, 0) _ rfl g Tryz.underlying26 rfl iSq) rfl ?_
  obtain ⟨h3, i3, b3⟩ := I3.out
  obtain ⟨h5, i5, b5⟩ := I5.out
  have key : ∀ k, k ≠ W.heap.size + 1 → ((w5.setCell ⟨W.heap.size + 1, 0, none⟩ (.slice fa (inTurn f s0 L).1.length fc)).setCell ⟨W.heap.size + 1, 1, none⟩ (.slice ga (inTurn f (inTurn f s0 L).2 R).1.length gc)).heap[k]? = w5.heap[k]? := fun k hk => by rw [Below.heap_setCell _ _ _ _ hk, Below.heap_setCell _ _ _ _ hk]
  have l1 := (Array.getElem?_eq_some_iff.1 R1.out).1
  have l3 := b3.size
  refine ⟨_, rfl, ⟨_, _, _, _, _, _, rfl, ?_, ?_⟩, ?_, ?_⟩
  · refine h3.keep (hide_keeps2 fun k h1 h2 => ?_)
    simp only [lo, decide_eq_false_iff_not, Nat.not_lt] at h2 ⊢
    exact ⟨by omega, by rw [key k (by omega), b5.block k h1 (LE.out k (by omega))]⟩
  · refine h5.keep (hide_keeps2 fun k h1 h2 => ?_)
    simp only [lo, decide_eq_false_iff_not, Nat.not_lt] at h2 ⊢
    exact ⟨by omega, key k (by omega)⟩
  · exact HI.out _ w5 _ i5 (fun k hk => key k (by omega))
  · exact ((B3.out.trans b5).set (by omega) _ _).set (by omega) _ _

end Go.Proofs.YtppfalbnhnpbnaaGreatDoor
