/- The reader of words: lists of terms, and both at every fuel. Conditions: words of at most the greatest length. -/
import Derived.Test.YtcandidgaegghaaGreatDoorRdC
import Derived.Deep.RegionLaw
import Derived.Deep.LoopGhost
namespace Go.Proofs.YtcandidgaegghaaGreatDoor
open Go Go.RowKit Ly
set_option maxRecDepth 10000
set_option linter.unusedSimpArgs false
set_option linter.unusedVariables false
set_option maxHeartbeats 8000000
theorem lay_one (w : World) (x : Bs) (t : TypeId) : StrsAt (w.alloc (.cells #[str x] t)) [x] (.slice (some ⟨w.heap.size, 0, none⟩) 1 1) := by
  refine At.sl_mk (by simp) (by simp) (by unfold maxLen; simp) fun j d hd => ?_
  have hj : j = 0 := by
    rcases j with _ | j
    · rfl
    · simp at hd
  subst hj
  simp at hd
  subst hd
  refine ⟨str x, ?_, rfl⟩
  rw [box_cell (heap_alloc_new w _)]; rfl
theorem lay_two (w : World) (x y : Bs) (t : TypeId) : StrsAt (w.alloc (.cells #[str x, str y] t)) [x, y] (.slice (some ⟨w.heap.size, 0, none⟩) 2 2) := by
  refine At.sl_mk (by simp) (by simp) (by unfold maxLen; simp) fun j d hd => ?_
  rcases j with _ | _ | j
  · simp at hd; subst hd
    refine ⟨str x, ?_, rfl⟩
    rw [box_cell (heap_alloc_new w _)]; rfl
  · simp at hd; subst hd
    refine ⟨str y, ?_, rfl⟩
    rw [box_cell (heap_alloc_new w _)]; rfl
  · simp at hd
def TakeWas (I : RdIx) (ws : List Bs) (k : Nat) (f : Bool) (p : Bs → Bool) (w : World) (s : Bs) (b : Bool) (w' : World) : Prop :=
  Moved I w w' ∧ ((b = true ∧ f = false ∧ ws[k]? = some s ∧ p s = true ∧ Rd w' I ws (k + 1) false) ∨ (b = false ∧ (f = true ∨ ws[k]? = none ∨ ∃ x, ws[k]? = some x ∧ p x = false) ∧ Rd w' I ws k f))
theorem take_was {I : RdIx} {ws : List Bs} {k : Nat} {f : Bool} {p : Bs → Bool} {w w' : World} {e : Ending} (h : TakePost I ws k f p w e w') : ∃ s b, e = .returned (.tuple #[str s, .bool b]) ∧ TakeWas I ws k f p w s b w' := by
  obtain ⟨m, ⟨x, h1, h2, h3, h4, h5⟩ | ⟨h1, h2, h3⟩⟩ := h
  · exact ⟨x, true, h4, m, .inl ⟨rfl, h1, h2, h3, h5⟩⟩
  · exact ⟨[], false, h2, m, .inr ⟨rfl, h1, h3⟩⟩
theorem info95 : (Tryz.prog.info? 95).map (fun i => (i.zero, i.size, i.bytes)) = some (some (.agg #[.bool false, .string ⟨#[]⟩, .slice none 0 0]), 3, 48) := by kernel_rfl
def glue (acc : List Tm) : PR (List Tm) → PR (List Tm)
  | .good ts r => .good (acc ++ ts) r
  | .bad r => .bad r
theorem tmsDs_append (a b : List Tm) : tmsDs (a ++ b) = tmsDs a ++ tmsDs b := by
  induction a with
  | nil => rfl
  | cons t a ih => simp [tmsDs, ih]
theorem app_laws {I : RdIx} {w wr w3 : World} {n : Nat} {ds : List D} {u : Value} {o : Obj} {t : Tm} {ta : Option Addr} {tn tc : Nat} (hO : OwnDs (lo w) w.heap.size wr 95 3 n ds u) (hA : I.A < w.heap.size) (hS : I.S < w.heap.size) (hw : w.heap.size ≤ wr.heap.size) (m3 : Moved I wr w3) (ht : TmsAt (hide (lo wr) w3) t.args (.slice ta tn tc)) :
    ∃ xs, (w3.alloc o).ownsRow w.heap.size 95 3 u n xs ∧ CellsAt (hide (fun k => lo w k || decide (u.ownBlock = some k)) (w3.alloc o)) ds xs ∧ CellsAt (hide (fun k => lo w k || decide (u.ownBlock = some k)) (w3.alloc o)) t.ds [.bool t.v, str t.name, .slice ta tn tc] := by
  have hu : ∀ k, u.ownBlock = some k → k < wr.heap.size := by
    obtain ⟨xs, ho, _⟩ := hO
    intro k hk
    rcases ho.2 with ⟨rfl, _⟩ | ⟨g, cap, cur, rfl, hb, hg, _⟩
    · cases hk
    · cases hk; exact (Array.getElem?_eq_some_iff.1 hg).1
  have h := hO.moved (w' := w3.alloc o) (fun k hk => by simp [lo]; omega) (fun k h1 h2 => by
    simp only [lo, decide_eq_false_iff_not, Nat.not_lt] at h2
    rw [heap_alloc_old _ _ (Nat.lt_of_lt_of_le h1 m3.size)]
    exact m3.block k h1 (by omega) (by omega))
  obtain ⟨xs, h1, h2⟩ := h
  refine ⟨xs, h1, h2, ?_⟩
  have e : t.ds = [.val (.bool t.v), .val (str t.name), .sl 3 t.args.length (tmsDs t.args)] := by cases t; rfl
  rw [e]
  refine CellsAt.cons rfl (CellsAt.cons rfl (CellsAt.cons (At.keep (hide_keeps2 fun k h1 h2 => ?_) _ _ ht) (CellsAt.nil _)))
  simp only [lo, decide_eq_false_iff_not, Nat.not_lt, Bool.or_eq_false_iff] at h2 ⊢
  exact ⟨⟨by omega, fun e => by have := hu k e; omega⟩, heap_alloc_old _ _ h1⟩
theorem Moved.alloc {I : RdIx} {w w1 : World} (m : Moved I w w1) (o : Obj) : Moved I w (w1.alloc o) := m.trans (Moved.of_below ((Below.refl _ _).alloc (Nat.le_refl _) _))
theorem Moved.grown {I : RdIx} {w w1 w2 : World} {row : Option Nat} (m : Moved I w w1) (hg : w1.grownBy w2 row) (hr : ∀ g, row = some g → w.heap.size ≤ g) : Moved I w w2 :=
  ⟨hg.os.trans m.os, hg.tape.trans m.tape, hg.output.trans m.output, Nat.le_trans m.size hg.size, fun k hk ha hs => (hg.block k (Nat.lt_of_lt_of_le hk m.size) (fun e => by have := hr k e.symm; omega)).trans (m.block k hk ha hs)⟩
theorem own_ge {w : World} {base : Nat} {e : TypeId} {size : Nat} {v : Value} {n : Nat} {xs : List Value} (h : w.ownsRow base e size v n xs) : ∀ g, v.ownBlock = some g → base ≤ g := by
  intro k hk
  rcases h.2 with ⟨rfl, _⟩ | ⟨g, cap, cur, rfl, hb, hg, _⟩
  · cases hk
  · cases hk; exact hb
theorem news3 (w : World) (a b c : Value) (t : TypeId) : ∀ (j : Nat) (u : Value), [a, b, c][j]? = some u → (w.alloc (.cells #[a, b, c] t)).cell? ((⟨w.heap.size, 0, none⟩ : Addr).add j) = some u := by
  intro j u hu
  have hg := heap_alloc_new w (.cells #[a, b, c] t)
  rw [show ((⟨w.heap.size, 0, none⟩ : Addr).add j) = ⟨w.heap.size, j, none⟩ by simp [Addr.add]; omega, box_cell hg]
  simpa using hu
/-- What holds behind the append. -/
def App199 (I : RdIx) (ws : List Bs) (w : World) (n k2 : Nat) (f2 : Bool) (ds : List D) (v : Value) (w5 : World) : Prop := OwnDs (lo w) w.heap.size w5 95 3 n ds v ∧ Rd w5 I ws k2 f2 ∧ Moved I w w5
theorem app_after {I : RdIx} {ws : List Bs} {w wr w3 w5 : World} {k0 k2 n : Nat} {f0 f2 : Bool} {ds : List D} {u v' : Value} {o : Obj} {t : Tm} {ta : Option Addr} {tn tc : Nat} {xs : List Value} (H : Rd w I ws k0 f0) (mw : Moved I w wr) (m3 : Moved I wr w3) (r3 : Rd w3 I ws k2 f2)
    (ho : (w3.alloc o).ownsRow w.heap.size 95 3 u n xs) (c1 : CellsAt (hide (fun k => lo w k || decide (u.ownBlock = some k)) (w3.alloc o)) ds xs) (c2 : CellsAt (hide (fun k => lo w k || decide (u.ownBlock = some k)) (w3.alloc o)) t.ds [.bool t.v, str t.name, .slice ta tn tc])
    (h5 : w5.ownsRow w.heap.size 95 3 v' (n + 1) (xs ++ [.bool t.v, str t.name, .slice ta tn tc])) (hg : (w3.alloc o).grownBy w5 u.ownBlock) (hat : v'.ownBlock = u.ownBlock ∨ v'.ownBlock = some (w3.alloc o).heap.size) : App199 I ws w (n + 1) k2 f2 (ds ++ t.ds) v' w5 := by
  have M5 := ((mw.trans m3).alloc o).grown hg (own_ge ho)
  refine ⟨OwnDs.appended c1 c2 h5 hg hat, H.back r3 M5 fun j hj => ?_, M5⟩
  have hj3 : j < w3.heap.size := Nat.lt_of_lt_of_le hj (mw.trans m3).size
  rw [hg.block j (by simp; omega) (fun e => by have := own_ge ho j e.symm; omega), heap_alloc_old _ _ hj3]
theorem args_good {ws : List Bs} {M k' k2 : Nat} {t : Tm} (p : PrOk (pTerm M (ws.drop k')) t false (ws.drop k2)) : pTerm M (ws.drop k') = .good t (ws.drop k2) := by
  revert p
  cases pTerm M (ws.drop k') with
  | good y r => rintro ⟨rfl, _, rfl⟩; rfl
  | bad r => rintro ⟨h, _⟩; cases h
theorem args_close {ws : List Bs} {M k' k2 : Nat} {t : Tm} (p : PrOk (pTerm M (ws.drop k')) t false (ws.drop k2)) (hx : ws[k2]? = some wClose) : pArgs (M + 1) (ws.drop k') = .good [t] (ws.drop (k2 + 1)) := by
  simp only [pArgs, args_good p, drop_at hx]
  rfl
theorem args_and {ws : List Bs} {M k' k2 : Nat} {t : Tm} (p : PrOk (pTerm M (ws.drop k')) t false (ws.drop k2)) (hx : ws[k2]? = some wAnd) : pArgs (M + 1) (ws.drop k') = glue [t] (pArgs M (ws.drop (k2 + 1))) := by
  simp only [pArgs, args_good p, drop_at hx, if_true]
  cases pArgs M (ws.drop (k2 + 1)) <;> rfl
theorem args_bad {ws : List Bs} {M k' k2 : Nat} {t : Tm} {f2 : Bool} (p : PrOk (pTerm M (ws.drop k')) t f2 (ws.drop k2)) (h : f2 = true ∨ ws[k2]? = none ∨ ∃ x, ws[k2]? = some x ∧ decide (x ∈ [wAnd, wClose]) = false) : pArgs (M + 1) (ws.drop k') = .bad (ws.drop k2) := by
  cases f2 with
  | true =>
    have hb : pTerm M (ws.drop k') = .bad (ws.drop k2) := by
      revert p
      cases pTerm M (ws.drop k') with
      | good y r => rintro ⟨_, h, _⟩; cases h
      | bad r => rintro ⟨_, rfl⟩; rfl
    simp only [pArgs, hb]
  | false =>
    rcases h with h | h | ⟨x, hx, hp⟩
    · cases h
    · simp only [pArgs, args_good p, drop_none h]
    · have h1 : x ≠ wAnd ∧ x ≠ wClose := by simpa using hp
      simp only [pArgs, args_good p, drop_at hx, if_neg h1.1, if_neg h1.2]
theorem pTerms_of {ws : List Bs} {k N : Nat} (hx : ws[k]? = some wOf) : pTerms (N + 1) (ws.drop k) = pArgs N (ws.drop (k + 1)) := by
  rw [drop_at hx]
  unfold pTerms
  exact if_pos rfl
theorem glue_glue (a b : List Tm) (p : PR (List Tm)) : glue a (glue b p) = glue (a ++ b) p := by cases p <;> simp [glue]
theorem terms_end {I : RdIx} {ws : List Bs} {w w5 w6 w7 : World} {k2 kk n : Nat} {f2 ff : Bool} {acc : List Tm} {t : Tm} {v5 : Value} {pr : PR (List Tm)} (hn : n = acc.length + 1) (hA : I.A < w.heap.size) (hS : I.S < w.heap.size) (a : App199 I ws w n k2 f2 (tmsDs acc ++ t.ds) v5 w5) (b6 : Below w5.heap.size w5 w6) (mv : Moved I w6 w7) (r7 : Rd w7 I ws kk ff)
    (hpr : PrOk pr (acc ++ [t]) ff (ws.drop kk)) : Out I ws w pr TmsAt (.returned v5) w7 := by
  obtain ⟨o5, _, m5⟩ := a
  have h := o5.at fun k hk => by simp [lo]; omega
  refine ⟨acc ++ [t], v5, kk, ff, rfl, ?_, (m5.trans (Moved.of_below b6)).trans mv, r7, hpr⟩
  unfold TmsAt
  rw [tmsDs_append, show tmsDs [t] = t.ds by simp [tmsDs], List.length_append, List.length_singleton, ← hn]
  refine At.keep (hide_keeps2 fun k h1 h2 => ⟨h2, ?_⟩) _ _ h
  simp only [lo, decide_eq_false_iff_not, Nat.not_lt] at h2
  exact (mv.block k (Nat.lt_of_lt_of_le h1 b6.size) (by omega) (by omega)).trans (b6.block k h1)
/-- What holds at the head of the round. -/
def Inv199 (I : RdIx) (ws : List Bs) (w : World) (N k m : Nat) (u : Value) (wr : World) : Prop :=
  ∃ k' acc, OwnDs (lo w) w.heap.size wr 95 3 acc.length (tmsDs acc) u ∧ Rd wr I ws k' false ∧ Moved I w wr ∧ 3 * (ws.length - k') + 2 ≤ m ∧ m ≤ N ∧ acc.length ≤ k' ∧ pArgs N (ws.drop (k + 1)) = glue acc (pArgs m (ws.drop k'))
theorem inv_next {I : RdIx} {ws : List Bs} {w wr w5 w6 w7 : World} {N k k' k2 M : Nat} {acc : List Tm} {t : Tm} {u5 v5 : Value} (hA : I.A < w.heap.size) (hS : I.S < w.heap.size)
    (Q : OwnDs (lo w) w.heap.size wr 95 3 acc.length (tmsDs acc) u5 ∧ Rd wr I ws k' false ∧ Moved I w wr ∧ 3 * (ws.length - k') + 2 ≤ M + 1 ∧ M + 1 ≤ N ∧ acc.length ≤ k' ∧ pArgs N (ws.drop (k + 1)) = glue acc (pArgs (M + 1) (ws.drop k')))
    (p : PrOk (pTerm M (ws.drop k')) t false (ws.drop k2)) (hx : ws[k2]? = some wAnd) (a : App199 I ws w (acc.length + 1) k2 false (tmsDs acc ++ t.ds) v5 w5) (b6 : Below w5.heap.size w5 w6) (mv : Moved I w6 w7) (r7 : Rd w7 I ws (k2 + 1) false) : Inv199 I ws w N k M v5 w7 := by
  obtain ⟨_, _, _, q1, q2, q3, q4⟩ := Q
  obtain ⟨o5, _, m5⟩ := a
  have hl := pTerm_len _ _ _ _ (args_good p)
  simp only [List.length_drop] at hl
  have hk2 := (List.getElem?_eq_some_iff.1 hx).1
  refine ⟨k2 + 1, acc ++ [t], ?_, r7, (m5.trans (Moved.of_below b6)).trans mv, by omega, by omega, by simp; omega, ?_⟩
  · rw [tmsDs_append, show tmsDs [t] = t.ds by simp [tmsDs], List.length_append, List.length_singleton]
    refine o5.moved (fun k hk => by simp [lo]; omega) fun k h1 h2 => ?_
    simp only [lo, decide_eq_false_iff_not, Nat.not_lt] at h2
    exact (mv.block k (Nat.lt_of_lt_of_le h1 b6.size) (by omega) (by omega)).trans (b6.block k h1)
  · rw [q4, args_and p hx, glue_glue]
/-- Term lists. -/
theorem terms_of (I : RdIx) (ws : List Bs) (hw : ∀ x ∈ ws, x.length ≤ maxLen) (n : Nat) (hT : ∀ m, m < n → TermOk I ws m) : TermsOk I ws n := by
  intro k w h hn
  have HT := Lib.hid hT
  have H := Lib.hid h
  have HN := Lib.hid hn
  have HW := Lib.hid hw
  have s0 : w.cell? ⟨I.S, 0, none⟩ = some (.func (.func 190) #[] #[one I.R, one I.A, one I.L]) := (box_cell h.hS 0).trans rfl
  have lt := h.lt
  have LT := Lib.hid lt
  have ltS := lt.2.2.1
  clear h hT hn hw lt
  go_enter Tryz.func199, Tryz.ntmps199
  go_upto_region 1 with fail
  go_cut [3, 4] from 6 to 15 (fun u v wx => ∃ s bb, u = str s ∧ v = .bool bb ∧ Hid (∃ w2, Below w.heap.size w w2 ∧ TakeWas I ws k false (fun s => decide (s ∈ [wOf])) w2 s bb wx))
  case first =>
    go_region_law (first
      | (go_simp; go_at_call 265; refine (is_c (l := [wOf]) ((lay_one w wOf 9).keep (keeps_drew _)) (by simp)).mono ?_; rintro e w2 ⟨⟨b, rfl, acc⟩, b2⟩; have AC := Lib.hid acc; have B2 : Hid (Below w.heap.size w w2) := ((((Below.refl _ _).alloc (Nat.le_refl _) _).drew).trans (b2.mono (by simp))); have s02 := keeps_of_below B2.out _ _ s0; clear acc b2; go_simp)
      | (go_simp; go_at_call 190; refine (take_c I ws k false 299 #[] _ _ _ (H.out.below B2.out) HW.out en299 AC.out).mono ?_; rintro e w3 tk; obtain ⟨s, bb, rfl, tw⟩ := take_was tk; have TW := Lib.hid tw; clear tk tw; go_simp))
    all_goals (go_wp2_with fail; go_meet; exact ⟨s, bb, rfl, rfl, w2, B2.out, TW.out⟩)
  case rest =>
  clear s0 ltS
  obtain ⟨s, bb, rfl, rfl, HC⟩ := hcut
  cases bb with
  | false =>
    go_wp2_with fail
    go_ret
    obtain ⟨w2, b2, mv, ⟨h1, _⟩ | ⟨_, h2, r3⟩⟩ := HC.out
    · cases h1
    refine ⟨[], _, k, false, rfl, At.sl_nil (Nat.zero_le _), (Moved.of_below b2).trans mv, r3, ?_⟩
    have hn := HN.out
    obtain ⟨N, rfl⟩ : ∃ N, n = N + 1 := ⟨n - 1, by omega⟩
    rcases h2 with h1 | h1 | ⟨x, hx, hp⟩
    · cases h1
    · rw [drop_none h1]; exact ⟨rfl, rfl, rfl⟩
    · rw [drop_at hx]
      have : x ≠ wOf := by simpa using hp
      simp only [pTerms, if_neg this]
      exact ⟨rfl, rfl, rfl⟩
  | true =>
    obtain ⟨w2, b2, mv, ⟨_, _, hx, hp, r3⟩ | ⟨h1, _⟩⟩ := HC.out
    rotate_left
    · cases h1
    have hn := HN.out
    obtain ⟨N, rfl⟩ : ∃ N, n = N + 1 := ⟨n - 1, by omega⟩
    obtain ⟨i0, hi0, hz0, hs0, hb0⟩ := info_parts info95
    have R0 := Lib.hid r3
    have hs : s = wOf := by simpa using hp
    subst hs
    have HX := Lib.hid hx
    have M0 := Lib.hid ((Moved.of_below b2).trans mv)
    have HK := Lib.hid (show k < ws.length from (List.getElem?_eq_some_iff.1 hx).1)
    clear hn HC b2 mv hx hp r3 w2
    go_wp2_with fail
    go_loopg [5] N (fun m u wr => Hid (Inv199 I ws w N k m u wr))
    case atStart =>
      refine ⟨k + 1, [], OwnDs.nil _ _ _ _ _, R0.out, M0.out, by have := HN.out; have := HK.out; omega, Nat.le_refl _, by simp, ?_⟩
      cases pArgs N (ws.drop (k + 1)) <;> rfl
    case round =>
      obtain ⟨k', acc, hO, hR, hM, hm, hmN, hacc, heq⟩ := hrel.out
      obtain ⟨M, rfl⟩ : ∃ M, gk = M + 1 := ⟨gk - 1, by omega⟩
      have CT := Lib.hid (HT.out M (by omega) k' wr hR (by omega))
      have Q := Lib.hid (And.intro hO (And.intro hR (And.intro hM (And.intro hm (And.intro hmN (And.intro hacc heq))))))
      clear hO hR hM hm hmN hacc heq hrel
      have NN : Hid (acc.length + 1 ≤ maxLen ∧ (acc.length + 1) * 48 ≤ 140737488355328) := by
        have h1 := Q.out.2.2.2.2.2.1
        have h2 := Q.out.2.1.at_
        have h3 := Q.out.2.1.short
        refine ⟨?_, ?_⟩
        · unfold maxLen; omega
        · omega
      go_wp2_with (first
        | (go_at_call 271; refine CT.out.mono ?_; rintro e w3 ⟨t, v, k2, f2, rfl, ⟨ta, tn, tc, rfl, ht⟩, m3, r3, p3⟩; obtain ⟨xs, ow, c1, c2⟩ := app_laws (o := .cells #[.bool t.v, str t.name, .slice ta tn tc] 95) Q.out.1 LT.out.2.1 LT.out.2.2.1 Q.out.2.2.1.size m3 ht; have OW := Lib.hid ow; have C12 := Lib.hid (And.intro c1 c2); have SZ := Lib.hid (Nat.le_trans Q.out.2.2.1.size m3.size); have Q3 := Lib.hid (And.intro m3 (And.intro r3 p3)); clear ht m3 r3 p3 ow c1 c2)
        | (at_builtin; refine wpList_append_own_at _ rfl _ _ 22 rfl w.heap.size 95 i0 (.agg #[.bool false, .string ⟨#[]⟩, .slice none 0 0]) 3 48 Tryz.underlying22 hi0 hz0 hs0 hb0 rfl (by decide) _ acc.length xs rfl OW.out ⟨w3.heap.size, 0, none⟩ 1 1 [.bool t.v, str t.name, .slice ta tn tc] rfl rfl (news3 _ _ _ _ _) (by intro u hu; simp at hu; rcases hu with rfl | rfl | rfl <;> rfl) NN.out.1 NN.out.2 (by have := SZ.out; simp; omega) ?_; intro v5 w5 hown5 hg5 _ hat5; have A5 := Lib.hid (app_after H.out Q.out.2.2.1 Q3.out.1 Q3.out.2.1 OW.out C12.out.1 C12.out.2 hown5 hg5 hat5); clear hown5 hg5 hat5)
        | (go_at_call 265; refine (is_c (l := [wAnd, wClose]) (lay_two w5 wAnd wClose 9) (by simp)).mono ?_; rintro e w6 ⟨⟨b, rfl, acc6⟩, b6⟩; have AC := Lib.hid acc6; have B6 : Hid (Below w5.heap.size w5 w6) := (((Below.refl _ _).alloc (Nat.le_refl _) _).trans (b6.mono (by simp))); clear acc6 b6)
        | (go_at_call 196; refine (must_c I ws k2 f2 299 #[] _ _ _ (A5.out.2.1.below B6.out) HW.out en299 AC.out).mono ?_; rintro e w7 ⟨mv, hor⟩; have MV := Lib.hid mv; clear mv; rcases hor with ⟨x, hf, hx, hp, rfl, r7⟩ | ⟨hor, rfl, r7⟩))
      · go_ret
        subst hf
        have hq : x = wClose := by
          have h1 : x = wAnd ∨ x = wClose := by simpa using hp
          rcases h1 with h1 | h1
          · exfalso; subst h1; simp_all [wAnd]
          · exact h1
        subst hq
        refine terms_end rfl LT.out.2.1 LT.out.2.2.1 A5.out B6.out MV.out r7 ?_
        rw [pTerms_of HX.out, Q.out.2.2.2.2.2.2, args_close Q3.out.2.2 hx]
        exact ⟨rfl, rfl, rfl⟩
      · subst hf
        have hq : x = wAnd := by
          have h1 : x = wAnd ∨ x = wClose := by simpa using hp
          rcases h1 with h1 | h1
          · exact h1
          · exfalso; subst h1; simp_all [wClose]
        subst hq
        go_roundg M
        case measure => omega
        case rel => exact inv_next LT.out.2.1 LT.out.2.2.1 Q.out Q3.out.2.2 hx A5.out B6.out MV.out r7
      · go_ret
        refine terms_end rfl LT.out.2.1 LT.out.2.2.1 A5.out B6.out MV.out r7 ?_
        rw [pTerms_of HX.out, Q.out.2.2.2.2.2.2, args_bad Q3.out.2.2 hor]
        exact ⟨rfl, rfl⟩
end Go.Proofs.YtcandidgaegghaaGreatDoor
namespace Go.Proofs.YtcandidgaegghaaGreatDoor
open Go Go.RowKit Ly
set_option maxRecDepth 10000
set_option maxHeartbeats 800000
/-- term and terms, at every fuel. -/
theorem terms_all (I : RdIx) (ws : List Bs) (hw : ∀ x ∈ ws, x.length ≤ maxLen) : ∀ n, TermOk I ws n ∧ TermsOk I ws n := by
  have key : ∀ n, (∀ m, m < n → TermOk I ws m) ∧ TermsOk I ws n := by
    intro n
    induction n with
    | zero => exact ⟨fun m hm => absurd hm (Nat.not_lt_zero m), terms_of I ws hw 0 fun m hm => absurd hm (Nat.not_lt_zero m)⟩
    | succ n ih =>
      have h : ∀ m, m < n + 1 → TermOk I ws m := by
        intro m hm
        by_cases hlt : m < n
        · exact ih.1 m hlt
        · have e : m = n := by omega
          subst e
          cases m with
          | zero => intro k w _ hn; omega
          | succ m =>
            exact term_of I ws hw m (terms_of I ws hw m fun j hj => ih.1 j (by omega))
      exact ⟨h, terms_of I ws hw (n + 1) h⟩
  exact fun n => ⟨(key (n + 1)).1 n (Nat.lt_succ_self n), (key n).2⟩
/-- A predicate's terms, a formula's parts: the failed entry of formula is to come next. -/
theorem terms_c (I : RdIx) (ws : List Bs) (hw : ∀ x ∈ ws, x.length ≤ maxLen) (n : Nat) : TermsOk I ws n := (terms_all I ws hw n).2
end Go.Proofs.YtcandidgaegghaaGreatDoor
