/- The reader of words: quantified formulas, and formula at every fuel. Conditions: words of at most the greatest length. -/
import Derived.Test.YtcandidgaegghaaGreatDoorRdE
namespace Go.Proofs.YtcandidgaegghaaGreatDoor
open Go Go.RowKit Ly
set_option maxRecDepth 10000
set_option linter.unusedSimpArgs false
set_option linter.unusedVariables false
set_option maxHeartbeats 4000000
def quantRes (n : Nat) : List Bs → PR Fm
  | [] => .bad []
  | q :: l => if q = wAll ∨ q = wSome then
      (match l with
      | [] => .bad []
      | v :: r => if varName v = true then (match pForm n r with | .bad s => .bad s | .good f s => .good (.mk (if q = wSome then 9 else 8) v [] [f]) s) else .bad (v :: r))
    else .bad (q :: l)
theorem quant_pr {ws : List Bs} {n k k3 k4 k5 : Nat} {s v : Bs} {f3 f4 f5 : Bool} {fx : Fm} {op : Int} (h1 : MustWas ws k false (fun s => decide (s ∈ [wAll, wSome])) s k3 f3) (h2 : MustWas ws k3 f3 varName v k4 f4)
    (h3 : PrOk (pF f4 n (ws.drop k4)) fx f5 (ws.drop k5)) (hop : f3 = false → op = if s = wSome then 9 else 8) : PrOk (quantRes n (ws.drop k)) (.mk op v [] [fx]) f5 (ws.drop k5) := by
  rcases h1 with ⟨_, hs, hp, rfl, rfl⟩ | ⟨hor, _, rfl, rfl⟩
  · have e : s = wAll ∨ s = wSome := by simpa using hp
    rw [hop rfl, drop_at hs]
    simp only [quantRes, if_pos e]
    rcases h2 with ⟨_, hv, hp2, rfl, rfl⟩ | ⟨hor, _, rfl, rfl⟩
    · rw [drop_at hv]
      simp only [if_pos hp2]
      simp only [pF, Bool.false_eq_true, if_false] at h3
      revert h3
      cases pForm n (ws.drop (k + 1 + 1)) with
      | bad r => exact fun h => h
      | good y r => rintro ⟨rfl, h2, h3⟩; exact ⟨rfl, h2, h3⟩
    · simp only [pF, if_true] at h3
      rcases hor with h | h | ⟨y, hy, hp⟩
      · cases h
      · rw [drop_none h] at h3 ⊢; exact h3
      · rw [drop_at hy] at h3 ⊢
        simp only [hp, Bool.false_eq_true, if_false]; exact h3
  · rcases h2 with ⟨h, _⟩ | ⟨_, _, rfl, rfl⟩
    · cases h
    · simp only [pF, if_true] at h3
      rcases hor with h | h | ⟨y, hy, hp⟩
      · cases h
      · rw [drop_none h] at h3 ⊢; exact h3
      · rw [drop_at hy] at h3 ⊢
        have : ¬ (y = wAll ∨ y = wSome) := by simpa using hp
        simp only [quantRes, if_neg this]; exact h3
/-- The state of quantified: its result, and its own formula. -/
structure QuS (I : RdIx) (ws : List Bs) (w : World) (op : Int) (nm : Bs) (k : Nat) (f : Bool) (wx : World) : Prop where
  rd : Rd wx I ws k f
  mv : Moved I w wx
  g : wx.heap[w.heap.size]? = some (.cells #[.int .u8 0, str [], .slice none 0 0, .slice none 0 0] 25 (0, 0))
  h : wx.heap[w.heap.size + 1]? = some (.cells #[.int .u8 op, str nm, .slice none 0 0, .slice none 0 0] 25 (0, 0))
section
variable {I : RdIx} {ws : List Bs} {w : World} {op : Int} {nm : Bs} {k : Nat} {f : Bool} {wx : World}
theorem QuS.moved (q : QuS I ws w op nm k f wx) {wy : World} {k3 : Nat} {f3 : Bool} (m : Moved I wx wy) (r : Rd wy I ws k3 f3) : QuS I ws w op nm k3 f3 wy :=
  ⟨r, q.mv.trans m, m.keepc q.rd (by decide) (by decide) q.g, m.keepc q.rd (by decide) (by decide) q.h⟩
theorem Rd.set {k0 : Nat} {f0 : Bool} (H : Rd w I ws k0 f0) (R : Rd wx I ws k f) (m : Moved I w wx) (b o : Nat) (v : Value) (hb : w.heap.size ≤ b) : Rd (wx.setCell ⟨b, o, none⟩ v) I ws k f :=
  H.back R (m.set hb v) fun j hj => Below.heap_setCell _ _ _ _ (by simp; omega)
theorem QuS.setH (q : QuS I ws w op nm k f wx) {k0 : Nat} {f0 : Bool} (H : Rd w I ws k0 f0) {op' : Int} {nm' : Bs} (o : Nat) (v : Value) (e : (#[.int .u8 op, str nm, .slice none 0 0, .slice none 0 0] : Array Value).setIfInBounds o v = #[.int .u8 op', str nm', .slice none 0 0, .slice none 0 0]) : QuS I ws w op' nm' k f (wx.setCell ⟨w.heap.size + 1, o, none⟩ v) :=
  ⟨H.set q.rd q.mv _ _ _ (by omega), q.mv.set (by omega) v, (Below.heap_setCell _ _ _ _ (by simp)).trans q.g, by rw [set_block q.h, e]⟩
end
theorem row25' {w : World} {b : Nat} {x y z t : Value} (h : w.heap[b]? = some (.cells #[x, y, z, t] 25 (0, 0))) :
    w.cell? ⟨b, 0, none⟩ = some x ∧ w.cell? ⟨b, 1, none⟩ = some y ∧ w.cell? ⟨b, 2, none⟩ = some z ∧ w.cell? ⟨b, 3, none⟩ = some t ∧
    w.frozen? ⟨b, 0, none⟩ = false ∧ w.frozen? ⟨b, 1, none⟩ = false ∧ w.frozen? ⟨b, 2, none⟩ = false ∧ w.frozen? ⟨b, 3, none⟩ = false :=
  ⟨(box_cell h 0).trans rfl, (box_cell h 1).trans rfl, (box_cell h 2).trans rfl, (box_cell h 3).trans rfl, by simp [World.frozen?, h], by simp [World.frozen?, h], by simp [World.frozen?, h], by simp [World.frozen?, h]⟩
theorem quant_end {I : RdIx} {ws : List Bs} {w wq w7 : World} {op : Int} {v : Bs} {k0 k7 : Nat} {f0 f7 : Bool} {fx : Fm} {a : Option Addr} {na ca : Nat} {b : Option Addr} {nb cb : Nat} {pr : PR Fm} {tmps : Array Value} (H : Rd w I ws k0 f0) (S7 : QuS I ws w op v k7 f7 w7) (hq : w.heap.size + 2 ≤ wq.heap.size)
    (ht : TmsAt (hide (lo wq) w7) fx.args (.slice a na ca)) (hs : FmsAt (hide (lo wq) w7) fx.sub (.slice b nb cb)) (hp : PrOk pr (.mk op v [] [fx]) f7 (ws.drop k7)) (h2 : tmps.getD 2 undef = one w.heap.size) :
    bodyPost Tryz.prog Tryz.f194 (Out I ws w pr FmVal) .ret ⟨tmps, []⟩ ((((((w7.setCell ⟨w.heap.size + 1, 3, none⟩ (.slice (some ⟨w7.heap.size, 0, none⟩) 1 1)).setCell ⟨w.heap.size, 0, none⟩ (.int .u8 op)).setCell ⟨w.heap.size, 1, none⟩ (str v)).setCell ⟨w.heap.size, 2, none⟩ (.slice none 0 0)).setCell ⟨w.heap.size, 3, none⟩ (.slice (some ⟨w7.heap.size, 0, none⟩) 1 1)).alloc (.cells #[.int .u8 fx.op, str fx.name, .slice a na ca, .slice b nb cb] 25)) := by
  have z7 := (Array.getElem?_eq_some_iff.1 S7.h).1
  have z8 := (Array.getElem?_eq_some_iff.1 S7.g).1
  have hz : ((w.alloc (.map #[] 0)).alloc (.map #[] 0)).heap.size = w.heap.size + 2 := by simp
  have K : Keeps (hide (lo wq) w7) (hide (lo ((w.alloc (.map #[] 0)).alloc (.map #[] 0))) w7) := lo_keeps (by omega) fun _ _ _ => rfl
  have fo := fresh_one (w1 := (w.alloc (.map #[] 0)).alloc (.map #[] 0)) (w2 := w7) (t := 25) (by omega) (ht.keep K) (hs.keep K)
  have K2 : Keeps (hide (lo ((w.alloc (.map #[] 0)).alloc (.map #[] 0))) (w7.alloc (.cells #[.int .u8 fx.op, str fx.name, .slice a na ca, .slice b nb cb] 25))) (hide (lo ((w.alloc (.map #[] 0)).alloc (.map #[] 0))) ((w7.alloc (.cells #[.int .u8 fx.op, str fx.name, .slice a na ca, .slice b nb cb] 25)).setCell ⟨w.heap.size + 1, 3, none⟩ (.slice (some ⟨w7.heap.size, 0, none⟩) 1 1))) := hide_keeps2 fun k h1 h2 => by
    refine ⟨h2, Below.heap_setCell _ _ _ _ ?_⟩
    simp only [lo, decide_eq_false_iff_not, Nat.not_lt, hz] at h2
    simp; omega
  have ba : Below w7.heap.size w7 (w7.alloc (.cells #[.int .u8 fx.op, str fx.name, .slice a na ca, .slice b nb cb] 25)) := (Below.refl _ _).alloc (Nat.le_refl _) _
  obtain ⟨g4, v4, m4, r4⟩ := form_put (fm := .mk op v [] [fx]) (g := w.heap.size) (a := none) (n := 0) (c := 0) (w1 := (w.alloc (.map #[] 0)).alloc (.map #[] 0)) (w3 := (w7.alloc (.cells #[.int .u8 fx.op, str fx.name, .slice a na ca, .slice b nb cb] 25)).setCell ⟨w.heap.size + 1, 3, none⟩ (.slice (some ⟨w7.heap.size, 0, none⟩) 1 1)) H (H.set (S7.rd.below ba) (S7.mv.alloc _) _ _ _ (by omega)) ((S7.mv.alloc _).set (by omega) _) (Nat.le_refl _) (by omega) (by omega)
    ((Below.heap_setCell _ _ _ _ (by simp)).trans ((heap_alloc_old _ _ z8).trans S7.g)) (At.sl_nil (Nat.zero_le _)) (fo.keep K2) _ rfl
  rw [World.setCell_alloc_past _ _ _ _ z7, setAllocs (by simpa [World.setCell] using z8)] at g4 v4 m4 r4
  refine bodyPost_ret (res25 rfl _ _ w.heap.size _ _ _ _ (0, 0) h2 g4) rfl ?_
  exact ⟨_, _, k7, f7, rfl, v4, m4, r4, hp⟩
theorem quant_bd {ws : List Bs} {n k k3 k4 : Nat} {s v : Bs} {f3 f4 : Bool} (hn : 3 * (ws.length - k) + 1 ≤ n) (h1 : MustWas ws k false (fun s => decide (s ∈ [wAll, wSome])) s k3 f3) (h2 : MustWas ws k3 f3 varName v k4 f4) : f4 = false → 3 * (ws.length - k4) + 1 ≤ n := by
  intro e
  rcases h2 with ⟨e3, hv, _, rfl, _⟩ | ⟨_, _, _, e4⟩
  · rcases h1 with ⟨_, hs, _, rfl, _⟩ | ⟨_, _, _, e5⟩
    · omega
    · rw [e5] at e3; cases e3
  · rw [e4] at e; cases e
/-- quantified -/
theorem quant_c (I : RdIx) (ws : List Bs) (hw : ∀ x ∈ ws, x.length ≤ maxLen) (n : Nat) (hF : FormOk I ws n) (k : Nat) (w : World) (h : Rd w I ws k false) (tb : Tb w I) (hn : 3 * (ws.length - k) + 1 ≤ n) :
    Calls Tryz.prog 194 #[one I.S] w (Out I ws w (quantRes n (ws.drop k)) FmVal) := by
  have hB : Below w.heap.size w ((w.alloc (.cells #[.int .u8 0, str [], .slice none 0 0, .slice none 0 0] 25)).alloc (.cells #[.int .u8 8, str [], .slice none 0 0, .slice none 0 0] 25)) := ((Below.refl _ _).alloc (Nat.le_refl _) _).alloc (by simp) _
  have S0 : QuS I ws w 8 [] k false ((w.alloc (.cells #[.int .u8 0, str [], .slice none 0 0, .slice none 0 0] 25)).alloc (.cells #[.int .u8 8, str [], .slice none 0 0, .slice none 0 0] 25)) := ⟨h.below hB, Moved.of_below hB, heap_alloc2_old _ _ _, heap_alloc2_new _ _ _⟩
  generalize hW : (w.alloc (.cells #[.int .u8 0, str [], .slice none 0 0, .slice none 0 0] 25)).alloc (.cells #[.int .u8 8, str [], .slice none 0 0, .slice none 0 0] 25) = W at S0
  have HS0 := Lib.hid S0
  have H := Lib.hid h
  have TB := Lib.hid tb
  have HF := Lib.hid hF
  have HN := Lib.hid hn
  have HW := Lib.hid hw
  have HWW := Lib.hid hW
  clear h tb hF hn hw S0 hB hW
  go_enter Tryz.func194, Tryz.ntmps194
  go_upto_region 2 with fail
  rw [show (w.alloc (Obj.cells #[Value.int IntKind.u8 0, Value.string { data := #[] }, Value.slice none 0 0, Value.slice none 0 0] 25)).alloc (Obj.cells #[Value.int IntKind.u8 8, Value.string { data := #[] }, Value.slice none 0 0, Value.slice none 0 0] 25) = W from HWW.out]
  clear HWW
  go_upto_region 4 with (first
    | (go_at_call 265; refine (is_c (l := [wAll, wSome]) (lay_two W wAll wSome 9) (by simp)).mono ?_; rintro e w3 ⟨⟨bf, rfl, acc⟩, b3⟩; have AC := Lib.hid acc; have B3 : Hid (Below W.heap.size W w3) := (((Below.refl _ _).alloc (Nat.le_refl _) _).trans (b3.mono (by simp))); clear acc b3)
    | (go_at_call 196; refine (must_c I ws k false 299 #[] _ _ _ (HS0.out.rd.below B3.out) HW.out en299 AC.out).mono ?_; rintro e w4 mp; obtain ⟨s, k3, f3, rfl, mv, r4, mw⟩ := must_was mp; have S4 := HS0.out.moved ((Moved.of_below B3.out).trans mv) r4; obtain ⟨y0, y1, y2, y3, g0, g1, g2, g3⟩ := row25' S4.h; have Q4 := Lib.hid (And.intro S4 mw); clear S4 mp mv r4 mw))
  · have hs : s = wSome := by show s = [115, 111, 109, 101]; first | assumption | (apply eq_of_beq; assumption)
    have HOP : Hid (f3 = false → (9 : Int) = if s = wSome then 9 else 8) := fun _ => (if_pos hs).symm
    have Q5 := Lib.hid (Q4.out.1.setH H.out (op' := 9) (nm' := []) 0 (.int .u8 9) rfl)
    clear hs y0 y1 y2 y3 g0 g1 g2 g3
    go_wp2_with (first
      | (go_at_call 196; refine (must_c I ws k3 f3 266 #[] #[] _ _ Q5.out.rd HW.out en266 (var_acc _)).mono ?_; rintro e w6 mp; obtain ⟨v, k4, f4, rfl, mv6, r6, mw6⟩ := must_was mp; have S6 := Q5.out.moved mv6 r6; obtain ⟨y0, y1, y2, y3, g0, g1, g2, g3⟩ := row25' S6.h; have Q6 := Lib.hid (And.intro S6 mw6); clear S6 mp mv6 r6 mw6)
      | (go_at_call 117; refine (HF.out k4 f4 _ (Q6.out.1.setH H.out (op' := 9) (nm' := v) 1 (str v) rfl).rd (TB.out.moved H.out (Q6.out.1.setH H.out (op' := 9) (nm' := v) 1 (str v) rfl).mv) (quant_bd HN.out Q4.out.2 Q6.out.2)).mono ?_; rintro e w7 ⟨fx, v7, k7, f7, rfl, ⟨a, na, ca, b, nb, cb, rfl, ht, hs⟩, mv7, r7, hp7⟩; have S7 := (Q6.out.1.setH H.out (op' := 9) (nm' := v) 1 (str v) rfl).moved mv7 r7; clear y0 y1 y2 y3 g0 g1 g2 g3; obtain ⟨y0, y1, y2, y3, g0, g1, g2, g3⟩ := row25' S7.h; obtain ⟨x0, x1, x2, x3, l0, l1, l2, l3⟩ := row25' S7.g; have z7 := (Array.getElem?_eq_some_iff.1 S7.h).1; have z8 := (Array.getElem?_eq_some_iff.1 S7.g).1; have Q7 := Lib.hid (And.intro S7 (And.intro ht (And.intro hs (And.intro mv7 hp7)))); clear S7 ht hs mv7 r7 hp7))
    obtain ⟨S7, ht, hs, mv7, hp7⟩ := Q7.out
    exact quant_end H.out S7 (by have := (Array.getElem?_eq_some_iff.1 Q6.out.1.h).1; simp [World.setCell]; omega) ht hs (quant_pr Q4.out.2 Q6.out.2 hp7 HOP.out) rfl
  · have hs : ¬ s = wSome := by show ¬ s = [115, 111, 109, 101]; first | assumption | (apply ne_of_beq_false; assumption)
    have HOP : Hid (f3 = false → (8 : Int) = if s = wSome then 9 else 8) := fun _ => (if_neg hs).symm
    have Q5 := Lib.hid Q4.out.1
    clear hs y0 y1 y2 y3 g0 g1 g2 g3
    go_wp2_with (first
      | (go_at_call 196; refine (must_c I ws k3 f3 266 #[] #[] _ _ Q5.out.rd HW.out en266 (var_acc _)).mono ?_; rintro e w6 mp; obtain ⟨v, k4, f4, rfl, mv6, r6, mw6⟩ := must_was mp; have S6 := Q5.out.moved mv6 r6; obtain ⟨y0, y1, y2, y3, g0, g1, g2, g3⟩ := row25' S6.h; have Q6 := Lib.hid (And.intro S6 mw6); clear S6 mp mv6 r6 mw6)
      | (go_at_call 117; refine (HF.out k4 f4 _ (Q6.out.1.setH H.out (op' := 8) (nm' := v) 1 (str v) rfl).rd (TB.out.moved H.out (Q6.out.1.setH H.out (op' := 8) (nm' := v) 1 (str v) rfl).mv) (quant_bd HN.out Q4.out.2 Q6.out.2)).mono ?_; rintro e w7 ⟨fx, v7, k7, f7, rfl, ⟨a, na, ca, b, nb, cb, rfl, ht, hs⟩, mv7, r7, hp7⟩; have S7 := (Q6.out.1.setH H.out (op' := 8) (nm' := v) 1 (str v) rfl).moved mv7 r7; clear y0 y1 y2 y3 g0 g1 g2 g3; obtain ⟨y0, y1, y2, y3, g0, g1, g2, g3⟩ := row25' S7.h; obtain ⟨x0, x1, x2, x3, l0, l1, l2, l3⟩ := row25' S7.g; have z7 := (Array.getElem?_eq_some_iff.1 S7.h).1; have z8 := (Array.getElem?_eq_some_iff.1 S7.g).1; have Q7 := Lib.hid (And.intro S7 (And.intro ht (And.intro hs (And.intro mv7 hp7)))); clear S7 ht hs mv7 r7 hp7))
    obtain ⟨S7, ht, hs, mv7, hp7⟩ := Q7.out
    exact quant_end H.out S7 (by have := (Array.getElem?_eq_some_iff.1 Q6.out.1.h).1; simp [World.setCell]; omega) ht hs (quant_pr Q4.out.2 Q6.out.2 hp7 HOP.out) rfl
end Go.Proofs.YtcandidgaegghaaGreatDoor
namespace Go.Proofs.YtcandidgaegghaaGreatDoor
open Go Go.RowKit Ly
set_option maxRecDepth 10000
set_option linter.unusedSimpArgs false
set_option linter.unusedVariables false
set_option maxHeartbeats 4000000
theorem pf_false (n : Nat) (l : List Bs) : pForm (n + 1) (wFalse :: l) = .good (.mk 2 [] [] []) l := by
  simp only [pForm, if_true]
theorem pf_one (n : Nat) (w : Bs) (l : List Bs) (h1 : w ≠ wFalse) (h : oneOp w ≠ 0) : pForm (n + 1) (w :: l) = oneRes (oneOp w) [] (pForm n l) := by
  simp only [pForm, if_neg h1, if_pos h]
  cases pForm n l <;> rfl
theorem pf_two (n : Nat) (w : Bs) (l : List Bs) (h1 : w ≠ wFalse) (h : oneOp w = 0) (h2 : twoOp w ≠ 0) : pForm (n + 1) (w :: l) = twoRes n (twoOp w) (signBetween (twoOp w)) (pForm n l) := by
  simp only [pForm, if_neg h1, h, h2, ne_eq, not_true_eq_false, not_false_eq_true, if_false, if_true]
  cases pForm n l with
  | bad r => rfl
  | good f r => cases r <;> rfl
theorem pf_for (n : Nat) (l : List Bs) : pForm (n + 1) (wFor :: l) = quantRes n l := by
  have h1 : wFor ≠ wFalse := by decide
  have h2 : oneOp wFor = 0 := by decide
  have h3 : twoOp wFor = 0 := by decide
  simp only [pForm, if_neg h1, h2, h3, ne_eq, not_true_eq_false, if_false, if_true]
  cases l with
  | nil => rfl
  | cons q l => cases l <;> rfl
def predRes (w : Bs) : PR (List Tm) → PR Fm
  | .bad r => .bad r
  | .good ts r => .good (.mk 1 w ts []) r
theorem predRes_ok {w : Bs} {p : PR (List Tm)} {ts : List Tm} {f : Bool} {rest : List Bs} (h : PrOk p ts f rest) : PrOk (predRes w p) (.mk 1 w ts []) f rest := by
  cases p with
  | bad r => exact h
  | good y r => obtain ⟨rfl, h2, h3⟩ := h; exact ⟨rfl, h2, h3⟩
theorem pf_pred (n : Nat) (w : Bs) (l : List Bs) (h : keyed w = false) (hp : predName w = true) : pForm (n + 1) (w :: l) = predRes w (pTerms n l) := by
  obtain ⟨h1, h2, h3, h4⟩ := pForm_ok_pred hp
  simp only [pForm, if_neg h1, h2, h3, if_neg h4, ne_eq, not_true_eq_false, if_false, hp, if_true]
  cases pTerms n l <;> rfl
theorem keyed_of {s : Bs} (h : keyed s = false) : s ≠ wFalse ∧ oneOp s = 0 ∧ twoOp s = 0 ∧ s ≠ wFor := by
  have hn : ∀ i ∈ insTab, s ≠ keyAt i := by
    intro i hi e
    have : s ∈ insTab.map keyAt := List.mem_map.2 ⟨i, hi, e.symm⟩
    simp [keyed, this] at h
  have k2 : s ≠ wFalse := hn 2 (by decide)
  have k5 : s ≠ wNot := hn 5 (by decide)
  have k8 : s ≠ wNec := hn 8 (by decide)
  have k11 : s ≠ wPos := hn 11 (by decide)
  have k14 : s ≠ wNext := hn 14 (by decide)
  have k17 : s ≠ wAlways := hn 17 (by decide)
  have k20 : s ≠ wFor := hn 20 (by decide)
  have k23 : s ≠ wBoth := hn 23 (by decide)
  have k26 : s ≠ wEither := hn 26 (by decide)
  have k29 : s ≠ wIf := hn 29 (by decide)
  have k32 : s ≠ wAs := hn 32 (by decide)
  have k35 : s ≠ wWhile := hn 35 (by decide)
  exact ⟨k2, by simp [oneOp, *], by simp [twoOp, *], k20⟩
theorem pf_none (n : Nat) (w : Bs) (l : List Bs) (h : keyed w = false) (hp : predName w = false) : pForm (n + 1) (w :: l) = .bad (w :: l) := by
  obtain ⟨h1, h2, h3, h4⟩ := keyed_of h
  simp only [pForm, if_neg h1, h2, h3, if_neg h4, ne_eq, not_true_eq_false, if_false, hp, Bool.false_eq_true]
theorem en192 : Enters Tryz.prog 192 := fun _ _ => rfl
theorem en264 : Enters Tryz.prog 264 := fun _ _ => rfl
theorem en267 : Enters Tryz.prog 267 := fun _ _ => rfl
theorem en194 : Enters Tryz.prog 194 := fun _ _ => rfl
/-- What the map holds under the word reads on. -/
theorem key_read (I : RdIx) (ws : List Bs) (hw : ∀ x ∈ ws, x.length ≤ maxLen) (n : Nat) (hF : FormOk I ws n) (k : Nat) (w : World) (h : Rd w I ws (k + 1) false) (tb : Tb w I) (hn : 3 * (ws.length - k) + 1 ≤ n + 1) {x : Bs} (hk : ws[k]? = some x) {i : Nat} (hi : i ∈ insTab) (hx : x = keyAt i)
    {g : Fn} {fs cs : Array Value} (iv : IV w I.S i (.func g fs cs)) : ∃ id, g = .func id ∧ Enters Tryz.prog id ∧ Calls Tryz.prog id (fs ++ cs) w (Out I ws w (pForm (n + 1) (ws.drop k)) FmVal) := by
  have hlt := (List.getElem?_eq_some_iff.1 hk).1
  have hb : 3 * (ws.length - (k + 1)) + 1 ≤ n := by omega
  rw [drop_at hk]
  subst hx
  have one' : ∀ op, CloOne w I.S op (.func g fs cs) → keyAt i ≠ wFalse → oneOp (keyAt i) = op → op ≠ 0 → ∃ id, g = .func id ∧ Enters Tryz.prog id ∧ Calls Tryz.prog id (fs ++ cs) w (Out I ws w (pForm (n + 1) (keyAt i :: ws.drop (k + 1))) FmVal) := by
    rintro op ⟨b1, b2, e, h1, h2⟩ hne ho h0
    cases e
    refine ⟨264, rfl, en264, ?_⟩
    rw [pf_one n _ _ hne (by rw [ho]; exact h0), ho]
    exact one1_c I ws n hF op b1 b2 (k + 1) w h tb hb h1 h2
  have two' : ∀ op b, CloTwo w I.S op b (.func g fs cs) → keyAt i ≠ wFalse → oneOp (keyAt i) = 0 → twoOp (keyAt i) = op → op ≠ 0 → signBetween op = b → ∃ id, g = .func id ∧ Enters Tryz.prog id ∧ Calls Tryz.prog id (fs ++ cs) w (Out I ws w (pForm (n + 1) (keyAt i :: ws.drop (k + 1))) FmVal) := by
    rintro op b ⟨b1, b2, b3, e, h1, h2, h3⟩ hne h1' ho h0 hsb
    cases e
    refine ⟨267, rfl, en267, ?_⟩
    rw [pf_two n _ _ hne h1' (by rw [ho]; exact h0), ho, hsb]
    exact two1_c I ws hw n hF op b b1 b2 b3 (k + 1) w h tb hb h1 h2 h3
  simp only [insTab, List.mem_cons, List.mem_nil_iff, or_false] at hi
  rcases hi with rfl | rfl | rfl | rfl | rfl | rfl | rfl | rfl | rfl | rfl | rfl | rfl
  · have e : Value.func g fs cs = .func (.func 192) #[] #[] := by simpa [IV] using iv
    cases e
    refine ⟨192, rfl, en192, (false_c w).mono fun e w' ⟨he, hb⟩ => ?_⟩
    rw [show keyAt 2 = wFalse from rfl, pf_false]
    exact ⟨.mk 2 [] [] [], _, k + 1, false, he, ⟨none, 0, 0, none, 0, 0, rfl, At.sl_nil (Nat.zero_le _), At.sl_nil (Nat.zero_le _)⟩, Moved.of_below hb, h.below hb, rfl, rfl, rfl⟩
  · exact one' 3 iv (by decide) (by decide) (by decide)
  · exact one' 10 iv (by decide) (by decide) (by decide)
  · exact one' 11 iv (by decide) (by decide) (by decide)
  · exact one' 12 iv (by decide) (by decide) (by decide)
  · exact one' 13 iv (by decide) (by decide) (by decide)
  · have e : Value.func g fs cs = .func (.func 194) #[one I.S] #[] := iv
    cases e
    refine ⟨194, rfl, en194, ?_⟩
    rw [show keyAt 20 = wFor from rfl, pf_for]
    exact quant_c I ws hw n hF (k + 1) w h tb hb
  · exact two' 4 wAnd iv (by decide) (by decide) (by decide) (by decide) (by decide)
  · exact two' 5 wOr iv (by decide) (by decide) (by decide) (by decide) (by decide)
  · exact two' 6 wThen iv (by decide) (by decide) (by decide) (by decide) (by decide)
  · exact two' 7 wSo iv (by decide) (by decide) (by decide) (by decide) (by decide)
  · exact two' 14 wUntil iv (by decide) (by decide) (by decide) (by decide) (by decide)
theorem hw2 {ws : List Bs} (hw : ∀ x ∈ ws, x.length ≤ maxLen) {k : Nat} {x : Bs} (h : ws[k]? = some x) : x.length ≤ maxLen := hw x (List.mem_of_getElem? h)
/-- formula, one step. -/
theorem form_of (I : RdIx) (ws : List Bs) (hw : ∀ x ∈ ws, x.length ≤ maxLen) (n : Nat) (hF : FormOk I ws n) : FormOk I ws (n + 1) := by
  intro k f w h tb hn
  cases f with
  | true => exact form_failed I ws hw k w h tb
  | false =>
  have hn := hn rfl
  have hB : Below w.heap.size w ((w.alloc (.cells #[one I.S] 153)).alloc (.cells #[.int .u8 0, str [], .slice none 0 0, .slice none 0 0] 25)) := ((Below.refl _ _).alloc (Nat.le_refl _) _).alloc (by simp) _
  have hbx : ((w.alloc (.cells #[one I.S] 153)).alloc (.cells #[.int .u8 0, str [], .slice none 0 0, .slice none 0 0] 25)).heap[w.heap.size]? = some (.cells #[one I.S] 153 (0, 0)) := heap_alloc2_old _ _ _
  have hrow : ((w.alloc (.cells #[one I.S] 153)).alloc (.cells #[.int .u8 0, str [], .slice none 0 0, .slice none 0 0] 25)).heap[w.heap.size + 1]? = some (.cells #[.int .u8 0, str [], .slice none 0 0, .slice none 0 0] 25 (0, 0)) := heap_alloc2_new _ _ _
  have r1 := h.below hB
  have M1 := must_c I ws k false 197 #[] #[one w.heap.size] _ _ r1 hw en197 (form1_c r1 (tb.moved h (Moved.of_below hB)) hbx)
  have HM := Lib.hid M1
  have H := Lib.hid h
  have HB := Lib.hid hB
  have HR := Lib.hid hrow
  have HX := Lib.hid hbx
  have LT := Lib.hid h.lt
  have TB := Lib.hid (tb.moved h (Moved.of_below hB))
  have HN := Lib.hid hn
  have HF := Lib.hid hF
  have HW := Lib.hid hw
  have R1 := Lib.hid r1
  clear h tb hB hbx hrow r1 M1 hn hF hw
  go_enter Tryz.func117, Tryz.ntmps117
  go_upto_region 2 with (go_at_call 196; refine HM.out.mono ?_; rintro e w2 mp; obtain ⟨x, k2, f2, rfl, mv, r2, mw⟩ := must_was mp; have QQ := Lib.hid (And.intro mv (And.intro r2 mw)); clear mp mv r2 mw)
  obtain ⟨mv, r2, mw⟩ := QQ.out
  have G2 := mv.keepc R1.out (by decide) (by decide) HR.out
  have X2 := cell_of_one (mv.keepc R1.out (by decide) (by decide) HX.out)
  have s2 := sfail r2
  have s3 : w2.cell? ⟨I.S, 3, none⟩ = some (.map (some I.M)) := by rw [box_cell r2.hS]; rfl
  have T2 := TB.out.moved R1.out mv
  obtain ⟨c0, c1, c2, c3, f0, f1, f2', f3⟩ := row25 G2
  have hsz : w.heap.size + 2 ≤ w2.heap.size := by have := (Array.getElem?_eq_some_iff.1 G2).1; omega
  have MV := Lib.hid ((Moved.of_below HB.out).trans mv)
  have G2h := Lib.hid G2
  have SZ := Lib.hid hsz
  have R2 := Lib.hid r2
  rcases mw with ⟨_, hx, hp, rfl, rfl⟩ | ⟨hor, rfl, rfl, rfl⟩
  · have hl := hw2 HW.out hx
    rcases T2.key x hl with ⟨hk, i, hi, e, g, fs, cs, iv, L⟩ | ⟨hk, L⟩
    · obtain ⟨id, rfl, en, cal⟩ := key_read I ws HW.out n HF.out k w2 r2 T2 HN.out hx hi e iv
      have HC := Lib.hid cal
      have en' : ∀ (args : Array Value) (w : World), (callFunc id args).run Tryz.prog w = .ok (.enter id args) w := en
      have N := neq_func (.func id) fs cs w2
      clear G2 T2 mv r2 QQ hx hp hk hi e iv cal en
      go_wp2_with fail
      refine HC.out.mono ?_
      rintro e w7 ⟨fx, v, k7, f7, rfl, ⟨a, na, ca, b, nb, cb, rfl, ht, hs⟩, mv7, r7, hp7⟩
      have G7 := mv7.keepc R2.out (by decide) (by decide) G2h.out
      clear c0 c1 c2 c3 f0 f1 f2' f3 L N en' X2 s3 s2
      obtain ⟨c0, c1, c2, c3, f0, f1, f2', f3⟩ := row25 G7
      have Q7 := Lib.hid (And.intro ht (And.intro hs (And.intro mv7 (And.intro r7 (And.intro hp7 G7)))))
      clear ht hs mv7 r7 hp7 G7
      go_wp2_with fail
      obtain ⟨ht, hs, mv7, r7, hp7, G7⟩ := Q7.out
      obtain ⟨g4, v4, m4, r4⟩ := form_put (fm := fx) (w1 := w2) H.out r7 (MV.out.trans mv7) (by omega) (by omega) (by omega) G7 ht hs _ rfl
      refine bodyPost_ret (res25 rfl _ _ (w.heap.size + 1) _ _ _ _ (0, 0) rfl g4) rfl ?_
      exact ⟨_, _, k7, f7, rfl, v4, m4, r4, hp7⟩
    · have hpn : predName x = true := by simpa [hk] using hp
      have HP := Lib.hid (pf_pred n x (ws.drop (k + 1)) hk hpn)
      have HD := Lib.hid (drop_at hx)
      have HC := Lib.hid (terms_c I ws HW.out n (k + 1) w2 r2 (by have := HN.out; have := (List.getElem?_eq_some_iff.1 hx).1; omega))
      have N := neq_nil w2
      clear G2 T2 mv r2 QQ hx hp hk hpn
      go_wp2_with (go_at_call 199; refine HC.out.mono ?_; rintro e w7 ⟨ts, v, k7, f7, rfl, ht, mv7, r7, hp7⟩; obtain ⟨a, na, ca, rfl⟩ := TmsAt.slice ht; have G7 := mv7.keepc R2.out (by decide) (by decide) G2h.out; clear c0 c1 c2 c3 f0 f1 f2' f3 L N X2 s3 s2; obtain ⟨c0, c1, c2, c3, f0, f1, f2', f3⟩ := row25 G7; have Q7 := Lib.hid (And.intro ht (And.intro mv7 (And.intro r7 (And.intro hp7 G7)))); clear ht mv7 r7 hp7 G7)
      obtain ⟨ht, mv7, r7, hp7, G7⟩ := Q7.out
      obtain ⟨g4, v4, m4, r4⟩ := form_put (fm := .mk 1 x ts []) (b := none) (m := 0) (d := 0) (w1 := w2) H.out r7 (MV.out.trans mv7) (by omega) (by omega) (by omega) G7 ht (At.sl_nil (Nat.zero_le _)) _ rfl
      refine bodyPost_ret (res25 rfl _ _ (w.heap.size + 1) _ _ _ _ (0, 0) rfl g4) rfl ?_
      refine ⟨_, _, k7, f7, rfl, v4, m4, r4, ?_⟩
      show PrOk (pForm (n + 1) (ws.drop k)) _ _ _
      rw [HD.out, HP.out]; exact predRes_ok hp7
  · have HO := Lib.hid hor
    clear G2 T2 mv r2 QQ hor
    go_wp2_with fail
    obtain ⟨g4, v4, m4, r4⟩ := form_put (fm := .mk 0 [] [] []) (a := none) (b := none) (n := 0) (c := 0) (m := 0) (d := 0) (w1 := w2) H.out R2.out MV.out (by omega) (by omega) (by omega) G2h.out (At.sl_nil (Nat.zero_le _)) (At.sl_nil (Nat.zero_le _)) _ rfl
    refine bodyPost_ret (res25 rfl _ _ (w.heap.size + 1) _ _ _ _ (0, 0) rfl g4) rfl ?_
    refine ⟨_, _, _, true, rfl, v4, m4, r4, ?_⟩
    show PrOk (pForm (n + 1) (ws.drop k2)) _ _ _
    rcases HO.out with h | h | ⟨y, hy, hp⟩
    · cases h
    · rw [drop_none h]; exact ⟨rfl, rfl⟩
    · rw [drop_at hy]
      simp only [Bool.or_eq_false_iff] at hp
      rw [pf_none n y _ hp.1 hp.2]
      exact ⟨rfl, rfl⟩
theorem formula_all (I : RdIx) (ws : List Bs) (hw : ∀ x ∈ ws, x.length ≤ maxLen) : ∀ n, FormOk I ws n
  | 0 => fun k f w h tb hn => by
    cases f with
    | true => exact form_failed I ws hw k w h tb
    | false => have := hn rfl; omega
  | n + 1 => form_of I ws hw n (formula_all I ws hw n)
end Go.Proofs.YtcandidgaegghaaGreatDoor
