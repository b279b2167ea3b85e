/- The reader of words: a formula laid into its own cell, formula where the reader has failed, left, and the closures that read one and two parts. Conditions: words of at most the greatest length. -/
import Derived.Test.YtcandidgaegghaaGreatDoorRdD
import Derived.Laws.Rows
import Derived.Deep.RegionHeld3
namespace Go.Proofs.YtcandidgaegghaaGreatDoor
open Go Go.RowKit Ly
set_option maxRecDepth 10000
set_option linter.unusedSimpArgs false
set_option linter.unusedVariables false
set_option maxHeartbeats 4000000
theorem row25 {w : World} {b : Nat} (h : w.heap[b]? = some (.cells #[.int .u8 0, str [], .slice none 0 0, .slice none 0 0] 25 (0, 0))) :
    w.cell? ⟨b, 0, none⟩ = some (.int .u8 0) ∧ w.cell? ⟨b, 1, none⟩ = some (str []) ∧ w.cell? ⟨b, 2, none⟩ = some (.slice none 0 0) ∧ w.cell? ⟨b, 3, none⟩ = some (.slice none 0 0) ∧
    w.frozen? ⟨b, 0, none⟩ = false ∧ w.frozen? ⟨b, 1, none⟩ = false ∧ w.frozen? ⟨b, 2, none⟩ = false ∧ w.frozen? ⟨b, 3, none⟩ = false :=
  ⟨(box_cell h 0).trans rfl, (box_cell h 1).trans rfl, (box_cell h 2).trans rfl, (box_cell h 3).trans rfl, by simp [World.frozen?, h], by simp [World.frozen?, h], by simp [World.frozen?, h], by simp [World.frozen?, h]⟩
/-- A formula is laid into its own cell, a block younger than w0. -/
theorem form_put {I : RdIx} {ws : List Bs} {w w1 w3 : World} {g k0 k : Nat} {f0 f : Bool} {fm : Fm} {a b : Option Addr} {n c m d : Nat} (H : Rd w I ws k0 f0) (R : Rd w3 I ws k f) (mv : Moved I w w3) (hg0 : w.heap.size ≤ g) (hg1 : g < w1.heap.size) (hw1 : w.heap.size ≤ w1.heap.size)
    (hg : w3.heap[g]? = some (.cells #[.int .u8 0, str [], .slice none 0 0, .slice none 0 0] 25 (0, 0)))
    (hv : TmsAt (hide (lo w1) w3) fm.args (.slice a n c)) (hv2 : FmsAt (hide (lo w1) w3) fm.sub (.slice b m d)) :
    ∀ w4, w4 = ((((w3.setCell ⟨g, 0, none⟩ (.int .u8 fm.op)).setCell ⟨g, 1, none⟩ (str fm.name)).setCell ⟨g, 2, none⟩ (.slice a n c)).setCell ⟨g, 3, none⟩ (.slice b m d)) →
      w4.heap[g]? = some (.cells #[.int .u8 fm.op, str fm.name, .slice a n c, .slice b m d] 25 (0, 0)) ∧ FmVal (hide (lo w) w4) fm (.agg #[.int .u8 fm.op, str fm.name, .slice a n c, .slice b m d]) ∧ Moved I w w4 ∧ Rd w4 I ws k f := by
  rintro w4 rfl
  have g1 := set_block (o := 0) (u := .int .u8 fm.op) hg
  have g2 := set_block (o := 1) (u := str fm.name) g1
  have g3 := set_block (o := 2) (u := .slice a n c) g2
  have g4 := set_block (o := 3) (u := .slice b m d) g3
  have M := (((mv.set (o := 0) hg0 (.int .u8 fm.op)).set (o := 1) hg0 (str fm.name)).set (o := 2) hg0 (.slice a n c)).set (o := 3) hg0 (.slice b m d)
  have E : ∀ j, j ≠ g → ((((w3.setCell ⟨g, 0, none⟩ (.int .u8 fm.op)).setCell ⟨g, 1, none⟩ (str fm.name)).setCell ⟨g, 2, none⟩ (.slice a n c)).setCell ⟨g, 3, none⟩ (.slice b m d)).heap[j]? = w3.heap[j]? := fun j hj => by
    rw [Below.heap_setCell _ _ _ _ hj, Below.heap_setCell _ _ _ _ hj, Below.heap_setCell _ _ _ _ hj, Below.heap_setCell _ _ _ _ hj]
  have K := lo_keeps (w := w) (w1 := w1) (w' := w3) hw1 fun k h1 h2 => E k (by omega)
  exact ⟨g4, ⟨a, n, c, b, m, d, rfl, hv.keep K, hv2.keep K⟩, M, H.back R M fun j hj => E j (by omega)⟩
end Go.Proofs.YtcandidgaegghaaGreatDoor
namespace Go.Proofs.YtcandidgaegghaaGreatDoor
open Go Go.RowKit Ly
set_option maxRecDepth 10000
set_option linter.unusedSimpArgs false
set_option linter.unusedVariables false
set_option maxHeartbeats 4000000
/-- formula, where the reader has failed before. -/
theorem form_failed (I : RdIx) (ws : List Bs) (hw : ∀ x ∈ ws, x.length ≤ maxLen) (k : Nat) (w : World) (h : Rd w I ws k true) (tb : Tb w I) :
    Calls Tryz.prog 117 #[one I.S] w (Out I ws w (.bad (ws.drop k)) FmVal) := by
  have hB : Below w.heap.size w ((w.alloc (.cells #[one I.S] 153)).alloc (.cells #[.int .u8 0, str [], .slice none 0 0, .slice none 0 0] 25)) := ((Below.refl _ _).alloc (Nat.le_refl _) _).alloc (by simp) _
  have hbx : ((w.alloc (.cells #[one I.S] 153)).alloc (.cells #[.int .u8 0, str [], .slice none 0 0, .slice none 0 0] 25)).heap[w.heap.size]? = some (.cells #[one I.S] 153 (0, 0)) := heap_alloc2_old _ _ _
  have hrow : ((w.alloc (.cells #[one I.S] 153)).alloc (.cells #[.int .u8 0, str [], .slice none 0 0, .slice none 0 0] 25)).heap[w.heap.size + 1]? = some (.cells #[.int .u8 0, str [], .slice none 0 0, .slice none 0 0] 25 (0, 0)) := heap_alloc2_new _ _ _
  have r1 := h.below hB
  have M1 := must_c I ws k true 197 #[] #[one w.heap.size] _ _ r1 hw en197 (form1_c r1 (tb.moved h (Moved.of_below hB)) hbx)
  have HM := Lib.hid M1
  have H := Lib.hid h
  have HB := Lib.hid hB
  have HR := Lib.hid hrow
  have HX := Lib.hid hbx
  have LT := Lib.hid h.lt
  clear h tb hB hbx hrow r1 M1
  go_enter Tryz.func117, Tryz.ntmps117
  go_wp2_with (go_at_call 196; refine HM.out.mono ?_; rintro e w2 ⟨mv, hor⟩; have MV := Lib.hid mv; have G2 := Lib.hid ((mv.block (w.heap.size + 1) (by simp) (by have := LT.out; omega) (by have := LT.out; omega)).trans HR.out); have X2 := cell_of_one ((mv.block w.heap.size (by simp; omega) (by have := LT.out; omega) (by have := LT.out; omega)).trans HX.out); clear mv; rcases hor with ⟨x, hf, hx, hp, rfl, r2⟩ | ⟨hor, rfl, r2⟩; rotate_left; (have s2 := sfail r2; have R2 := Lib.hid r2; clear r2; obtain ⟨c0, c1, c2, c3, f0, f1, f2, f3⟩ := row25 G2.out))
  · obtain ⟨g4, v4, m4, r4⟩ := form_put (fm := .mk 0 [] [] []) (a := none) (b := none) (n := 0) (c := 0) (m := 0) (d := 0) (w1 := (w.alloc (.cells #[one I.S] 153)).alloc (.cells #[.int .u8 0, str [], .slice none 0 0, .slice none 0 0] 25)) H.out R2.out ((Moved.of_below HB.out).trans MV.out) (by omega) (by simp) HB.out.size G2.out (At.sl_nil (Nat.zero_le _)) (At.sl_nil (Nat.zero_le _)) _ rfl
    refine bodyPost_ret (res25 rfl _ _ (w.heap.size + 1) _ _ _ _ (0, 0) rfl g4) rfl ?_
    exact ⟨_, _, k, true, rfl, v4, m4, r4, rfl, rfl⟩
  all_goals cases hf
end Go.Proofs.YtcandidgaegghaaGreatDoor
namespace Go.Proofs.YtcandidgaegghaaGreatDoor
open Go Go.RowKit Ly
set_option maxRecDepth 10000
set_option linter.unusedSimpArgs false
set_option linter.unusedVariables false
set_option maxHeartbeats 4000000
/-- left: where the reader stands, and whether words are left. -/
theorem left_c (I : RdIx) (ws : List Bs) (k : Nat) (f : Bool) (w : World) (h : Rd w I ws k f) :
    Calls Tryz.prog 191 #[one I.A, one I.L] w fun e w' => e = .returned (.tuple #[.int .i64 k, .bool (decide (k < ws.length))]) ∧ Below w.heap.size w w' := by
  have a0 := cell_of_one h.hA
  have l0 := cell_of_one h.hL
  have e : decide (k < I.ln) = decide (k < ws.length) := by rw [h.list.len.1]
  have E := Lib.hid e
  have B : Hid (∀ n, Below w.heap.size w (w.drewN n)) := fun n => ⟨rfl, rfl, rfl, Nat.le_refl _, fun _ _ => rfl⟩
  clear h e
  generalize hb : decide (k < ws.length) = bb at *
  clear hb
  have d1 := E.out
  go_enter Tryz.func191, Tryz.ntmps191
  go_wp2_with fail
  go_quiet (fail)
  go_wp2_with fail
  go_ret2
  exact ⟨rfl, B.out _⟩
end Go.Proofs.YtcandidgaegghaaGreatDoor
namespace Go.Proofs.YtcandidgaegghaaGreatDoor
open Go Go.RowKit Ly
set_option maxRecDepth 10000
set_option linter.unusedSimpArgs false
set_option linter.unusedVariables false
set_option maxHeartbeats 4000000
/-- formula, entered at a place where the reader has failed or not. -/
def pF (f : Bool) (n : Nat) (l : List Bs) : PR Fm := if f then .bad l else pForm n l
def FormOk (I : RdIx) (ws : List Bs) (n : Nat) : Prop := ∀ (k : Nat) (f : Bool) (w : World), Rd w I ws k f → Tb w I → (f = false → 3 * (ws.length - k) + 1 ≤ n) → Calls Tryz.prog 117 #[one I.S] w (Out I ws w (pF f n (ws.drop k)) FmVal)
def oneRes (op : Int) (nm : Bs) : PR Fm → PR Fm
  | .bad r => .bad r
  | .good f r => .good (.mk op nm [] [f]) r
theorem oneRes_ok {op : Int} {nm : Bs} {p : PR Fm} {x : Fm} {f : Bool} {rest : List Bs} (h : PrOk p x f rest) : PrOk (oneRes op nm p) (.mk op nm [] [x]) f rest := by
  cases p with
  | bad r => exact h
  | good y r => obtain ⟨rfl, h2, h3⟩ := h; exact ⟨rfl, h2, h3⟩
theorem fm_cells {W : World} {x : Fm} {a b : Option Addr} {n c m d : Nat} (ht : TmsAt W x.args (.slice a n c)) (hs : FmsAt W x.sub (.slice b m d)) : CellsAt W x.ds [.int .u8 x.op, str x.name, .slice a n c, .slice b m d] := by
  obtain ⟨op, nm, ta, sub⟩ := x
  exact CellsAt.cons rfl (CellsAt.cons rfl (CellsAt.cons ht (CellsAt.cons hs (CellsAt.nil _))))
theorem fresh_one {w1 w2 : World} {x : Fm} {a b : Option Addr} {n c m d : Nat} {t : TypeId} (hz : w1.heap.size ≤ w2.heap.size) (ht : TmsAt (hide (lo w1) w2) x.args (.slice a n c)) (hs : FmsAt (hide (lo w1) w2) x.sub (.slice b m d)) :
    FmsAt (hide (lo w1) (w2.alloc (.cells #[.int .u8 x.op, str x.name, .slice a n c, .slice b m d] t))) [x] (.slice (some ⟨w2.heap.size, 0, none⟩) 1 1) := by
  refine CellsAt.fresh (ds := fmsDs [x]) ?_ (by simp [lo]; omega) (by simp [fmsDs, Fm.ds_length]) (by simp [maxLen])
  rw [show fmsDs [x] = x.ds by simp [fmsDs]]
  exact fm_cells ht hs
/-- What lies above w1 stays where the reader moves on. -/
theorem Moved.hid {I : RdIx} {w1 w2 w3 : World} (m : Moved I w2 w3) (hA : I.A < w1.heap.size) (hS : I.S < w1.heap.size) : Keeps (hide (lo w1) w2) (hide (lo w1) w3) := hide_keeps2 fun k h1 h2 => by
  refine ⟨h2, ?_⟩
  simp only [lo, decide_eq_false_iff_not, Nat.not_lt] at h2
  exact m.block k h1 (by omega) (by omega)
/-- A block of another kind stays. -/
theorem Moved.keepc {I : RdIx} {ws : List Bs} {k : Nat} {f : Bool} {w w' : World} (m : Moved I w w') (h : Rd w I ws k f) {b : Nat} {cs : Array Value} {t : TypeId} {fz : Nat × Nat} (h1 : t ≠ 161) (h2 : t ≠ 3) (hb : w.heap[b]? = some (.cells cs t fz)) : w'.heap[b]? = some (.cells cs t fz) :=
  keepn_of h m b cs t fz h1 h2 hb
theorem setAllocs {w2 : World} {g : Nat} (z : g < w2.heap.size) (c : Obj) (a b d e : Value) : ((((w2.alloc c).setCell ⟨g, 0, none⟩ a).setCell ⟨g, 1, none⟩ b).setCell ⟨g, 2, none⟩ d).setCell ⟨g, 3, none⟩ e = ((((w2.setCell ⟨g, 0, none⟩ a).setCell ⟨g, 1, none⟩ b).setCell ⟨g, 2, none⟩ d).setCell ⟨g, 3, none⟩ e).alloc c := by
  rw [World.setCell_alloc_past _ _ _ _ z, World.setCell_alloc_past _ _ _ _ (by simpa [World.setCell] using z), World.setCell_alloc_past _ _ _ _ (by simpa [World.setCell] using z), World.setCell_alloc_past _ _ _ _ (by simpa [World.setCell] using z)]
/-- one$1 -/
theorem one1_c (I : RdIx) (ws : List Bs) (n : Nat) (hF : FormOk I ws n) (op : Int) (b1 b2 k : Nat) (w : World) (h : Rd w I ws k false) (tb : Tb w I) (hn : 3 * (ws.length - k) + 1 ≤ n)
    (h1 : w.heap[b1]? = some (.cells #[.int .u8 op] 5 (0, 0))) (h2 : w.heap[b2]? = some (.cells #[one I.S] 153 (0, 0))) :
    Calls Tryz.prog 264 #[one b1, one b2] w (Out I ws w (oneRes op [] (pForm n (ws.drop k))) FmVal) := by
  have hB : Below w.heap.size w (w.alloc (.cells #[.int .u8 0, str [], .slice none 0 0, .slice none 0 0] 25)).drew := ((Below.refl _ _).alloc (Nat.le_refl _) _).drew
  have hC := hF k false _ (h.below hB) (tb.moved h (Moved.of_below hB)) fun _ => hn
  have hrow : (w.alloc (.cells #[.int .u8 0, str [], .slice none 0 0, .slice none 0 0] 25)).drew.heap[w.heap.size]? = some (.cells #[.int .u8 0, str [], .slice none 0 0, .slice none 0 0] 25 (0, 0)) := heap_alloc_new w _
  have c1 := cell_of_one h1
  have c2 := cell_of_one h2
  have e1 := World.new_ne w ⟨b1, 0, none⟩ c1
  have e2 := World.new_ne w ⟨b2, 0, none⟩ c2
  have HC := Lib.hid hC
  have H := Lib.hid h
  have HB := Lib.hid hB
  have HR := Lib.hid hrow
  have LT := Lib.hid h.lt
  have H1 := Lib.hid (keepc_below hB _ _ _ _ h1)
  have H2 := Lib.hid (keepc_below hB _ _ _ _ h2)
  clear h tb hn hB hC hrow h1 h2
  go_enter Tryz.func264, Tryz.ntmps264
  go_wp2_with fail
  go_region_held3 (fun w' => w'.cell? ⟨b1, 0, none⟩ = some (.int .u8 op) ∧ w'.cell? ⟨b2, 0, none⟩ = some (one I.S)) (go_keep)
    ((go_at_call 117; refine HC.out.mono ?_; rintro e w2 ⟨x, v, k2, f2, rfl, ⟨a, na, ca, b, nb, cb, rfl, ht, hs⟩, mv, r2, hp⟩; have RB := H.out.below HB.out; have K1 := cell_of_one (mv.keepc RB (by decide) (by decide) H1.out); have K2 := cell_of_one (mv.keepc RB (by decide) (by decide) H2.out); have G2 := mv.keepc RB (by decide) (by decide) HR.out; have z2 := (Array.getElem?_eq_some_iff.1 G2).1; obtain ⟨q0, q1, q2, q3, f0, f1, f2', f3⟩ := row25 G2; have QQ := Lib.hid (And.intro ht (And.intro hs (And.intro mv (And.intro r2 (And.intro hp G2))))); clear ht hs mv r2 hp G2 RB))
  all_goals go_wp2_with fail
  obtain ⟨ht, hs, mv, r2, hp, G2⟩ := QQ.out
  obtain ⟨g4, v4, m4, r4⟩ := form_put (fm := .mk op [] [] [x]) (w1 := (w.alloc (.cells #[.int .u8 0, str [], .slice none 0 0, .slice none 0 0] 25)).drew) (w3 := w2.alloc (.cells #[.int .u8 x.op, str x.name, .slice a na ca, .slice b nb cb] 25)) H.out (r2.below ((Below.refl _ _).alloc (Nat.le_refl _) _)) (((Moved.of_below HB.out).trans mv).alloc _) (Nat.le_refl _) (by simp) HB.out.size ((heap_alloc_old _ _ z2).trans G2) (At.sl_nil (Nat.zero_le _)) (fresh_one mv.size ht hs) _ rfl
  simp only [setAllocs z2] at g4 v4 m4 r4
  refine bodyPost_ret (res25 rfl _ _ w.heap.size _ _ _ _ (0, 0) rfl g4) rfl ?_
  have hp' : PrOk (pForm n (ws.drop k)) x f2 (ws.drop k2) := hp
  exact ⟨_, _, k2, f2, rfl, v4, m4, r4, oneRes_ok hp'⟩
end Go.Proofs.YtcandidgaegghaaGreatDoor
namespace Go.Proofs.YtcandidgaegghaaGreatDoor
open Go Go.RowKit Ly
set_option maxRecDepth 10000
set_option linter.unusedSimpArgs false
set_option linter.unusedVariables false
set_option maxHeartbeats 4000000
def MustWas (ws : List Bs) (k : Nat) (f : Bool) (p : Bs → Bool) (s : Bs) (k' : Nat) (f' : Bool) : Prop :=
  (f = false ∧ ws[k]? = some s ∧ p s = true ∧ k' = k + 1 ∧ f' = false) ∨ ((f = true ∨ ws[k]? = none ∨ ∃ x, ws[k]? = some x ∧ p x = false) ∧ s = [] ∧ k' = k ∧ f' = true)
theorem must_was {I : RdIx} {ws : List Bs} {k : Nat} {f : Bool} {p : Bs → Bool} {w w' : World} {e : Ending} (h : MustPost I ws k f p w e w') : ∃ s k' f', e = .returned (str s) ∧ Moved I w w' ∧ Rd w' I ws k' f' ∧ MustWas ws k f p s k' f' := by
  obtain ⟨m, ⟨x, h1, h2, h3, h4, h5⟩ | ⟨h1, h2, h3⟩⟩ := h
  · exact ⟨x, k + 1, false, h4, m, h5, .inl ⟨h1, h2, h3, rfl, rfl⟩⟩
  · exact ⟨[], k, true, h2, m, h3, .inr ⟨h1, rfl, rfl, rfl⟩⟩
def twoRes (n : Nat) (op : Int) (x : Bs) : PR Fm → PR Fm
  | .bad r => .bad r
  | .good _ [] => .bad []
  | .good f (y :: r) => if y = x then (match pForm n r with | .bad s => .bad s | .good g s => .good (.mk op [] [] [f, g]) s) else .bad (y :: r)
theorem prok_bad {α : Type} {p : PR α} {x : α} {rest : List Bs} (h : PrOk p x true rest) : p = .bad rest := by
  cases p with
  | bad r => obtain ⟨_, rfl⟩ := h; rfl
  | good y r => obtain ⟨_, h2, _⟩ := h; cases h2
theorem prok_good {α : Type} {p : PR α} {x : α} {rest : List Bs} (h : PrOk p x false rest) : p = .good x rest := by
  cases p with
  | bad r => obtain ⟨h, _⟩ := h; cases h
  | good y r => obtain ⟨rfl, _, rfl⟩ := h; rfl
theorem two_pr {ws : List Bs} {n : Nat} {op : Int} {x s : Bs} {p : PR Fm} {fx fy : Fm} {f2 f3 f4 : Bool} {k2 k3 k4 : Nat} (h : PrOk p fx f2 (ws.drop k2)) (hm : MustWas ws k2 f2 (fun s => decide (s ∈ [x])) s k3 f3)
    (h2 : PrOk (pF f3 n (ws.drop k3)) fy f4 (ws.drop k4)) : PrOk (twoRes n op x p) (.mk op [] [] [fx, fy]) f4 (ws.drop k4) := by
  rcases hm with ⟨rfl, hs, hp, rfl, rfl⟩ | ⟨hor, _, rfl, rfl⟩
  · have e : s = x := by simpa using hp
    subst e
    rw [prok_good h, drop_at hs]
    simp only [twoRes, if_true]
    simp only [pF, Bool.false_eq_true, if_false] at h2
    revert h2
    cases pForm n (ws.drop (k2 + 1)) with
    | bad r => exact fun h => h
    | good y r => rintro ⟨rfl, h2, h3⟩; exact ⟨rfl, h2, h3⟩
  · simp only [pF, if_true] at h2
    have hb : twoRes n op x p = .bad (ws.drop k3) := by
      cases f2 with
      | true => rw [prok_bad h]; rfl
      | false =>
        rw [prok_good h]
        rcases hor with h1 | h1 | ⟨y, hy, hp⟩
        · cases h1
        · rw [drop_none h1]; rfl
        · rw [drop_at hy]
          have : y ≠ x := by simpa using hp
          simp only [twoRes, if_neg this]
    rw [hb]; exact h2
theorem fresh_two {w1 w2 : World} {x y : Fm} {a b a' b' : Option Addr} {n c m d n' c' m' d' : Nat} {t : TypeId} (hz : w1.heap.size ≤ w2.heap.size) (ht : TmsAt (hide (lo w1) w2) x.args (.slice a n c)) (hs : FmsAt (hide (lo w1) w2) x.sub (.slice b m d))
    (ht' : TmsAt (hide (lo w1) w2) y.args (.slice a' n' c')) (hs' : FmsAt (hide (lo w1) w2) y.sub (.slice b' m' d')) :
    FmsAt (hide (lo w1) (w2.alloc (.cells #[.int .u8 x.op, str x.name, .slice a n c, .slice b m d, .int .u8 y.op, str y.name, .slice a' n' c', .slice b' m' d'] t))) [x, y] (.slice (some ⟨w2.heap.size, 0, none⟩) 2 2) := by
  refine CellsAt.fresh (ds := fmsDs [x, y]) ?_ (by simp [lo]; omega) (by simp [fmsDs, Fm.ds_length]) (by simp [maxLen])
  rw [show fmsDs [x, y] = x.ds ++ y.ds by simp [fmsDs]]
  exact (fm_cells ht hs).append (fm_cells ht' hs')
/-- The state of two$1 behind its first part. -/
structure TwoS (I : RdIx) (ws : List Bs) (w : World) (b1 b2 b3 : Nat) (x : Bs) (op : Int) (fx : Fm) (h : Nat) (a : Option Addr) (na ca : Nat) (b : Option Addr) (nb cb : Nat) (k2 : Nat) (f2 : Bool) (wx : World) : Prop where
  rd : Rd wx I ws k2 f2
  mv : Moved I w wx
  g : wx.heap[w.heap.size]? = some (.cells #[.int .u8 0, str [], .slice none 0 0, .slice none 0 0] 25 (0, 0))
  cell : wx.heap[h]? = some (.cells #[.int .u8 fx.op, str fx.name, .slice a na ca, .slice b nb cb] 25 (0, 0))
  r1 : wx.heap[b1]? = some (.cells #[one I.S] 153 (0, 0))
  r2 : wx.heap[b2]? = some (.cells #[str x] 9 (0, 0))
  r3 : wx.heap[b3]? = some (.cells #[.int .u8 op] 5 (0, 0))
  old : I.A < w.heap.size ∧ I.S < w.heap.size
  gh : w.heap.size < h
  ht : TmsAt (hide (fun k => decide (k ≤ w.heap.size)) wx) fx.args (.slice a na ca)
  hs : FmsAt (hide (fun k => decide (k ≤ w.heap.size)) wx) fx.sub (.slice b nb cb)
theorem Moved.hid2 {I : RdIx} {w w2 w3 : World} (m : Moved I w2 w3) (h : I.A < w.heap.size ∧ I.S < w.heap.size) : Keeps (hide (fun k => decide (k ≤ w.heap.size)) w2) (hide (fun k => decide (k ≤ w.heap.size)) w3) := hide_keeps2 fun k h1 h2 => by
  refine ⟨h2, ?_⟩
  simp only [decide_eq_false_iff_not, Nat.not_le] at h2
  exact m.block k h1 (by omega) (by omega)
section
variable {I : RdIx} {ws : List Bs} {w : World} {b1 b2 b3 : Nat} {x : Bs} {op : Int} {fx : Fm} {h : Nat} {a : Option Addr} {na ca : Nat} {b : Option Addr} {nb cb : Nat} {k2 : Nat} {f2 : Bool} {wx : World}
theorem TwoS.moved (q : TwoS I ws w b1 b2 b3 x op fx h a na ca b nb cb k2 f2 wx) {wy : World} {k3 : Nat} {f3 : Bool} (m : Moved I wx wy) (r : Rd wy I ws k3 f3) : TwoS I ws w b1 b2 b3 x op fx h a na ca b nb cb k3 f3 wy :=
  ⟨r, q.mv.trans m, m.keepc q.rd (by decide) (by decide) q.g, m.keepc q.rd (by decide) (by decide) q.cell, m.keepc q.rd (by decide) (by decide) q.r1, m.keepc q.rd (by decide) (by decide) q.r2, m.keepc q.rd (by decide) (by decide) q.r3, q.old, q.gh,
    q.ht.keep (m.hid2 q.old), q.hs.keep (m.hid2 q.old)⟩
end
theorem lo_alloc (w : World) (o : Obj) : lo (w.alloc o) = fun k => decide (k ≤ w.heap.size) := by
  funext k
  have e : (w.alloc o).heap.size = w.heap.size + 1 := by simp
  simp only [lo, e]
  simp only [Nat.lt_succ_iff]
theorem keeps_drewn (w : World) : Keeps w w.drew := fun _ _ h => h
/-- two$1 -/
theorem two1_c (I : RdIx) (ws : List Bs) (hw : ∀ x ∈ ws, x.length ≤ maxLen) (n : Nat) (hF : FormOk I ws n) (op : Int) (x : Bs) (b1 b2 b3 k : Nat) (w : World) (h : Rd w I ws k false) (tb : Tb w I) (hn : 3 * (ws.length - k) + 1 ≤ n)
    (h1 : w.heap[b1]? = some (.cells #[one I.S] 153 (0, 0))) (h2 : w.heap[b2]? = some (.cells #[str x] 9 (0, 0))) (h3 : w.heap[b3]? = some (.cells #[.int .u8 op] 5 (0, 0))) :
    Calls Tryz.prog 267 #[one b1, one b2, one b3] w (Out I ws w (twoRes n op x (pForm n (ws.drop k))) FmVal) := by
  have hB : Below w.heap.size w (w.alloc (.cells #[.int .u8 0, str [], .slice none 0 0, .slice none 0 0] 25)) := (Below.refl _ _).alloc (Nat.le_refl _) _
  have hC := hF k false _ (h.below hB) (tb.moved h (Moved.of_below hB)) fun _ => hn
  have hrow : (w.alloc (.cells #[.int .u8 0, str [], .slice none 0 0, .slice none 0 0] 25)).heap[w.heap.size]? = some (.cells #[.int .u8 0, str [], .slice none 0 0, .slice none 0 0] 25 (0, 0)) := heap_alloc_new w _
  have c1 := keeps_of_below hB _ _ (cell_of_one h1)
  have HC := Lib.hid hC
  have H := Lib.hid h
  have HB := Lib.hid hB
  have HR := Lib.hid hrow
  have LT := Lib.hid h.lt
  have H1 := Lib.hid (keepc_below hB _ _ _ _ h1)
  have H2 := Lib.hid (keepc_below hB _ _ _ _ h2)
  have H3 := Lib.hid (keepc_below hB _ _ _ _ h3)
  have HF := Lib.hid hF
  have HN := Lib.hid hn
  have HW := Lib.hid hw
  have TB := Lib.hid tb
  clear h tb hn hB hC hrow h1 h2 h3 hF hw
  go_enter Tryz.func267, Tryz.ntmps267
  go_upto_region 1 with fail
  go_cut [4] from 5 to 6 (fun u wx => ∃ fx g a na ca b nb cb k2 f2, u = one g ∧ Hid (TwoS I ws w b1 b2 b3 x op fx g a na ca b nb cb k2 f2 wx ∧ PrOk (pForm n (ws.drop k)) fx f2 (ws.drop k2)))
  case first =>
    go_wp2_with (go_at_call 117; refine HC.out.mono ?_; rintro e w2 ⟨fx, v, k2, f2, rfl, ⟨a, na, ca, b, nb, cb, rfl, ht, hs⟩, mv, r2, hp⟩; have QQ := Lib.hid (And.intro ht (And.intro hs (And.intro mv (And.intro r2 hp)))); clear ht hs mv r2 hp)
    go_meet
    obtain ⟨ht, hs, mv, r2, hp⟩ := QQ.out
    have RB := H.out.below HB.out
    have bw : Below w2.heap.size w2 (w2.alloc (.cells #[.int .u8 fx.op, str fx.name, .slice a na ca, .slice b nb cb] 25)) := (Below.refl _ _).alloc (Nat.le_refl _) _
    have m2 := mv.trans (Moved.of_below bw)
    refine ⟨fx, w2.heap.size, a, na, ca, b, nb, cb, k2, f2, rfl, ⟨r2.below bw, (Moved.of_below HB.out).trans m2, m2.keepc RB (by decide) (by decide) HR.out, heap_alloc_new _ _, m2.keepc RB (by decide) (by decide) H1.out, m2.keepc RB (by decide) (by decide) H2.out, m2.keepc RB (by decide) (by decide) H3.out, ⟨LT.out.2.1, LT.out.2.2.1⟩, by have := mv.size; simp at this; omega, ?_, ?_⟩, hp⟩
    · rw [lo_alloc] at ht; exact ht.keep ((Moved.of_below bw).hid2 ⟨LT.out.2.1, LT.out.2.2.1⟩)
    · rw [lo_alloc] at hs; exact hs.keep ((Moved.of_below bw).hid2 ⟨LT.out.2.1, LT.out.2.2.1⟩)
  case rest =>
  obtain ⟨fx, g, a, na, ca, b, nb, cb, k2, f2, rfl, ST⟩ := hcut
  clear HC HB HR H1 H2 H3 c1
  have c1 := cell_of_one ST.out.1.r1
  have c2 := cell_of_one ST.out.1.r2
  go_upto_region 2 with fail
  go_cut [] from 7 to 11 (fun wy => ∃ k3 f3, Hid (TwoS I ws w b1 b2 b3 x op fx g a na ca b nb cb k3 f3 wy ∧ ∃ s, MustWas ws k2 f2 (fun s => decide (s ∈ [x])) s k3 f3))
  case first =>
    have HA : Hid (∀ w', Below wc.heap.size wc w' → Keeps wc w') := fun w' h => by exact keeps_of_below h
    go_region_held3 (fun w' => w'.cell? ⟨b1, 0, none⟩ = some (one I.S) ∧ w'.cell? ⟨b2, 0, none⟩ = some (str x)) (go_keep)
      (first
        | (go_at_call 265; refine (is_c (l := [x]) ((lay_one wc x 9).keep (keeps_drewn _)) (by simp)).mono ?_; rintro e w3 ⟨⟨bf, rfl, acc⟩, b3'⟩; have AC := Lib.hid acc; have B3 : Hid (Below wc.heap.size wc w3) := ((((Below.refl _ _).alloc (Nat.le_refl _) _).drew).trans (b3'.mono (by simp))); have d1 := keeps_of_below B3.out _ _ c1; have d2 := keeps_of_below B3.out _ _ c2; clear acc b3')
        | (go_at_call 196; refine (must_c I ws k2 f2 299 #[] _ _ _ (ST.out.1.rd.below B3.out) HW.out en299 AC.out).mono ?_; rintro e w4 mp; obtain ⟨s, k3, f3, rfl, mv, r4, mw⟩ := must_was mp; have S4 := ST.out.1.moved ((Moved.of_below B3.out).trans mv) r4; have d1 := cell_of_one S4.r1; have d2 := cell_of_one S4.r2; have Q4 := Lib.hid (And.intro S4 mw); clear S4 mp mv r4 mw))
    all_goals go_wp2_with fail
    all_goals go_meet
    all_goals exact ⟨k3, f3, Q4.out.1, s, Q4.out.2⟩
  case rest =>
  obtain ⟨k3, f3, ST3⟩ := hcut
  have S3 := ST3.out.1
  have c1 := cell_of_one S3.r1
  have c3 := cell_of_one S3.r3
  have d0 := (box_cell S3.cell 0).trans rfl
  have d1 := (box_cell S3.cell 1).trans rfl
  have d2 := (box_cell S3.cell 2).trans rfl
  have d3 := (box_cell S3.cell 3).trans rfl
  have n1 : w.heap.size ≠ b1 := by intro e; have := S3.g; rw [e, S3.r1] at this; cases this
  have n3 : w.heap.size ≠ b3 := by intro e; have := S3.g; rw [e, S3.r3] at this; cases this
  have n4 : w.heap.size ≠ g := Nat.ne_of_lt S3.gh
  have bd : Below wc.heap.size wc wc.drew := (Below.refl _ _).drew
  have hbd : f3 = false → 3 * (ws.length - k3) + 1 ≤ n := by
    intro e
    obtain ⟨s, hm⟩ := ST3.out.2
    rcases hm with ⟨e2, hs, _, hk, _⟩ | ⟨_, _, _, e3⟩
    · subst e2
      have hl := pForm_len _ _ _ _ (prok_good ST.out.2)
      simp only [List.length_drop] at hl
      have := (List.getElem?_eq_some_iff.1 hs).1
      have := HN.out
      omega
    · rw [e3] at e; cases e
  have HC := Lib.hid (HF.out k3 f3 wc.drew (S3.rd.below bd) ((TB.out.moved H.out S3.mv).moved S3.rd (Moved.of_below bd)) hbd)
  have BD := Lib.hid bd
  clear S3 bd hbd
  go_upto_region 3 with fail
  go_region_held3 (fun w' => w'.cell? ⟨b3, 0, none⟩ = some (.int .u8 op) ∧ w'.cell? ⟨b1, 0, none⟩ = some (one I.S) ∧ w'.cell? ⟨g, 0, none⟩ = some (.int .u8 fx.op) ∧ w'.cell? ⟨g, 1, none⟩ = some (str fx.name) ∧ w'.cell? ⟨g, 2, none⟩ = some (.slice a na ca) ∧ w'.cell? ⟨g, 3, none⟩ = some (.slice b nb cb)) (go_keep)
    ((go_at_call 117; refine HC.out.mono ?_; rintro e w5 ⟨fy, v, k5, f5, rfl, ⟨a', na', ca', b', nb', cb', rfl, ht, hs⟩, mv, r5, hp⟩; have S5 := ST3.out.1.moved ((Moved.of_below BD.out).trans mv) r5; have x1 := cell_of_one S5.r1; have x3 := cell_of_one S5.r3; have y0 := (box_cell S5.cell 0).trans rfl; have y1 := (box_cell S5.cell 1).trans rfl; have y2 := (box_cell S5.cell 2).trans rfl; have y3 := (box_cell S5.cell 3).trans rfl; have z5 := (Array.getElem?_eq_some_iff.1 S5.g).1; obtain ⟨q0, q1, q2, q3, g0, g1, g2, g3⟩ := row25 S5.g; have Q5 := Lib.hid (And.intro S5 (And.intro ht (And.intro hs (And.intro mv hp)))); clear S5 ht hs mv r5 hp))
  go_wp2_with fail
  obtain ⟨S5, ht, hs, mv, hp⟩ := Q5.out
  have hz : w.heap.size + 1 ≤ w5.heap.size := z5
  have m5 : Moved I w w5 := S5.mv
  have K : Keeps (hide (lo wc.drew) w5) (hide (lo (w.alloc (.cells #[.int .u8 0, str [], .slice none 0 0, .slice none 0 0] 25))) w5) := lo_keeps (by have := (Array.getElem?_eq_some_iff.1 ST3.out.1.g).1; simp; omega) fun _ _ _ => rfl
  have hx1 := S5.ht; have hx2 := S5.hs
  rw [← lo_alloc w (.cells #[.int .u8 0, str [], .slice none 0 0, .slice none 0 0] 25)] at hx1 hx2
  obtain ⟨g4, v4, m4, r4⟩ := form_put (fm := .mk op [] [] [fx, fy]) (w1 := w.alloc (.cells #[.int .u8 0, str [], .slice none 0 0, .slice none 0 0] 25)) (w3 := w5.alloc (.cells #[.int .u8 fx.op, str fx.name, .slice a na ca, .slice b nb cb, .int .u8 fy.op, str fy.name, .slice a' na' ca', .slice b' nb' cb'] 25)) H.out (S5.rd.below ((Below.refl _ _).alloc (Nat.le_refl _) _)) (m5.alloc _) (Nat.le_refl _) (by simp) (by simp) ((heap_alloc_old _ _ z5).trans S5.g) (At.sl_nil (Nat.zero_le _)) (fresh_two (by simpa using hz) hx1 hx2 (ht.keep K) (hs.keep K)) _ rfl
  simp only [setAllocs z5] at g4 v4 m4 r4
  refine bodyPost_ret (res25 rfl _ _ w.heap.size _ _ _ _ (0, 0) rfl g4) rfl ?_
  obtain ⟨s, hm⟩ := ST3.out.2
  exact ⟨_, _, _, f5, rfl, v4, m4, r4, two_pr ST.out.2 hm hp⟩
end Go.Proofs.YtcandidgaegghaaGreatDoor
