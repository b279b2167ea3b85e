/- DescribeOutline's parts: the closure that counts a formula's parts; joins of a part of the words; one round of the scan. Conditions: those of each statement. -/
import Derived.Test.YtcandidgaegghaaGreatDoorAwake
import Derived.Test.YtcandidgaegghaaGreatDoorShC
import Derived.Outline
import Derived.Deep.CutBlock
namespace Go.Proofs.YtcandidgaegghaaGreatDoor
open Go Go.RowKit Ly
set_option maxRecDepth 10000
set_option linter.unusedSimpArgs false
set_option linter.unusedVariables false
set_option maxHeartbeats 1000000
/-- The cells of the counter and of the closure that counts; all else is below. -/
structure CtAt (W0 : World) (bp bc n : Nat) (w : World) : Prop where
  bw : Below W0.heap.size W0 w
  hp : w.heap[bp]? = some (.cells #[.int .i64 n] 3 (0, 0))
  hc : w.heap[bc]? = some (.cells #[.func (.func 38) #[] #[one bp, one bc]] 74 (0, 0))
  lp : W0.heap.size ≤ bp
  lc : W0.heap.size ≤ bc
theorem CtAt.below {W0 : World} {bp bc n : Nat} {w w' : World} (h : CtAt W0 bp bc n w) (b : Below w.heap.size w w') : CtAt W0 bp bc n w' := ⟨belowThen h.bw b, kc b h.hp, kc b h.hc, h.lp, h.lc⟩
theorem CtAt.next {W0 : World} {bp bc n : Nat} {w : World} (h : CtAt W0 bp bc n w) : CtAt W0 bp bc (n + 1) (w.setCell ⟨bp, 0, none⟩ (.int .i64 ((n : Int) + 1))) := by
  have hne : bc ≠ bp := fun e => by have := h.hc; rw [e, h.hp] at this; simp at this
  refine ⟨h.bw.setCell h.lp _, (set_block (o := 0) (u := .int .i64 ((n : Int) + 1)) h.hp).trans rfl, ?_, h.lp, h.lc⟩
  rw [Below.heap_setCell _ _ _ _ hne]; exact h.hc
theorem ct_new (w : World) : CtAt w w.heap.size (w.heap.size + 1) 0 ((w.alloc (.cells #[.int .i64 0] 3)).alloc (.cells #[.func (.func 38) #[] #[one w.heap.size, one (w.heap.size + 1)]] 74)) := by
  have h1 := heap_alloc_new (w.alloc (.cells #[.int .i64 0] 3)) (.cells #[.func (.func 38) #[] #[one w.heap.size, one (w.heap.size + 1)]] 74)
  rw [World.size_alloc] at h1
  exact ⟨((Below.refl _ _).alloc (Nat.le_refl _) _).alloc (by simp) _, ka _ (heap_alloc_new w _), h1, Nat.le_refl _, by omega⟩
def FC (f : Fm) : Prop := ∀ (a : Option Addr) (k c : Nat) (a' : Option Addr) (m d : Nat) (W0 w : World) (bp bc n0 : Nat), FmsAt W0 f.sub (.slice a' m d) → CtAt W0 bp bc n0 w → n0 + f.parts ≤ 1000000 →
  Calls Tryz.prog 38 #[.agg #[.int .u8 f.op, str f.name, .slice a k c, .slice a' m d], one bp, one bc] w fun e w' => e = .returned (.tuple #[]) ∧ CtAt W0 bp bc (n0 + f.parts) w'
theorem fmsParts_snoc {fs : List Fm} {j : Nat} {f : Fm} (h : fs[j]? = some f) : fmsParts (fs.take (j + 1)) = fmsParts (fs.take j) + f.parts := by
  induction fs generalizing j with
  | nil => simp at h
  | cons x fs ih =>
    cases j with
    | zero => simp at h; subst h; simp [fmsParts]
    | succ j => simp only [List.take_succ_cons, fmsParts]; rw [ih (by simpa using h)]; omega
theorem fmsParts_take_le (fs : List Fm) (j : Nat) : fmsParts (fs.take j) ≤ fmsParts fs := by
  induction fs generalizing j with
  | nil => simp
  | cons x fs ih =>
    cases j with
    | zero => simp [fmsParts]
    | succ j => simp only [List.take_succ_cons, fmsParts]; have := ih j; omega
theorem row3 {w : World} {b : Nat} {x : Value} {t : TypeId} (h : w.heap[b]? = some (.cells #[x] t (0, 0))) : w.cell? ⟨b, 0, none⟩ = some x ∧ w.frozen? ⟨b, 0, none⟩ = false :=
  ⟨(box_cell h 0).trans rfl, by simp [World.frozen?, h]⟩
theorem count_step (op : Int) (nm : Bs) (ts : List Tm) (fs : List Fm) (hh : ∀ f ∈ fs, FC f) : FC (.mk op nm ts fs) := by
  intro a k c a' m d W0 w bp bc n0 h1 h2 h3
  simp only [Fm.op, Fm.name, Fm.args, Fm.sub] at *
  have hm := h1.len
  have hml : m ≤ 9223372036854775807 := le63 (Nat.le_trans hm.2.1 hm.2.2)
  have hpp : (Fm.mk op nm ts fs).parts = fmsParts fs + 1 := by simp [Fm.parts]; try omega
  have H1 := Lib.hid h1
  have H := Lib.hid hh
  have L2 := Lib.hid hm.1
  have B3 : Hid (n0 + 1 + fmsParts fs ≤ 1000000) := by show _ ≤ _; omega
  have hn0 : n0 + 1 ≤ 1000000 := by omega
  have EP := Lib.hid hpp
  have C0 := Lib.hid (h2.below ((Below.refl _ _).alloc (Nat.le_refl _) (.cells #[.int .u8 op, str nm, .slice a k c, .slice a' m d] 25)))
  clear h1 hh hm h3 hpp h2
  obtain ⟨x0, x1⟩ := row3 C0.out.hp
  obtain ⟨y0, -⟩ := row3 C0.out.hc
  have zp := (Array.getElem?_eq_some_iff.1 C0.out.hp).1
  go_enter Tryz.func38, Tryz.ntmps38
  go_wp2_with fail
  go_loopw [11] (fun i wr => ∃ j : Nat, j ≤ m ∧ i = .int .i64 j ∧ Hid (CtAt W0 bp bc (n0 + 1 + fmsParts (fs.take j)) wr)) (fun i _ => m - (intOf i).toNat)
  case atStart => exact ⟨0, Nat.zero_le _, rfl, by show CtAt _ _ _ _ _; simpa [fmsParts] using C0.out.next⟩
  case round =>
    obtain ⟨j, hj, rfl, hr⟩ := hrel
    clear x0 x1 y0 zp
    by_cases hlt : j < m
    · obtain ⟨g, hg⟩ := get_of_lt (l := fs) (j := j) (by rw [← L2.out]; exact hlt)
      obtain ⟨b, off, rfl, hc⟩ := H1.out.get (ne_of_get hg)
      obtain ⟨xa, xn, xc, ya, yn, yc, hx⟩ := hc j _ hg
      have hK := keeps_of_below hr.out.bw
      have c0 := hK _ _ hx.c0; have c1 := hK _ _ hx.c1; have c2 := hK _ _ hx.c2; have c3 := hK _ _ hx.c3
      have S := Lib.hid hx.at'
      have PS := Lib.hid (fmsParts_snoc hg)
      have PL := Lib.hid (fmsParts_take_le fs (j + 1))
      have CR := Lib.hid (hr.out.below ((Below.refl _ _).alloc (Nat.le_refl _) (.cells #[.int .u8 g.op, str g.name, .slice xa xn xc, .slice ya yn yc] 25)))
      have FCg := Lib.hid (H.out g (List.mem_of_getElem? hg))
      clear hc hx hK hg hr
      obtain ⟨y0, -⟩ := row3 CR.out.hc
      go_wp2_with (go_at_call 38; refine (FCg.out xa xn xc ya yn yc W0 _ bp bc _ S.out CR.out (by have := PS.out; have := PL.out; have := B3.out; omega)).mono ?_; rintro e w2 ⟨rfl, C2⟩; have C2 := Lib.hid C2)
      go_roundw
      case rel => exact ⟨j + 1, by omega, by go_num, by have := C2.out; rw [PS.out, ← Nat.add_assoc]; exact this⟩
      case measure => simp [intOf]; omega
    · have e : fs.take j = fs := List.take_of_length_le (by rw [← L2.out]; omega)
      rw [e] at hr
      go_wp2_with fail
      go_end0
      refine ⟨rfl, ?_⟩
      rw [EP.out, Nat.add_comm (fmsParts fs) 1, ← Nat.add_assoc]
      exact hr.out
mutual
theorem count_c : ∀ f : Fm, FC f
  | .mk op nm ts fs => count_step op nm ts fs (count_all fs)
theorem count_all : ∀ l : List Fm, ∀ t ∈ l, FC t
  | [], t, h => by cases h
  | x :: l, t, h => by
    rcases List.mem_cons.1 h with e | e
    · rw [e]; exact count_c x
    · exact count_all l t e
end
/- How long a line of an outline may be. -/
mutual
theorem outl_len : ∀ (f : Fm) (lv : Nat), f.right = true → ∀ ln ∈ f.outl lv, ln.2.length ≤ 16000 ∧ ln.1 ≤ lv + f.depth
  | .mk op nm ts fs, lv, h, ln, hl => by
    simp only [Fm.outl, List.mem_cons] at hl
    rcases hl with rfl | hl
    · refine ⟨?_, by simp⟩
      have h1 := (right_len h).2
      have h2 := name_le (ok_of_right h)
      have h3 := (sign_len op nm).1
      show (Fm.mk op nm ts fs).head.length ≤ 16000
      by_cases ho : op = 1 ∨ op = 2
      · rw [head_atom nm ts fs ho]; exact h1
      · rw [head_op nm ts fs ho]; omega
    · have hs := Fm.right_sub h
      have := outls_len fs (lv + 1) (Fm.mk op nm ts fs).depth (fun f hf => ⟨(hs f hf).1, (hs f hf).2.1⟩) ln hl
      exact ⟨this.1, by omega⟩
theorem outls_len : ∀ (fs : List Fm) (lv B : Nat), (∀ f ∈ fs, f.right = true ∧ f.depth + 1 ≤ B) → ∀ ln ∈ fmsOutl lv fs, ln.2.length ≤ 16000 ∧ ln.1 + 1 ≤ lv + B
  | [], lv, B, _, ln, hl => by simp [fmsOutl] at hl
  | f :: fs, lv, B, h, ln, hl => by
    simp only [fmsOutl, List.mem_append] at hl
    rcases hl with hl | hl
    · have h1 := h f (by simp)
      have := outl_len f lv h1.1 ln hl
      exact ⟨this.1, by omega⟩
    · exact outls_len fs lv B (fun g hg => h g (by simp [hg])) ln hl
end
end Go.Proofs.YtcandidgaegghaaGreatDoor
