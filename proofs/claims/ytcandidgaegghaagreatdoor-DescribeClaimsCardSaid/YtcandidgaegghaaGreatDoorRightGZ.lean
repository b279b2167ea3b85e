/- Formulas that came in as an argument: whatever they are, a formula of the plain kind lies there. Conditions: none but those of each statement. Contracts of the describe family at what is not right: a conjunction with a metavariable, a proof with such a formula or with a great label. Conditions: the program's table of operators lies as laid. Contracts of package syntax's judge, at what is not right: it answers no. Conditions: names fit into memory. describe.Form and describe.Outline at any formula: what is not right has no words. Conditions: the program's table of rows lies as laid; names fit into memory. -/
import Derived.Test.YtcandidgaegghaaGreatDoorRowZ
import Derived.Deep.Slices
import Derived.Test.YtcandidgaegghaaGreatDoorClaim
import Derived.Test.YtcandidgaegghaaGreatDoorProofB
import Derived.Test.YtcandidgaegghaaGreatDoorOutl
import Derived.Outline
section
namespace Ly
open Go Go.RowKit
mutual
/-- What the program's types bound: the operator is a byte, names fit into memory. -/
def Tm.sz : Tm → Prop
  | .mk _ n l => n.length ≤ maxLen ∧ tmsSz l
def tmsSz : List Tm → Prop
  | [] => True
  | t :: ts => t.sz ∧ tmsSz ts
end
mutual
def Fm.sz : Fm → Prop
  | .mk op n l sub => (0 ≤ op ∧ op < 256) ∧ n.length ≤ maxLen ∧ tmsSz l ∧ fmsSz sub
def fmsSz : List Fm → Prop
  | [] => True
  | f :: fs => f.sz ∧ fmsSz fs
end
theorem tmsSz_iff : ∀ l : List Tm, tmsSz l ↔ ∀ t ∈ l, t.sz
  | [] => by simp [tmsSz]
  | t :: ts => by simp [tmsSz, tmsSz_iff ts]
theorem fmsSz_iff : ∀ l : List Fm, fmsSz l ↔ ∀ t ∈ l, t.sz
  | [] => by simp [fmsSz]
  | t :: ts => by simp [fmsSz, fmsSz_iff ts]
end Ly
namespace Go.Proofs.YtcandidgaegghaaGreatDoor
open Go Go.ChangeShapes Go.WideShapes Go.ChangeAt Go.RowKit Ly
set_option maxRecDepth 10000
set_option linter.unusedSimpArgs false
set_option linter.unusedVariables false
section
variable {H : Type} {enc : TypeId × Value → H} {W : World}
/-- What lies in some cells, one behind the other. -/
def LieAt (W : World) (cs : List Value) (ds : List D) : Prop := ∀ (j : Nat) (d : D), ds[j]? = some d → ∃ u, cs[j]? = some u ∧ At W d u
theorem slice_of {α : Type} [Inhabited α] {k : Nat} {one : α → List D} {all : List α → List D} (hall : ∀ l, (all l).length = l.length * k) (hone : ∀ x, (one x).length = k)
    (hget : ∀ (l : List α) (i : Nat) (x : α), l[i]? = some x → ∀ j, j < k → (all l)[i * k + j]? = (one x)[j]?) {P : α → Prop} {t e : TypeId} {fuel : Nat} {cs : List Value} {y : DataW H × List MemPlace}
    (ht : Tryz.prog.underlying t = some (.slice e)) (hc : Tryz.prog.cellsOf e = k) (hk : 0 < k)
    (elem : ∀ n cs y, n < fuel → cs.length = k → DataW.trod enc Tryz.prog W 0 (fun _ => true) true n e cs = some y → ∃ x : α, P x ∧ LieAt W cs (one x))
    (h : DataW.trod enc Tryz.prog W 0 (fun _ => true) true fuel t cs = some y) : ∃ (l : List α) (a : Option Addr) (n c : Nat), cs = [.slice a n c] ∧ (∀ x ∈ l, P x) ∧ At W (.sl k l.length (all l)) (.slice a n c) := by
  rcases DataW.trod_slice ht h with ⟨rfl, -⟩ | ⟨ad, len, cap, elems, rest, n, rfl, rfl, -, -, hlc, hcm, hel, hx, -⟩
  · refine ⟨[], none, 0, 0, rfl, by simp, ?_⟩
    have : all [] = [] := List.eq_nil_of_length_eq_zero (by rw [hall]; simp)
    rw [this]
    exact At.sl_nil (Nat.zero_le _)
  · obtain ⟨f, hF⟩ := Go.Deep.choose_lt (α := α) (n := len) (p := fun i x => P x ∧ ∀ (j : Nat) (d : D), (one x)[j]? = some d → ∃ u, W.cell? (ad.add (i * k + j)) = some u ∧ At W d u) fun i hi => by
      have h1 := hx i hi
      rw [List.getElem?_eq_getElem (show i < elems.length by omega)] at h1
      obtain ⟨cs', h2, h3⟩ := Option.bind_eq_some_iff.1 h1
      obtain ⟨_, h4, h5⟩ := World.cells?_some h2
      rw [hc] at h4 h5
      obtain ⟨x, h6, h7⟩ := elem n cs' _ (Nat.lt_succ_self n) h4 h3
      refine ⟨x, h6, fun j d hd => ?_⟩
      obtain ⟨u, h8, h9⟩ := h7 j d hd
      have hj : j < k := by rw [← hone x]; exact (List.getElem?_eq_some_iff.1 hd).1
      have h10 := h5 j hj
      rw [h8, Go.Deep.add_add] at h10
      exact ⟨u, h10, h9⟩
    refine ⟨(List.range len).map f, _, _, _, rfl, ?_, ?_⟩
    · intro x hm
      obtain ⟨i, hi, rfl⟩ := List.mem_map.1 hm
      exact (hF i (List.mem_range.1 hi)).1
    · have hl : ((List.range len).map f).length = len := by simp
      rw [hl]
      rcases Nat.eq_zero_or_pos len with h0 | h0
      · subst h0
        have : all ((List.range 0).map f) = [] := List.eq_nil_of_length_eq_zero (by rw [hall]; simp)
        rw [this]
        exact At.sl_nil hcm
      · obtain ⟨ab, ao, spot⟩ := ad
        have hspot : spot = none := by
          obtain ⟨u, h1, _⟩ := (hF 0 h0).2 0 _ (List.getElem?_eq_getElem (show 0 < (one (f 0)).length by rw [hone]; exact hk))
          simpa [Addr.add] using World.cell?_spot h1
        subst hspot
        refine At.sl_mk (by rw [hall, hl]) hlc hcm fun j d hd => ?_
        have hj : j < len * k := by
          have := (List.getElem?_eq_some_iff.1 hd).1
          rwa [hall, hl] at this
        have hi : j / k < len := Nat.div_lt_of_lt_mul (by rwa [Nat.mul_comm])
        have hjk : j / k * k + j % k = j := by rw [Nat.mul_comm]; exact Nat.div_add_mod j k
        have h1 := hget ((List.range len).map f) (j / k) (f (j / k)) (by rw [List.getElem?_map, List.getElem?_range hi]; rfl) (j % k) (Nat.mod_lt _ hk)
        rw [hjk, hd] at h1
        obtain ⟨u, h2, h3⟩ := (hF _ hi).2 _ _ h1.symm
        rw [hjk, Addr.add_lit] at h2
        exact ⟨u, h2, h3⟩
theorem cells9 : Tryz.prog.cellsOf 9 = 1 := by kernel_rfl
theorem cells22 : Tryz.prog.cellsOf 22 = 1 := by kernel_rfl
theorem cells23 : Tryz.prog.cellsOf 23 = 1 := by kernel_rfl
theorem cells25 : Tryz.prog.cellsOf 25 = 4 := by kernel_rfl
theorem cells95 : Tryz.prog.cellsOf 95 = 3 := by kernel_rfl
theorem cell_of_one {cs : List Value} {i : Nat} {v : Value} (e : (cs.drop i).take 1 = [v]) : cs[i]? = some v := by
  have := congrArg (·[0]?) e
  simpa [List.getElem?_take, List.getElem?_drop] using this
theorem one_of_cell {cs : List Value} {i : Nat} (h : i < cs.length) : ∃ v, (cs.drop i).take 1 = [v] := by
  refine ⟨cs[i], ?_⟩
  rw [List.drop_eq_getElem_cons h]
  rfl
theorem str_trod {fuel : Nat} {cs : List Value} {y : DataW H × List MemPlace} (h : DataW.trod enc Tryz.prog W 0 (fun _ => true) true fuel 9 cs = some y) : ∃ s : Bs, cs = [str s] ∧ s.length ≤ maxLen := by
  obtain ⟨s, rfl, _, hs⟩ := DataW.trod_string Tryz.underlying9 h
  refine ⟨s.data.toList, ?_, ?_⟩
  · simp
  · simpa using hs
theorem tm_ds (v : Bool) (n : Bs) (l : List Tm) : (Tm.mk v n l).ds = [.val (.bool v), .val (str n), .sl 3 l.length (tmsDs l)] := by rw [Tm.ds]
theorem fm_ds (op : Int) (n : Bs) (l : List Tm) (s : List Fm) : (Fm.mk op n l s).ds = [.val (.int .u8 op), .val (str n), .sl 3 l.length (tmsDs l), .sl 4 s.length (fmsDs s)] := by rw [Fm.ds]
theorem tmsDs_len : ∀ l : List Tm, (tmsDs l).length = l.length * 3
  | [] => by simp [tmsDs]
  | t :: ts => by simp [tmsDs, tmsDs_len ts, Tm.ds_length]; omega
theorem fmsDs_len : ∀ l : List Fm, (fmsDs l).length = l.length * 4
  | [] => by simp [fmsDs]
  | t :: ts => by simp [fmsDs, fmsDs_len ts, Fm.ds_length]; omega
instance : Inhabited Tm := ⟨.mk false [] []⟩
instance : Inhabited Fm := ⟨.mk 0 [] [] []⟩
theorem tm_trod (fuel : Nat) : ∀ (cs : List Value) (y : DataW H × List MemPlace), DataW.trod enc Tryz.prog W 0 (fun _ => true) true fuel 95 cs = some y → ∃ t : Tm, t.sz ∧ LieAt W cs t.ds := by
  induction fuel using Nat.strongRecOn with
  | _ fuel ih =>
  intro cs y h
  obtain ⟨xs, n, rfl, -, hl, hxl, hall⟩ := DataW.trod_struct Tryz.underlying95 h
  have hx : ∀ i, i < 3 → ∃ z, xs[i]? = some z := fun i hi => ⟨_, List.getElem?_eq_getElem (show i < xs.length by rw [hxl]; exact hi)⟩
  obtain ⟨z0, g0⟩ := hx 0 (by omega)
  obtain ⟨z1, g1⟩ := hx 1 (by omega)
  obtain ⟨z2, g2⟩ := hx 2 (by omega)
  have h0 : DataW.trod enc Tryz.prog W 0 (fun _ => true) true n 4 ((cs.drop 0).take (Tryz.prog.cellsOf 4)) = _ := (hall 0 _ rfl).trans g0
  have h1 : DataW.trod enc Tryz.prog W 0 (fun _ => true) true n 9 ((cs.drop 1).take (Tryz.prog.cellsOf 9)) = _ := (hall 1 _ rfl).trans g1
  have h2 : DataW.trod enc Tryz.prog W 0 (fun _ => true) true n 22 ((cs.drop 2).take (Tryz.prog.cellsOf 22)) = _ := (hall 2 _ rfl).trans g2
  rw [cells4] at h0
  rw [cells9] at h1
  rw [cells22] at h2
  obtain ⟨b, e0, -⟩ := DataW.trod_bool Tryz.underlying4 h0
  obtain ⟨s, e1, hs⟩ := str_trod h1
  obtain ⟨l, a, m, c, e2, hP, hA⟩ := slice_of (k := 3) (one := Tm.ds) (all := tmsDs) (P := Tm.sz) tmsDs_len Tm.ds_length tmsDs_get Tryz.underlying22 cells95 (by decide) (fun n' cs' y' hn _ h' => ih n' (by omega) cs' y' h') h2
  refine ⟨.mk b s l, ⟨hs, (tmsSz_iff l).2 hP⟩, fun j d hd => ?_⟩
  rw [tm_ds] at hd
  rcases (show j = 0 ∨ j = 1 ∨ j = 2 ∨ 3 ≤ j by omega) with rfl | rfl | rfl | h3
  · cases hd; exact ⟨_, cell_of_one e0, rfl⟩
  · cases hd; exact ⟨_, cell_of_one e1, rfl⟩
  · cases hd; exact ⟨_, cell_of_one e2, hA⟩
  · rw [List.getElem?_eq_none (by simpa using h3)] at hd; cases hd
theorem tms_trod {fuel : Nat} {cs : List Value} {y : DataW H × List MemPlace} (h : DataW.trod enc Tryz.prog W 0 (fun _ => true) true fuel 22 cs = some y) : ∃ (l : List Tm) (a : Option Addr) (n c : Nat), cs = [.slice a n c] ∧ tmsSz l ∧ TmsAt W l (.slice a n c) := by
  obtain ⟨l, a, m, c, e2, hP, hA⟩ := slice_of (k := 3) (one := Tm.ds) (all := tmsDs) (P := Tm.sz) tmsDs_len Tm.ds_length tmsDs_get Tryz.underlying22 cells95 (by decide) (fun n' cs' y' hn _ h' => tm_trod n' cs' y' h') h
  exact ⟨l, a, m, c, e2, (tmsSz_iff l).2 hP, hA⟩
theorem fm_trod (fuel : Nat) : ∀ (cs : List Value) (y : DataW H × List MemPlace), DataW.trod enc Tryz.prog W 0 (fun _ => true) true fuel 25 cs = some y → ∃ t : Fm, t.sz ∧ LieAt W cs t.ds := by
  induction fuel using Nat.strongRecOn with
  | _ fuel ih =>
  intro cs y h
  obtain ⟨xs, n, rfl, -, hl, hxl, hall⟩ := DataW.trod_struct Tryz.underlying25 h
  have hx : ∀ i, i < 4 → ∃ z, xs[i]? = some z := fun i hi => ⟨_, List.getElem?_eq_getElem (show i < xs.length by rw [hxl]; exact hi)⟩
  obtain ⟨z0, g0⟩ := hx 0 (by omega)
  obtain ⟨z1, g1⟩ := hx 1 (by omega)
  obtain ⟨z2, g2⟩ := hx 2 (by omega)
  obtain ⟨z3, g3⟩ := hx 3 (by omega)
  have h0 : DataW.trod enc Tryz.prog W 0 (fun _ => true) true n 5 ((cs.drop 0).take (Tryz.prog.cellsOf 5)) = _ := (hall 0 _ rfl).trans g0
  have h1 : DataW.trod enc Tryz.prog W 0 (fun _ => true) true n 9 ((cs.drop 1).take (Tryz.prog.cellsOf 9)) = _ := (hall 1 _ rfl).trans g1
  have h2 : DataW.trod enc Tryz.prog W 0 (fun _ => true) true n 22 ((cs.drop 2).take (Tryz.prog.cellsOf 22)) = _ := (hall 2 _ rfl).trans g2
  have h3 : DataW.trod enc Tryz.prog W 0 (fun _ => true) true n 23 ((cs.drop 3).take (Tryz.prog.cellsOf 23)) = _ := (hall 3 _ rfl).trans g3
  rw [cells5] at h0
  rw [cells9] at h1
  rw [cells22] at h2
  rw [cells23] at h3
  obtain ⟨op, e0, -, hw⟩ := DataW.trod_int Tryz.underlying5 h0
  have hb := bounds_u8 hw
  obtain ⟨s, e1, hs⟩ := str_trod h1
  obtain ⟨l, a, m, c, e2, hP, hA⟩ := tms_trod h2
  obtain ⟨l', a', m', c', e3, hP', hA'⟩ := slice_of (k := 4) (one := Fm.ds) (all := fmsDs) (P := Fm.sz) fmsDs_len Fm.ds_length fmsDs_get Tryz.underlying23 cells25 (by decide) (fun n' cs' y' hn _ h' => ih n' (by omega) cs' y' h') h3
  refine ⟨.mk op s l l', ⟨⟨hb.1, by omega⟩, hs, hP, (fmsSz_iff l').2 hP'⟩, fun j d hd => ?_⟩
  rw [fm_ds] at hd
  rcases (show j = 0 ∨ j = 1 ∨ j = 2 ∨ j = 3 ∨ 4 ≤ j by omega) with rfl | rfl | rfl | rfl | h3
  · cases hd; exact ⟨_, cell_of_one e0, rfl⟩
  · cases hd; exact ⟨_, cell_of_one e1, rfl⟩
  · cases hd; exact ⟨_, cell_of_one e2, hA⟩
  · cases hd; exact ⟨_, cell_of_one e3, hA'⟩
  · rw [List.getElem?_eq_none (by simpa using h3)] at hd; cases hd
theorem fms_trod {fuel : Nat} {cs : List Value} {y : DataW H × List MemPlace} (h : DataW.trod enc Tryz.prog W 0 (fun _ => true) true fuel 23 cs = some y) : ∃ (l : List Fm) (a : Option Addr) (n c : Nat), cs = [.slice a n c] ∧ fmsSz l ∧ FmsAt W l (.slice a n c) := by
  obtain ⟨l, a, m, c, e2, hP, hA⟩ := slice_of (k := 4) (one := Fm.ds) (all := fmsDs) (P := Fm.sz) fmsDs_len Fm.ds_length fmsDs_get Tryz.underlying23 cells25 (by decide) (fun n' cs' y' hn _ h' => fm_trod n' cs' y' h') h
  exact ⟨l, a, m, c, e2, (fmsSz_iff l).2 hP, hA⟩
/-- A formula that came in by value. -/
theorem fm_of {base : Nat} {v : Value} {d : DataW H} {p : List MemPlace} (hval : Value.okWide Tryz.prog W .any base 25 v) (h : DataW.Trod enc Tryz.prog W 0 (fun _ => true) true 25 v d p) : ∃ F : Fm, F.sz ∧ FmVal W F v := by
  obtain ⟨cs, rfl, hsz⟩ := okWide_struct Tryz.underlying25 hval
  rw [cells25] at hsz
  obtain ⟨fuel, hf⟩ := h
  obtain ⟨F, hs, hL⟩ := fm_trod fuel _ _ hf
  obtain ⟨op, n, l, s⟩ := F
  rw [fm_ds] at hL
  obtain ⟨u0, c0, e0⟩ := hL 0 _ rfl
  obtain ⟨u1, c1, e1⟩ := hL 1 _ rfl
  obtain ⟨u2, c2, e2⟩ := hL 2 _ rfl
  obtain ⟨u3, c3, e3⟩ := hL 3 _ rfl
  simp only [Value.cells, Array.getElem?_toList] at c0 c1 c2 c3
  have hcs : cs = #[u0, u1, u2, u3] := by
    apply Array.ext
    · simp [hsz]
    · intro i h1 h2
      rcases (show i = 0 ∨ i = 1 ∨ i = 2 ∨ i = 3 by omega) with rfl | rfl | rfl | rfl
      · simpa using (Array.getElem?_eq_some_iff.1 c0).2
      · simpa using (Array.getElem?_eq_some_iff.1 c1).2
      · simpa using (Array.getElem?_eq_some_iff.1 c2).2
      · simpa using (Array.getElem?_eq_some_iff.1 c3).2
  subst hcs
  obtain rfl : u0 = .int .u8 op := e0
  obtain rfl : u1 = str n := e1
  obtain ⟨a, k, rfl, _⟩ := id e2
  obtain ⟨b, m, rfl, _⟩ := id e3
  exact ⟨.mk op n l s, hs, a, _, k, b, _, m, rfl, e2, e3⟩
/-- A text that came in. -/
theorem text_of {base : Nat} {v : Value} {d : DataW H} {p : List MemPlace} (hval : Value.okWide Tryz.prog W .any base 9 v) (h : DataW.Trod enc Tryz.prog W 0 (fun _ => true) true 9 v d p) : ∃ s : Bs, v = str s ∧ s.length ≤ maxLen := by
  obtain ⟨s, rfl⟩ := okWide_string Tryz.underlying9 hval
  obtain ⟨fuel, hf⟩ := h
  obtain ⟨s', e, hs⟩ := str_trod hf
  simp only [Value.cells] at e
  exact ⟨s', by simpa using e, hs⟩
end
end Go.Proofs.YtcandidgaegghaaGreatDoor
end
section
namespace Go.Proofs.YtcandidgaegghaaGreatDoor
open Go Go.RowKit Ly
set_option maxRecDepth 10000
set_option linter.unusedSimpArgs false
set_option linter.unusedVariables false
set_option maxHeartbeats 1600000
def metaFm : Fm := .mk 15 [63, 65] [] []
def badFm (f : Fm) : Fm := .mk 4 [] [] [f, metaFm]
/-- The row of OpMeta in the table of operators. -/
def Row15At (w : World) : Prop := w.cell? ⟨0, 75, none⟩ = some (.bool false) ∧ w.cell? ⟨0, 76, none⟩ = some (.bool true) ∧ w.cell? ⟨0, 77, none⟩ = some (.int .u8 3) ∧ w.cell? ⟨0, 78, none⟩ = some (.int .i64 0) ∧ w.cell? ⟨0, 79, none⟩ = some (.int .i64 0)
theorem Row15At.keep {w w' : World} (h : Row15At w) (k : Keeps w w') : Row15At w' := ⟨k _ _ h.1, k _ _ h.2.1, k _ _ h.2.2.1, k _ _ h.2.2.2.1, k _ _ h.2.2.2.2⟩
theorem meta_no (w0 w : World) (b : Nat) (left depth : Int) (x : Value) (hr : Row15At w0) (hx : FmVal w0 metaFm x) (hw : Below w0.heap.size w0 w) (hb : w0.heap.size ≤ b) (hj : JudgeAt w b left) (h1 : 1 ≤ left) (h2 : left ≤ 400) (h3 : depth ≤ 40) :
    Calls Tryz.prog 160 #[.pointer (some ⟨b, 0, none⟩), x, .int .i64 depth] w fun e w' => e = .returned (.bool false) ∧ Below w0.heap.size w0 w' ∧ But b w w' := by
  obtain ⟨a, k, c, a', m, d, rfl, _, _⟩ := hx
  simp only [metaFm, Fm.op, Fm.name]
  have hbl : b < w.heap.size := hj.lt
  have HJ := Lib.hid hj
  have HW := Lib.hid hw
  have hW1 : Below w0.heap.size w0 ((w.setCell ⟨b, 1, none⟩ (.int .i64 (left - 1))).alloc (.cells #[.int .u8 15, str [63, 65], .slice a k c, .slice a' m d] 25)) :=
    ((But.set b w 1 none _).below hw hb).alloc (by have := hw.size; simpa [World.setCell] using this) _
  obtain ⟨g0, g1, g2, g3, g4⟩ := hr.keep (keeps_of_below hW1)
  have c0 := hj.c0
  clear hW1 hj hw hr
  go_enter Tryz.func160, Tryz.ntmps160
  go_wp2_with (go_at_call 233; refine (node_yes b left depth _ (HJ.out.below (by exact (Below.refl _ _).alloc (Nat.le_refl _) _)) h1 h2 h3).mono ?_; rintro e w1 ⟨rfl, rfl⟩)
  go_ret
  have q : ∀ o o', But b w (((w.setCell ⟨b, 1, none⟩ (.int .i64 (left - 1))).alloc o).alloc o') := fun o o' => (But.set b w 1 none _).trans (But.of_below (((Below.refl _ _).alloc (Nat.le_refl _) _).alloc (by simp) _))
  exact ⟨rfl, (q _ _).below HW.out hb, q _ _⟩
/-- syntax.Right, at a right formula and a metavariable joined. -/
theorem bad_no (f : Fm) (hf : f.ok = true) (hn : f.nodes ≤ 398) (hd : f.depth ≤ 39) (w0 w : World) (b : Nat) (x : Value) (hrows : RowsAt w0) (hr : Row15At w0) (hx : FmVal w0 (badFm f) x) (hw : Below w0.heap.size w0 w) (hb : w0.heap.size ≤ b) (hj : JudgeAt w b 400) :
    Calls Tryz.prog 160 #[.pointer (some ⟨b, 0, none⟩), x, .int .i64 1] w fun e w' => e = .returned (.bool false) ∧ Below w0.heap.size w0 w' := by
  obtain ⟨a, k, c, a', m, d, rfl, hx, hx2⟩ := hx
  simp only [badFm, Fm.op, Fm.name, Fm.args, Fm.sub] at *
  have hk := hx.len
  have hm := hx2.len
  obtain rfl : k = 0 := by simpa using hk.1
  obtain rfl : m = 2 := by simpa using hm.1
  have hbl : b < w.heap.size := hj.lt
  have hcells : ∀ w', Keeps w0 w' → w'.cell? ⟨0, 20, none⟩ = some (.bool true) ∧ w'.cell? ⟨0, 21, none⟩ = some (.bool true) ∧ w'.cell? ⟨0, 22, none⟩ = some (.int .u8 0) ∧ w'.cell? ⟨0, 23, none⟩ = some (.int .i64 0) ∧ w'.cell? ⟨0, 24, none⟩ = some (.int .i64 2) := fun w' kk =>
    hrows.keep kk 4 (by decide) (by decide)
  have hW1 : Below w0.heap.size w0 ((w.setCell ⟨b, 1, none⟩ (.int .i64 399)).alloc (.cells #[.int .u8 4, str [], .slice a 0 c, .slice a' 2 d] 25)) :=
    ((But.set b w 1 none _).below hw hb).alloc (by have := hw.size; simpa [World.setCell] using this) _
  obtain ⟨g0, g1, g2, g3, g4⟩ := hcells _ (keeps_of_below hW1)
  have c0 := hj.c0
  have HJ := Lib.hid hj
  have HW := Lib.hid hw
  have HX := Lib.hid hx
  have HX2 := Lib.hid hx2
  have HR := Lib.hid hrows
  have HR15 := Lib.hid hr
  have HF := Lib.hid hf
  have hfd : (f.depth : Int) ≤ 39 := by omega
  obtain ⟨nn, hnn⟩ : ∃ nn : Nat, f.nodes = nn := ⟨_, rfl⟩
  have HNN := Lib.hid hnn
  have hn' : (nn : Int) ≤ 398 := by omega
  clear hW1 hx hx2 hk hm hj hw hrows hcells hr hf hn hd hnn
  go_enter Tryz.func160, Tryz.ntmps160
  go_wp2_with (first
    | (go_at_call 233; refine (node_yes b 400 1 _ (HJ.out.below (by exact (Below.refl _ _).alloc (Nat.le_refl _) _)) (by omega) (by omega) (by omega)).mono ?_; rintro e w1 ⟨rfl, rfl⟩)
    | (go_at_call 234; refine (named_yes 0 [] _ (.inr (.inr ⟨rfl, rfl⟩))).mono ?_; rintro e w2 ⟨rfl, hb2⟩; obtain ⟨hc2, hf2⟩ := bcell hb2; have q := Lib.hid (judged_of2 399 HW.out hb HJ.out hb2); clear hf2)
    | (go_at_call 236; refine (terms_yes [] w0 _ b 399 2 a 0 c HX.out q.out.1 hb q.out.2.1 rfl (by simp [tmsNodes]) (by omega) (by omega) (by simp [tmsDepth])).mono ?_; rintro e w3 ⟨rfl, r1, r2, r3⟩; have e3 : w3.cell? ⟨w.heap.size, 3, none⟩ = some (.slice a' 2 d) := (by rw [r3.cell (by have := hb2.size; simp at this; omega) (by omega), hc2 _ _ (by simp; omega)]; simp [go_sem]); have R := Lib.hid (And.intro r1 (And.intro r2 (q.out.2.2.trans r3))); clear hc2 q r1 r2 r3))
  go_loopw [79] (fun i wr => ∃ (j : Nat) (lf : Int), j ≤ 1 ∧ i = .int .i64 j ∧ lf = 399 - (if j = 0 then 0 else (nn : Int)) ∧ Hid (Below w0.heap.size w0 wr ∧ JudgeAt wr b lf ∧ But b w wr)) (fun i _ => 2 - (intOf i).toNat)
  case atStart => exact ⟨0, 399, by omega, rfl, by simp, R.out.1, by simpa [tmsNodes] using R.out.2.1, R.out.2.2⟩
  case round =>
    clear g0 g1 g2 g3 g4 e3 hb2 c0
    obtain ⟨j, lf, hj, rfl, hlf, hs⟩ := hrel
    obtain ⟨bb, off, rfl, hc⟩ := HX2.out.get (by simp)
    have hal : Hid (∀ o, Below w0.heap.size w0 (wr.alloc o) ∧ JudgeAt (wr.alloc o) b lf ∧ But b w (wr.alloc o)) := fun o => by
      have hb1 : Below wr.heap.size wr (wr.alloc o) := (Below.refl _ _).alloc (Nat.le_refl _) _
      exact ⟨hs.out.1.trans (hb1.mono hs.out.1.size), hs.out.2.1.below hb1, hs.out.2.2.trans (But.of_below hb1)⟩
    have hK := keeps_of_below hs.out.1
    rcases (show j = 0 ∨ j = 1 by omega) with rfl | rfl
    · obtain ⟨x0, x1, x2, y0, y1, y2, hx⟩ := hc 0 f rfl
      have c0 := hK _ _ hx.c0; have c1 := hK _ _ hx.c1; have c2 := hK _ _ hx.c2; have c3 := hK _ _ hx.c3
      simp only [Nat.zero_mul, Nat.one_mul, Nat.add_zero, Nat.add_assoc, Nat.reduceAdd] at c0 c1 c2 c3
      have X : Hid (FmVal w0 f (.agg #[.int .u8 f.op, str f.name, .slice x0 x1 x2, .slice y0 y1 y2])) := ⟨_, _, _, _, _, _, rfl, hx.at_, hx.at'⟩
      obtain rfl : lf = 399 := by simpa using hlf
      clear hc hx hK hlf
      go_wp2_with (go_at_call 160; refine (form_yes f w0 _ b _ 2 _ HR.out X.out (hal.out _).1 hb (hal.out _).2.1 HF.out (by rw [HNN.out]; omega) (by omega) (by omega) (by omega)).mono ?_; rintro e w3 ⟨rfl, r1, r2, r3⟩)
      go_roundw
      case rel => exact ⟨1, 399 - nn, by omega, by go_num, by simp, r1, by rw [← HNN.out]; exact r2, (hal.out _).2.2.trans r3⟩
      case measure => simp [intOf]
    · obtain ⟨x0, x1, x2, y0, y1, y2, hx⟩ := hc 1 metaFm rfl
      have c0 := hK _ _ hx.c0; have c1 := hK _ _ hx.c1; have c2 := hK _ _ hx.c2; have c3 := hK _ _ hx.c3
      simp only [Nat.zero_mul, Nat.one_mul, Nat.add_zero, Nat.add_assoc, Nat.reduceAdd] at c0 c1 c2 c3
      have X : Hid (FmVal w0 metaFm (.agg #[.int .u8 metaFm.op, str metaFm.name, .slice x0 x1 x2, .slice y0 y1 y2])) := ⟨_, _, _, _, _, _, rfl, hx.at_, hx.at'⟩
      have hlf' : lf = 399 - nn := by simpa using hlf
      clear hc hx hK hlf
      go_wp2_with (go_at_call 160; refine (meta_no w0 _ b lf 2 _ HR15.out X.out (hal.out _).1 hb (hal.out _).2.1 (by omega) (by omega) (by omega)).mono ?_; rintro e w3 ⟨rfl, r1, r2⟩)
      go_ret
      exact ⟨rfl, r1⟩
theorem Right_bad (f : Fm) (hf : f.ok = true) (hn : f.nodes ≤ 398) (hd : f.depth ≤ 39) (x : Value) (w : World) (hr : RowsAt w) (hr15 : Row15At w) (hx : FmVal w (badFm f) x) : Calls Tryz.prog 85 #[x] w fun e w' => e = .returned (.bool false) ∧ Below w.heap.size w w' := by
  obtain ⟨a, k, c, a', m, d, rfl, h1, h2⟩ := hx
  have X : Hid (FmVal w (badFm f) (.agg #[.int .u8 (badFm f).op, str (badFm f).name, .slice a k c, .slice a' m d])) := ⟨_, _, _, _, _, _, rfl, h1, h2⟩
  have HR := Lib.hid hr
  have HR15 := Lib.hid hr15
  have HO := Lib.hid (And.intro hf (And.intro hn hd))
  clear h1 h2 hr hr15 hf hn hd
  go_enter Tryz.func85, Tryz.ntmps85
  go_wp2_with (go_at_call 160; refine (bad_no f HO.out.1 HO.out.2.1 HO.out.2.2 w _ (w.heap.size + 1) _ HR.out HR15.out X.out (by exact ((Below.refl _ _).alloc (Nat.le_refl _) _).alloc (by simp) _) (by omega) ⟨by simp [go_sem], by simp [go_sem], by simp [go_sem], by simp [go_sem]⟩).mono ?_; rintro e w1 ⟨rfl, r1⟩)
  go_ret
  exact ⟨rfl, r1⟩
/-- describe.Form and describe.Outline at it. -/
theorem Form_bad (f : Fm) (hf : f.ok = true) (hn : f.nodes ≤ 398) (hd : f.depth ≤ 39) (x : Value) (w : World) (hr : RowsAt w) (hr15 : Row15At w) (hx : FmVal w (badFm f) x) : Calls Tryz.prog 21 #[x] w fun e w' => e = .returned (.tuple #[str [], .int .i64 2]) ∧ Below w.heap.size w w' := by
  obtain ⟨a, k, c, a', m, d, rfl, h1, h2⟩ := hx
  have H : Hid (∀ o, Calls Tryz.prog 85 #[.agg #[.int .u8 (badFm f).op, str (badFm f).name, .slice a k c, .slice a' m d]] (w.alloc o) fun e w' => e = .returned (.bool false) ∧ Below (w.alloc o).heap.size (w.alloc o) w') := fun o =>
    Right_bad f hf hn hd _ _ (hr.keep (keeps1 _ _)) (hr15.keep (keeps1 _ _)) ⟨_, _, _, _, _, _, rfl, h1.keep (keeps1 _ _), h2.keep (keeps1 _ _)⟩
  clear h1 h2 hr hr15 hf hn hd
  go_enter Tryz.func21, Tryz.ntmps21
  go_wp2_with (go_at_call 85; refine (H.out _).mono ?_; rintro e w1 ⟨rfl, b1⟩)
  exact bodyPost_ret (v := .tuple #[str [], .int .i64 2]) (by simp [results, Tryz.results21, go_sem]) rfl ⟨rfl, below1 b1⟩
theorem Outline_bad (f : Fm) (hf : f.ok = true) (hn : f.nodes ≤ 398) (hd : f.depth ≤ 39) (x : Value) (w : World) (hr : RowsAt w) (hr15 : Row15At w) (hx : FmVal w (badFm f) x) : Calls Tryz.prog 30 #[x] w fun e w' => e = .returned (.tuple #[.slice none 0 0, .int .i64 2]) ∧ Below w.heap.size w w' := by
  obtain ⟨a, k, c, a', m, d, rfl, h1, h2⟩ := hx
  have H : Hid (∀ o, Calls Tryz.prog 85 #[.agg #[.int .u8 (badFm f).op, str (badFm f).name, .slice a k c, .slice a' m d]] (w.alloc o) fun e w' => e = .returned (.bool false) ∧ Below (w.alloc o).heap.size (w.alloc o) w') := fun o =>
    Right_bad f hf hn hd _ _ (hr.keep (keeps1 _ _)) (hr15.keep (keeps1 _ _)) ⟨_, _, _, _, _, _, rfl, h1.keep (keeps1 _ _), h2.keep (keeps1 _ _)⟩
  clear h1 h2 hr hr15 hf hn hd
  go_enter Tryz.func30, Tryz.ntmps30
  go_wp2_with (go_at_call 85; refine (H.out _).mono ?_; rintro e w1 ⟨rfl, b1⟩)
  exact bodyPost_ret (v := .tuple #[.slice none 0 0, .int .i64 2]) (by simp [results, Tryz.results30, go_sem]) rfl ⟨rfl, below1 b1⟩
/-- describe.shaped at a step whose label is great. -/
theorem shaped_odd (r : Bs) (f : Fm) (lb L : Int) (sub : List Pf) (ms : List (List Int)) (hL : 1000 ≤ L) (h : shaped r lb sub.length ms = true) (o : Int) (nm : Bs) (a b s q : Option Addr) (n c m d sn sc qn qc : Nat) (hs : sn = sub.length) (hq : qn = ms.length) (hs1 : sn ≤ maxLen) (hq1 : qn ≤ maxLen) (w : World) :
    Calls Tryz.prog 162 #[.agg #[str r, .int .u8 o, str nm, .slice a n c, .slice b m d, .int .i64 L, .slice s sn sc, .slice q qn qc]] w fun e w' => e = .returned (.bool false) ∧ Below w.heap.size w w' := by
  have hsl : sn ≤ 9223372036854775807 := by have := le63 hs1; omega
  have hql : qn ≤ 9223372036854775807 := by have := le63 hq1; omega
  unfold shaped at h
  by_cases r0 : r = []
  · subst r0
    simp only [if_true, Bool.and_eq_true, decide_eq_true_eq, List.isEmpty_iff] at h
    obtain ⟨⟨z1, z2⟩, z3, z4⟩ := h
    have e1 : sn = 0 := by omega
    have e2 : qn = 0 := by rw [hq, z2]; rfl
    subst e1 e2
    have d1 : decide (1 ≤ L) = true := by simp; omega
    have d2 : decide (L ≤ 999) = false := by simp; omega
    clear hs hq z1 z2 z3 z4
    go_enter Tryz.func162, Tryz.ntmps162
    go_wp2_with fail
    go_ret
    exact ⟨rfl, (Below.refl _ _).alloc (Nat.le_refl _) _⟩
  · by_cases r1 : r = hole
    · subst r1
      simp only [r0, if_true, if_false, Bool.and_eq_true, decide_eq_true_eq, List.isEmpty_iff] at h
      obtain ⟨⟨z1, z2⟩, z3⟩ := h
      have e1 : sn = 0 := by omega
      have e2 : qn = 0 := by rw [hq, z2]; rfl
      subst e1 e2
      have d1 : (L == 0) = false := by simp; omega
      clear hs hq z1 z2
      go_enter Tryz.func162, Tryz.ntmps162
      unfold hole
      go_wp2_with fail
      go_ret
      exact ⟨rfl, (Below.refl _ _).alloc (Nat.le_refl _) _⟩
    · simp only [r0, r1, if_false, Bool.and_eq_true, decide_eq_true_eq] at h
      obtain ⟨⟨⟨⟨z1, z2⟩, z3⟩, z4⟩, z5⟩ := h
      have t0 : (r == []) = false := by simpa using r0
      have t1 : (r == [63]) = false := by simpa [hole] using r1
      have d1 : (L == 0) = false := by simp; omega
      have HZ := Lib.hid z1
      clear z1 z2 z3 z4 z5 r0 r1 hs hq hs1 hq1
      have body : Hid (∀ z : Bool, ((sn : Int) == 0) = z → ∀ z' : Bool, ((qn : Int) == 0) = z' → Calls Tryz.prog 162 #[.agg #[str r, .int .u8 o, str nm, .slice a n c, .slice b m d, .int .i64 L, .slice s sn sc, .slice q qn qc]] w fun e w' => e = .returned (.bool false) ∧ Below w.heap.size w w') := by
        intro z hz z' hz'
        cases z <;> cases z'
        all_goals
          go_enter Tryz.func162, Tryz.ntmps162
          go_wp2_with (go_at_call 238; refine (isName_c r HZ.out _).mono ?_; rintro e w1 ⟨rfl, hb1⟩; obtain ⟨hc1, hf1⟩ := bcell hb1; have B1 := Lib.hid (below1 hb1); clear hb1)
          go_ret
          exact ⟨rfl, B1.out⟩
      exact body.out _ rfl _ rfl
theorem kcw {w w' : World} {g : Nat} {o : Obj} (b : Below w.heap.size w w') (h : w.heap[g]? = some o) : w'.heap[g]? = some o := (b.block g (Array.getElem?_eq_some_iff.1 h).1).trans h
theorem row53' {w : World} {b : Nat} {x0 x1 x2 x3 x4 x5 x6 x7 : Value} (h : w.heap[b]? = some (.cells #[x0, x1, x2, x3, x4, x5, x6, x7] 53 (0, 0))) :
    w.cell? ⟨b, 0, none⟩ = some x0 ∧ w.cell? ⟨b, 1, none⟩ = some x1 ∧ w.cell? ⟨b, 2, none⟩ = some x2 ∧ w.cell? ⟨b, 3, none⟩ = some x3 ∧ w.cell? ⟨b, 4, none⟩ = some x4 ∧ w.cell? ⟨b, 5, none⟩ = some x5 ∧ w.cell? ⟨b, 6, none⟩ = some x6 ∧ w.cell? ⟨b, 7, none⟩ = some x7 :=
  ⟨(box_cell h 0).trans rfl, (box_cell h 1).trans rfl, (box_cell h 2).trans rfl, (box_cell h 3).trans rfl, (box_cell h 4).trans rfl, (box_cell h 5).trans rfl, (box_cell h 6).trans rfl, (box_cell h 7).trans rfl⟩
/-- describe.describable at a step whose formula is not right. -/
theorem desc_bad (F : Fm) (r : Bs) (lb : Int) (a b s q : Option Addr) (n c m d sn sc qn qc g : Nat) (w0 w : World) (hw : Below w0.heap.size w0 w) (hg : w0.heap.size ≤ g) (hl : LeftAt w g 300)
    (hR : ∀ w', Below w0.heap.size w0 w' → Calls Tryz.prog 85 #[.agg #[.int .u8 F.op, str F.name, .slice a n c, .slice b m d]] w' fun e w'' => e = .returned (.bool false) ∧ Below w'.heap.size w' w'') :
    Calls Tryz.prog 87 #[.agg #[str r, .int .u8 F.op, str F.name, .slice a n c, .slice b m d, .int .i64 lb, .slice s sn sc, .slice q qn qc], .int .i64 0, .pointer (some ⟨g, 0, none⟩)] w fun e w' => e = .returned (.bool false) ∧ Below w0.heap.size w0 w' := by
  have hgl := hl.lt
  obtain ⟨l0, l1⟩ := hl
  have HW := Lib.hid hw
  have HR := Lib.hid hR
  have WB : Hid (∀ o v, Below w0.heap.size w0 ((w.setCell ⟨g, 0, none⟩ v).alloc o)) := fun o v => (HW.out.setCell hg _).alloc (by have := HW.out.size; simpa using this) _
  clear hw hR
  go_enter Tryz.func87, Tryz.ntmps87
  go_wp2_with (go_at_call 85; refine (HR.out _ (WB.out _ _)).mono ?_; rintro e w1 ⟨rfl, b1⟩)
  go_ret
  exact ⟨rfl, belowThen (WB.out _ _) b1⟩
/-- .. and at a step that has no shape. -/
theorem desc_odd (F : Fm) (r : Bs) (lb : Int) (a b s q : Option Addr) (n c m d sn sc qn qc g : Nat) (w0 w : World) (hw : Below w0.heap.size w0 w) (hg : w0.heap.size ≤ g) (hl : LeftAt w g 300)
    (hR : ∀ w', Below w0.heap.size w0 w' → Calls Tryz.prog 85 #[.agg #[.int .u8 F.op, str F.name, .slice a n c, .slice b m d]] w' fun e w'' => e = .returned (.bool true) ∧ Below w'.heap.size w' w'')
    (hS : ∀ w', Calls Tryz.prog 162 #[.agg #[str r, .int .u8 F.op, str F.name, .slice a n c, .slice b m d, .int .i64 lb, .slice s sn sc, .slice q qn qc]] w' fun e w'' => e = .returned (.bool false) ∧ Below w'.heap.size w' w'') :
    Calls Tryz.prog 87 #[.agg #[str r, .int .u8 F.op, str F.name, .slice a n c, .slice b m d, .int .i64 lb, .slice s sn sc, .slice q qn qc], .int .i64 0, .pointer (some ⟨g, 0, none⟩)] w fun e w' => e = .returned (.bool false) ∧ Below w0.heap.size w0 w' := by
  have hgl := hl.lt
  obtain ⟨l0, l1⟩ := hl
  have HW := Lib.hid hw
  have HR := Lib.hid hR
  have HS := Lib.hid hS
  have WB : Hid (∀ o v, Below w0.heap.size w0 ((w.setCell ⟨g, 0, none⟩ v).alloc o)) := fun o v => (HW.out.setCell hg _).alloc (by have := HW.out.size; simpa using this) _
  have WC : Hid (∀ v, ((w.setCell ⟨g, 0, none⟩ v).alloc (.cells #[str r, .int .u8 F.op, str F.name, .slice a n c, .slice b m d, .int .i64 lb, .slice s sn sc, .slice q qn qc] 53)).heap[w.heap.size]? = some (.cells #[str r, .int .u8 F.op, str F.name, .slice a n c, .slice b m d, .int .i64 lb, .slice s sn sc, .slice q qn qc] 53 (0, 0))) := fun v => by
    have h := heap_alloc_new (w.setCell ⟨g, 0, none⟩ v) (.cells #[str r, .int .u8 F.op, str F.name, .slice a n c, .slice b m d, .int .i64 lb, .slice s sn sc, .slice q qn qc] 53)
    rwa [World.size_setCell] at h
  clear hw hR hS
  go_enter Tryz.func87, Tryz.ntmps87
  go_wp2_with (first
    | (go_at_call 85; refine (HR.out _ (WB.out _ _)).mono ?_; rintro e w1 ⟨rfl, b1⟩; obtain ⟨x0, x1, x2, x3, x4, x5, x6, x7⟩ := row53' (kcw b1 (WC.out _)))
    | (go_at_call 162; refine (HS.out _).mono ?_; rintro e w2 ⟨rfl, b2⟩))
  go_ret
  exact ⟨rfl, belowThen (belowThen (WB.out _ _) b1) b2⟩
/-- describe.Proof where describable says no. -/
theorem Proof_no (a0 a1 a2 a3 a4 a5 a6 a7 : Value) (w : World) (h : ∀ w' g, Below w.heap.size w w' → w.heap.size ≤ g → LeftAt w' g 300 → Calls Tryz.prog 87 #[.agg #[a0, a1, a2, a3, a4, a5, a6, a7], .int .i64 0, .pointer (some ⟨g, 0, none⟩)] w' fun e w'' => e = .returned (.bool false) ∧ Below w.heap.size w w'') :
    Calls Tryz.prog 24 #[.agg #[a0, a1, a2, a3, a4, a5, a6, a7]] w fun e w' => e = .returned (.tuple #[.slice none 0 0, .int .i64 2]) ∧ Below w.heap.size w w' := by
  have H := Lib.hid h
  clear h
  have WB : Hid (Below w.heap.size w ((w.alloc (.cells #[a0, a1, a2, a3, a4, a5, a6, a7] 53)).alloc (.cells #[.int .i64 300] 3))) := ((Below.refl _ _).alloc (Nat.le_refl _) _).alloc (by simp) _
  have LF : Hid (LeftAt ((w.alloc (.cells #[a0, a1, a2, a3, a4, a5, a6, a7] 53)).alloc (.cells #[.int .i64 300] 3)) (w.heap.size + 1) 300) := ⟨by simp [go_sem], by simp [go_sem]⟩
  go_enter Tryz.func24, Tryz.ntmps24
  go_wp2_with (go_at_call 87; refine (H.out _ _ WB.out (by omega) LF.out).mono ?_; rintro e w1 ⟨rfl, b1⟩)
  exact bodyPost_ret (v := .tuple #[.slice none 0 0, .int .i64 2]) (by simp [results, Tryz.results24, go_sem]) rfl ⟨rfl, b1⟩
set_option maxRecDepth 4000 in
theorem Claim_bad (G : List Fm) (hG : ∀ g ∈ G, g.right = true) (f : Fm) (hf : f.ok = true) (hfn : f.nodes ≤ 398) (hfd : f.depth ≤ 39) (hlen : G.length ≤ 900) (x : Value) (w : World) (hr : RowsAt w) (hr15 : Row15At w) (hx : SqVal w G [badFm f] x) :
    Calls Tryz.prog 22 #[x] w fun e w' => e = .returned (.tuple #[str [], .int .i64 2]) ∧ Below w.heap.size w w' := by
  obtain ⟨a, k, c, a', m, d, rfl, h1, h2⟩ := hx
  have hk := h1.len
  have hm := h2.len
  have hkl : k ≤ 1000 := by omega
  obtain rfl : m = 1 := by simpa using hm.1
  have L1 := Lib.hid hk.1
  have HX := Lib.hid h1
  have HY := Lib.hid h2
  have HR := Lib.hid hr
  have HG := Lib.hid hG
  have HF := Lib.hid (And.intro hf (And.intro hfn hfd))
  have HR15 := Lib.hid hr15
  have HL := Lib.hid hlen
  clear hk hm h1 h2 hr hr15 hG hf hfn hfd hlen
  obtain ⟨i0, hi0, hz0, hs0, hb0⟩ := info_parts info9
  go_enter Tryz.func22, Tryz.ntmps22
  go_wp2_with fail
  have WB : Hid (Below w.heap.size w (w.alloc (.cells #[.slice a k c, .slice a' 1 d] 48))) := (Below.refl _ _).alloc (Nat.le_refl _) _
  have WK := Lib.hid (keeps1 w (.cells #[.slice a k c, .slice a' 1 d] 48))
  have E1 : Hid ((w.alloc (.cells #[.slice a k c, .slice a' 1 d] 48)).cell? ⟨w.heap.size, 1, none⟩ = some (.slice a' 1 d)) := by show _ = _; simp [go_sem]
  generalize hW : w.alloc (.cells #[.slice a k c, .slice a' 1 d] 48) = W0 at *
  have HX := Lib.hid (HX.out.keep WK.out)
  have HY := Lib.hid (HY.out.keep WK.out)
  have HR := Lib.hid (HR.out.keep WK.out)
  have HR15 := Lib.hid (HR15.out.keep WK.out)
  clear hW
  go_loopw [4, 12] (fun u i wr => ∃ j : Nat, j ≤ k ∧ i = .int .i64 j ∧ Hid (OwnStrs W0.heap.size wr ((G.take j).map (fun g => wGiven ++ g.text)) u ∧ Below W0.heap.size W0 wr)) (fun _ i _ => k - (intOf i).toNat)
  case atStart => exact ⟨0, Nat.zero_le _, rfl, World.ownsRow_nil _ _ _ _, Below.refl _ _⟩
  case round =>
    obtain ⟨j, hj, rfl, hr⟩ := hrel
    by_cases hlt : j < k
    · obtain ⟨T, hT⟩ := get_of_lt (l := G) (j := j) (by rw [← L1.out]; exact hlt)
      obtain ⟨b, off, rfl, hc⟩ := HX.out.get (ne_of_get hT)
      obtain ⟨x0, x1, x2, y0, y1, y2, hx⟩ := hc j _ hT
      have hK := keeps_of_below hr.out.2
      have c0 := hK _ _ hx.c0; have c1 := hK _ _ hx.c1; have c2 := hK _ _ hx.c2; have c3 := hK _ _ hx.c3
      have X := Lib.hid (hx.at_.keep hK)
      have Y := Lib.hid (hx.at'.keep hK)
      have RT := Lib.hid (HG.out T (List.mem_of_getElem? hT))
      have RW := Lib.hid (HR.out.keep hK)
      have OWN := Lib.hid hr.out.1
      have BLW := Lib.hid hr.out.2
      have hT := Lib.hid hT
      clear hc hx hK hr
      go_wp2_with fail
      refine (Right_yes T (.agg #[.int .u8 T.op, str T.name, .slice x0 x1 x2, .slice y0 y1 y2]) _ (RW.out.keep (keeps1 _ _)) ⟨_, _, _, _, _, _, rfl, X.out.keep (keeps1 _ _), Y.out.keep (keeps1 _ _)⟩ RT.out).mono ?_
      rintro e w1 ⟨rfl, b1⟩
      obtain ⟨hc1, hf1⟩ := bcell b1
      have B1 := Lib.hid b1
      have K1 : Hid (Keeps wr w1) := keeps_of_below (below1 b1)
      go_wp2_with fail
      refine (text_c T (ok_of_right RT.out) (len_of_right RT.out) _ _ _ _ _ _ _ (X.out.keep K1.out) (Y.out.keep K1.out)).mono ?_
      rintro e w2 ⟨rfl, b2⟩
      have B2 := Lib.hid (belowThen (below1 B1.out) b2)
      have TL := Lib.hid (right_len RT.out).2
      have tl : T.text.length ≤ 1000000 := by have := TL.out; omega
      have OWN2 := Lib.hid (OwnStrs.below OWN.out B2.out)
      have BL2 := Lib.hid (BLW.out.trans (B2.out.mono BLW.out.size))
      have M1 := Lib.hid (map_snoc (fun g : Fm => wGiven ++ g.text) hT.out)
      have LE : Hid (((G.take j).map (fun g : Fm => wGiven ++ g.text)).length ≤ 1000) := by show _ ≤ _; simp only [List.length_append, List.length_map, List.length_take]; have := L1.out; have := HL.out; omega
      have E2 : Hid ((G.take (j + 1)).map (fun g : Fm => wGiven ++ g.text) = ((G.take j).map (fun g : Fm => wGiven ++ g.text)) ++ [wGiven ++ T.text]) := by show _ = _; rw [M1.out]
      generalize (G.take j).map (fun g : Fm => wGiven ++ g.text) = M at *
      have C3 : Hid (M.length + 1 ≤ maxLen ∧ (M.length + 1) * 16 ≤ 140737488355328) := by
        have h1 := LE.out
        exact ⟨by unfold maxLen; omega, by omega⟩
      have C6 : Hid (W0.heap.size ≤ (w2.alloc (.cells #[.string (⟨#[103, 105, 118, 101, 110, 32]⟩ ++ ⟨T.text.toArray⟩)] 9)).heap.size) := by
        have := BL2.out.size; show _ ≤ _; simp; omega
      go_wp2_with (at_builtin; refine wpList_append_own _ rfl _ _ 36 rfl W0.heap.size 9 i0 (.string ⟨#[]⟩) 1 16 Tryz.underlying36 hi0 hz0 hs0 hb0 rfl (by decide) _ _ _ rfl (OWN2.out.alloc _) ⟨w2.heap.size, 0, none⟩ 1 1 [.string (⟨#[103, 105, 118, 101, 110, 32]⟩ ++ ⟨T.text.toArray⟩)] rfl rfl (cell_one_new _ _ _) (by intro u hu; simp at hu; subst hu; rfl) C3.out.1 C3.out.2 C6.out ?_)
      intro v' w3 hown2 hg2 _
      have R : Hid (OwnStrs W0.heap.size w3 ((G.take (j + 1)).map (fun g : Fm => wGiven ++ g.text)) v' ∧ Below W0.heap.size W0 w3) := by
        refine ⟨?_, (BL2.out.alloc BL2.out.size _).grown hg2 C6.out (fun kk hkk => (OWN2.out.lt kk hkk).1)⟩
        rw [E2.out]
        unfold OwnStrs
        rw [List.length_append, List.map_append]
        rw [str_app] at hown2
        exact hown2
      clear hown2 hg2
      go_wp2_with fail
      go_roundw
      case rel => exact ⟨j + 1, by omega, by go_num, R⟩
      case measure => simp [intOf]; omega
    · have e : G.take j = G := List.take_of_length_le (by rw [← L1.out]; omega)
      have HO : Hid (OwnStrs W0.heap.size wr (G.map (fun g => wGiven ++ g.text)) u4) := by have := hr.out.1; rw [e] at this; exact this
      have HB := Lib.hid hr.out.2
      have f1 := keeps_of_below hr.out.2 _ _ E1.out
      clear hr e
      go_wp2_with fail
      go_loopw [29] (fun i wr => i = .int .i64 0 ∧ Hid (Below W0.heap.size W0 wr)) (fun i _ => 1 - (intOf i).toNat)
      case atStart => exact ⟨rfl, HB.out⟩
      case round =>
        obtain ⟨rfl, hr⟩ := hrel
        obtain ⟨b, off, rfl, hc⟩ := HY.out.get (by simp)
        obtain ⟨x0, x1, x2, y0, y1, y2, hx⟩ := hc 0 _ rfl
        have hK := keeps_of_below hr.out
        have c0 := hK _ _ hx.c0; have c1 := hK _ _ hx.c1; have c2 := hK _ _ hx.c2; have c3 := hK _ _ hx.c3
        simp only [Nat.zero_mul, Nat.add_zero] at c0 c1 c2 c3
        have X := Lib.hid (hx.at_.keep hK)
        have Y := Lib.hid (hx.at'.keep hK)
        have RW := Lib.hid (HR.out.keep hK)
        have RW15 := Lib.hid (HR15.out.keep hK)
        have BLW := Lib.hid hr.out
        clear hc hx hK hr
        have RB : Hid (∀ o, Calls Tryz.prog 85 #[.agg #[.int .u8 (badFm f).op, str (badFm f).name, .slice x0 x1 x2, .slice y0 y1 y2]] (wr.alloc o) fun e w' => e = .returned (.bool false) ∧ Below (wr.alloc o).heap.size (wr.alloc o) w') := fun o =>
          Right_bad f HF.out.1 HF.out.2.1 HF.out.2.2 _ _ (RW.out.keep (keeps1 _ _)) (RW15.out.keep (keeps1 _ _)) ⟨_, _, _, _, _, _, rfl, X.out.keep (keeps1 _ _), Y.out.keep (keeps1 _ _)⟩
        go_wp2_with (go_at_call 85; refine (RB.out _).mono ?_; rintro e w1 ⟨rfl, b1⟩)
        exact bodyPost_ret (v := .tuple #[str [], .int .i64 2]) (by simp [results, Tryz.results22, go_sem]) rfl ⟨rfl, belowThen WB.out (belowThen BLW.out (below1 b1))⟩
end Go.Proofs.YtcandidgaegghaaGreatDoor
end
section
namespace Go.Proofs.YtcandidgaegghaaGreatDoor
open Go Go.RowKit Ly
set_option linter.unusedSimpArgs false
set_option linter.unusedVariables false
set_option maxHeartbeats 800000
theorem node_no (b : Nat) (left depth : Int) (w : World) (h : JudgeAt w b left) (h1 : 0 ≤ left) (h2 : left ≤ 400) (h4 : depth ≤ 50) (h0 : 0 ≤ depth) (h3 : ¬ (1 ≤ left ∧ depth ≤ 40)) :
    Calls Tryz.prog 233 #[.pointer (some ⟨b, 0, none⟩), .int .i64 depth] w fun e w' => e = .returned (.bool false) ∧ w' = w.setCell ⟨b, 1, none⟩ (.int .i64 (left - 1)) := by
  obtain ⟨c0, c1, c2, fz⟩ := h
  rcases (show left = 0 ∨ (1 ≤ left ∧ 40 < depth) by omega) with rfl | ⟨h5, h6⟩
  · clear h3
    go_enter Tryz.func233, Tryz.ntmps233
    go_wp2
    go_ret
    exact ⟨rfl, rfl⟩
  · have d1 : (0 : Int) ≤ left - 1 := by omega
    have d2 : ¬ depth ≤ 40 := by omega
    clear h3
    go_enter Tryz.func233, Tryz.ntmps233
    go_wp2
    go_ret
    exact ⟨rfl, rfl⟩
/-- What the judge's calls leave where they say no. -/
def Denied (w0 : World) (b : Nat) (w : World) (e : Ending) (w' : World) : Prop := e = .returned (.bool false) ∧ Below w0.heap.size w0 w' ∧ But b w w'
def TmGood (t : Tm) (left depth : Int) : Prop := t.ok = true ∧ (t.nodes : Int) ≤ left ∧ depth + t.depth ≤ 41
def TmsGood (l : List Tm) (left depth : Int) : Prop := tmsOk l = true ∧ (tmsNodes l : Int) ≤ left ∧ depth + tmsDepth l ≤ 41
def TmN (t : Tm) : Prop := ∀ (w0 w : World) (b : Nat) (left depth : Int) (x : Value), TmVal w0 t x → Below w0.heap.size w0 w → w0.heap.size ≤ b → JudgeAt w b left → t.sz → ¬ TmGood t left depth →
  0 ≤ left → left ≤ 400 → 1 ≤ depth → depth ≤ 41 → Calls Tryz.prog 284 #[.pointer (some ⟨b, 0, none⟩), x, .int .i64 depth] w (Denied w0 b w)
def TmsN (l : List Tm) : Prop := ∀ (w0 w : World) (b : Nat) (left depth : Int) (a : Option Addr) (k c : Nat), TmsAt w0 l (.slice a k c) → Below w0.heap.size w0 w → w0.heap.size ≤ b → JudgeAt w b left → tmsSz l → ¬ TmsGood l left depth →
  0 ≤ left → left ≤ 400 → 1 ≤ depth → depth ≤ 41 → Calls Tryz.prog 236 #[.pointer (some ⟨b, 0, none⟩), .slice a k c, .int .i64 depth] w (Denied w0 b w)
theorem term_stepN (v : Bool) (n : Bs) (ts : List Tm) (ih : TmsN ts) : TmN (.mk v n ts) := by
  intro w0 w b left depth x hx hw hb hj hsz hno hl0 hl hd1 hd2
  obtain ⟨a, k, c, rfl, hx⟩ := hx
  simp only [Tm.v, Tm.name, Tm.args] at *
  have hk := hx.len
  have hbl : b < w.heap.size := hj.lt
  have hnl : n.length ≤ 9223372036854775807 := le63 hsz.1
  have hlen := Lib.hid hnl
  have hkl63 : k ≤ 9223372036854775807 := by have := le63 hk.2.2; omega
  have HJ := Lib.hid hj
  have HW := Lib.hid hw
  have D1 : ∀ o, Hid (Below w0.heap.size w0 ((w.setCell ⟨b, 1, none⟩ (.int .i64 (left - 1))).alloc o) ∧ But b w ((w.setCell ⟨b, 1, none⟩ (.int .i64 (left - 1))).alloc o)) := fun o => by
    have q : But b w ((w.setCell ⟨b, 1, none⟩ (.int .i64 (left - 1))).alloc o) := (But.set b w 1 none _).trans (But.of_below ((Below.refl _ _).alloc (Nat.le_refl _) _))
    exact ⟨q.below HW.out hb, q⟩
  by_cases hnode : 1 ≤ left ∧ depth ≤ 40
  case neg =>
    have HN := Lib.hid hnode
    clear hx hk hj hw hsz hno hnl hnode ih
    go_enter Tryz.func284, Tryz.ntmps284
    go_wp2_with (go_at_call 233; refine (node_no b left depth _ (HJ.out.below (by exact (Below.refl _ _).alloc (Nat.le_refl _) _)) hl0 hl (by omega) (by omega) HN.out).mono ?_; rintro e w1 ⟨rfl, rfl⟩)
    go_ret
    exact ⟨rfl, (D1 _).out.1, (D1 _).out.2⟩
  case pos =>
  obtain ⟨hn', hd⟩ := hnode
  cases v with
  | true =>
    by_cases hk0 : k = 0
    · subst hk0
      have hts : ts = [] := List.eq_nil_of_length_eq_zero (by omega)
      subst hts
      have hv : varName n = false := by
        cases h : varName n with
        | false => rfl
        | true =>
          exfalso
          apply hno
          refine ⟨by simp [Tm.ok, h], ?_, ?_⟩
          · simp only [Tm.nodes, tmsNodes]; omega
          · simp only [Tm.depth, tmsDepth]; omega
      have HV := Lib.hid hv
      clear hx hk hj hw hsz hno hnl ih hv
      go_enter Tryz.func284, Tryz.ntmps284
      go_wp2_with (first
        | (go_at_call 233; refine (node_yes b left depth _ (HJ.out.below (by exact (Below.refl _ _).alloc (Nat.le_refl _) _)) hn' hl hd).mono ?_; rintro e w1 ⟨rfl, rfl⟩)
        | (go_at_call 266; refine (Variable_c n _ hlen.out).mono ?_; rintro e w2 ⟨he, hb2⟩; rw [show varName n = false from HV.out] at he; subst he; have q := Lib.hid (judged_of (left - 1) HW.out hb HJ.out hb2); have c0 := q.out.2.1.c0))
      go_ret
      exact ⟨rfl, q.out.1, q.out.2.2⟩
    · have hk1 : ((k : Int) == 0) = false := by simp; omega
      clear hx hk hj hw hsz hno hnl ih
      go_enter Tryz.func284, Tryz.ntmps284
      go_wp2_with (go_at_call 233; refine (node_yes b left depth _ (HJ.out.below (by exact (Below.refl _ _).alloc (Nat.le_refl _) _)) hn' hl hd).mono ?_; rintro e w1 ⟨rfl, rfl⟩)
      go_ret
      exact ⟨rfl, (D1 _).out.1, (D1 _).out.2⟩
  | false =>
    by_cases hk4 : k ≤ 4
    · cases hf : funName n with
      | false =>
        have HV := Lib.hid hf
        clear hx hk hj hw hsz hno hnl ih hf
        go_enter Tryz.func284, Tryz.ntmps284
        go_wp2_with (first
          | (go_at_call 233; refine (node_yes b left depth _ (HJ.out.below (by exact (Below.refl _ _).alloc (Nat.le_refl _) _)) hn' hl hd).mono ?_; rintro e w1 ⟨rfl, rfl⟩)
          | (go_at_call 307; refine (Function_c n _ hlen.out).mono ?_; rintro e w2 ⟨he, hb2⟩; rw [show funName n = false from HV.out] at he; subst he; obtain ⟨hc2, hf2⟩ := bcell hb2; have q := Lib.hid (judged_of (left - 1) HW.out hb HJ.out hb2)))
        go_ret
        exact ⟨rfl, q.out.1, q.out.2.2⟩
      | true =>
        have HV := Lib.hid hf
        have HX := Lib.hid hx
        have HI := Lib.hid ih
        have HS := Lib.hid hsz.2
        have NO : Hid (¬ TmsGood ts (left - 1) (depth + 1)) := fun h => hno ⟨by simp only [Tm.ok, hf, Bool.true_and]; simp [h.1]; omega, by have := h.2.1; simp only [Tm.nodes]; omega, by have := h.2.2; simp only [Tm.depth]; omega⟩
        clear hx hk hj hw hsz hno hnl ih hf
        go_enter Tryz.func284, Tryz.ntmps284
        go_wp2_with (first
          | (go_at_call 233; refine (node_yes b left depth _ (HJ.out.below (by exact (Below.refl _ _).alloc (Nat.le_refl _) _)) hn' hl hd).mono ?_; rintro e w1 ⟨rfl, rfl⟩)
          | (go_at_call 307; refine (Function_c n _ hlen.out).mono ?_; rintro e w2 ⟨he, hb2⟩; rw [show funName n = true from HV.out] at he; subst he; obtain ⟨hc2, hf2⟩ := bcell hb2; have q := Lib.hid (judged_of (left - 1) HW.out hb HJ.out hb2))
          | (go_at_call 236; refine (HI.out w0 _ b (left - 1) (depth + 1) a k c HX.out q.out.1 hb q.out.2.1 HS.out NO.out (by omega) (by omega) (by omega) (by omega)).mono ?_; rintro e w3 ⟨rfl, r1, r2⟩))
        go_ret
        exact ⟨rfl, r1, q.out.2.2.trans r2⟩
    · have hk1 : ¬ (k : Int) ≤ 4 := by omega
      clear hx hk hj hw hsz hno hnl ih
      go_enter Tryz.func284, Tryz.ntmps284
      go_wp2_with (go_at_call 233; refine (node_yes b left depth _ (HJ.out.below (by exact (Below.refl _ _).alloc (Nat.le_refl _) _)) hn' hl hd).mono ?_; rintro e w1 ⟨rfl, rfl⟩)
      go_ret
      exact ⟨rfl, (D1 _).out.1, (D1 _).out.2⟩
theorem tmsSz_mem {l : List Tm} (h : tmsSz l) : ∀ t ∈ l, t.sz := (tmsSz_iff l).1 h
theorem fmsSz_mem {l : List Fm} (h : fmsSz l) : ∀ t ∈ l, t.sz := (fmsSz_iff l).1 h
theorem terms_stepN (l : List Tm) (hh : ∀ t ∈ l, TmN t) : TmsN l := by
  intro w0 w b left depth a k c hx hw hb hj hsz hno hl0 hl hd1 hd2
  have hk := hx.len
  have hlen : k ≤ 9223372036854775807 := by have := le63 hk.2.2; omega
  have L1 := Lib.hid hk.1
  have H := Lib.hid hh
  have HX := Lib.hid hx
  have HW := Lib.hid hw
  have HJ := Lib.hid hj
  have HS := Lib.hid hsz
  have HNO := Lib.hid hno
  clear hk hh hx hw hj hsz hno
  go_enter Tryz.func236, Tryz.ntmps236
  go_wp2_with fail
  go_loopw [11] (fun i wr => ∃ (j : Nat) (lf : Int), j ≤ k ∧ i = .int .i64 j ∧ 0 ≤ lf ∧ lf ≤ 400 ∧ Hid (Below w0.heap.size w0 wr ∧ JudgeAt wr b lf ∧ But b w wr ∧ ¬ TmsGood (l.drop j) lf depth)) (fun i _ => k - (intOf i).toNat)
  case atStart => exact ⟨0, left, Nat.zero_le _, rfl, hl0, hl, HW.out, HJ.out, But.refl _ _, by simpa using HNO.out⟩
  case round =>
    obtain ⟨j, lf, hj, rfl, hf0, hf1, hs⟩ := hrel
    by_cases hlt : j < k
    · obtain ⟨T, hT⟩ := get_of_lt (l := l) (j := j) (by rw [← L1.out]; exact hlt)
      obtain ⟨bb, off, rfl, hc⟩ := HX.out.get (ne_of_get hT)
      obtain ⟨x0, x1, x2, hx⟩ := hc j _ hT
      have hK := keeps_of_below hs.out.1
      have c0 := hK _ _ hx.c0; have c1 := hK _ _ hx.c1; have c2 := hK _ _ hx.c2
      have X : Hid (TmVal w0 T (.agg #[.bool T.v, str T.name, .slice x0 x1 x2])) := ⟨_, _, _, rfl, hx.at_⟩
      have HM := Lib.hid (List.mem_of_getElem? hT)
      have DR : Hid (l.drop j = T :: l.drop (j + 1)) := by
        show _ = _
        obtain ⟨h1, h2⟩ := List.getElem?_eq_some_iff.1 hT
        rw [List.drop_eq_getElem_cons h1, h2]
      have hal : Hid (∀ o, Below w0.heap.size w0 (wr.alloc o) ∧ JudgeAt (wr.alloc o) b lf ∧ But b w (wr.alloc o)) := fun o => by
        have hb1 : Below wr.heap.size wr (wr.alloc o) := (Below.refl _ _).alloc (Nat.le_refl _) _
        exact ⟨hs.out.1.trans (hb1.mono hs.out.1.size), hs.out.2.1.below hb1, hs.out.2.2.1.trans (But.of_below hb1)⟩
      by_cases hg : TmGood T lf depth
      · have HG := Lib.hid hg
        clear hc hx hT hK hg
        go_wp2_with (go_at_call 284; refine (term_yes T w0 _ b lf depth _ X.out (hal.out _).1 hb (hal.out _).2.1 HG.out.1 HG.out.2.1 hf1 hd1 HG.out.2.2).mono ?_; rintro e w3 ⟨rfl, r1, r2, r3⟩)
        go_roundw
        case rel =>
          refine ⟨j + 1, lf - T.nodes, by omega, by go_num, by have := HG.out.2.1; omega, by omega, r1, r2, (hal.out _).2.2.trans r3, fun h => hs.out.2.2.2 ?_⟩
          rw [DR.out]
          refine ⟨by simp only [tmsOk, HG.out.1, h.1, Bool.and_self], by have := h.2.1; simp only [tmsNodes]; omega, ?_⟩
          have h1 := h.2.2
          have h2 := HG.out.2.2
          simp only [tmsDepth]
          omega
        case measure => simp [intOf]; omega
      · have HG := Lib.hid hg
        clear hc hx hT hK hg
        go_wp2_with (go_at_call 284; refine (H.out T HM.out w0 _ b lf depth _ X.out (hal.out _).1 hb (hal.out _).2.1 (tmsSz_mem HS.out T HM.out) HG.out hf0 hf1 hd1 hd2).mono ?_; rintro e w3 ⟨rfl, r1, r2⟩)
        go_ret
        exact ⟨rfl, r1, (hal.out _).2.2.trans r2⟩
    · exfalso
      have e : l.drop j = [] := List.drop_of_length_le (by rw [← L1.out]; omega)
      apply hs.out.2.2.2
      rw [e]
      exact ⟨rfl, by simp only [tmsNodes]; omega, by simp only [tmsDepth]; omega⟩
mutual
theorem term_no : ∀ t : Tm, TmN t
  | .mk v n ts => term_stepN v n ts (terms_stepN ts (term_allN ts))
theorem term_allN : ∀ l : List Tm, ∀ t ∈ l, TmN t
  | [], _, h => by cases h
  | x :: xs, t, h => by
    rcases List.mem_cons.1 h with e | e
    · rw [e]; exact term_no x
    · exact term_allN xs t e
end
theorem terms_no (l : List Tm) : TmsN l := terms_stepN l (term_allN l)
theorem named_no (k : Int) (s : Bs) (w : World) (hk : k = 0 ∨ k = 1 ∨ k = 2) (hs : s.length ≤ 9223372036854775807) (h : ¬ nameFits k s) : Calls Tryz.prog 234 #[.int .u8 k, str s] w fun e w' => e = .returned (.bool false) ∧ Below w.heap.size w w' := by
  have hlen := Lib.hid hs
  clear hs
  rcases hk with rfl | rfl | rfl
  · have hne : s ≠ [] := fun e => h (.inr (.inr ⟨rfl, e⟩))
    have NE := Lib.hid hne
    clear hne
    clear h
    go_enter Tryz.func234, Tryz.ntmps234
    go_wp2_with fail
    go_ret
    cases s with
    | nil => exact absurd rfl NE.out
    | cons c r => exact ⟨rfl, Below.refl _ _⟩
  · have HV : Hid (predName s = false) := by
      show _ = _
      cases h1 : predName s with
      | false => rfl
      | true => exact absurd (.inl ⟨rfl, h1⟩) h
    clear h
    go_enter Tryz.func234, Tryz.ntmps234
    go_wp2_with (go_at_call 198; refine (Predicate_c s _ hlen.out).mono ?_; rintro e w2 ⟨he, hb2⟩; rw [show predName s = false from HV.out] at he; subst he)
    go_ret
    exact ⟨rfl, hb2⟩
  · have HV : Hid (varName s = false) := by
      show _ = _
      cases h1 : varName s with
      | false => rfl
      | true => exact absurd (.inr (.inl ⟨rfl, h1⟩)) h
    clear h
    go_enter Tryz.func234, Tryz.ntmps234
    go_wp2_with (go_at_call 266; refine (Variable_c s _ hlen.out).mono ?_; rintro e w2 ⟨he, hb2⟩; rw [show varName s = false from HV.out] at he; subst he)
    go_ret
    exact ⟨rfl, hb2⟩
/-- The rows of what is no operator of a formula that is right: 0, 15, 16. -/
def RowsNo (w : World) : Prop := ∀ op : Int, op = 0 ∨ op = 15 ∨ op = 16 → ∃ (s : Bool) (x y z : Int), w.cell? ⟨0, op.toNat * 5, none⟩ = some (.bool false) ∧ w.cell? ⟨0, op.toNat * 5 + 1, none⟩ = some (.bool s) ∧ w.cell? ⟨0, op.toNat * 5 + 2, none⟩ = some (.int .u8 x) ∧
  w.cell? ⟨0, op.toNat * 5 + 3, none⟩ = some (.int .i64 y) ∧ w.cell? ⟨0, op.toNat * 5 + 4, none⟩ = some (.int .i64 z)
theorem RowsNo.keep {w w' : World} (h : RowsNo w) (k : Keeps w w') : RowsNo w' := fun op ho => by
  obtain ⟨s, x, y, z, a, b, c, d, e⟩ := h op ho
  exact ⟨s, x, y, z, k _ _ a, k _ _ b, k _ _ c, k _ _ d, k _ _ e⟩
theorem ok_of {op : Int} {n : Bs} {ts : List Tm} {fs : List Fm} (h1 : nameFits (sortOf op) n) (h2 : (ts.length : Int) ≤ argsOf op) (h3 : fs.length = arity op) (o1 : 1 ≤ op) (o2 : op ≤ 14) (h4 : tmsOk ts = true) (h5 : fmsOk fs = true) : (Fm.mk op n ts fs).ok = true := by
  simp only [Fm.ok, Bool.and_eq_true, decide_eq_true_eq]
  refine ⟨⟨⟨⟨h3, by rw [h3]; rcases (show op = 1 ∨ op = 2 ∨ op = 3 ∨ op = 4 ∨ op = 5 ∨ op = 6 ∨ op = 7 ∨ op = 8 ∨ op = 9 ∨ op = 10 ∨ op = 11 ∨ op = 12 ∨ op = 13 ∨ op = 14 by omega) with rfl | rfl | rfl | rfl | rfl | rfl | rfl | rfl | rfl | rfl | rfl | rfl | rfl | rfl <;> decide⟩, ?_⟩, h4⟩, h5⟩
  unfold nameFits sortOf at h1
  unfold argsOf at h2
  by_cases e1 : op = 1
  · subst e1
    simp at h1 h2 ⊢
    exact ⟨h1, by omega⟩
  · rw [if_neg e1] at h1 h2 ⊢
    have : ts = [] := List.eq_nil_of_length_eq_zero (by omega)
    subst this
    by_cases e8 : op = 8 ∨ op = 9
    · rw [if_pos e8] at h1 ⊢
      simp at h1 ⊢
      exact h1
    · rw [if_neg e8] at h1 ⊢
      simp at h1 ⊢
      exact h1
def FmGood (f : Fm) (left depth : Int) : Prop := f.ok = true ∧ (f.nodes : Int) ≤ left ∧ depth + f.depth ≤ 41
def FmsGood (l : List Fm) (left depth : Int) : Prop := fmsOk l = true ∧ (fmsNodes l : Int) ≤ left ∧ depth + fmsDepth l ≤ 41
def FmN (f : Fm) : Prop := ∀ (w0 w : World) (b : Nat) (left depth : Int) (x : Value), RowsAt w0 → RowsNo w0 → FmVal w0 f x → Below w0.heap.size w0 w → w0.heap.size ≤ b → JudgeAt w b left → f.sz → ¬ FmGood f left depth →
  0 ≤ left → left ≤ 400 → 1 ≤ depth → depth ≤ 41 → Calls Tryz.prog 160 #[.pointer (some ⟨b, 0, none⟩), x, .int .i64 depth] w (Denied w0 b w)
set_option maxHeartbeats 1600000 in
theorem form_stepN (op : Int) (n : Bs) (ts : List Tm) (fs : List Fm) (hh : ∀ f ∈ fs, FmN f) : FmN (.mk op n ts fs) := by
  intro w0 w b left depth x hrows hrno hx hw hb hj hsz hno hl0 hl hd1 hd2
  obtain ⟨a, k, c, a', m, d, rfl, hx, hx2⟩ := hx
  simp only [Fm.op, Fm.name, Fm.args, Fm.sub] at *
  have hk := hx.len
  have hm := hx2.len
  have hlk : k ≤ 9223372036854775807 := by have := le63 hk.2.2; omega
  have hlm : m ≤ 9223372036854775807 := by have := le63 hm.2.2; omega
  have hbl : b < w.heap.size := hj.lt
  have hop := hsz.1
  have hlen : Hid (n.length ≤ 9223372036854775807) := le63 hsz.2.1
  have HJ := Lib.hid hj
  have HW := Lib.hid hw
  have HX := Lib.hid hx
  have HX2 := Lib.hid hx2
  have HR := Lib.hid hrows
  have HRN := Lib.hid hrno
  have H := Lib.hid hh
  have SZ := Lib.hid hsz
  have NO := Lib.hid hno
  have LK := Lib.hid hk.1
  have LM := Lib.hid hm.1
  clear hk hm hx hx2 hj hw hrows hrno hh hsz hno
  have D1 : Hid (∀ o, Below w0.heap.size w0 ((w.setCell ⟨b, 1, none⟩ (.int .i64 (left - 1))).alloc o) ∧ But b w ((w.setCell ⟨b, 1, none⟩ (.int .i64 (left - 1))).alloc o)) := fun o => by
    have q : But b w ((w.setCell ⟨b, 1, none⟩ (.int .i64 (left - 1))).alloc o) := (But.set b w 1 none _).trans (But.of_below ((Below.refl _ _).alloc (Nat.le_refl _) _))
    exact ⟨q.below HW.out hb, q⟩
  have D2 : Hid (∀ o o', Below w0.heap.size w0 (((w.setCell ⟨b, 1, none⟩ (.int .i64 (left - 1))).alloc o).alloc o') ∧ But b w (((w.setCell ⟨b, 1, none⟩ (.int .i64 (left - 1))).alloc o).alloc o')) := fun o o' => by
    have q : But b w (((w.setCell ⟨b, 1, none⟩ (.int .i64 (left - 1))).alloc o).alloc o') := (D1.out o).2.trans (But.of_below ((Below.refl _ _).alloc (Nat.le_refl _) _))
    exact ⟨q.below HW.out hb, q⟩
  by_cases hnode : 1 ≤ left ∧ depth ≤ 40
  case neg =>
    have HN := Lib.hid hnode
    clear hnode
    go_enter Tryz.func160, Tryz.ntmps160
    go_wp2_with (go_at_call 233; refine (node_no b left depth _ (HJ.out.below (by exact (Below.refl _ _).alloc (Nat.le_refl _) _)) hl0 hl (by omega) (by omega) HN.out).mono ?_; rintro e w1 ⟨rfl, rfl⟩)
    go_ret
    exact ⟨rfl, (D1.out _).1, (D1.out _).2⟩
  case pos =>
  obtain ⟨hn', hd⟩ := hnode
  by_cases h17 : 17 ≤ op
  · go_enter Tryz.func160, Tryz.ntmps160
    go_wp2_with (go_at_call 233; refine (node_yes b left depth _ (HJ.out.below (by exact (Below.refl _ _).alloc (Nat.le_refl _) _)) hn' hl hd).mono ?_; rintro e w1 ⟨rfl, rfl⟩)
    go_ret
    exact ⟨rfl, (D1.out _).1, (D1.out _).2⟩
  have h17' : op < 17 := by omega
  by_cases hin : 1 ≤ op ∧ op ≤ 14
  case neg =>
    obtain ⟨ss, xx, yy, zz, g0, g1, g2, g3, g4⟩ := HRN.out.keep (keeps_of_below (D1.out (.cells #[.int .u8 op, str n, .slice a k c, .slice a' m d] 25)).1) op (by omega)
    have c0 := HJ.out.c0
    clear hin h17
    go_enter Tryz.func160, Tryz.ntmps160
    go_wp2_with (go_at_call 233; refine (node_yes b left depth _ (HJ.out.below (by exact (Below.refl _ _).alloc (Nat.le_refl _) _)) hn' hl hd).mono ?_; rintro e w1 ⟨rfl, rfl⟩)
    go_ret
    exact ⟨rfl, (D2.out _ _).1, (D2.out _ _).2⟩
  case pos =>
  obtain ⟨o1, o2⟩ := hin
  obtain ⟨g0, g1, g2, g3, g4⟩ := HR.out.keep (keeps_of_below (D1.out (.cells #[.int .u8 op, str n, .slice a k c, .slice a' m d] 25)).1) op o1 o2
  clear h17
  have srt3 : Hid (sortOf op = 0 ∨ sortOf op = 1 ∨ sortOf op = 2) := by
    show _ ∨ _
    unfold sortOf
    repeat' split
    all_goals simp
  have OKF : Hid (nameFits (sortOf op) n → (k : Int) ≤ argsOf op → m = arity op → tmsOk ts = true → fmsOk fs = true → (Fm.mk op n ts fs).ok = true) := fun h1 h2 h3 h4 h5 => ok_of h1 (by rw [← LK.out]; exact h2) (by rw [← LM.out]; exact h3) o1 o2 h4 h5
  generalize sortOf op = srt at *
  generalize argsOf op = mx at *
  generalize arity op = ar at *
  by_cases hnm : nameFits srt n
  case neg =>
    have F1 := Lib.hid hnm
    clear hnm
    go_enter Tryz.func160, Tryz.ntmps160
    go_wp2_with (first
      | (go_at_call 233; refine (node_yes b left depth _ (HJ.out.below (by exact (Below.refl _ _).alloc (Nat.le_refl _) _)) hn' hl hd).mono ?_; rintro e w1 ⟨rfl, rfl⟩)
      | (go_at_call 234; refine (named_no _ n _ srt3.out hlen.out F1.out).mono ?_; rintro e w2 ⟨rfl, hb2⟩; obtain ⟨hc2, hf2⟩ := bcell hb2; have q := Lib.hid (judged_of2 (left - 1) HW.out hb HJ.out hb2); clear hf2))
    go_ret
    exact ⟨rfl, q.out.1, q.out.2.2⟩
  case pos =>
  have F1 := Lib.hid hnm
  clear hnm
  by_cases hka : (k : Int) ≤ mx
  case neg =>
    go_enter Tryz.func160, Tryz.ntmps160
    go_wp2_with (first
      | (go_at_call 233; refine (node_yes b left depth _ (HJ.out.below (by exact (Below.refl _ _).alloc (Nat.le_refl _) _)) hn' hl hd).mono ?_; rintro e w1 ⟨rfl, rfl⟩)
      | (go_at_call 234; refine (named_yes _ n _ F1.out).mono ?_; rintro e w2 ⟨rfl, hb2⟩; obtain ⟨hc2, hf2⟩ := bcell hb2; have q := Lib.hid (judged_of2 (left - 1) HW.out hb HJ.out hb2); clear hf2))
    go_ret
    exact ⟨rfl, q.out.1, q.out.2.2⟩
  case pos =>
  by_cases hma : m = ar
  case neg =>
    have hma1 : ((m : Int) == (ar : Int)) = false := by simp; omega
    have hma2 : ¬ (m : Int) = (ar : Int) := by omega
    have hma3 : ((m : Int) != (ar : Int)) = true := by simp; omega
    clear hma
    go_enter Tryz.func160, Tryz.ntmps160
    go_wp2_with (first
      | (go_at_call 233; refine (node_yes b left depth _ (HJ.out.below (by exact (Below.refl _ _).alloc (Nat.le_refl _) _)) hn' hl hd).mono ?_; rintro e w1 ⟨rfl, rfl⟩)
      | (go_at_call 234; refine (named_yes _ n _ F1.out).mono ?_; rintro e w2 ⟨rfl, hb2⟩; obtain ⟨hc2, hf2⟩ := bcell hb2; have q := Lib.hid (judged_of2 (left - 1) HW.out hb HJ.out hb2); clear hf2))
    go_ret
    exact ⟨rfl, q.out.1, q.out.2.2⟩
  case pos =>
  subst hma
  by_cases htg : TmsGood ts (left - 1) (depth + 1)
  case neg =>
    have TG := Lib.hid htg
    clear htg
    go_enter Tryz.func160, Tryz.ntmps160
    go_wp2_with (first
      | (go_at_call 233; refine (node_yes b left depth _ (HJ.out.below (by exact (Below.refl _ _).alloc (Nat.le_refl _) _)) hn' hl hd).mono ?_; rintro e w1 ⟨rfl, rfl⟩)
      | (go_at_call 234; refine (named_yes _ n _ F1.out).mono ?_; rintro e w2 ⟨rfl, hb2⟩; obtain ⟨hc2, hf2⟩ := bcell hb2; have q := Lib.hid (judged_of2 (left - 1) HW.out hb HJ.out hb2); clear hf2)
      | (go_at_call 236; refine (terms_no ts w0 _ b (left - 1) (depth + 1) a k c HX.out q.out.1 hb q.out.2.1 SZ.out.2.2.1 TG.out (by omega) (by omega) (by omega) (by omega)).mono ?_; rintro e w3 ⟨rfl, r1, r2⟩; have R := Lib.hid (And.intro r1 (q.out.2.2.trans r2))))
    go_ret
    exact ⟨rfl, R.out.1, R.out.2⟩
  case pos =>
  have TG := Lib.hid htg
  have SUB : Hid (¬ FmsGood fs (left - 1 - tmsNodes ts) (depth + 1)) := fun h => NO.out ⟨OKF.out F1.out hka rfl TG.out.1 h.1, by have := h.2.1; simp only [Fm.nodes]; omega, by have h1 := h.2.2; have h2 := TG.out.2.2; simp only [Fm.depth]; omega⟩
  clear htg OKF
  go_enter Tryz.func160, Tryz.ntmps160
  go_wp2_with (first
    | (go_at_call 233; refine (node_yes b left depth _ (HJ.out.below (by exact (Below.refl _ _).alloc (Nat.le_refl _) _)) hn' hl hd).mono ?_; rintro e w1 ⟨rfl, rfl⟩)
    | (go_at_call 234; refine (named_yes _ n _ F1.out).mono ?_; rintro e w2 ⟨rfl, hb2⟩; obtain ⟨hc2, hf2⟩ := bcell hb2; have q := Lib.hid (judged_of2 (left - 1) HW.out hb HJ.out hb2); clear hf2)
    | (go_at_call 236; refine (terms_yes ts w0 _ b (left - 1) (depth + 1) a k c HX.out q.out.1 hb q.out.2.1 TG.out.1 TG.out.2.1 (by omega) (by omega) TG.out.2.2).mono ?_; rintro e w3 ⟨rfl, r1, r2, r3⟩; have e3 : w3.cell? ⟨w.heap.size, 3, none⟩ = some (.slice a' m d) := (by rw [r3.cell (by have := hb2.size; simp at this; omega) (by omega), hc2 _ _ (by simp; omega)]; simp [go_sem]); have R := Lib.hid (And.intro r1 (And.intro r2 (q.out.2.2.trans r3))); clear hc2 q r1 r2 r3))
  go_loopw [79] (fun i wr => ∃ (j : Nat) (lf : Int), j ≤ m ∧ i = .int .i64 j ∧ 0 ≤ lf ∧ lf ≤ 400 ∧ Hid (Below w0.heap.size w0 wr ∧ JudgeAt wr b lf ∧ But b w wr ∧ ¬ FmsGood (fs.drop j) lf (depth + 1))) (fun i _ => m - (intOf i).toNat)
  case atStart => exact ⟨0, left - 1 - tmsNodes ts, Nat.zero_le _, rfl, by have := TG.out.2.1; omega, by omega, R.out.1, R.out.2.1, R.out.2.2, by simpa using SUB.out⟩
  case round =>
    clear g0 g1 g2 g3 g4 e3 hb2
    obtain ⟨j, lf, hj, rfl, hf0, hf1, hs⟩ := hrel
    by_cases hlt : j < m
    · obtain ⟨T, hT⟩ := get_of_lt (l := fs) (j := j) (by rw [← LM.out]; exact hlt)
      obtain ⟨bb, off, rfl, hc⟩ := HX2.out.get (ne_of_get hT)
      obtain ⟨x0, x1, x2, y0, y1, y2, hx⟩ := hc j _ hT
      have hK := keeps_of_below hs.out.1
      have c0 := hK _ _ hx.c0; have c1 := hK _ _ hx.c1; have c2 := hK _ _ hx.c2; have c3 := hK _ _ hx.c3
      have X : Hid (FmVal w0 T (.agg #[.int .u8 T.op, str T.name, .slice x0 x1 x2, .slice y0 y1 y2])) := ⟨_, _, _, _, _, _, rfl, hx.at_, hx.at'⟩
      have HM := Lib.hid (List.mem_of_getElem? hT)
      have DR : Hid (fs.drop j = T :: fs.drop (j + 1)) := by
        show _ = _
        obtain ⟨h1, h2⟩ := List.getElem?_eq_some_iff.1 hT
        rw [List.drop_eq_getElem_cons h1, h2]
      have hal : Hid (∀ o, Below w0.heap.size w0 (wr.alloc o) ∧ JudgeAt (wr.alloc o) b lf ∧ But b w (wr.alloc o)) := fun o => by
        have hb1 : Below wr.heap.size wr (wr.alloc o) := (Below.refl _ _).alloc (Nat.le_refl _) _
        exact ⟨hs.out.1.trans (hb1.mono hs.out.1.size), hs.out.2.1.below hb1, hs.out.2.2.1.trans (But.of_below hb1)⟩
      by_cases hg : FmGood T lf (depth + 1)
      · have HG := Lib.hid hg
        clear hc hx hT hK hg
        go_wp2_with (go_at_call 160; refine (form_yes T w0 _ b lf (depth + 1) _ HR.out X.out (hal.out _).1 hb (hal.out _).2.1 HG.out.1 HG.out.2.1 hf1 (by omega) HG.out.2.2).mono ?_; rintro e w3 ⟨rfl, r1, r2, r3⟩)
        go_roundw
        case rel =>
          refine ⟨j + 1, lf - T.nodes, by omega, by go_num, by have := HG.out.2.1; omega, by omega, r1, r2, (hal.out _).2.2.trans r3, fun h => hs.out.2.2.2 ?_⟩
          rw [DR.out]
          refine ⟨by simp only [fmsOk, HG.out.1, h.1, Bool.and_self], by have := h.2.1; simp only [fmsNodes]; omega, ?_⟩
          have h1 := h.2.2
          have h2 := HG.out.2.2
          simp only [fmsDepth]
          omega
        case measure => simp [intOf]; omega
      · have HG := Lib.hid hg
        clear hc hx hT hK hg
        go_wp2_with (go_at_call 160; refine (H.out T HM.out w0 _ b lf (depth + 1) _ HR.out HRN.out X.out (hal.out _).1 hb (hal.out _).2.1 (fmsSz_mem SZ.out.2.2.2 T HM.out) HG.out hf0 hf1 (by omega) (by omega)).mono ?_; rintro e w3 ⟨rfl, r1, r2⟩)
        go_ret
        exact ⟨rfl, r1, (hal.out _).2.2.trans r2⟩
    · exfalso
      have e : fs.drop j = [] := List.drop_of_length_le (by rw [← LM.out]; omega)
      apply hs.out.2.2.2
      rw [e]
      exact ⟨rfl, by simp only [fmsNodes]; omega, by simp only [fmsDepth]; omega⟩
mutual
theorem form_no : ∀ t : Fm, FmN t
  | .mk o n ts fs => form_stepN o n ts fs (form_allN fs)
theorem form_allN : ∀ l : List Fm, ∀ t ∈ l, FmN t
  | [], _, h => by cases h
  | x :: xs, t, h => by
    rcases List.mem_cons.1 h with e | e
    · rw [e]; exact form_no x
    · exact form_allN xs t e
end
end Go.Proofs.YtcandidgaegghaaGreatDoor
end
section
namespace Go.Proofs.YtcandidgaegghaaGreatDoor
open Go Go.RowKit Ly
set_option maxRecDepth 10000
set_option linter.unusedSimpArgs false
set_option linter.unusedVariables false
theorem rows_no {W : World} {L : List (String × DataW Unit)} (h : laidMet Tryz.prog L W) (hm : ("lyceum/syntax.rows", Rows.laid_lyceum_syntax_rows) ∈ L) : RowsNo W := by
  obtain ⟨g, t, cs, fuel, p, hg, ht, hv, hd⟩ := Lib.laidMet.reads h hm
  obtain rfl := Option.some.inj (gRows.symm.trans hg)
  obtain rfl := Option.some.inj (gRowsT.symm.trans ht)
  have one : ∀ (i : Nat) (a b : Bool) (x y z : Int), i < 17 → (match (Rows.laid_lyceum_syntax_rows : DataW Unit) with | .agg ds => ds[i]? | _ => none) = some (.agg [.lit (.bool a), .lit (.bool b), .lit (.int .u8 x), .lit (.int .i64 y), .lit (.int .i64 z)]) →
      W.cell? ⟨0, i * 5, none⟩ = some (.bool a) ∧ W.cell? ⟨0, i * 5 + 1, none⟩ = some (.bool b) ∧ W.cell? ⟨0, i * 5 + 2, none⟩ = some (.int .u8 x) ∧ W.cell? ⟨0, i * 5 + 3, none⟩ = some (.int .i64 y) ∧ W.cell? ⟨0, i * 5 + 4, none⟩ = some (.int .i64 z) := by
    intro i a b x y z hi e
    obtain ⟨f', d, q, e2, hd'⟩ := Lib.array_elem Tryz.underlying265 hd i hi
    have : d = .agg [.lit (.bool a), .lit (.bool b), .lit (.int .u8 x), .lit (.int .i64 y), .lit (.int .i64 z)] := Option.some.inj (e2.symm.trans e)
    subst this
    rw [cells264] at hd'
    obtain ⟨k0, k1, k2, k3, k4⟩ := row_cells hd'
    have cell : ∀ (j : Nat) (v : Value), j < 5 → ((cs.toList.drop (i * 5)).take 5)[j]? = some v → W.cell? ⟨0, i * 5 + j, none⟩ = some v := by
      intro j v hj e
      rw [List.getElem?_take, if_pos hj, List.getElem?_drop] at e
      have := World.var?_cell hg hv (i * 5 + j)
      rw [this]
      simpa using e
    exact ⟨cell 0 _ (by omega) k0, cell 1 _ (by omega) k1, cell 2 _ (by omega) k2, cell 3 _ (by omega) k3, cell 4 _ (by omega) k4⟩
  intro op ho
  rcases ho with rfl | rfl | rfl
  · exact ⟨_, _, _, _, one 0 _ _ _ _ _ (by decide) rfl⟩
  · exact ⟨_, _, _, _, one 15 _ _ _ _ _ (by decide) rfl⟩
  · exact ⟨_, _, _, _, one 16 _ _ _ _ _ (by decide) rfl⟩
theorem Right_no (f : Fm) (hf : f.sz) (h : ¬ f.right = true) (x : Value) (w : World) (hr : RowsAt w) (hrn : RowsNo w) (hx : FmVal w f x) : Calls Tryz.prog 85 #[x] w fun e w' => e = .returned (.bool false) ∧ Below w.heap.size w w' := by
  obtain ⟨a, k, c, a', m, d, rfl, h1, h2⟩ := hx
  have X : Hid (FmVal w f (.agg #[.int .u8 f.op, str f.name, .slice a k c, .slice a' m d])) := ⟨_, _, _, _, _, _, rfl, h1, h2⟩
  have HR := Lib.hid hr
  have HRN := Lib.hid hrn
  have SZ := Lib.hid hf
  have NO : Hid (¬ FmGood f 400 1) := fun g => h (by
    obtain ⟨g1, g2, g3⟩ := g
    simp only [Fm.right, Bool.and_eq_true, decide_eq_true_eq]
    exact ⟨⟨g1, by omega⟩, by omega⟩)
  clear h1 h2 hr hrn hf h
  go_enter Tryz.func85, Tryz.ntmps85
  go_wp2_with (go_at_call 160; refine (form_no f w _ (w.heap.size + 1) 400 1 _ HR.out HRN.out X.out (by exact ((Below.refl _ _).alloc (Nat.le_refl _) _).alloc (by simp) _) (by omega) ⟨by simp [go_sem], by simp [go_sem], by simp [go_sem], by simp [go_sem]⟩ SZ.out NO.out (by omega) (by omega) (by omega) (by omega)).mono ?_; rintro e w1 ⟨rfl, r1, _⟩)
  go_ret
  exact ⟨rfl, r1⟩
theorem Form_no (f : Fm) (hf : f.sz) (h : ¬ f.right = true) (x : Value) (w : World) (hr : RowsAt w) (hrn : RowsNo w) (hx : FmVal w f x) : Calls Tryz.prog 21 #[x] w fun e w' => e = .returned (.tuple #[str [], .int .i64 2]) ∧ Below w.heap.size w w' := by
  obtain ⟨a, k, c, a', m, d, rfl, h1, h2⟩ := hx
  have H : Hid (∀ o, Calls Tryz.prog 85 #[.agg #[.int .u8 f.op, str f.name, .slice a k c, .slice a' m d]] (w.alloc o) fun e w' => e = .returned (.bool false) ∧ Below (w.alloc o).heap.size (w.alloc o) w') := fun o =>
    Right_no f hf h _ _ (hr.keep (keeps1 _ _)) (hrn.keep (keeps1 _ _)) ⟨_, _, _, _, _, _, rfl, h1.keep (keeps1 _ _), h2.keep (keeps1 _ _)⟩
  clear h1 h2 hr hrn hf h
  go_enter Tryz.func21, Tryz.ntmps21
  go_wp2_with (go_at_call 85; refine (H.out _).mono ?_; rintro e w1 ⟨rfl, b1⟩)
  exact bodyPost_ret (v := .tuple #[str [], .int .i64 2]) (by simp [results, Tryz.results21, go_sem]) rfl ⟨rfl, below1 b1⟩
theorem Outline_no (f : Fm) (hf : f.sz) (h : ¬ f.right = true) (x : Value) (w : World) (hr : RowsAt w) (hrn : RowsNo w) (hx : FmVal w f x) : Calls Tryz.prog 30 #[x] w fun e w' => e = .returned (.tuple #[.slice none 0 0, .int .i64 2]) ∧ Below w.heap.size w w' := by
  obtain ⟨a, k, c, a', m, d, rfl, h1, h2⟩ := hx
  have H : Hid (∀ o, Calls Tryz.prog 85 #[.agg #[.int .u8 f.op, str f.name, .slice a k c, .slice a' m d]] (w.alloc o) fun e w' => e = .returned (.bool false) ∧ Below (w.alloc o).heap.size (w.alloc o) w') := fun o =>
    Right_no f hf h _ _ (hr.keep (keeps1 _ _)) (hrn.keep (keeps1 _ _)) ⟨_, _, _, _, _, _, rfl, h1.keep (keeps1 _ _), h2.keep (keeps1 _ _)⟩
  clear h1 h2 hr hrn hf h
  go_enter Tryz.func30, Tryz.ntmps30
  go_wp2_with (go_at_call 85; refine (H.out _).mono ?_; rintro e w1 ⟨rfl, b1⟩)
  exact bodyPost_ret (v := .tuple #[.slice none 0 0, .int .i64 2]) (by simp [results, Tryz.results30, go_sem]) rfl ⟨rfl, below1 b1⟩
end Go.Proofs.YtcandidgaegghaaGreatDoor
end
