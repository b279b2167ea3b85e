/- From a describe law's row to its walk: slices of bytes that came in, what the law leaves of its arguments, a world for the witness. Conditions: none but those of each statement. Contracts of the describe family at what is not right: a conjunction with a metavariable, a proof with such a formula or with a great label. Conditions: the program's table of operators lies as laid. The program's table of rows, its row of the sort that no formula of a book has. Conditions: the table lies as the program's text lays it. -/
import Derived.Test.YtcandidgaegghaaGreatDoorRdG
import Derived.Test.YtcandidgaegghaaGreatDoorRows
import Derived.Lib.LaidU8
import Derived.ShapedOpen
import Derived.WalkKit
import Derived.ProofKit
import Derived.OpenShut
import Derived.Deep.DeepHandedRow
import Derived.Carry
import Derived.Shelf.Vars
import Derived.Test.YtcandidgaegghaaGreatDoorBuiltAZ
import Derived.Test.YtcandidgaegghaaGreatDoorClaim
import Derived.Test.YtcandidgaegghaaGreatDoorProofB
import Derived.Test.YtcandidgaegghaaGreatDoorOutlZ
import Derived.Outline
section
namespace Go.Proofs.YtcandidgaegghaaGreatDoor
open Go Go.RowKit Ly
set_option maxRecDepth 10000
set_option linter.unusedSimpArgs false
set_option linter.unusedVariables false
theorem cells264 : Tryz.prog.cellsOf 264 = 5 := by kernel_rfl
theorem cells4 : Tryz.prog.cellsOf 4 = 1 := by kernel_rfl
theorem cells5 : Tryz.prog.cellsOf 5 = 1 := by kernel_rfl
theorem cells3 : Tryz.prog.cellsOf 3 = 1 := by kernel_rfl
theorem gRows : Tryz.prog.globalNamed "lyceum/syntax.rows" = some 0 := by kernel_rfl
theorem gRowsT : (Tryz.prog.globals[0]?).map (·.type) = some 265 := by kernel_rfl
section
variable {H : Type} {enc : TypeId × Value → H} {w : World} {base : Nat} {sp : Nat → Bool} {held : Bool}
/-- A row of the table, cell for cell. -/
theorem row_cells {fuel : Nat} {cs : List Value} {a b : Bool} {x y z : Int} {p : List MemPlace} (h : DataW.trod enc Tryz.prog w base sp held fuel 264 cs = some (.agg [.lit (.bool a), .lit (.bool b), .lit (.int .u8 x), .lit (.int .i64 y), .lit (.int .i64 z)], p)) :
    cs[0]? = some (.bool a) ∧ cs[1]? = some (.bool b) ∧ cs[2]? = some (.int .u8 x) ∧ cs[3]? = some (.int .i64 y) ∧ cs[4]? = some (.int .i64 z) := by
  obtain ⟨xs, n, rfl, hx, hl, hxl, hall⟩ := DataW.trod_struct Tryz.underlying264 h
  have hxs : xs.map (·.1) = [.lit (.bool a), .lit (.bool b), .lit (.int .u8 x), .lit (.int .i64 y), .lit (.int .i64 z)] := by
    have := congrArg Prod.fst hx
    simpa using this.symm
  have get : ∀ (i : Nat) (d : DataW H), ([.lit (.bool a), .lit (.bool b), .lit (.int .u8 x), .lit (.int .i64 y), .lit (.int .i64 z)] : List (DataW H))[i]? = some d → ∃ q, xs[i]? = some (d, q) := by
    intro i d hd
    rw [← hxs, List.getElem?_map] at hd
    obtain ⟨⟨d', q⟩, e, rfl⟩ := Option.map_eq_some_iff.1 hd
    exact ⟨q, e⟩
  have at_ : ∀ (i : Nat) (v : Value), (cs.drop i).take 1 = [v] → cs[i]? = some v := by
    intro i v e
    have := congrArg (·[0]?) e
    simpa [List.getElem?_take, List.getElem?_drop] using this
  obtain ⟨q0, g0⟩ := get 0 _ rfl
  obtain ⟨q1, g1⟩ := get 1 _ rfl
  obtain ⟨q2, g2⟩ := get 2 _ rfl
  obtain ⟨q3, g3⟩ := get 3 _ rfl
  obtain ⟨q4, g4⟩ := get 4 _ rfl
  have h0 : DataW.trod enc Tryz.prog w base sp held n 4 ((cs.drop 0).take (Tryz.prog.cellsOf 4)) = _ := (hall 0 _ rfl).trans g0
  rw [cells4] at h0
  have h1 : DataW.trod enc Tryz.prog w base sp held n 4 ((cs.drop 1).take (Tryz.prog.cellsOf 4)) = _ := (hall 1 _ rfl).trans g1
  rw [cells4] at h1
  have h2 : DataW.trod enc Tryz.prog w base sp held n 5 ((cs.drop 2).take (Tryz.prog.cellsOf 5)) = _ := (hall 2 _ rfl).trans g2
  rw [cells5] at h2
  have h3 : DataW.trod enc Tryz.prog w base sp held n 3 ((cs.drop 3).take (Tryz.prog.cellsOf 3)) = _ := (hall 3 _ rfl).trans g3
  rw [cells3] at h3
  have h4 : DataW.trod enc Tryz.prog w base sp held n 3 ((cs.drop 4).take (Tryz.prog.cellsOf 3)) = _ := (hall 4 _ rfl).trans g4
  rw [cells3] at h4
  obtain ⟨v0, e0, k0⟩ := DataW.trod_bool Tryz.underlying4 h0
  obtain ⟨v1, e1, k1⟩ := DataW.trod_bool Tryz.underlying4 h1
  obtain ⟨v2, e2, k2, _⟩ := DataW.trod_int Tryz.underlying5 h2
  obtain ⟨v3, e3, k3, _⟩ := DataW.trod_int Tryz.underlying3 h3
  obtain ⟨v4, e4, k4, _⟩ := DataW.trod_int Tryz.underlying3 h4
  cases k0; cases k1; cases k2; cases k3; cases k4
  exact ⟨at_ 0 _ e0, at_ 1 _ e1, at_ 2 _ e2, at_ 3 _ e3, at_ 4 _ e4⟩
end
theorem rows_at {W : World} {L : List (String × DataW Unit)} (h : laidMet Tryz.prog L W) (hm : ("lyceum/syntax.rows", Rows.laid_lyceum_syntax_rows) ∈ L) : RowsAt W := by
  obtain ⟨g, t, cs, fuel, p, hg, ht, hv, hd⟩ := Lib.laidMet.reads h hm
  obtain rfl := Option.some.inj (gRows.symm.trans hg)
  obtain rfl := Option.some.inj (gRowsT.symm.trans ht)
  have one : ∀ (i : Nat) (a b : Bool) (x y z : Int), i < 17 → (match (Rows.laid_lyceum_syntax_rows : DataW Unit) with | .agg ds => ds[i]? | _ => none) = some (.agg [.lit (.bool a), .lit (.bool b), .lit (.int .u8 x), .lit (.int .i64 y), .lit (.int .i64 z)]) →
      W.cell? ⟨0, i * 5, none⟩ = some (.bool a) ∧ W.cell? ⟨0, i * 5 + 1, none⟩ = some (.bool b) ∧ W.cell? ⟨0, i * 5 + 2, none⟩ = some (.int .u8 x) ∧ W.cell? ⟨0, i * 5 + 3, none⟩ = some (.int .i64 y) ∧ W.cell? ⟨0, i * 5 + 4, none⟩ = some (.int .i64 z) := by
    intro i a b x y z hi e
    obtain ⟨f', d, q, e2, hd'⟩ := Lib.array_elem Tryz.underlying265 hd i hi
    have : d = .agg [.lit (.bool a), .lit (.bool b), .lit (.int .u8 x), .lit (.int .i64 y), .lit (.int .i64 z)] := Option.some.inj (e2.symm.trans e)
    subst this
    rw [cells264] at hd'
    obtain ⟨k0, k1, k2, k3, k4⟩ := row_cells hd'
    have cell : ∀ (j : Nat) (v : Value), j < 5 → ((cs.toList.drop (i * 5)).take 5)[j]? = some v → W.cell? ⟨0, i * 5 + j, none⟩ = some v := by
      intro j v hj e
      rw [List.getElem?_take, if_pos hj, List.getElem?_drop] at e
      have := World.var?_cell hg hv (i * 5 + j)
      rw [this]
      simpa using e
    exact ⟨cell 0 _ (by omega) k0, cell 1 _ (by omega) k1, cell 2 _ (by omega) k2, cell 3 _ (by omega) k3, cell 4 _ (by omega) k4⟩
  intro op h1 h2
  rcases (show op = 1 ∨ op = 2 ∨ op = 3 ∨ op = 4 ∨ op = 5 ∨ op = 6 ∨ op = 7 ∨ op = 8 ∨ op = 9 ∨ op = 10 ∨ op = 11 ∨ op = 12 ∨ op = 13 ∨ op = 14 by omega) with rfl | rfl | rfl | rfl | rfl | rfl | rfl | rfl | rfl | rfl | rfl | rfl | rfl | rfl
  all_goals exact one _ _ _ _ _ _ (by decide) rfl
theorem gPow : Tryz.prog.globalNamed "internal/strconv.uint64pow10" = some 4 := by kernel_rfl
theorem pow_at {W : World} {L : List (String × DataW Unit)} (h : laidMet Tryz.prog L W) (hm : ("internal/strconv.uint64pow10", Rows.laid_internal_strconv_uint64pow10) ∈ L) {t : TypeId} (hty : (Tryz.prog.globals[4]?).map (·.type) = some t) (hu : Tryz.prog.underlying t = some (.array 20 234)) (hct : Tryz.prog.cellsOf t = 20) : PowAt W := by
  obtain ⟨g, t', cs, fuel, p, hg, ht, hv, hd⟩ := Lib.laidMet.reads h hm
  obtain rfl := Option.some.inj (gPow.symm.trans hg)
  obtain rfl := Option.some.inj (hty.symm.trans ht)
  have e : (Rows.laid_internal_strconv_uint64pow10 : DataW Unit) = Lib.tabData .u64 Lib.pow10Tab := rfl
  rw [e] at hd
  unfold PowAt Lib.TabIs
  rw [hv, ← Lib.cells_of_tab hu Tryz.underlying234 (by kernel_rfl) hct hd]
end Go.Proofs.YtcandidgaegghaaGreatDoor
namespace Go.Proofs.YtcandidgaegghaaGreatDoor
open Go Go.ChangeShapes Go.WideShapes Go.ChangeAt Go.RowKit Ly
set_option maxRecDepth 10000
set_option linter.unusedSimpArgs false
set_option linter.unusedVariables false
theorem max_at {W : World} (h : W.ShapedOpen Tryz.prog) : MaxAt W :=
  Go.Proofs.cell_of_shapedOpen_int (g := 1) (zero := #[.int .i64 0]) (t := 3) h (of_decide_eq_true (by kernel_rfl)) (by kernel_rfl) rfl (by kernel_rfl) (by kernel_rfl) Tryz.underlying3
section
variable {H : Type} {enc : TypeId × Value → H}
/-- A slice of bytes that came in: the bytes that it holds. -/
theorem bts_of {W : World} {base : Nat} {v : Value} {d : DataW H} {p : List MemPlace} (hval : Value.okWide Tryz.prog W .any base 43 v) (h : DataW.Trod enc Tryz.prog W 0 (fun _ => true) true 43 v d p) : ∃ (l : Bs) (a : Option Addr) (n c : Nat), v = .slice a n c ∧ BtsAt W l (.slice a n c) := by
  obtain ⟨a, len, cap, rfl⟩ := okWide_slice Tryz.underlying43 hval
  obtain ⟨fuel, hf⟩ := h
  rcases open_ints Tryz.underlying43 Tryz.underlying5 cells5 hf with ⟨hcs, hx⟩ | ⟨ad, len', cap', zs, hcs, _, hl, hm, hz, hx, hcell, hwz⟩
  · simp [Value.cells] at hcs
    obtain ⟨rfl, rfl, rfl⟩ := hcs
    exact ⟨[], _, _, _, rfl, At.sl_nil (Nat.zero_le _)⟩
  · simp [Value.cells] at hcs
    obtain ⟨rfl, rfl, rfl⟩ := hcs
    simp only [if_true] at hz
    have hlen : ((zs.take len).map fun n => UInt8.ofNat n.toNat).length = len := by simp; omega
    refine ⟨(zs.take len).map fun n => UInt8.ofNat n.toNat, _, _, _, rfl, ?_⟩
    unfold BtsAt
    rw [hlen]
    rcases Nat.eq_zero_or_pos len with h0 | h0
    · subst h0
      rw [List.take_zero]
      exact At.sl_nil hm
    · obtain ⟨ab, ao, spot⟩ := ad
      have hspot : spot = none := by simpa [Addr.add] using World.cell?_spot (hcell 0 (by omega))
      subst hspot
      refine At.sl_mk (by rw [List.length_map, hlen]; omega) hl hm fun j dd hd => ?_
      rw [List.getElem?_map, List.getElem?_map, List.getElem?_take] at hd
      obtain ⟨x, hx1, rfl⟩ := Option.map_eq_some_iff.1 hd
      obtain ⟨z, hz1, rfl⟩ := Option.map_eq_some_iff.1 hx1
      split at hz1
      · have hj := (List.getElem?_eq_some_iff.1 hz1).1
        have hcj := hcell j hj
        have hb := range_u8 hwz j
        rw [hz1, Option.getD_some] at hb
        rw [List.getD_eq_getElem?_getD, hz1, Option.getD_some, Addr.add_lit] at hcj
        refine ⟨_, hcj, ?_⟩
        show Value.int .u8 z = .int .u8 ((UInt8.ofNat z.toNat).toNat : Int)
        congr 1
        simp only [UInt8.toNat_ofNat']
        omega
      · cases hz1
/-- The arguments read as they did, one after the other. -/
theorem args_stay {W W' : World} {sp : Nat → Bool} : ∀ {ts : List TypeId} {vs : List Value} {ds : List (DataW H)} {ps : List MemPlace}, (∀ t ∈ ts, Tryz.prog.readableRec t = true ∧ t < Tryz.prog.types.size) →
    DataW.TrodAll enc Tryz.prog W 0 (fun _ => true) true ts vs ds ps → (∀ x ∈ ps, W.sameAt W' x) → (∀ x ∈ ps, sp x.block = true) → DataW.TrodAll enc Tryz.prog W' 0 sp true ts vs ds ps
  | [], [], [], _, _, h, _, _ => h
  | t :: _, _ :: _, _ :: _, _, hT, ⟨p, q, h1, h2, e⟩, hs, hp =>
    ⟨p, q, WideElems.Trod_stays (by kernel_rfl) (hT t (List.mem_cons.2 (.inl rfl))).1 (hT t (List.mem_cons.2 (.inl rfl))).2 h1 (fun x hx => hs x (by rw [e]; exact List.mem_append_left _ hx)) (fun x hx => hp x (by rw [e]; exact List.mem_append_left _ hx)),
     args_stay (fun u hu => hT u (List.mem_cons.2 (.inr hu))) h2 (fun x hx => hs x (by rw [e]; exact List.mem_append_right _ hx)) (fun x hx => hp x (by rw [e]; exact List.mem_append_right _ hx)), e⟩
/-- A law that answered true, and wrote nothing that was there: its specification's post. -/
theorem law_post {f : Func} {s : ChangeSpec} {apart fresh handsOn again : Bool} {W W' : World} {args : Array Value} {ds gs : List (DataW H)} {before : List MemPlace}
    (hT : ∀ t ∈ f.params.toList, Tryz.prog.readableRec t = true ∧ t < Tryz.prog.types.size) (hres : f.resultTypes = #[4]) (hvars : s.vars = []) (hfn : s.fn H ds = { results := [.lit (.bool true)], args := ds })
    (hW : DataW.Whole enc Tryz.prog f.params.toList s.vars apart W args.toList ds gs before) (hb : Below W.heap.size W W') : s.post enc Tryz.prog f apart fresh handsOn again W args (.bool true) W' := by
  have hW0 := hW
  obtain ⟨p, q, hA, hV, hpq, hz, hn⟩ := hW
  have hgs : gs = [] ∧ q = [] := by rw [hvars] at hV; exact trodVars_none hV
  obtain ⟨rfl, rfl⟩ := hgs
  have hpp : before = p ++ [] := hpq
  have hp : before = p := by rw [hpp, List.append_nil]
  have hlt : ∀ x ∈ before, x.block < W.heap.size := fun x hx => hW0.lt x hx
  have hfn : s.fn H (ds ++ []) = { results := [.lit (.bool true)], args := ds } := by rw [List.append_nil]; exact hfn
  have stay : ∀ sp : Nat → Bool, (∀ x ∈ before, sp x.block = true) → DataW.TrodAll enc Tryz.prog W' 0 sp true f.params.toList args.toList (s.fn H (ds ++ [])).args before := fun sp hsp => by
    rw [hfn]
    rw [← hp] at hA
    exact args_stay hT hA (fun x hx => hb.same (hlt x hx)) hsp
  have res : ∀ (b : Nat) (sp : Nat → Bool) (hd : Bool), DataW.TrodAll enc Tryz.prog W' b sp hd f.resultTypes.toList ((Value.bool true).resultList f.resultTypes.size) (s.fn H (ds ++ [])).results [] := fun b sp hd => by
    rw [hfn, hres]
    exact trodAll_cons_mk (shut_bool Tryz.underlying4 _) trodAll_mk0
  have vars : ∀ sp : Nat → Bool, DataW.TrodVars enc Tryz.prog W' sp s.vars (s.fn H (ds ++ [])).vars [] := fun sp => by
    rw [hvars, hfn]; rfl
  refine ⟨ds, [], before, [], before, [], hW0, res _ _ _, stay _ (fun x hx => by simpa using hlt x hx), vars _, World.keptBut_mono (fun x hx => ⟨hx, .inr (by simpa using hx)⟩) (hb.frame (· ∈ before)), fun _ => ?_⟩
  refine ⟨ok_one hres rfl (okWide_bool_mk Tryz.underlying4 _), _, _, ([] ++ before) ++ [], ⟨[] ++ before, [], trodAll_append (stay _ (fun _ _ => rfl)) (res _ _ _), vars _, rfl, fun b off hx => ?_, fun ha => ?_⟩, fun x hx _ => ?_⟩
  · have hin : MemPlace.cell b off ∈ before := by simpa using hx
    rw [hb.frozen (hlt _ hin)]
    exact hz b off hin
  · simpa using hn ha
  · simpa using hx
end
end Go.Proofs.YtcandidgaegghaaGreatDoor
end
section
namespace Go.Proofs.YtcandidgaegghaaGreatDoor
open Go Go.RowKit Ly
set_option maxRecDepth 10000
set_option linter.unusedSimpArgs false
set_option linter.unusedVariables false
set_option maxHeartbeats 1600000
def metaFm : Fm := .mk 15 [63, 65] [] []
def badFm (f : Fm) : Fm := .mk 4 [] [] [f, metaFm]
/-- The row of OpMeta in the table of operators. -/
def Row15At (w : World) : Prop := w.cell? ⟨0, 75, none⟩ = some (.bool false) ∧ w.cell? ⟨0, 76, none⟩ = some (.bool true) ∧ w.cell? ⟨0, 77, none⟩ = some (.int .u8 3) ∧ w.cell? ⟨0, 78, none⟩ = some (.int .i64 0) ∧ w.cell? ⟨0, 79, none⟩ = some (.int .i64 0)
theorem Row15At.keep {w w' : World} (h : Row15At w) (k : Keeps w w') : Row15At w' := ⟨k _ _ h.1, k _ _ h.2.1, k _ _ h.2.2.1, k _ _ h.2.2.2.1, k _ _ h.2.2.2.2⟩
theorem meta_no (w0 w : World) (b : Nat) (left depth : Int) (x : Value) (hr : Row15At w0) (hx : FmVal w0 metaFm x) (hw : Below w0.heap.size w0 w) (hb : w0.heap.size ≤ b) (hj : JudgeAt w b left) (h1 : 1 ≤ left) (h2 : left ≤ 400) (h3 : depth ≤ 40) :
    Calls Tryz.prog 160 #[.pointer (some ⟨b, 0, none⟩), x, .int .i64 depth] w fun e w' => e = .returned (.bool false) ∧ Below w0.heap.size w0 w' ∧ But b w w' := by
  obtain ⟨a, k, c, a', m, d, rfl, _, _⟩ := hx
  simp only [metaFm, Fm.op, Fm.name]
  have hbl : b < w.heap.size := hj.lt
  have HJ := Lib.hid hj
  have HW := Lib.hid hw
  have hW1 : Below w0.heap.size w0 ((w.setCell ⟨b, 1, none⟩ (.int .i64 (left - 1))).alloc (.cells #[.int .u8 15, str [63, 65], .slice a k c, .slice a' m d] 25)) :=
    ((But.set b w 1 none _).below hw hb).alloc (by have := hw.size; simpa [World.setCell] using this) _
  obtain ⟨g0, g1, g2, g3, g4⟩ := hr.keep (keeps_of_below hW1)
  have c0 := hj.c0
  clear hW1 hj hw hr
  go_enter Tryz.func160, Tryz.ntmps160
  go_wp2_with (go_at_call 233; refine (node_yes b left depth _ (HJ.out.below (by exact (Below.refl _ _).alloc (Nat.le_refl _) _)) h1 h2 h3).mono ?_; rintro e w1 ⟨rfl, rfl⟩)
  go_ret
  have q : ∀ o o', But b w (((w.setCell ⟨b, 1, none⟩ (.int .i64 (left - 1))).alloc o).alloc o') := fun o o' => (But.set b w 1 none _).trans (But.of_below (((Below.refl _ _).alloc (Nat.le_refl _) _).alloc (by simp) _))
  exact ⟨rfl, (q _ _).below HW.out hb, q _ _⟩
/-- syntax.Right, at a right formula and a metavariable joined. -/
theorem bad_no (f : Fm) (hf : f.ok = true) (hn : f.nodes ≤ 398) (hd : f.depth ≤ 39) (w0 w : World) (b : Nat) (x : Value) (hrows : RowsAt w0) (hr : Row15At w0) (hx : FmVal w0 (badFm f) x) (hw : Below w0.heap.size w0 w) (hb : w0.heap.size ≤ b) (hj : JudgeAt w b 400) :
    Calls Tryz.prog 160 #[.pointer (some ⟨b, 0, none⟩), x, .int .i64 1] w fun e w' => e = .returned (.bool false) ∧ Below w0.heap.size w0 w' := by
  obtain ⟨a, k, c, a', m, d, rfl, hx, hx2⟩ := hx
  simp only [badFm, Fm.op, Fm.name, Fm.args, Fm.sub] at *
  have hk := hx.len
  have hm := hx2.len
  obtain rfl : k = 0 := by simpa using hk.1
  obtain rfl : m = 2 := by simpa using hm.1
  have hbl : b < w.heap.size := hj.lt
  have hcells : ∀ w', Keeps w0 w' → w'.cell? ⟨0, 20, none⟩ = some (.bool true) ∧ w'.cell? ⟨0, 21, none⟩ = some (.bool true) ∧ w'.cell? ⟨0, 22, none⟩ = some (.int .u8 0) ∧ w'.cell? ⟨0, 23, none⟩ = some (.int .i64 0) ∧ w'.cell? ⟨0, 24, none⟩ = some (.int .i64 2) := fun w' kk =>
    hrows.keep kk 4 (by decide) (by decide)
  have hW1 : Below w0.heap.size w0 ((w.setCell ⟨b, 1, none⟩ (.int .i64 399)).alloc (.cells #[.int .u8 4, str [], .slice a 0 c, .slice a' 2 d] 25)) :=
    ((But.set b w 1 none _).below hw hb).alloc (by have := hw.size; simpa [World.setCell] using this) _
  obtain ⟨g0, g1, g2, g3, g4⟩ := hcells _ (keeps_of_below hW1)
  have c0 := hj.c0
  have HJ := Lib.hid hj
  have HW := Lib.hid hw
  have HX := Lib.hid hx
  have HX2 := Lib.hid hx2
  have HR := Lib.hid hrows
  have HR15 := Lib.hid hr
  have HF := Lib.hid hf
  have hfd : (f.depth : Int) ≤ 39 := by omega
  obtain ⟨nn, hnn⟩ : ∃ nn : Nat, f.nodes = nn := ⟨_, rfl⟩
  have HNN := Lib.hid hnn
  have hn' : (nn : Int) ≤ 398 := by omega
  clear hW1 hx hx2 hk hm hj hw hrows hcells hr hf hn hd hnn
  go_enter Tryz.func160, Tryz.ntmps160
  go_wp2_with (first
    | (go_at_call 233; refine (node_yes b 400 1 _ (HJ.out.below (by exact (Below.refl _ _).alloc (Nat.le_refl _) _)) (by omega) (by omega) (by omega)).mono ?_; rintro e w1 ⟨rfl, rfl⟩)
    | (go_at_call 234; refine (named_yes 0 [] _ (.inr (.inr ⟨rfl, rfl⟩))).mono ?_; rintro e w2 ⟨rfl, hb2⟩; obtain ⟨hc2, hf2⟩ := bcell hb2; have q := Lib.hid (judged_of2 399 HW.out hb HJ.out hb2); clear hf2)
    | (go_at_call 236; refine (terms_yes [] w0 _ b 399 2 a 0 c HX.out q.out.1 hb q.out.2.1 rfl (by simp [tmsNodes]) (by omega) (by omega) (by simp [tmsDepth])).mono ?_; rintro e w3 ⟨rfl, r1, r2, r3⟩; have e3 : w3.cell? ⟨w.heap.size, 3, none⟩ = some (.slice a' 2 d) := (by rw [r3.cell (by have := hb2.size; simp at this; omega) (by omega), hc2 _ _ (by simp; omega)]; simp [go_sem]); have R := Lib.hid (And.intro r1 (And.intro r2 (q.out.2.2.trans r3))); clear hc2 q r1 r2 r3))
  go_loopw [79] (fun i wr => ∃ (j : Nat) (lf : Int), j ≤ 1 ∧ i = .int .i64 j ∧ lf = 399 - (if j = 0 then 0 else (nn : Int)) ∧ Hid (Below w0.heap.size w0 wr ∧ JudgeAt wr b lf ∧ But b w wr)) (fun i _ => 2 - (intOf i).toNat)
  case atStart => exact ⟨0, 399, by omega, rfl, by simp, R.out.1, by simpa [tmsNodes] using R.out.2.1, R.out.2.2⟩
  case round =>
    clear g0 g1 g2 g3 g4 e3 hb2 c0
    obtain ⟨j, lf, hj, rfl, hlf, hs⟩ := hrel
    obtain ⟨bb, off, rfl, hc⟩ := HX2.out.get (by simp)
    have hal : Hid (∀ o, Below w0.heap.size w0 (wr.alloc o) ∧ JudgeAt (wr.alloc o) b lf ∧ But b w (wr.alloc o)) := fun o => by
      have hb1 : Below wr.heap.size wr (wr.alloc o) := (Below.refl _ _).alloc (Nat.le_refl _) _
      exact ⟨hs.out.1.trans (hb1.mono hs.out.1.size), hs.out.2.1.below hb1, hs.out.2.2.trans (But.of_below hb1)⟩
    have hK := keeps_of_below hs.out.1
    rcases (show j = 0 ∨ j = 1 by omega) with rfl | rfl
    · obtain ⟨x0, x1, x2, y0, y1, y2, hx⟩ := hc 0 f rfl
      have c0 := hK _ _ hx.c0; have c1 := hK _ _ hx.c1; have c2 := hK _ _ hx.c2; have c3 := hK _ _ hx.c3
      simp only [Nat.zero_mul, Nat.one_mul, Nat.add_zero, Nat.add_assoc, Nat.reduceAdd] at c0 c1 c2 c3
      have X : Hid (FmVal w0 f (.agg #[.int .u8 f.op, str f.name, .slice x0 x1 x2, .slice y0 y1 y2])) := ⟨_, _, _, _, _, _, rfl, hx.at_, hx.at'⟩
      obtain rfl : lf = 399 := by simpa using hlf
      clear hc hx hK hlf
      go_wp2_with (go_at_call 160; refine (form_yes f w0 _ b _ 2 _ HR.out X.out (hal.out _).1 hb (hal.out _).2.1 HF.out (by rw [HNN.out]; omega) (by omega) (by omega) (by omega)).mono ?_; rintro e w3 ⟨rfl, r1, r2, r3⟩)
      go_roundw
      case rel => exact ⟨1, 399 - nn, by omega, by go_num, by simp, r1, by rw [← HNN.out]; exact r2, (hal.out _).2.2.trans r3⟩
      case measure => simp [intOf]
    · obtain ⟨x0, x1, x2, y0, y1, y2, hx⟩ := hc 1 metaFm rfl
      have c0 := hK _ _ hx.c0; have c1 := hK _ _ hx.c1; have c2 := hK _ _ hx.c2; have c3 := hK _ _ hx.c3
      simp only [Nat.zero_mul, Nat.one_mul, Nat.add_zero, Nat.add_assoc, Nat.reduceAdd] at c0 c1 c2 c3
      have X : Hid (FmVal w0 metaFm (.agg #[.int .u8 metaFm.op, str metaFm.name, .slice x0 x1 x2, .slice y0 y1 y2])) := ⟨_, _, _, _, _, _, rfl, hx.at_, hx.at'⟩
      have hlf' : lf = 399 - nn := by simpa using hlf
      clear hc hx hK hlf
      go_wp2_with (go_at_call 160; refine (meta_no w0 _ b lf 2 _ HR15.out X.out (hal.out _).1 hb (hal.out _).2.1 (by omega) (by omega) (by omega)).mono ?_; rintro e w3 ⟨rfl, r1, r2⟩)
      go_ret
      exact ⟨rfl, r1⟩
theorem Right_bad (f : Fm) (hf : f.ok = true) (hn : f.nodes ≤ 398) (hd : f.depth ≤ 39) (x : Value) (w : World) (hr : RowsAt w) (hr15 : Row15At w) (hx : FmVal w (badFm f) x) : Calls Tryz.prog 85 #[x] w fun e w' => e = .returned (.bool false) ∧ Below w.heap.size w w' := by
  obtain ⟨a, k, c, a', m, d, rfl, h1, h2⟩ := hx
  have X : Hid (FmVal w (badFm f) (.agg #[.int .u8 (badFm f).op, str (badFm f).name, .slice a k c, .slice a' m d])) := ⟨_, _, _, _, _, _, rfl, h1, h2⟩
  have HR := Lib.hid hr
  have HR15 := Lib.hid hr15
  have HO := Lib.hid (And.intro hf (And.intro hn hd))
  clear h1 h2 hr hr15 hf hn hd
  go_enter Tryz.func85, Tryz.ntmps85
  go_wp2_with (go_at_call 160; refine (bad_no f HO.out.1 HO.out.2.1 HO.out.2.2 w _ (w.heap.size + 1) _ HR.out HR15.out X.out (by exact ((Below.refl _ _).alloc (Nat.le_refl _) _).alloc (by simp) _) (by omega) ⟨by simp [go_sem], by simp [go_sem], by simp [go_sem], by simp [go_sem]⟩).mono ?_; rintro e w1 ⟨rfl, r1⟩)
  go_ret
  exact ⟨rfl, r1⟩
/-- describe.Form and describe.Outline at it. -/
theorem Form_bad (f : Fm) (hf : f.ok = true) (hn : f.nodes ≤ 398) (hd : f.depth ≤ 39) (x : Value) (w : World) (hr : RowsAt w) (hr15 : Row15At w) (hx : FmVal w (badFm f) x) : Calls Tryz.prog 21 #[x] w fun e w' => e = .returned (.tuple #[str [], .int .i64 2]) ∧ Below w.heap.size w w' := by
  obtain ⟨a, k, c, a', m, d, rfl, h1, h2⟩ := hx
  have H : Hid (∀ o, Calls Tryz.prog 85 #[.agg #[.int .u8 (badFm f).op, str (badFm f).name, .slice a k c, .slice a' m d]] (w.alloc o) fun e w' => e = .returned (.bool false) ∧ Below (w.alloc o).heap.size (w.alloc o) w') := fun o =>
    Right_bad f hf hn hd _ _ (hr.keep (keeps1 _ _)) (hr15.keep (keeps1 _ _)) ⟨_, _, _, _, _, _, rfl, h1.keep (keeps1 _ _), h2.keep (keeps1 _ _)⟩
  clear h1 h2 hr hr15 hf hn hd
  go_enter Tryz.func21, Tryz.ntmps21
  go_wp2_with (go_at_call 85; refine (H.out _).mono ?_; rintro e w1 ⟨rfl, b1⟩)
  exact bodyPost_ret (v := .tuple #[str [], .int .i64 2]) (by simp [results, Tryz.results21, go_sem]) rfl ⟨rfl, below1 b1⟩
theorem Outline_bad (f : Fm) (hf : f.ok = true) (hn : f.nodes ≤ 398) (hd : f.depth ≤ 39) (x : Value) (w : World) (hr : RowsAt w) (hr15 : Row15At w) (hx : FmVal w (badFm f) x) : Calls Tryz.prog 30 #[x] w fun e w' => e = .returned (.tuple #[.slice none 0 0, .int .i64 2]) ∧ Below w.heap.size w w' := by
  obtain ⟨a, k, c, a', m, d, rfl, h1, h2⟩ := hx
  have H : Hid (∀ o, Calls Tryz.prog 85 #[.agg #[.int .u8 (badFm f).op, str (badFm f).name, .slice a k c, .slice a' m d]] (w.alloc o) fun e w' => e = .returned (.bool false) ∧ Below (w.alloc o).heap.size (w.alloc o) w') := fun o =>
    Right_bad f hf hn hd _ _ (hr.keep (keeps1 _ _)) (hr15.keep (keeps1 _ _)) ⟨_, _, _, _, _, _, rfl, h1.keep (keeps1 _ _), h2.keep (keeps1 _ _)⟩
  clear h1 h2 hr hr15 hf hn hd
  go_enter Tryz.func30, Tryz.ntmps30
  go_wp2_with (go_at_call 85; refine (H.out _).mono ?_; rintro e w1 ⟨rfl, b1⟩)
  exact bodyPost_ret (v := .tuple #[.slice none 0 0, .int .i64 2]) (by simp [results, Tryz.results30, go_sem]) rfl ⟨rfl, below1 b1⟩
/-- describe.shaped at a step whose label is great. -/
theorem shaped_odd (r : Bs) (f : Fm) (lb L : Int) (sub : List Pf) (ms : List (List Int)) (hL : 1000 ≤ L) (h : shaped r lb sub.length ms = true) (o : Int) (nm : Bs) (a b s q : Option Addr) (n c m d sn sc qn qc : Nat) (hs : sn = sub.length) (hq : qn = ms.length) (hs1 : sn ≤ maxLen) (hq1 : qn ≤ maxLen) (w : World) :
    Calls Tryz.prog 162 #[.agg #[str r, .int .u8 o, str nm, .slice a n c, .slice b m d, .int .i64 L, .slice s sn sc, .slice q qn qc]] w fun e w' => e = .returned (.bool false) ∧ Below w.heap.size w w' := by
  have hsl : sn ≤ 9223372036854775807 := by have := le63 hs1; omega
  have hql : qn ≤ 9223372036854775807 := by have := le63 hq1; omega
  unfold shaped at h
  by_cases r0 : r = []
  · subst r0
    simp only [if_true, Bool.and_eq_true, decide_eq_true_eq, List.isEmpty_iff] at h
    obtain ⟨⟨z1, z2⟩, z3, z4⟩ := h
    have e1 : sn = 0 := by omega
    have e2 : qn = 0 := by rw [hq, z2]; rfl
    subst e1 e2
    have d1 : decide (1 ≤ L) = true := by simp; omega
    have d2 : decide (L ≤ 999) = false := by simp; omega
    clear hs hq z1 z2 z3 z4
    go_enter Tryz.func162, Tryz.ntmps162
    go_wp2_with fail
    go_ret
    exact ⟨rfl, (Below.refl _ _).alloc (Nat.le_refl _) _⟩
  · by_cases r1 : r = hole
    · subst r1
      simp only [r0, if_true, if_false, Bool.and_eq_true, decide_eq_true_eq, List.isEmpty_iff] at h
      obtain ⟨⟨z1, z2⟩, z3⟩ := h
      have e1 : sn = 0 := by omega
      have e2 : qn = 0 := by rw [hq, z2]; rfl
      subst e1 e2
      have d1 : (L == 0) = false := by simp; omega
      clear hs hq z1 z2
      go_enter Tryz.func162, Tryz.ntmps162
      unfold hole
      go_wp2_with fail
      go_ret
      exact ⟨rfl, (Below.refl _ _).alloc (Nat.le_refl _) _⟩
    · simp only [r0, r1, if_false, Bool.and_eq_true, decide_eq_true_eq] at h
      obtain ⟨⟨⟨⟨z1, z2⟩, z3⟩, z4⟩, z5⟩ := h
      have t0 : (r == []) = false := by simpa using r0
      have t1 : (r == [63]) = false := by simpa [hole] using r1
      have d1 : (L == 0) = false := by simp; omega
      have HZ := Lib.hid z1
      clear z1 z2 z3 z4 z5 r0 r1 hs hq hs1 hq1
      have body : Hid (∀ z : Bool, ((sn : Int) == 0) = z → ∀ z' : Bool, ((qn : Int) == 0) = z' → Calls Tryz.prog 162 #[.agg #[str r, .int .u8 o, str nm, .slice a n c, .slice b m d, .int .i64 L, .slice s sn sc, .slice q qn qc]] w fun e w' => e = .returned (.bool false) ∧ Below w.heap.size w w') := by
        intro z hz z' hz'
        cases z <;> cases z'
        all_goals
          go_enter Tryz.func162, Tryz.ntmps162
          go_wp2_with (go_at_call 238; refine (isName_c r HZ.out _).mono ?_; rintro e w1 ⟨rfl, hb1⟩; obtain ⟨hc1, hf1⟩ := bcell hb1; have B1 := Lib.hid (below1 hb1); clear hb1)
          go_ret
          exact ⟨rfl, B1.out⟩
      exact body.out _ rfl _ rfl
theorem kcw {w w' : World} {g : Nat} {o : Obj} (b : Below w.heap.size w w') (h : w.heap[g]? = some o) : w'.heap[g]? = some o := (b.block g (Array.getElem?_eq_some_iff.1 h).1).trans h
theorem row53' {w : World} {b : Nat} {x0 x1 x2 x3 x4 x5 x6 x7 : Value} (h : w.heap[b]? = some (.cells #[x0, x1, x2, x3, x4, x5, x6, x7] 53 (0, 0))) :
    w.cell? ⟨b, 0, none⟩ = some x0 ∧ w.cell? ⟨b, 1, none⟩ = some x1 ∧ w.cell? ⟨b, 2, none⟩ = some x2 ∧ w.cell? ⟨b, 3, none⟩ = some x3 ∧ w.cell? ⟨b, 4, none⟩ = some x4 ∧ w.cell? ⟨b, 5, none⟩ = some x5 ∧ w.cell? ⟨b, 6, none⟩ = some x6 ∧ w.cell? ⟨b, 7, none⟩ = some x7 :=
  ⟨(box_cell h 0).trans rfl, (box_cell h 1).trans rfl, (box_cell h 2).trans rfl, (box_cell h 3).trans rfl, (box_cell h 4).trans rfl, (box_cell h 5).trans rfl, (box_cell h 6).trans rfl, (box_cell h 7).trans rfl⟩
/-- describe.describable at a step whose formula is not right. -/
theorem desc_bad (F : Fm) (r : Bs) (lb : Int) (a b s q : Option Addr) (n c m d sn sc qn qc g : Nat) (w0 w : World) (hw : Below w0.heap.size w0 w) (hg : w0.heap.size ≤ g) (hl : LeftAt w g 300)
    (hR : ∀ w', Below w0.heap.size w0 w' → Calls Tryz.prog 85 #[.agg #[.int .u8 F.op, str F.name, .slice a n c, .slice b m d]] w' fun e w'' => e = .returned (.bool false) ∧ Below w'.heap.size w' w'') :
    Calls Tryz.prog 87 #[.agg #[str r, .int .u8 F.op, str F.name, .slice a n c, .slice b m d, .int .i64 lb, .slice s sn sc, .slice q qn qc], .int .i64 0, .pointer (some ⟨g, 0, none⟩)] w fun e w' => e = .returned (.bool false) ∧ Below w0.heap.size w0 w' := by
  have hgl := hl.lt
  obtain ⟨l0, l1⟩ := hl
  have HW := Lib.hid hw
  have HR := Lib.hid hR
  have WB : Hid (∀ o v, Below w0.heap.size w0 ((w.setCell ⟨g, 0, none⟩ v).alloc o)) := fun o v => (HW.out.setCell hg _).alloc (by have := HW.out.size; simpa using this) _
  clear hw hR
  go_enter Tryz.func87, Tryz.ntmps87
  go_wp2_with (go_at_call 85; refine (HR.out _ (WB.out _ _)).mono ?_; rintro e w1 ⟨rfl, b1⟩)
  go_ret
  exact ⟨rfl, belowThen (WB.out _ _) b1⟩
/-- .. and at a step that has no shape. -/
theorem desc_odd (F : Fm) (r : Bs) (lb : Int) (a b s q : Option Addr) (n c m d sn sc qn qc g : Nat) (w0 w : World) (hw : Below w0.heap.size w0 w) (hg : w0.heap.size ≤ g) (hl : LeftAt w g 300)
    (hR : ∀ w', Below w0.heap.size w0 w' → Calls Tryz.prog 85 #[.agg #[.int .u8 F.op, str F.name, .slice a n c, .slice b m d]] w' fun e w'' => e = .returned (.bool true) ∧ Below w'.heap.size w' w'')
    (hS : ∀ w', Calls Tryz.prog 162 #[.agg #[str r, .int .u8 F.op, str F.name, .slice a n c, .slice b m d, .int .i64 lb, .slice s sn sc, .slice q qn qc]] w' fun e w'' => e = .returned (.bool false) ∧ Below w'.heap.size w' w'') :
    Calls Tryz.prog 87 #[.agg #[str r, .int .u8 F.op, str F.name, .slice a n c, .slice b m d, .int .i64 lb, .slice s sn sc, .slice q qn qc], .int .i64 0, .pointer (some ⟨g, 0, none⟩)] w fun e w' => e = .returned (.bool false) ∧ Below w0.heap.size w0 w' := by
  have hgl := hl.lt
  obtain ⟨l0, l1⟩ := hl
  have HW := Lib.hid hw
  have HR := Lib.hid hR
  have HS := Lib.hid hS
  have WB : Hid (∀ o v, Below w0.heap.size w0 ((w.setCell ⟨g, 0, none⟩ v).alloc o)) := fun o v => (HW.out.setCell hg _).alloc (by have := HW.out.size; simpa using this) _
  have WC : Hid (∀ v, ((w.setCell ⟨g, 0, none⟩ v).alloc (.cells #[str r, .int .u8 F.op, str F.name, .slice a n c, .slice b m d, .int .i64 lb, .slice s sn sc, .slice q qn qc] 53)).heap[w.heap.size]? = some (.cells #[str r, .int .u8 F.op, str F.name, .slice a n c, .slice b m d, .int .i64 lb, .slice s sn sc, .slice q qn qc] 53 (0, 0))) := fun v => by
    have h := heap_alloc_new (w.setCell ⟨g, 0, none⟩ v) (.cells #[str r, .int .u8 F.op, str F.name, .slice a n c, .slice b m d, .int .i64 lb, .slice s sn sc, .slice q qn qc] 53)
    rwa [World.size_setCell] at h
  clear hw hR hS
  go_enter Tryz.func87, Tryz.ntmps87
  go_wp2_with (first
    | (go_at_call 85; refine (HR.out _ (WB.out _ _)).mono ?_; rintro e w1 ⟨rfl, b1⟩; obtain ⟨x0, x1, x2, x3, x4, x5, x6, x7⟩ := row53' (kcw b1 (WC.out _)))
    | (go_at_call 162; refine (HS.out _).mono ?_; rintro e w2 ⟨rfl, b2⟩))
  go_ret
  exact ⟨rfl, belowThen (belowThen (WB.out _ _) b1) b2⟩
/-- describe.Proof where describable says no. -/
theorem Proof_no (a0 a1 a2 a3 a4 a5 a6 a7 : Value) (w : World) (h : ∀ w' g, Below w.heap.size w w' → w.heap.size ≤ g → LeftAt w' g 300 → Calls Tryz.prog 87 #[.agg #[a0, a1, a2, a3, a4, a5, a6, a7], .int .i64 0, .pointer (some ⟨g, 0, none⟩)] w' fun e w'' => e = .returned (.bool false) ∧ Below w.heap.size w w'') :
    Calls Tryz.prog 24 #[.agg #[a0, a1, a2, a3, a4, a5, a6, a7]] w fun e w' => e = .returned (.tuple #[.slice none 0 0, .int .i64 2]) ∧ Below w.heap.size w w' := by
  have H := Lib.hid h
  clear h
  have WB : Hid (Below w.heap.size w ((w.alloc (.cells #[a0, a1, a2, a3, a4, a5, a6, a7] 53)).alloc (.cells #[.int .i64 300] 3))) := ((Below.refl _ _).alloc (Nat.le_refl _) _).alloc (by simp) _
  have LF : Hid (LeftAt ((w.alloc (.cells #[a0, a1, a2, a3, a4, a5, a6, a7] 53)).alloc (.cells #[.int .i64 300] 3)) (w.heap.size + 1) 300) := ⟨by simp [go_sem], by simp [go_sem]⟩
  go_enter Tryz.func24, Tryz.ntmps24
  go_wp2_with (go_at_call 87; refine (H.out _ _ WB.out (by omega) LF.out).mono ?_; rintro e w1 ⟨rfl, b1⟩)
  exact bodyPost_ret (v := .tuple #[.slice none 0 0, .int .i64 2]) (by simp [results, Tryz.results24, go_sem]) rfl ⟨rfl, b1⟩
set_option maxRecDepth 4000 in
theorem Claim_bad (G : List Fm) (hG : ∀ g ∈ G, g.right = true) (f : Fm) (hf : f.ok = true) (hfn : f.nodes ≤ 398) (hfd : f.depth ≤ 39) (hlen : G.length ≤ 900) (x : Value) (w : World) (hr : RowsAt w) (hr15 : Row15At w) (hx : SqVal w G [badFm f] x) :
    Calls Tryz.prog 22 #[x] w fun e w' => e = .returned (.tuple #[str [], .int .i64 2]) ∧ Below w.heap.size w w' := by
  obtain ⟨a, k, c, a', m, d, rfl, h1, h2⟩ := hx
  have hk := h1.len
  have hm := h2.len
  have hkl : k ≤ 1000 := by omega
  obtain rfl : m = 1 := by simpa using hm.1
  have L1 := Lib.hid hk.1
  have HX := Lib.hid h1
  have HY := Lib.hid h2
  have HR := Lib.hid hr
  have HG := Lib.hid hG
  have HF := Lib.hid (And.intro hf (And.intro hfn hfd))
  have HR15 := Lib.hid hr15
  have HL := Lib.hid hlen
  clear hk hm h1 h2 hr hr15 hG hf hfn hfd hlen
  obtain ⟨i0, hi0, hz0, hs0, hb0⟩ := info_parts info9
  go_enter Tryz.func22, Tryz.ntmps22
  go_wp2_with fail
  have WB : Hid (Below w.heap.size w (w.alloc (.cells #[.slice a k c, .slice a' 1 d] 48))) := (Below.refl _ _).alloc (Nat.le_refl _) _
  have WK := Lib.hid (keeps1 w (.cells #[.slice a k c, .slice a' 1 d] 48))
  have E1 : Hid ((w.alloc (.cells #[.slice a k c, .slice a' 1 d] 48)).cell? ⟨w.heap.size, 1, none⟩ = some (.slice a' 1 d)) := by show _ = _; simp [go_sem]
  generalize hW : w.alloc (.cells #[.slice a k c, .slice a' 1 d] 48) = W0 at *
  have HX := Lib.hid (HX.out.keep WK.out)
  have HY := Lib.hid (HY.out.keep WK.out)
  have HR := Lib.hid (HR.out.keep WK.out)
  have HR15 := Lib.hid (HR15.out.keep WK.out)
  clear hW
  go_loopw [4, 12] (fun u i wr => ∃ j : Nat, j ≤ k ∧ i = .int .i64 j ∧ Hid (OwnStrs W0.heap.size wr ((G.take j).map (fun g => wGiven ++ g.text)) u ∧ Below W0.heap.size W0 wr)) (fun _ i _ => k - (intOf i).toNat)
  case atStart => exact ⟨0, Nat.zero_le _, rfl, World.ownsRow_nil _ _ _ _, Below.refl _ _⟩
  case round =>
    obtain ⟨j, hj, rfl, hr⟩ := hrel
    by_cases hlt : j < k
    · obtain ⟨T, hT⟩ := get_of_lt (l := G) (j := j) (by rw [← L1.out]; exact hlt)
      obtain ⟨b, off, rfl, hc⟩ := HX.out.get (ne_of_get hT)
      obtain ⟨x0, x1, x2, y0, y1, y2, hx⟩ := hc j _ hT
      have hK := keeps_of_below hr.out.2
      have c0 := hK _ _ hx.c0; have c1 := hK _ _ hx.c1; have c2 := hK _ _ hx.c2; have c3 := hK _ _ hx.c3
      have X := Lib.hid (hx.at_.keep hK)
      have Y := Lib.hid (hx.at'.keep hK)
      have RT := Lib.hid (HG.out T (List.mem_of_getElem? hT))
      have RW := Lib.hid (HR.out.keep hK)
      have OWN := Lib.hid hr.out.1
      have BLW := Lib.hid hr.out.2
      have hT := Lib.hid hT
      clear hc hx hK hr
      go_wp2_with fail
      refine (Right_yes T (.agg #[.int .u8 T.op, str T.name, .slice x0 x1 x2, .slice y0 y1 y2]) _ (RW.out.keep (keeps1 _ _)) ⟨_, _, _, _, _, _, rfl, X.out.keep (keeps1 _ _), Y.out.keep (keeps1 _ _)⟩ RT.out).mono ?_
      rintro e w1 ⟨rfl, b1⟩
      obtain ⟨hc1, hf1⟩ := bcell b1
      have B1 := Lib.hid b1
      have K1 : Hid (Keeps wr w1) := keeps_of_below (below1 b1)
      go_wp2_with fail
      refine (text_c T (ok_of_right RT.out) (len_of_right RT.out) _ _ _ _ _ _ _ (X.out.keep K1.out) (Y.out.keep K1.out)).mono ?_
      rintro e w2 ⟨rfl, b2⟩
      have B2 := Lib.hid (belowThen (below1 B1.out) b2)
      have TL := Lib.hid (right_len RT.out).2
      have tl : T.text.length ≤ 1000000 := by have := TL.out; omega
      have OWN2 := Lib.hid (OwnStrs.below OWN.out B2.out)
      have BL2 := Lib.hid (BLW.out.trans (B2.out.mono BLW.out.size))
      have M1 := Lib.hid (map_snoc (fun g : Fm => wGiven ++ g.text) hT.out)
      have LE : Hid (((G.take j).map (fun g : Fm => wGiven ++ g.text)).length ≤ 1000) := by show _ ≤ _; simp only [List.length_append, List.length_map, List.length_take]; have := L1.out; have := HL.out; omega
      have E2 : Hid ((G.take (j + 1)).map (fun g : Fm => wGiven ++ g.text) = ((G.take j).map (fun g : Fm => wGiven ++ g.text)) ++ [wGiven ++ T.text]) := by show _ = _; rw [M1.out]
      generalize (G.take j).map (fun g : Fm => wGiven ++ g.text) = M at *
      have C3 : Hid (M.length + 1 ≤ maxLen ∧ (M.length + 1) * 16 ≤ 140737488355328) := by
        have h1 := LE.out
        exact ⟨by unfold maxLen; omega, by omega⟩
      have C6 : Hid (W0.heap.size ≤ (w2.alloc (.cells #[.string (⟨#[103, 105, 118, 101, 110, 32]⟩ ++ ⟨T.text.toArray⟩)] 9)).heap.size) := by
        have := BL2.out.size; show _ ≤ _; simp; omega
      go_wp2_with (at_builtin; refine wpList_append_own _ rfl _ _ 36 rfl W0.heap.size 9 i0 (.string ⟨#[]⟩) 1 16 Tryz.underlying36 hi0 hz0 hs0 hb0 rfl (by decide) _ _ _ rfl (OWN2.out.alloc _) ⟨w2.heap.size, 0, none⟩ 1 1 [.string (⟨#[103, 105, 118, 101, 110, 32]⟩ ++ ⟨T.text.toArray⟩)] rfl rfl (cell_one_new _ _ _) (by intro u hu; simp at hu; subst hu; rfl) C3.out.1 C3.out.2 C6.out ?_)
      intro v' w3 hown2 hg2 _
      have R : Hid (OwnStrs W0.heap.size w3 ((G.take (j + 1)).map (fun g : Fm => wGiven ++ g.text)) v' ∧ Below W0.heap.size W0 w3) := by
        refine ⟨?_, (BL2.out.alloc BL2.out.size _).grown hg2 C6.out (fun kk hkk => (OWN2.out.lt kk hkk).1)⟩
        rw [E2.out]
        unfold OwnStrs
        rw [List.length_append, List.map_append]
        rw [str_app] at hown2
        exact hown2
      clear hown2 hg2
      go_wp2_with fail
      go_roundw
      case rel => exact ⟨j + 1, by omega, by go_num, R⟩
      case measure => simp [intOf]; omega
    · have e : G.take j = G := List.take_of_length_le (by rw [← L1.out]; omega)
      have HO : Hid (OwnStrs W0.heap.size wr (G.map (fun g => wGiven ++ g.text)) u4) := by have := hr.out.1; rw [e] at this; exact this
      have HB := Lib.hid hr.out.2
      have f1 := keeps_of_below hr.out.2 _ _ E1.out
      clear hr e
      go_wp2_with fail
      go_loopw [29] (fun i wr => i = .int .i64 0 ∧ Hid (Below W0.heap.size W0 wr)) (fun i _ => 1 - (intOf i).toNat)
      case atStart => exact ⟨rfl, HB.out⟩
      case round =>
        obtain ⟨rfl, hr⟩ := hrel
        obtain ⟨b, off, rfl, hc⟩ := HY.out.get (by simp)
        obtain ⟨x0, x1, x2, y0, y1, y2, hx⟩ := hc 0 _ rfl
        have hK := keeps_of_below hr.out
        have c0 := hK _ _ hx.c0; have c1 := hK _ _ hx.c1; have c2 := hK _ _ hx.c2; have c3 := hK _ _ hx.c3
        simp only [Nat.zero_mul, Nat.add_zero] at c0 c1 c2 c3
        have X := Lib.hid (hx.at_.keep hK)
        have Y := Lib.hid (hx.at'.keep hK)
        have RW := Lib.hid (HR.out.keep hK)
        have RW15 := Lib.hid (HR15.out.keep hK)
        have BLW := Lib.hid hr.out
        clear hc hx hK hr
        have RB : Hid (∀ o, Calls Tryz.prog 85 #[.agg #[.int .u8 (badFm f).op, str (badFm f).name, .slice x0 x1 x2, .slice y0 y1 y2]] (wr.alloc o) fun e w' => e = .returned (.bool false) ∧ Below (wr.alloc o).heap.size (wr.alloc o) w') := fun o =>
          Right_bad f HF.out.1 HF.out.2.1 HF.out.2.2 _ _ (RW.out.keep (keeps1 _ _)) (RW15.out.keep (keeps1 _ _)) ⟨_, _, _, _, _, _, rfl, X.out.keep (keeps1 _ _), Y.out.keep (keeps1 _ _)⟩
        go_wp2_with (go_at_call 85; refine (RB.out _).mono ?_; rintro e w1 ⟨rfl, b1⟩)
        exact bodyPost_ret (v := .tuple #[str [], .int .i64 2]) (by simp [results, Tryz.results22, go_sem]) rfl ⟨rfl, belowThen WB.out (belowThen BLW.out (below1 b1))⟩
end Go.Proofs.YtcandidgaegghaaGreatDoor
end
section
namespace Go.Proofs.YtcandidgaegghaaGreatDoor
open Go Go.RowKit Ly
set_option maxRecDepth 10000
set_option linter.unusedSimpArgs false
set_option linter.unusedVariables false
theorem row15_at {W : World} {L : List (String × DataW Unit)} (h : laidMet Tryz.prog L W) (hm : ("lyceum/syntax.rows", Rows.laid_lyceum_syntax_rows) ∈ L) : Row15At W := by
  obtain ⟨g, t, cs, fuel, p, hg, ht, hv, hd⟩ := Lib.laidMet.reads h hm
  obtain rfl := Option.some.inj (gRows.symm.trans hg)
  obtain rfl := Option.some.inj (gRowsT.symm.trans ht)
  have one : ∀ (i : Nat) (a b : Bool) (x y z : Int), i < 17 → (match (Rows.laid_lyceum_syntax_rows : DataW Unit) with | .agg ds => ds[i]? | _ => none) = some (.agg [.lit (.bool a), .lit (.bool b), .lit (.int .u8 x), .lit (.int .i64 y), .lit (.int .i64 z)]) →
      W.cell? ⟨0, i * 5, none⟩ = some (.bool a) ∧ W.cell? ⟨0, i * 5 + 1, none⟩ = some (.bool b) ∧ W.cell? ⟨0, i * 5 + 2, none⟩ = some (.int .u8 x) ∧ W.cell? ⟨0, i * 5 + 3, none⟩ = some (.int .i64 y) ∧ W.cell? ⟨0, i * 5 + 4, none⟩ = some (.int .i64 z) := by
    intro i a b x y z hi e
    obtain ⟨f', d, q, e2, hd'⟩ := Lib.array_elem Tryz.underlying265 hd i hi
    have : d = .agg [.lit (.bool a), .lit (.bool b), .lit (.int .u8 x), .lit (.int .i64 y), .lit (.int .i64 z)] := Option.some.inj (e2.symm.trans e)
    subst this
    rw [cells264] at hd'
    obtain ⟨k0, k1, k2, k3, k4⟩ := row_cells hd'
    have cell : ∀ (j : Nat) (v : Value), j < 5 → ((cs.toList.drop (i * 5)).take 5)[j]? = some v → W.cell? ⟨0, i * 5 + j, none⟩ = some v := by
      intro j v hj e
      rw [List.getElem?_take, if_pos hj, List.getElem?_drop] at e
      have := World.var?_cell hg hv (i * 5 + j)
      rw [this]
      simpa using e
    exact ⟨cell 0 _ (by omega) k0, cell 1 _ (by omega) k1, cell 2 _ (by omega) k2, cell 3 _ (by omega) k3, cell 4 _ (by omega) k4⟩
  exact one 15 _ _ _ _ _ (by decide) rfl
end Go.Proofs.YtcandidgaegghaaGreatDoor
end
