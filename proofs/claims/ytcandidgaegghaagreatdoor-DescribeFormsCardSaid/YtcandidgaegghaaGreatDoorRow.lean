/- From a describe law's row to its walk: slices of bytes that came in, what the law leaves of its arguments, a world for the witness. Conditions: none but those of each statement. -/
import Derived.Test.YtcandidgaegghaaGreatDoorRdG
import Derived.Test.YtcandidgaegghaaGreatDoorRows
import Derived.Lib.LaidU8
import Derived.ShapedOpen
import Derived.WalkKit
import Derived.ProofKit
import Derived.OpenShut
import Derived.Deep.DeepHandedRow
import Derived.Carry
import Derived.Shelf.Vars
import Derived.Test.YtcandidgaegghaaGreatDoorBuiltA
namespace Go.Proofs.YtcandidgaegghaaGreatDoor
open Go Go.RowKit Ly
set_option maxRecDepth 10000
set_option linter.unusedSimpArgs false
set_option linter.unusedVariables false
theorem cells264 : Tryz.prog.cellsOf 264 = 5 := by kernel_rfl
theorem cells4 : Tryz.prog.cellsOf 4 = 1 := by kernel_rfl
theorem cells5 : Tryz.prog.cellsOf 5 = 1 := by kernel_rfl
theorem cells3 : Tryz.prog.cellsOf 3 = 1 := by kernel_rfl
theorem gRows : Tryz.prog.globalNamed "lyceum/syntax.rows" = some 0 := by kernel_rfl
theorem gRowsT : (Tryz.prog.globals[0]?).map (·.type) = some 265 := by kernel_rfl
section
variable {H : Type} {enc : TypeId × Value → H} {w : World} {base : Nat} {sp : Nat → Bool} {held : Bool}
/-- A row of the table, cell for cell. -/
theorem row_cells {fuel : Nat} {cs : List Value} {a b : Bool} {x y z : Int} {p : List MemPlace} (h : DataW.trod enc Tryz.prog w base sp held fuel 264 cs = some (.agg [.lit (.bool a), .lit (.bool b), .lit (.int .u8 x), .lit (.int .i64 y), .lit (.int .i64 z)], p)) :
    cs[0]? = some (.bool a) ∧ cs[1]? = some (.bool b) ∧ cs[2]? = some (.int .u8 x) ∧ cs[3]? = some (.int .i64 y) ∧ cs[4]? = some (.int .i64 z) := by
  obtain ⟨xs, n, rfl, hx, hl, hxl, hall⟩ := DataW.trod_struct Tryz.underlying264 h
  have hxs : xs.map (·.1) = [.lit (.bool a), .lit (.bool b), .lit (.int .u8 x), .lit (.int .i64 y), .lit (.int .i64 z)] := by
    have := congrArg Prod.fst hx
    simpa using this.symm
  have get : ∀ (i : Nat) (d : DataW H), ([.lit (.bool a), .lit (.bool b), .lit (.int .u8 x), .lit (.int .i64 y), .lit (.int .i64 z)] : List (DataW H))[i]? = some d → ∃ q, xs[i]? = some (d, q) := by
    intro i d hd
    rw [← hxs, List.getElem?_map] at hd
    obtain ⟨⟨d', q⟩, e, rfl⟩ := Option.map_eq_some_iff.1 hd
    exact ⟨q, e⟩
  have at_ : ∀ (i : Nat) (v : Value), (cs.drop i).take 1 = [v] → cs[i]? = some v := by
    intro i v e
    have := congrArg (·[0]?) e
    simpa [List.getElem?_take, List.getElem?_drop] using this
  obtain ⟨q0, g0⟩ := get 0 _ rfl
  obtain ⟨q1, g1⟩ := get 1 _ rfl
  obtain ⟨q2, g2⟩ := get 2 _ rfl
  obtain ⟨q3, g3⟩ := get 3 _ rfl
  obtain ⟨q4, g4⟩ := get 4 _ rfl
  have h0 : DataW.trod enc Tryz.prog w base sp held n 4 ((cs.drop 0).take (Tryz.prog.cellsOf 4)) = _ := (hall 0 _ rfl).trans g0
  rw [cells4] at h0
  have h1 : DataW.trod enc Tryz.prog w base sp held n 4 ((cs.drop 1).take (Tryz.prog.cellsOf 4)) = _ := (hall 1 _ rfl).trans g1
  rw [cells4] at h1
  have h2 : DataW.trod enc Tryz.prog w base sp held n 5 ((cs.drop 2).take (Tryz.prog.cellsOf 5)) = _ := (hall 2 _ rfl).trans g2
  rw [cells5] at h2
  have h3 : DataW.trod enc Tryz.prog w base sp held n 3 ((cs.drop 3).take (Tryz.prog.cellsOf 3)) = _ := (hall 3 _ rfl).trans g3
  rw [cells3] at h3
  have h4 : DataW.trod enc Tryz.prog w base sp held n 3 ((cs.drop 4).take (Tryz.prog.cellsOf 3)) = _ := (hall 4 _ rfl).trans g4
  rw [cells3] at h4
  obtain ⟨v0, e0, k0⟩ := DataW.trod_bool Tryz.underlying4 h0
  obtain ⟨v1, e1, k1⟩ := DataW.trod_bool Tryz.underlying4 h1
  obtain ⟨v2, e2, k2, _⟩ := DataW.trod_int Tryz.underlying5 h2
  obtain ⟨v3, e3, k3, _⟩ := DataW.trod_int Tryz.underlying3 h3
  obtain ⟨v4, e4, k4, _⟩ := DataW.trod_int Tryz.underlying3 h4
  cases k0; cases k1; cases k2; cases k3; cases k4
  exact ⟨at_ 0 _ e0, at_ 1 _ e1, at_ 2 _ e2, at_ 3 _ e3, at_ 4 _ e4⟩
end
theorem rows_at {W : World} {L : List (String × DataW Unit)} (h : laidMet Tryz.prog L W) (hm : ("lyceum/syntax.rows", Rows.laid_lyceum_syntax_rows) ∈ L) : RowsAt W := by
  obtain ⟨g, t, cs, fuel, p, hg, ht, hv, hd⟩ := Lib.laidMet.reads h hm
  obtain rfl := Option.some.inj (gRows.symm.trans hg)
  obtain rfl := Option.some.inj (gRowsT.symm.trans ht)
  have one : ∀ (i : Nat) (a b : Bool) (x y z : Int), i < 17 → (match (Rows.laid_lyceum_syntax_rows : DataW Unit) with | .agg ds => ds[i]? | _ => none) = some (.agg [.lit (.bool a), .lit (.bool b), .lit (.int .u8 x), .lit (.int .i64 y), .lit (.int .i64 z)]) →
      W.cell? ⟨0, i * 5, none⟩ = some (.bool a) ∧ W.cell? ⟨0, i * 5 + 1, none⟩ = some (.bool b) ∧ W.cell? ⟨0, i * 5 + 2, none⟩ = some (.int .u8 x) ∧ W.cell? ⟨0, i * 5 + 3, none⟩ = some (.int .i64 y) ∧ W.cell? ⟨0, i * 5 + 4, none⟩ = some (.int .i64 z) := by
    intro i a b x y z hi e
    obtain ⟨f', d, q, e2, hd'⟩ := Lib.array_elem Tryz.underlying265 hd i hi
    have : d = .agg [.lit (.bool a), .lit (.bool b), .lit (.int .u8 x), .lit (.int .i64 y), .lit (.int .i64 z)] := Option.some.inj (e2.symm.trans e)
    subst this
    rw [cells264] at hd'
    obtain ⟨k0, k1, k2, k3, k4⟩ := row_cells hd'
    have cell : ∀ (j : Nat) (v : Value), j < 5 → ((cs.toList.drop (i * 5)).take 5)[j]? = some v → W.cell? ⟨0, i * 5 + j, none⟩ = some v := by
      intro j v hj e
      rw [List.getElem?_take, if_pos hj, List.getElem?_drop] at e
      have := World.var?_cell hg hv (i * 5 + j)
      rw [this]
      simpa using e
    exact ⟨cell 0 _ (by omega) k0, cell 1 _ (by omega) k1, cell 2 _ (by omega) k2, cell 3 _ (by omega) k3, cell 4 _ (by omega) k4⟩
  intro op h1 h2
  rcases (show op = 1 ∨ op = 2 ∨ op = 3 ∨ op = 4 ∨ op = 5 ∨ op = 6 ∨ op = 7 ∨ op = 8 ∨ op = 9 ∨ op = 10 ∨ op = 11 ∨ op = 12 ∨ op = 13 ∨ op = 14 by omega) with rfl | rfl | rfl | rfl | rfl | rfl | rfl | rfl | rfl | rfl | rfl | rfl | rfl | rfl
  all_goals exact one _ _ _ _ _ _ (by decide) rfl
theorem gPow : Tryz.prog.globalNamed "internal/strconv.uint64pow10" = some 4 := by kernel_rfl
theorem pow_at {W : World} {L : List (String × DataW Unit)} (h : laidMet Tryz.prog L W) (hm : ("internal/strconv.uint64pow10", Rows.laid_internal_strconv_uint64pow10) ∈ L) {t : TypeId} (hty : (Tryz.prog.globals[4]?).map (·.type) = some t) (hu : Tryz.prog.underlying t = some (.array 20 234)) (hct : Tryz.prog.cellsOf t = 20) : PowAt W := by
  obtain ⟨g, t', cs, fuel, p, hg, ht, hv, hd⟩ := Lib.laidMet.reads h hm
  obtain rfl := Option.some.inj (gPow.symm.trans hg)
  obtain rfl := Option.some.inj (hty.symm.trans ht)
  have e : (Rows.laid_internal_strconv_uint64pow10 : DataW Unit) = Lib.tabData .u64 Lib.pow10Tab := rfl
  rw [e] at hd
  unfold PowAt Lib.TabIs
  rw [hv, ← Lib.cells_of_tab hu Tryz.underlying234 (by kernel_rfl) hct hd]
end Go.Proofs.YtcandidgaegghaaGreatDoor
namespace Go.Proofs.YtcandidgaegghaaGreatDoor
open Go Go.ChangeShapes Go.WideShapes Go.ChangeAt Go.RowKit Ly
set_option maxRecDepth 10000
set_option linter.unusedSimpArgs false
set_option linter.unusedVariables false
theorem max_at {W : World} (h : W.ShapedOpen Tryz.prog) : MaxAt W :=
  Go.Proofs.cell_of_shapedOpen_int (g := 1) (zero := #[.int .i64 0]) (t := 3) h (of_decide_eq_true (by kernel_rfl)) (by kernel_rfl) rfl (by kernel_rfl) (by kernel_rfl) Tryz.underlying3
section
variable {H : Type} {enc : TypeId × Value → H}
/-- A slice of bytes that came in: the bytes that it holds. -/
theorem bts_of {W : World} {base : Nat} {v : Value} {d : DataW H} {p : List MemPlace} (hval : Value.okWide Tryz.prog W .any base 43 v) (h : DataW.Trod enc Tryz.prog W 0 (fun _ => true) true 43 v d p) : ∃ (l : Bs) (a : Option Addr) (n c : Nat), v = .slice a n c ∧ BtsAt W l (.slice a n c) := by
  obtain ⟨a, len, cap, rfl⟩ := okWide_slice Tryz.underlying43 hval
  obtain ⟨fuel, hf⟩ := h
  rcases open_ints Tryz.underlying43 Tryz.underlying5 cells5 hf with ⟨hcs, hx⟩ | ⟨ad, len', cap', zs, hcs, _, hl, hm, hz, hx, hcell, hwz⟩
  · simp [Value.cells] at hcs
    obtain ⟨rfl, rfl, rfl⟩ := hcs
    exact ⟨[], _, _, _, rfl, At.sl_nil (Nat.zero_le _)⟩
  · simp [Value.cells] at hcs
    obtain ⟨rfl, rfl, rfl⟩ := hcs
    simp only [if_true] at hz
    have hlen : ((zs.take len).map fun n => UInt8.ofNat n.toNat).length = len := by simp; omega
    refine ⟨(zs.take len).map fun n => UInt8.ofNat n.toNat, _, _, _, rfl, ?_⟩
    unfold BtsAt
    rw [hlen]
    rcases Nat.eq_zero_or_pos len with h0 | h0
    · subst h0
      rw [List.take_zero]
      exact At.sl_nil hm
    · obtain ⟨ab, ao, spot⟩ := ad
      have hspot : spot = none := by simpa [Addr.add] using World.cell?_spot (hcell 0 (by omega))
      subst hspot
      refine At.sl_mk (by rw [List.length_map, hlen]; omega) hl hm fun j dd hd => ?_
      rw [List.getElem?_map, List.getElem?_map, List.getElem?_take] at hd
      obtain ⟨x, hx1, rfl⟩ := Option.map_eq_some_iff.1 hd
      obtain ⟨z, hz1, rfl⟩ := Option.map_eq_some_iff.1 hx1
      split at hz1
      · have hj := (List.getElem?_eq_some_iff.1 hz1).1
        have hcj := hcell j hj
        have hb := range_u8 hwz j
        rw [hz1, Option.getD_some] at hb
        rw [List.getD_eq_getElem?_getD, hz1, Option.getD_some, Addr.add_lit] at hcj
        refine ⟨_, hcj, ?_⟩
        show Value.int .u8 z = .int .u8 ((UInt8.ofNat z.toNat).toNat : Int)
        congr 1
        simp only [UInt8.toNat_ofNat']
        omega
      · cases hz1
/-- The arguments read as they did, one after the other. -/
theorem args_stay {W W' : World} {sp : Nat → Bool} : ∀ {ts : List TypeId} {vs : List Value} {ds : List (DataW H)} {ps : List MemPlace}, (∀ t ∈ ts, Tryz.prog.readableRec t = true ∧ t < Tryz.prog.types.size) →
    DataW.TrodAll enc Tryz.prog W 0 (fun _ => true) true ts vs ds ps → (∀ x ∈ ps, W.sameAt W' x) → (∀ x ∈ ps, sp x.block = true) → DataW.TrodAll enc Tryz.prog W' 0 sp true ts vs ds ps
  | [], [], [], _, _, h, _, _ => h
  | t :: _, _ :: _, _ :: _, _, hT, ⟨p, q, h1, h2, e⟩, hs, hp =>
    ⟨p, q, WideElems.Trod_stays (by kernel_rfl) (hT t (List.mem_cons.2 (.inl rfl))).1 (hT t (List.mem_cons.2 (.inl rfl))).2 h1 (fun x hx => hs x (by rw [e]; exact List.mem_append_left _ hx)) (fun x hx => hp x (by rw [e]; exact List.mem_append_left _ hx)),
     args_stay (fun u hu => hT u (List.mem_cons.2 (.inr hu))) h2 (fun x hx => hs x (by rw [e]; exact List.mem_append_right _ hx)) (fun x hx => hp x (by rw [e]; exact List.mem_append_right _ hx)), e⟩
/-- A law that answered true, and wrote nothing that was there: its specification's post. -/
theorem law_post {f : Func} {s : ChangeSpec} {apart fresh handsOn again : Bool} {W W' : World} {args : Array Value} {ds gs : List (DataW H)} {before : List MemPlace}
    (hT : ∀ t ∈ f.params.toList, Tryz.prog.readableRec t = true ∧ t < Tryz.prog.types.size) (hres : f.resultTypes = #[4]) (hvars : s.vars = []) (hfn : s.fn H ds = { results := [.lit (.bool true)], args := ds })
    (hW : DataW.Whole enc Tryz.prog f.params.toList s.vars apart W args.toList ds gs before) (hb : Below W.heap.size W W') : s.post enc Tryz.prog f apart fresh handsOn again W args (.bool true) W' := by
  have hW0 := hW
  obtain ⟨p, q, hA, hV, hpq, hz, hn⟩ := hW
  have hgs : gs = [] ∧ q = [] := by rw [hvars] at hV; exact trodVars_none hV
  obtain ⟨rfl, rfl⟩ := hgs
  have hpp : before = p ++ [] := hpq
  have hp : before = p := by rw [hpp, List.append_nil]
  have hlt : ∀ x ∈ before, x.block < W.heap.size := fun x hx => hW0.lt x hx
  have hfn : s.fn H (ds ++ []) = { results := [.lit (.bool true)], args := ds } := by rw [List.append_nil]; exact hfn
  have stay : ∀ sp : Nat → Bool, (∀ x ∈ before, sp x.block = true) → DataW.TrodAll enc Tryz.prog W' 0 sp true f.params.toList args.toList (s.fn H (ds ++ [])).args before := fun sp hsp => by
    rw [hfn]
    rw [← hp] at hA
    exact args_stay hT hA (fun x hx => hb.same (hlt x hx)) hsp
  have res : ∀ (b : Nat) (sp : Nat → Bool) (hd : Bool), DataW.TrodAll enc Tryz.prog W' b sp hd f.resultTypes.toList ((Value.bool true).resultList f.resultTypes.size) (s.fn H (ds ++ [])).results [] := fun b sp hd => by
    rw [hfn, hres]
    exact trodAll_cons_mk (shut_bool Tryz.underlying4 _) trodAll_mk0
  have vars : ∀ sp : Nat → Bool, DataW.TrodVars enc Tryz.prog W' sp s.vars (s.fn H (ds ++ [])).vars [] := fun sp => by
    rw [hvars, hfn]; rfl
  refine ⟨ds, [], before, [], before, [], hW0, res _ _ _, stay _ (fun x hx => by simpa using hlt x hx), vars _, World.keptBut_mono (fun x hx => ⟨hx, .inr (by simpa using hx)⟩) (hb.frame (· ∈ before)), fun _ => ?_⟩
  refine ⟨ok_one hres rfl (okWide_bool_mk Tryz.underlying4 _), _, _, ([] ++ before) ++ [], ⟨[] ++ before, [], trodAll_append (stay _ (fun _ _ => rfl)) (res _ _ _), vars _, rfl, fun b off hx => ?_, fun ha => ?_⟩, fun x hx _ => ?_⟩
  · have hin : MemPlace.cell b off ∈ before := by simpa using hx
    rw [hb.frozen (hlt _ hin)]
    exact hz b off hin
  · simpa using hn ha
  · simpa using hx
end
end Go.Proofs.YtcandidgaegghaaGreatDoor
