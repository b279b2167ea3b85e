/- From a describe law's row to its walk: slices of bytes that came in, what the law leaves of its arguments, a world for the witness. Conditions: none but those of each statement. A range over an iterator that keeps its place in a cell of its own (strings.SplitSeq): the law of such a loop, outermost or within a round. Conditions: those of each statement. -/
import Derived.Test.YtcandidgaegghaaGreatDoorRdGZ
import Derived.Test.YtcandidgaegghaaGreatDoorRows
import Derived.Lib.LaidU8
import Derived.ShapedOpen
import Derived.WalkKit
import Derived.ProofKit
import Derived.OpenShut
import Derived.Deep.DeepHandedRow
import Derived.Carry
import Derived.Shelf.Vars
import Derived.Test.YtcandidgaegghaaGreatDoorBuiltAZ
import Derived.RangeFuncNested
import Derived.OrdersIn
import Derived.Deep.RegionHeld
import Derived.Test.YtcandidgaegghaaGreatDoorProg
section
namespace Go.Proofs.YtcandidgaegghaaGreatDoor
open Go Go.RowKit Ly
set_option maxRecDepth 10000
set_option linter.unusedSimpArgs false
set_option linter.unusedVariables false
theorem cells264 : Tryz.prog.cellsOf 264 = 5 := by kernel_rfl
theorem cells4 : Tryz.prog.cellsOf 4 = 1 := by kernel_rfl
theorem cells5 : Tryz.prog.cellsOf 5 = 1 := by kernel_rfl
theorem cells3 : Tryz.prog.cellsOf 3 = 1 := by kernel_rfl
theorem gRows : Tryz.prog.globalNamed "lyceum/syntax.rows" = some 0 := by kernel_rfl
theorem gRowsT : (Tryz.prog.globals[0]?).map (·.type) = some 265 := by kernel_rfl
section
variable {H : Type} {enc : TypeId × Value → H} {w : World} {base : Nat} {sp : Nat → Bool} {held : Bool}
/-- A row of the table, cell for cell. -/
theorem row_cells {fuel : Nat} {cs : List Value} {a b : Bool} {x y z : Int} {p : List MemPlace} (h : DataW.trod enc Tryz.prog w base sp held fuel 264 cs = some (.agg [.lit (.bool a), .lit (.bool b), .lit (.int .u8 x), .lit (.int .i64 y), .lit (.int .i64 z)], p)) :
    cs[0]? = some (.bool a) ∧ cs[1]? = some (.bool b) ∧ cs[2]? = some (.int .u8 x) ∧ cs[3]? = some (.int .i64 y) ∧ cs[4]? = some (.int .i64 z) := by
  obtain ⟨xs, n, rfl, hx, hl, hxl, hall⟩ := DataW.trod_struct Tryz.underlying264 h
  have hxs : xs.map (·.1) = [.lit (.bool a), .lit (.bool b), .lit (.int .u8 x), .lit (.int .i64 y), .lit (.int .i64 z)] := by
    have := congrArg Prod.fst hx
    simpa using this.symm
  have get : ∀ (i : Nat) (d : DataW H), ([.lit (.bool a), .lit (.bool b), .lit (.int .u8 x), .lit (.int .i64 y), .lit (.int .i64 z)] : List (DataW H))[i]? = some d → ∃ q, xs[i]? = some (d, q) := by
    intro i d hd
    rw [← hxs, List.getElem?_map] at hd
    obtain ⟨⟨d', q⟩, e, rfl⟩ := Option.map_eq_some_iff.1 hd
    exact ⟨q, e⟩
  have at_ : ∀ (i : Nat) (v : Value), (cs.drop i).take 1 = [v] → cs[i]? = some v := by
    intro i v e
    have := congrArg (·[0]?) e
    simpa [List.getElem?_take, List.getElem?_drop] using this
  obtain ⟨q0, g0⟩ := get 0 _ rfl
  obtain ⟨q1, g1⟩ := get 1 _ rfl
  obtain ⟨q2, g2⟩ := get 2 _ rfl
  obtain ⟨q3, g3⟩ := get 3 _ rfl
  obtain ⟨q4, g4⟩ := get 4 _ rfl
  have h0 : DataW.trod enc Tryz.prog w base sp held n 4 ((cs.drop 0).take (Tryz.prog.cellsOf 4)) = _ := (hall 0 _ rfl).trans g0
  rw [cells4] at h0
  have h1 : DataW.trod enc Tryz.prog w base sp held n 4 ((cs.drop 1).take (Tryz.prog.cellsOf 4)) = _ := (hall 1 _ rfl).trans g1
  rw [cells4] at h1
  have h2 : DataW.trod enc Tryz.prog w base sp held n 5 ((cs.drop 2).take (Tryz.prog.cellsOf 5)) = _ := (hall 2 _ rfl).trans g2
  rw [cells5] at h2
  have h3 : DataW.trod enc Tryz.prog w base sp held n 3 ((cs.drop 3).take (Tryz.prog.cellsOf 3)) = _ := (hall 3 _ rfl).trans g3
  rw [cells3] at h3
  have h4 : DataW.trod enc Tryz.prog w base sp held n 3 ((cs.drop 4).take (Tryz.prog.cellsOf 3)) = _ := (hall 4 _ rfl).trans g4
  rw [cells3] at h4
  obtain ⟨v0, e0, k0⟩ := DataW.trod_bool Tryz.underlying4 h0
  obtain ⟨v1, e1, k1⟩ := DataW.trod_bool Tryz.underlying4 h1
  obtain ⟨v2, e2, k2, _⟩ := DataW.trod_int Tryz.underlying5 h2
  obtain ⟨v3, e3, k3, _⟩ := DataW.trod_int Tryz.underlying3 h3
  obtain ⟨v4, e4, k4, _⟩ := DataW.trod_int Tryz.underlying3 h4
  cases k0; cases k1; cases k2; cases k3; cases k4
  exact ⟨at_ 0 _ e0, at_ 1 _ e1, at_ 2 _ e2, at_ 3 _ e3, at_ 4 _ e4⟩
end
theorem rows_at {W : World} {L : List (String × DataW Unit)} (h : laidMet Tryz.prog L W) (hm : ("lyceum/syntax.rows", Rows.laid_lyceum_syntax_rows) ∈ L) : RowsAt W := by
  obtain ⟨g, t, cs, fuel, p, hg, ht, hv, hd⟩ := Lib.laidMet.reads h hm
  obtain rfl := Option.some.inj (gRows.symm.trans hg)
  obtain rfl := Option.some.inj (gRowsT.symm.trans ht)
  have one : ∀ (i : Nat) (a b : Bool) (x y z : Int), i < 17 → (match (Rows.laid_lyceum_syntax_rows : DataW Unit) with | .agg ds => ds[i]? | _ => none) = some (.agg [.lit (.bool a), .lit (.bool b), .lit (.int .u8 x), .lit (.int .i64 y), .lit (.int .i64 z)]) →
      W.cell? ⟨0, i * 5, none⟩ = some (.bool a) ∧ W.cell? ⟨0, i * 5 + 1, none⟩ = some (.bool b) ∧ W.cell? ⟨0, i * 5 + 2, none⟩ = some (.int .u8 x) ∧ W.cell? ⟨0, i * 5 + 3, none⟩ = some (.int .i64 y) ∧ W.cell? ⟨0, i * 5 + 4, none⟩ = some (.int .i64 z) := by
    intro i a b x y z hi e
    obtain ⟨f', d, q, e2, hd'⟩ := Lib.array_elem Tryz.underlying265 hd i hi
    have : d = .agg [.lit (.bool a), .lit (.bool b), .lit (.int .u8 x), .lit (.int .i64 y), .lit (.int .i64 z)] := Option.some.inj (e2.symm.trans e)
    subst this
    rw [cells264] at hd'
    obtain ⟨k0, k1, k2, k3, k4⟩ := row_cells hd'
    have cell : ∀ (j : Nat) (v : Value), j < 5 → ((cs.toList.drop (i * 5)).take 5)[j]? = some v → W.cell? ⟨0, i * 5 + j, none⟩ = some v := by
      intro j v hj e
      rw [List.getElem?_take, if_pos hj, List.getElem?_drop] at e
      have := World.var?_cell hg hv (i * 5 + j)
      rw [this]
      simpa using e
    exact ⟨cell 0 _ (by omega) k0, cell 1 _ (by omega) k1, cell 2 _ (by omega) k2, cell 3 _ (by omega) k3, cell 4 _ (by omega) k4⟩
  intro op h1 h2
  rcases (show op = 1 ∨ op = 2 ∨ op = 3 ∨ op = 4 ∨ op = 5 ∨ op = 6 ∨ op = 7 ∨ op = 8 ∨ op = 9 ∨ op = 10 ∨ op = 11 ∨ op = 12 ∨ op = 13 ∨ op = 14 by omega) with rfl | rfl | rfl | rfl | rfl | rfl | rfl | rfl | rfl | rfl | rfl | rfl | rfl | rfl
  all_goals exact one _ _ _ _ _ _ (by decide) rfl
theorem gPow : Tryz.prog.globalNamed "internal/strconv.uint64pow10" = some 4 := by kernel_rfl
theorem pow_at {W : World} {L : List (String × DataW Unit)} (h : laidMet Tryz.prog L W) (hm : ("internal/strconv.uint64pow10", Rows.laid_internal_strconv_uint64pow10) ∈ L) {t : TypeId} (hty : (Tryz.prog.globals[4]?).map (·.type) = some t) (hu : Tryz.prog.underlying t = some (.array 20 234)) (hct : Tryz.prog.cellsOf t = 20) : PowAt W := by
  obtain ⟨g, t', cs, fuel, p, hg, ht, hv, hd⟩ := Lib.laidMet.reads h hm
  obtain rfl := Option.some.inj (gPow.symm.trans hg)
  obtain rfl := Option.some.inj (hty.symm.trans ht)
  have e : (Rows.laid_internal_strconv_uint64pow10 : DataW Unit) = Lib.tabData .u64 Lib.pow10Tab := rfl
  rw [e] at hd
  unfold PowAt Lib.TabIs
  rw [hv, ← Lib.cells_of_tab hu Tryz.underlying234 (by kernel_rfl) hct hd]
end Go.Proofs.YtcandidgaegghaaGreatDoor
namespace Go.Proofs.YtcandidgaegghaaGreatDoor
open Go Go.ChangeShapes Go.WideShapes Go.ChangeAt Go.RowKit Ly
set_option maxRecDepth 10000
set_option linter.unusedSimpArgs false
set_option linter.unusedVariables false
theorem max_at {W : World} (h : W.ShapedOpen Tryz.prog) : MaxAt W :=
  Go.Proofs.cell_of_shapedOpen_int (g := 1) (zero := #[.int .i64 0]) (t := 3) h (of_decide_eq_true (by kernel_rfl)) (by kernel_rfl) rfl (by kernel_rfl) (by kernel_rfl) Tryz.underlying3
section
variable {H : Type} {enc : TypeId × Value → H}
/-- A slice of bytes that came in: the bytes that it holds. -/
theorem bts_of {W : World} {base : Nat} {v : Value} {d : DataW H} {p : List MemPlace} (hval : Value.okWide Tryz.prog W .any base 43 v) (h : DataW.Trod enc Tryz.prog W 0 (fun _ => true) true 43 v d p) : ∃ (l : Bs) (a : Option Addr) (n c : Nat), v = .slice a n c ∧ BtsAt W l (.slice a n c) := by
  obtain ⟨a, len, cap, rfl⟩ := okWide_slice Tryz.underlying43 hval
  obtain ⟨fuel, hf⟩ := h
  rcases open_ints Tryz.underlying43 Tryz.underlying5 cells5 hf with ⟨hcs, hx⟩ | ⟨ad, len', cap', zs, hcs, _, hl, hm, hz, hx, hcell, hwz⟩
  · simp [Value.cells] at hcs
    obtain ⟨rfl, rfl, rfl⟩ := hcs
    exact ⟨[], _, _, _, rfl, At.sl_nil (Nat.zero_le _)⟩
  · simp [Value.cells] at hcs
    obtain ⟨rfl, rfl, rfl⟩ := hcs
    simp only [if_true] at hz
    have hlen : ((zs.take len).map fun n => UInt8.ofNat n.toNat).length = len := by simp; omega
    refine ⟨(zs.take len).map fun n => UInt8.ofNat n.toNat, _, _, _, rfl, ?_⟩
    unfold BtsAt
    rw [hlen]
    rcases Nat.eq_zero_or_pos len with h0 | h0
    · subst h0
      rw [List.take_zero]
      exact At.sl_nil hm
    · obtain ⟨ab, ao, spot⟩ := ad
      have hspot : spot = none := by simpa [Addr.add] using World.cell?_spot (hcell 0 (by omega))
      subst hspot
      refine At.sl_mk (by rw [List.length_map, hlen]; omega) hl hm fun j dd hd => ?_
      rw [List.getElem?_map, List.getElem?_map, List.getElem?_take] at hd
      obtain ⟨x, hx1, rfl⟩ := Option.map_eq_some_iff.1 hd
      obtain ⟨z, hz1, rfl⟩ := Option.map_eq_some_iff.1 hx1
      split at hz1
      · have hj := (List.getElem?_eq_some_iff.1 hz1).1
        have hcj := hcell j hj
        have hb := range_u8 hwz j
        rw [hz1, Option.getD_some] at hb
        rw [List.getD_eq_getElem?_getD, hz1, Option.getD_some, Addr.add_lit] at hcj
        refine ⟨_, hcj, ?_⟩
        show Value.int .u8 z = .int .u8 ((UInt8.ofNat z.toNat).toNat : Int)
        congr 1
        simp only [UInt8.toNat_ofNat']
        omega
      · cases hz1
/-- The arguments read as they did, one after the other. -/
theorem args_stay {W W' : World} {sp : Nat → Bool} : ∀ {ts : List TypeId} {vs : List Value} {ds : List (DataW H)} {ps : List MemPlace}, (∀ t ∈ ts, Tryz.prog.readableRec t = true ∧ t < Tryz.prog.types.size) →
    DataW.TrodAll enc Tryz.prog W 0 (fun _ => true) true ts vs ds ps → (∀ x ∈ ps, W.sameAt W' x) → (∀ x ∈ ps, sp x.block = true) → DataW.TrodAll enc Tryz.prog W' 0 sp true ts vs ds ps
  | [], [], [], _, _, h, _, _ => h
  | t :: _, _ :: _, _ :: _, _, hT, ⟨p, q, h1, h2, e⟩, hs, hp =>
    ⟨p, q, WideElems.Trod_stays (by kernel_rfl) (hT t (List.mem_cons.2 (.inl rfl))).1 (hT t (List.mem_cons.2 (.inl rfl))).2 h1 (fun x hx => hs x (by rw [e]; exact List.mem_append_left _ hx)) (fun x hx => hp x (by rw [e]; exact List.mem_append_left _ hx)),
     args_stay (fun u hu => hT u (List.mem_cons.2 (.inr hu))) h2 (fun x hx => hs x (by rw [e]; exact List.mem_append_right _ hx)) (fun x hx => hp x (by rw [e]; exact List.mem_append_right _ hx)), e⟩
/-- A law that answered true, and wrote nothing that was there: its specification's post. -/
theorem law_post {f : Func} {s : ChangeSpec} {apart fresh handsOn again : Bool} {W W' : World} {args : Array Value} {ds gs : List (DataW H)} {before : List MemPlace}
    (hT : ∀ t ∈ f.params.toList, Tryz.prog.readableRec t = true ∧ t < Tryz.prog.types.size) (hres : f.resultTypes = #[4]) (hvars : s.vars = []) (hfn : s.fn H ds = { results := [.lit (.bool true)], args := ds })
    (hW : DataW.Whole enc Tryz.prog f.params.toList s.vars apart W args.toList ds gs before) (hb : Below W.heap.size W W') : s.post enc Tryz.prog f apart fresh handsOn again W args (.bool true) W' := by
  have hW0 := hW
  obtain ⟨p, q, hA, hV, hpq, hz, hn⟩ := hW
  have hgs : gs = [] ∧ q = [] := by rw [hvars] at hV; exact trodVars_none hV
  obtain ⟨rfl, rfl⟩ := hgs
  have hpp : before = p ++ [] := hpq
  have hp : before = p := by rw [hpp, List.append_nil]
  have hlt : ∀ x ∈ before, x.block < W.heap.size := fun x hx => hW0.lt x hx
  have hfn : s.fn H (ds ++ []) = { results := [.lit (.bool true)], args := ds } := by rw [List.append_nil]; exact hfn
  have stay : ∀ sp : Nat → Bool, (∀ x ∈ before, sp x.block = true) → DataW.TrodAll enc Tryz.prog W' 0 sp true f.params.toList args.toList (s.fn H (ds ++ [])).args before := fun sp hsp => by
    rw [hfn]
    rw [← hp] at hA
    exact args_stay hT hA (fun x hx => hb.same (hlt x hx)) hsp
  have res : ∀ (b : Nat) (sp : Nat → Bool) (hd : Bool), DataW.TrodAll enc Tryz.prog W' b sp hd f.resultTypes.toList ((Value.bool true).resultList f.resultTypes.size) (s.fn H (ds ++ [])).results [] := fun b sp hd => by
    rw [hfn, hres]
    exact trodAll_cons_mk (shut_bool Tryz.underlying4 _) trodAll_mk0
  have vars : ∀ sp : Nat → Bool, DataW.TrodVars enc Tryz.prog W' sp s.vars (s.fn H (ds ++ [])).vars [] := fun sp => by
    rw [hvars, hfn]; rfl
  refine ⟨ds, [], before, [], before, [], hW0, res _ _ _, stay _ (fun x hx => by simpa using hlt x hx), vars _, World.keptBut_mono (fun x hx => ⟨hx, .inr (by simpa using hx)⟩) (hb.frame (· ∈ before)), fun _ => ?_⟩
  refine ⟨ok_one hres rfl (okWide_bool_mk Tryz.underlying4 _), _, _, ([] ++ before) ++ [], ⟨[] ++ before, [], trodAll_append (stay _ (fun _ _ => rfl)) (res _ _ _), vars _, rfl, fun b off hx => ?_, fun ha => ?_⟩, fun x hx _ => ?_⟩
  · have hin : MemPlace.cell b off ∈ before := by simpa using hx
    rw [hb.frozen (hlt _ hin)]
    exact hz b off hin
  · simpa using hn ha
  · simpa using hx
end
end Go.Proofs.YtcandidgaegghaaGreatDoor
end
section
namespace Go.Proofs.YtcandidgaegghaaGreatDoor
open Go Go.RowKit
set_option maxRecDepth 10000
set_option linter.unusedSimpArgs false
set_option linter.unusedVariables false
/-- What does not mind growth, a turn of block c, nor a turn of a block from B on that holds no cells. -/
def Lets {β : Type} (B c : Nat) (I : β → World → Prop) : Prop :=
  ∀ s A X row, I s A → A.grownBy X row → (∀ r, row = some r → r = c ∨ (B ≤ r ∧ ∃ o : Obj, A.heap[r]? = some o ∧ o.isCells = false)) → I s X
theorem Lets.put {β : Type} {B c : Nat} {I : β → World → Prop} (h : Lets B c I) {s : β} {W : World} {r : Nat} {o : Obj} (o' : Obj) (hs : I s W) (hB : B ≤ r) (hr : W.heap[r]? = some o) (ho : o.isCells = false) : I s (W.putObj r o') :=
  h s W _ (some r) hs (grownBy_putObj' W r o') (fun q e => by cases e; exact .inr ⟨hB, o, hr, ho⟩)
theorem Lets.new {β : Type} {B c : Nat} {I : β → World → Prop} (h : Lets B c I) {s : β} {W : World} (o : Obj) (hs : I s W) : I s (W.alloc o) :=
  h s W _ none hs (World.grownBy_alloc W o none) (fun r e => by cases e)
/-- The contract of an iterator over the list l: it may turn its own cell c, a round keeps Kp for it. -/
def SeqCell {α : Type} (F : Fence) (n : Nat) (P : Program) (g : Nat) (lb : Array Value) (enc : α → Value) (c : Nat) (Kp : World → World → Prop) (l : List α) (w0 : World) : Prop :=
  ∀ (r : Nat) (J Jx : List α → World → Prop) (W : World), Below w0.heap.size w0 W → (∀ s A X, J s A → A.grownBy X (some c) → J s X) →
    (∀ pre x W1, J pre W1 → pre ++ [x] <+: l → YieldAt F (n - 1) P r #[enc x] W1 fun e W' => (e = .returned (.bool true) ∧ J (pre ++ [x]) W' ∧ Kp W1 W') ∨ (e = .returned (.bool false) ∧ Jx (pre ++ [x]) W')) →
    J [] W → CallsIn F n P g (#[.func (.yield r) #[] #[]] ++ lb) W fun e W' => (∃ v, e = .returned v) ∧ (J l W' ∨ ∃ pre, pre <+: l ∧ Jx pre W')
theorem grownBy_some {A X : World} {c : Nat} (h : A.grownBy X none) : A.grownBy X (some c) := ⟨h.os, h.tape, h.output, h.size, fun k hk _ => h.block k hk (by simp)⟩
section
variable {F : Fence} {n : Nat} {P : Program} {w : World}
/-- THE LOOP, OUTERMOST: the record is block B + 1, the block for deferred calls B, the heap's end where the loop begins. -/
theorem wp_rangeCell {α : Type} {g : Operand} {ps : Array Tmp} {assign body : Code} {Q : Exit → Act → World → Prop} {a : Act}
    (hro : F.round = none) (h1 : 1 ≤ n) {gf : Nat} {lb : Array Value} (hg : a.eval g = .func (.func gf) #[] lb) (hFg : F.fn gf) (eg : ∀ args w, (callFunc gf args).run P w = .ok (.enter gf args) w)
    {enc : α → Value} {c : Nat} {Kp : World → World → Prop} {l : List α} {w0 : World} (hc : c < w.heap.size) (hseq : SeqCell F (n - 1) P gf lb enc c Kp l w0)
    (hKt : ∀ {A B C : World}, Kp A B → Kp B C → Kp A C) (hKb : ∀ (W : World) (r : Nat) (o' : Obj), w.heap.size ≤ r → Kp W (W.putObj r o')) (hb0 : Below w0.heap.size w0 w) (hps : ps.size = 1)
    (I : List α → World → Prop) (Ix : Code → List α → World → Prop) (hI : Lets w.heap.size c I) (hIx : ∀ j, Lets w.heap.size c (Ix j)) (h0 : I [] w) (a₁ : Act → α → Act)
    (hassign : ∀ (r : Nat) (x : α) (W : World) (K : Act → World → Prop), K (a₁ a x) W → assign.wpIn (F.inRound r) (n - 1 - 1) P (Exit.then K (fun _ _ _ => False)) { tmps := (ps.zip #[enc x]).foldl (fun t (p, v) => t.setIfInBounds p v) a.tmps, defers := [] } W)
    (hbody : ∀ (r : Nat) (pre : List α) (x : α) (W : World), w.heap.size ≤ r → (∃ q, W.heap[r]? = some (.loop q)) → I pre W → pre ++ [x] <+: l → body.wpIn (F.inRound r) (n - 1 - 1) P (ownPostG w.heap.size Kp I Ix (pre ++ [x]) W) (a₁ a x) W)
    (hdone : ∀ (D : Nat) (W : World), w.heap.size ≤ D → I l W → W.heap[D]? = some (.deferred (some [])) → Q .normal { a with defers := { target := .collected D, args := #[] } :: a.defers } W)
    (hstop : ∀ (D : Nat) (j : Code) (pre : List α) (W : World), w.heap.size ≤ D → pre <+: l → Ix j pre W → W.heap[D]? = some (.deferred (some [])) → j.wpIn F n P Q { a with defers := { target := .collected D, args := #[] } :: a.defers } W) :
    (Code.rangeFunc g ps assign body).wpIn F n P Q a w := by
  refine wpIn_rangeFunc fun fn hfn => ?_
  rw [hro]
  obtain ⟨rec, hrec⟩ : ∃ rec : LoopState → Option Code → Loop, rec = fun st pe => { state := st, pending := pe, fn, tmps := a.tmps, params := ps, assign, body, defers := w.heap.size } := ⟨_, rfl⟩
  obtain ⟨W1, hW1⟩ : ∃ W1, (w.alloc (.deferred (some []))).alloc (.loop (rec .ready none)) = W1 := ⟨_, rfl⟩
  have hL1 : W1.heap[w.heap.size + 1]? = some (.loop (rec .ready none)) := by
    rw [← hW1]
    have := World.alloc_heap_new (w.alloc (.deferred (some []))) (.loop (rec .ready none))
    rwa [World.size_alloc] at this
  have hK1 : W1.heap[w.heap.size]? = some (.deferred (some [])) := by
    rw [← hW1]
    exact (Below.heap_alloc _ _ _ (by simp)).trans (World.alloc_heap_new w _)
  have hI1 : I [] W1 := by rw [← hW1]; exact hI.new _ (hI.new _ h0)
  have hb1 : Below w0.heap.size w0 W1 := by
    rw [← hW1]
    exact hb0.trans ((((Below.refl _ w).alloc (Nat.le_refl _) _).alloc (by simp) _).mono hb0.size)
  refine ⟨w.heap.size + 1, [{ target := .collected w.heap.size, args := #[] }], W1, { target := .fn (.func gf) lb, args := #[.func (.yield (w.heap.size + 1)) #[] #[]] }, W1, gf,
    #[.func (.yield (w.heap.size + 1)) #[] #[]] ++ lb, W1, ?_, ?_, ?_, ?_, fun _ => h1, ?_⟩
  · rw [← hW1, hrec]; exact run_enterLoop_outer _ _ _ _ _
  · simp only [resolve, hg]; simp [go_sem]
  · intro f' hf'; simp [Target.leads] at hf'; subst hf'; exact hFg
  · simp [invoke, go_sem, eg]
  · have stays : ∀ {A X : World} {r : Nat} {o : Obj}, A.grownBy X (some c) → c < w.heap.size → w.heap.size ≤ r → A.heap[r]? = some o → X.heap[r]? = some o := fun hgr hc' hr ho =>
      (hgr.block _ (Array.getElem?_eq_some_iff.1 ho).1 (fun e => by cases e; omega)).trans ho
    refine (hseq (w.heap.size + 1)
      (fun pre W => I pre W ∧ W.heap[w.heap.size + 1]? = some (.loop (rec .ready none)) ∧ W.heap[w.heap.size]? = some (.deferred (some [])))
      (fun pre W => ∃ j, Ix j pre W ∧ W.heap[w.heap.size + 1]? = some (.loop (rec .done (some j))) ∧ W.heap[w.heap.size]? = some (.deferred (some [])))
      W1 hb1 (fun s A X hs hgr => ⟨hI s A X (some c) hs.1 hgr (fun r e => by cases e; exact .inl rfl), stays hgr hc (by omega) hs.2.1, stays hgr hc (Nat.le_refl _) hs.2.2⟩) ?_ ⟨hI1, hL1, hK1⟩).mono ?_
    · rintro pre x W ⟨hi, hl, hk⟩ hpre
      have hlt : w.heap.size + 1 < W.heap.size := (Array.getElem?_eq_some_iff.1 hl).1
      have hy := run_yield (P := P) (args := #[enc x]) hl (by rw [hrec]; exact hps.symm)
      rw [hrec] at hy
      refine ⟨fn, _, assign, body, hy, roundIn_of_wpIn hfn (hassign _ x W _ ⟨_, run_beginRound hl (by rw [hrec]), ?_⟩)⟩
      have hl2 : (W.putObj (w.heap.size + 1) (.loop { rec .ready none with state := .busy })).heap[w.heap.size + 1]? = some (.loop { rec .ready none with state := .busy }) := World.putObj_heap_same hlt
      have hk2 : (W.putObj (w.heap.size + 1) (.loop { rec .ready none with state := .busy })).heap[w.heap.size]? = some (.deferred (some [])) := (World.putObj_heap_other (by omega)).trans hk
      have hw2 : Kp W (W.putObj (w.heap.size + 1) (.loop { rec .ready none with state := .busy })) := hKb _ _ _ (by omega)
      refine wpIn_mono (hbody _ pre x _ (by omega) ⟨_, hl2⟩ (hI.put _ hi (by omega) hl rfl) hpre) ?_
      have fin : ∀ (jump : Option Code) (W3 : World), KeepsFrom w.heap.size (W.putObj (w.heap.size + 1) (.loop { rec .ready none with state := .busy })) W3 →
          (Instr.endRound (w.heap.size + 1) jump).run P W3 = .ok (.bool jump.isNone) (W3.putObj (w.heap.size + 1) (.loop (rec (if jump.isNone then .ready else .done) jump))) ∧
          W3.heap[w.heap.size + 1]? = some (.loop { rec .ready none with state := .busy }) ∧
          (W3.putObj (w.heap.size + 1) (.loop (rec (if jump.isNone then .ready else .done) jump))).heap[w.heap.size + 1]? = some (.loop (rec (if jump.isNone then .ready else .done) jump)) ∧
          (W3.putObj (w.heap.size + 1) (.loop (rec (if jump.isNone then .ready else .done) jump))).heap[w.heap.size]? = some (.deferred (some [])) := fun jump W3 hk3 => by
        have hl3 := hk3.same _ _ (by omega) hl2 rfl
        have := run_endRound (P := P) jump hl3
        rw [hrec] at this ⊢
        exact ⟨this, by rw [hrec] at hl3; exact hl3, World.putObj_heap_same (Array.getElem?_eq_some_iff.1 hl3).1, (World.putObj_heap_other (by omega)).trans (hk3.same _ _ (Nat.le_refl _) hk2 rfl)⟩
      rintro e a3 W3 hp
      cases e with
      | normal =>
        obtain ⟨hk3, hkp3, hi3⟩ := hp
        obtain ⟨hr, hl3, hl4, hk4⟩ := fin none W3 hk3
        exact ⟨_, _, hr, .inl ⟨rfl, ⟨hI.put _ hi3 (by omega) hl3 rfl, hl4, hk4⟩, hKt (hKt hw2 hkp3) (hKb _ _ _ (by omega))⟩⟩
      | ret =>
        obtain ⟨hk3, hi3⟩ := hp
        obtain ⟨hr, hl3, hl4, hk4⟩ := fin (some .ret) W3 hk3
        exact ⟨_, _, hr, .inr ⟨rfl, .ret, (hIx _).put _ hi3 (by omega) hl3 rfl, hl4, hk4⟩⟩
      | exit id =>
        obtain ⟨hk3, hi3⟩ := hp
        obtain ⟨hr, hl3, hl4, hk4⟩ := fin (some (.exit id)) W3 hk3
        exact ⟨_, _, hr, .inr ⟨rfl, .exit id, (hIx _).put _ hi3 (by omega) hl3 rfl, hl4, hk4⟩⟩
      | goto t =>
        obtain ⟨hk3, hi3⟩ := hp
        obtain ⟨hr, hl3, hl4, hk4⟩ := fin (some (.goto t)) W3 hk3
        exact ⟨_, _, hr, .inr ⟨rfl, .goto t, (hIx _).put _ hi3 (by omega) hl3 rfl, hl4, hk4⟩⟩
      | panic ch => exact hp.elim
      | outgrown => exact hp.elim
    · rintro e W2 ⟨⟨v, rfl⟩, (⟨hi, hl, hk⟩ | ⟨pre, hpre, j, hi, hl, hk⟩)⟩
      · exact ⟨none, _, by have := run_endLoop (P := P) hl (by rw [hrec]; simp); rw [hrec] at this; exact this, hdone _ _ (Nat.le_refl _) (hI.put _ hi (by omega) hl rfl) ((World.putObj_heap_other (by omega)).trans hk)⟩
      · exact ⟨some j, _, by have := run_endLoop (P := P) hl (by rw [hrec]; simp); rw [hrec] at this; exact this, hstop _ j pre _ (Nat.le_refl _) hpre ((hIx j).put _ hi (by omega) hl rfl) ((World.putObj_heap_other (by omega)).trans hk)⟩
/-- THE LOOP, WITHIN A ROUND OF LOOP l₀: its record is the block at the heap's end. -/
theorem wp_rangeCellIn {α : Type} {g : Operand} {ps : Array Tmp} {assign body : Code} {Q : Exit → Act → World → Prop} {a : Act}
    {l₀ : Nat} {r₀ : Loop} (hro : F.round = some l₀) (hl₀ : w.heap[l₀]? = some (.loop r₀)) (h1 : 1 ≤ n) {gf : Nat} {lb : Array Value} (hg : a.eval g = .func (.func gf) #[] lb) (hFg : F.fn gf) (eg : ∀ args w, (callFunc gf args).run P w = .ok (.enter gf args) w)
    {enc : α → Value} {c : Nat} {Kp : World → World → Prop} {l : List α} {w0 : World} (hc : c < w.heap.size) (hseq : SeqCell F (n - 1) P gf lb enc c Kp l w0)
    (hKt : ∀ {A B C : World}, Kp A B → Kp B C → Kp A C) (hKb : ∀ (W : World) (r : Nat) (o' : Obj), w.heap.size ≤ r → Kp W (W.putObj r o')) (hb0 : Below w0.heap.size w0 w) (hps : ps.size = 1)
    (I : List α → World → Prop) (Ix : Code → List α → World → Prop) (hI : Lets w.heap.size c I) (hIx : ∀ j, Lets w.heap.size c (Ix j)) (h0 : I [] w) (a₁ : Act → α → Act)
    (hassign : ∀ (r : Nat) (x : α) (W : World) (K : Act → World → Prop), K (a₁ a x) W → assign.wpIn (F.inRound r) (n - 1 - 1) P (Exit.then K (fun _ _ _ => False)) { tmps := (ps.zip #[enc x]).foldl (fun t (p, v) => t.setIfInBounds p v) a.tmps, defers := [] } W)
    (hbody : ∀ (r : Nat) (pre : List α) (x : α) (W : World), w.heap.size ≤ r → (∃ q, W.heap[r]? = some (.loop q)) → I pre W → pre ++ [x] <+: l → body.wpIn (F.inRound r) (n - 1 - 1) P (ownPostG w.heap.size Kp I Ix (pre ++ [x]) W) (a₁ a x) W)
    (hdone : ∀ (W : World), I l W → Q .normal a W)
    (hstop : ∀ (j : Code) (pre : List α) (W : World), pre <+: l → Ix j pre W → j.wpIn F n P Q a W) :
    (Code.rangeFunc g ps assign body).wpIn F n P Q a w := by
  refine wpIn_rangeFunc fun fn hfn => ?_
  rw [hro]
  obtain ⟨rec, hrec⟩ : ∃ rec : LoopState → Option Code → Loop, rec = fun st pe => { state := st, pending := pe, fn, tmps := a.tmps, params := ps, assign, body, defers := r₀.defers } := ⟨_, rfl⟩
  obtain ⟨W1, hW1⟩ : ∃ W1, w.alloc (.loop (rec .ready none)) = W1 := ⟨_, rfl⟩
  have hL1 : W1.heap[w.heap.size]? = some (.loop (rec .ready none)) := by rw [← hW1]; exact World.alloc_heap_new w _
  have hI1 : I [] W1 := by rw [← hW1]; exact hI.new _ h0
  have hb1 : Below w0.heap.size w0 W1 := by
    rw [← hW1]
    exact hb0.trans (((Below.refl _ w).alloc (Nat.le_refl _) _).mono hb0.size)
  refine ⟨w.heap.size, [], W1, { target := .fn (.func gf) lb, args := #[.func (.yield w.heap.size) #[] #[]] }, W1, gf, #[.func (.yield w.heap.size) #[] #[]] ++ lb, W1, ?_, ?_, ?_, ?_, fun _ => h1, ?_⟩
  · rw [← hW1, hrec]; exact run_enterLoop_inner hl₀ _ _ _ _ _
  · simp only [resolve, hg]; simp [go_sem]
  · intro f' hf'; simp [Target.leads] at hf'; subst hf'; exact hFg
  · simp [invoke, go_sem, eg]
  · have stays : ∀ {A X : World} {r : Nat} {o : Obj}, A.grownBy X (some c) → c < w.heap.size → w.heap.size ≤ r → A.heap[r]? = some o → X.heap[r]? = some o := fun hgr hc' hr ho =>
      (hgr.block _ (Array.getElem?_eq_some_iff.1 ho).1 (fun e => by cases e; omega)).trans ho
    refine (hseq w.heap.size
      (fun pre W => I pre W ∧ W.heap[w.heap.size]? = some (.loop (rec .ready none)))
      (fun pre W => ∃ j, Ix j pre W ∧ W.heap[w.heap.size]? = some (.loop (rec .done (some j))))
      W1 hb1 (fun s A X hs hgr => ⟨hI s A X (some c) hs.1 hgr (fun r e => by cases e; exact .inl rfl), stays hgr hc (Nat.le_refl _) hs.2⟩) ?_ ⟨hI1, hL1⟩).mono ?_
    · rintro pre x W ⟨hi, hl⟩ hpre
      have hlt : w.heap.size < W.heap.size := (Array.getElem?_eq_some_iff.1 hl).1
      have hy := run_yield (P := P) (args := #[enc x]) hl (by rw [hrec]; exact hps.symm)
      rw [hrec] at hy
      refine ⟨fn, _, assign, body, hy, roundIn_of_wpIn hfn (hassign _ x W _ ⟨_, run_beginRound hl (by rw [hrec]), ?_⟩)⟩
      have hl2 : (W.putObj w.heap.size (.loop { rec .ready none with state := .busy })).heap[w.heap.size]? = some (.loop { rec .ready none with state := .busy }) := World.putObj_heap_same hlt
      have hw2 : Kp W (W.putObj w.heap.size (.loop { rec .ready none with state := .busy })) := hKb _ _ _ (Nat.le_refl _)
      refine wpIn_mono (hbody _ pre x _ (Nat.le_refl _) ⟨_, hl2⟩ (hI.put _ hi (Nat.le_refl _) hl rfl) hpre) ?_
      have fin : ∀ (jump : Option Code) (W3 : World), KeepsFrom w.heap.size (W.putObj w.heap.size (.loop { rec .ready none with state := .busy })) W3 →
          (Instr.endRound w.heap.size jump).run P W3 = .ok (.bool jump.isNone) (W3.putObj w.heap.size (.loop (rec (if jump.isNone then .ready else .done) jump))) ∧
          W3.heap[w.heap.size]? = some (.loop { rec .ready none with state := .busy }) ∧
          (W3.putObj w.heap.size (.loop (rec (if jump.isNone then .ready else .done) jump))).heap[w.heap.size]? = some (.loop (rec (if jump.isNone then .ready else .done) jump)) := fun jump W3 hk3 => by
        have hl3 := hk3.same _ _ (Nat.le_refl _) hl2 rfl
        have := run_endRound (P := P) jump hl3
        rw [hrec] at this ⊢
        exact ⟨this, by rw [hrec] at hl3; exact hl3, World.putObj_heap_same (Array.getElem?_eq_some_iff.1 hl3).1⟩
      rintro e a3 W3 hp
      cases e with
      | normal =>
        obtain ⟨hk3, hkp3, hi3⟩ := hp
        obtain ⟨hr, hl3, hl4⟩ := fin none W3 hk3
        exact ⟨_, _, hr, .inl ⟨rfl, ⟨hI.put _ hi3 (Nat.le_refl _) hl3 rfl, hl4⟩, hKt (hKt hw2 hkp3) (hKb _ _ _ (Nat.le_refl _))⟩⟩
      | ret =>
        obtain ⟨hk3, hi3⟩ := hp
        obtain ⟨hr, hl3, hl4⟩ := fin (some .ret) W3 hk3
        exact ⟨_, _, hr, .inr ⟨rfl, .ret, (hIx _).put _ hi3 (Nat.le_refl _) hl3 rfl, hl4⟩⟩
      | exit id =>
        obtain ⟨hk3, hi3⟩ := hp
        obtain ⟨hr, hl3, hl4⟩ := fin (some (.exit id)) W3 hk3
        exact ⟨_, _, hr, .inr ⟨rfl, .exit id, (hIx _).put _ hi3 (Nat.le_refl _) hl3 rfl, hl4⟩⟩
      | goto t =>
        obtain ⟨hk3, hi3⟩ := hp
        obtain ⟨hr, hl3, hl4⟩ := fin (some (.goto t)) W3 hk3
        exact ⟨_, _, hr, .inr ⟨rfl, .goto t, (hIx _).put _ hi3 (Nat.le_refl _) hl3 rfl, hl4⟩⟩
      | panic ch => exact hp.elim
      | outgrown => exact hp.elim
    · rintro e W2 ⟨⟨v, rfl⟩, (⟨hi, hl⟩ | ⟨pre, hpre, j, hi, hl⟩)⟩
      · exact ⟨none, _, by have := run_endLoop (P := P) hl (by rw [hrec]; simp); rw [hrec] at this; exact this, hdone _ (hI.put _ hi (Nat.le_refl _) hl rfl)⟩
      · exact ⟨some j, _, by have := run_endLoop (P := P) hl (by rw [hrec]; simp); rw [hrec] at this; exact this, hstop j pre _ hpre ((hIx j).put _ hi (Nat.le_refl _) hl rfl)⟩
end
/- A REGION THAT DRAWS, WITHIN A ROUND (or in the wide fence): its walk outside every fence serves. -/
section
variable {P : Program} {ops : Array Oper} {Q : Exit → Act → World → Prop} {md : Region.Mode}
def noDefer (o : Oper) : Bool := match o.op with
  | .defer _ => false
  | _ => true
theorem noDefer_spec {o : Oper} (h : noDefer o = true) : ∀ c, o.op ≠ .defer c := fun c e => by unfold noDefer at h; rw [e] at h; cases h
theorem upon_in (l n : Nat) {o : Oper} {a : Act} {K : Act → World → Prop} (hq : ¬ LetsOut Q) {r : Result Next} (h : o.upon P a K Q r) : o.uponIn (Fence.wide.inRound l) n P a K Q r := by
  cases r with
  | ok x w =>
    cases x with
    | enter f args => exact ⟨fun h => (by cases h), (callsIn_wide.2 h : CallsIn Fence.wide (n - 1) P f args w _)⟩
    | row row args =>
      refine ⟨fun h => (by cases h), fun c cs _ => ?_⟩
      obtain ⟨v, w', r, s⟩ := h c cs
      exact ⟨v, w', r, stepsIn_wide.2 s⟩
    | round _ _ _ _ _ => exact h.elim
    | _ => exact h
  | halt x w => cases x <;> exact h
theorem op_in (l n : Nat) {o : Oper} {a : Act} {w : World} {K : Act → World → Prop} (hq : ¬ LetsOut Q) (hd : noDefer o = true) (h : o.wp P a w K Q ∨ (o.asks P a w ∧ LetsOut Q)) : o.wpIn (Fence.wide.inRound l) n P a w K Q := by
  rcases h with h | h
  · refine ⟨fun _ _ => trivial, ?_⟩
    rw [Oper.semAt_eq _ _ _ (noDefer_spec hd)]
    exact upon_in l n hq h
  · exact absurd h.2 hq
theorem any_in (l n : Nat) (hq : ¬ LetsOut Q) (hd : ops.all noDefer = true) : ∀ (fuel : Nat) (listed : Array Bool) (a : Act) (w : World), wpAny P md ops Q fuel listed a w → wpAnyIn (Fence.wide.inRound l) n P md ops Q fuel listed a w
  | 0, listed, a, w, h => h
  | fuel + 1, listed, a, w, h => by
    refine ⟨h.1, fun i hi => ?_⟩
    have h2 := h.2 i hi
    unfold wpOp at h2
    unfold wpOpIn
    cases ho : ops[i]? with
    | none => rw [ho] at h2; exact any_in l n hq hd fuel _ a w h2
    | some o =>
      rw [ho] at h2
      simp only at h2 ⊢
      have hdo : noDefer o = true := by
        obtain ⟨hlt, e⟩ := Array.getElem?_eq_some_iff.1 ho
        have := (Array.all_eq_true.1 hd) i hlt
        rw [e] at this; exact this
      split
      · rename_i hw
        rw [if_pos hw] at h2
        have h3 := op_in l n hq hdo h2
        exact Oper.wpIn_mono (fun a' w' h' => any_in l n hq hd fuel _ a' w' h') h3
      · rename_i hw
        rw [if_neg hw] at h2
        exact ⟨fun _ _ => trivial, any_in l n hq hd fuel _ _ w h2⟩
theorem region_in_held {id l n : Nat} {a : Act} {w : World} {S : World → Prop} (hm : P.follows .mixedOrders = true) (hd : ops.all noDefer = true) (hq : ¬ LetsOut Q) (hS : S w.drew)
    (h : S w.drew → wpAnyH P .any ops Q S ops.size (Array.replicate ops.size false) a w.drew) : (Code.region id ops true).wpIn (Fence.wide.inRound l) n P Q a w :=
  wpIn_region_any hm (any_in l n hq hd _ _ _ _ (wpAny_of_held _ _ _ _ (h hS)))
end
end Go.Proofs.YtcandidgaegghaaGreatDoor
end
