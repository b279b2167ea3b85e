/- DescribeApart's two claims, made of two formulas in one statement whose order Go leaves open: what holds whatever was carried out so far. Conditions: none but those of each statement. -/
import Derived.Test.YtcandidgaegghaaGreatDoorRdB
import Derived.Deep.RegionHeld
import Derived.Test.YtcandidgaegghaaGreatDoorAwake
namespace Go
section
variable {P : Program} {ops : Array Oper} {Q : Exit → Act → World → Prop} {md : Region.Mode} {I : Array Bool → Act → World → Prop}
def AllSteps (P : Program) (md : Region.Mode) (ops : Array Oper) (Q : Exit → Act → World → Prop) (I : Array Bool → Act → World → Prop) (rs : List Nat) : Prop :=
  ∀ i ∈ rs, ∀ (listed : Array Bool) (a : Act) (w : World), I listed a w → i ∈ Region.ready md ops listed → wpOp P ops Q i (fun a' w' => I (listed.setIfInBounds i true) a' w') a w
theorem AllSteps.nil : AllSteps P md ops Q I [] := fun _ h => by cases h
theorem AllSteps.cons {i : Nat} {o : Oper} {rs : List Nat} (ho : ops[i]? = some o)
    (h : ∀ (listed : Array Bool) (a : Act) (w : World), I listed a w → i ∈ Region.ready md ops listed → ∀ K' : Act → World → Prop, Shut (∀ a w, I (listed.setIfInBounds i true) a w → K' a w) → if Region.wanted o (yielded ops a.tmps) = true then Oper.wp P o a w K' Q else K' (a.put o.dst undef) w)
    (hs : AllSteps P md ops Q I rs) : AllSteps P md ops Q I (i :: rs) := fun j hj => by
  rcases List.mem_cons.1 hj with rfl | hj
  · exact fun listed a w hI hr => wpOp_step ho (fun K' hK => h listed a w hI hr K' hK)
  · exact hs j hj
/-- How many of the first n are still to come. -/
def unlistedOf (n : Nat) (listed : Array Bool) : Nat := ((List.range n).filter fun i => !listed.getD i false).length
theorem unlistedOf_set {listed : Array Bool} {N i : Nat} (hs : listed.size = N) (hi : i < N) (h0 : listed.getD i false = false) : unlistedOf N (listed.setIfInBounds i true) + 1 = unlistedOf N listed := by
  unfold unlistedOf
  have a1 : (listed.setIfInBounds i true).getD i false = true := by
    simp only [Array.getD_eq_getD_getElem?]
    rw [Array.getElem?_setIfInBounds_self_of_lt (by omega)]; rfl
  have key : ∀ n, i < n → n ≤ N → ((List.range n).filter fun j => !(listed.setIfInBounds i true).getD j false).length + 1 = ((List.range n).filter fun j => !listed.getD j false).length := by
    intro n
    induction n with
    | zero => intro h _; omega
    | succ n ih =>
      intro h hn
      rw [List.range_succ, List.filter_append, List.filter_append, List.length_append, List.length_append]
      by_cases e : i = n
      · subst e
        have same : (List.range i).filter (fun j => !(listed.setIfInBounds i true).getD j false) = (List.range i).filter (fun j => !listed.getD j false) := by
          refine List.filter_congr fun j hj => ?_
          rw [getD_set_ne _ (by have := List.mem_range.1 hj; omega)]
        rw [same]
        simp only [List.filter_cons, List.filter_nil, a1, h0, Bool.not_true, Bool.not_false, Bool.false_eq_true, if_false, if_true, List.length_nil, List.length_cons]
      · have := ih (by omega) (by omega)
        have a2 : (listed.setIfInBounds i true).getD n false = listed.getD n false := getD_set_ne _ e
        simp only [List.filter_cons, List.filter_nil, a2]
        omega
  exact key N hi (Nat.le_refl _)
def afterB (md : Region.Mode) (ops : Array Oper) : Bool := (List.range ops.size).all fun i => match ops[i]? with | some o => o.after.toList.all fun e => !Region.binds md e || decide (e.on < i) | none => true
theorem afterB_spec (h : afterB md ops = true) {i : Nat} {o : Oper} (ho : ops[i]? = some o) {e : _} (he : e ∈ o.after) (hb : Region.binds md e = true) : e.on < i := by
  have hi := (Array.getElem?_eq_some_iff.1 ho).1
  have := List.all_eq_true.1 h i (List.mem_range.2 hi)
  rw [ho] at this
  simp only [] at this
  have h5 := List.all_eq_true.1 this e (Array.mem_toList_iff.2 he)
  simpa [hb] using h5
theorem ready_nil (haf : afterB md ops = true) {listed : Array Bool} (hs : listed.size = ops.size) (hr : Region.ready md ops listed = []) : ∀ i, i < ops.size → listed.getD i false = true := by
  intro i
  induction i using Nat.strongRecOn with
  | _ i ih =>
    intro hi
    cases e : listed.getD i false with
    | true => rfl
    | false =>
      have hm : i ∈ Region.ready md ops listed := by
        refine mem_ready.2 ⟨?_, ops[i], Array.getElem?_eq_getElem hi, fun d hd hb => ?_⟩
        · have : i < listed.size := by rw [hs]; exact hi
          simp only [Array.getD_eq_getD_getElem?, Array.getElem?_eq_getElem this] at e ⊢
          exact e
        · have hlt := afterB_spec haf (Array.getElem?_eq_getElem hi) hd hb
          exact ih _ hlt (by omega)
      rw [hr] at hm; cases hm
theorem wpAny_inv (haf : afterB md ops = true) (hsz : ∀ listed a w, I listed a w → listed.size = ops.size) (hs : AllSteps P md ops Q I (List.range ops.size))
    (hend : ∀ a w, (∃ listed, I listed a w ∧ ∀ i, i < ops.size → listed.getD i false = true) → Q .normal a w) :
    ∀ (fuel : Nat) (listed : Array Bool) (a : Act) (w : World), unlistedOf ops.size listed ≤ fuel → I listed a w → wpAny P md ops Q fuel listed a w
  | 0, listed, a, w, hf, hI => by
    have hz : unlistedOf ops.size listed = 0 := by omega
    have all : ∀ i, i < ops.size → listed.getD i false = true := by
      intro i hi
      have := List.length_eq_zero_iff.1 hz
      rw [List.filter_eq_nil_iff] at this
      simpa using this i (List.mem_range.2 hi)
    refine ⟨?_, hend a w ⟨listed, hI, all⟩⟩
    cases e : Region.ready md ops listed with
    | nil => rfl
    | cons j js =>
      have hj : j ∈ Region.ready md ops listed := by rw [e]; exact List.mem_cons_self
      obtain ⟨h0, o, ho, _⟩ := mem_ready.1 hj
      have hlt := (Array.getElem?_eq_some_iff.1 ho).1
      have h1 := all j hlt
      have hl : j < listed.size := by rw [hsz _ _ _ hI]; exact hlt
      simp only [Array.getD_eq_getD_getElem?, Array.getElem?_eq_getElem hl, Option.getD_some] at h0 h1
      rw [h0] at h1; cases h1
  | fuel + 1, listed, a, w, hf, hI => by
    refine ⟨fun hr => hend a w ⟨listed, hI, ready_nil haf (hsz _ _ _ hI) hr⟩, fun i hi => ?_⟩
    obtain ⟨h0, o, ho, _⟩ := mem_ready.1 hi
    have hlt := (Array.getElem?_eq_some_iff.1 ho).1
    have hl : i < listed.size := by rw [hsz _ _ _ hI]; exact hlt
    have h0' : listed.getD i false = false := by
      simp only [Array.getD_eq_getD_getElem?, Array.getElem?_eq_getElem hl, Option.getD_some] at h0 ⊢
      exact h0
    have hc := unlistedOf_set (hsz _ _ _ hI) hlt h0'
    exact wpOp_mono (fun a' w' h' => wpAny_inv haf hsz hs hend fuel _ a' w' (by omega) h') (hs i (List.mem_range.2 hlt) listed a w hI hi)
/-- THE REGION, ONCE. -/
theorem wp_region_inv {id : Nat} {a : Act} {w : World} (I : Array Bool → Act → World → Prop) (hm : P.follows .mixedOrders = true) (haf : afterB .any ops = true) (hsz : ∀ listed a w, I listed a w → listed.size = ops.size)
    (h0 : I (Array.replicate ops.size false) a w.drew) (rs : List Nat) (hrs : List.range ops.size = rs) (hs : AllSteps P .any ops Q I rs)
    (hend : ∀ a w, (∃ listed, I listed a w ∧ ∀ i, i < ops.size → listed.getD i false = true) → Q .normal a w) : (Code.region id ops true).wp P Q a w := by
  subst hrs
  refine wp_region_any hm (wpAny_inv haf hsz hs hend _ _ _ _ ?_ h0)
  exact Nat.le_trans (List.length_filter_le _ _) (by rw [List.length_range]; exact Nat.le_refl _)
theorem ready_un {listed : Array Bool} {n i : Nat} (hs : listed.size = n) (hi : i < n) (hr : i ∈ Region.ready md ops listed) : listed.getD i false = false := by
  have h0 := (mem_ready.1 hr).1
  have hl : i < listed.size := by rw [hs]; exact hi
  simp only [Array.getD_eq_getD_getElem?, Array.getElem?_eq_getElem hl, Option.getD_some] at h0 ⊢
  exact h0
theorem listed_other {listed : Array Bool} {i j : Nat} (h : (listed.setIfInBounds i true).getD j false = true) (hne : i ≠ j) : listed.getD j false = true := by rwa [getD_set_ne _ hne] at h
theorem replicate_none {n j : Nat} (h : (Array.replicate n false).getD j false = true) : False := by
  simp only [Array.getD_eq_getD_getElem?, Array.getElem?_replicate] at h
  split at h <;> cases h
end
end Go
namespace Go.Proofs.YtcandidgaegghaaGreatDoor
open Go Go.RowKit Ly
set_option maxRecDepth 10000
set_option linter.unusedSimpArgs false
set_option linter.unusedVariables false
/-- A list of n formulas in a new block. -/
def Blk (W w : World) (x : Value) (n : Nat) (cs : Array Value) : Prop := ∃ g, x = .slice (some ⟨g, 0, none⟩) n n ∧ W.heap.size ≤ g ∧ w.heap[g]? = some (.cells cs 25 (0, 0))
theorem Blk.moved {W w w' : World} {x : Value} {n : Nat} {cs : Array Value} (h : Blk W w x n cs) (k : ∀ (b : Nat) (cs : Array Value), w.heap[b]? = some (Obj.cells cs 25 (0, 0)) → w'.heap[b]? = some (.cells cs 25 (0, 0))) : Blk W w' x n cs := by
  obtain ⟨g, e, h1, h2⟩ := h; exact ⟨g, e, h1, k _ _ h2⟩
structure I6 (W : World) (F G : Fm) (fa : Option Addr) (fn fc : Nat) (fb : Option Addr) (fm fd : Nat) (ga : Option Addr) (gn gc : Nat) (gb : Option Addr) (gm gd : Nat) (listed : Array Bool) (x13 x14 x41 x42 x43 x44 x45 x46 x47 x48 x49 : Value) (w : World) : Prop where
  sz : listed.size = 13
  bw : Below W.heap.size W w
  f0 : listed.getD 0 false = true → x41 = (.agg #[.int .u8 F.op, str F.name, .slice fa fn fc, .slice fb fm fd] : Value)
  f1 : listed.getD 1 false = true → Blk W w x42 1 #[.int .u8 F.op, str F.name, .slice fa fn fc, .slice fb fm fd]
  f2 : listed.getD 2 false = true → x43 = (.agg #[.int .u8 G.op, str G.name, .slice ga gn gc, .slice gb gm gd] : Value)
  f3 : listed.getD 3 false = true → Blk W w x44 1 #[.int .u8 G.op, str G.name, .slice ga gn gc, .slice gb gm gd]
  f4 : listed.getD 4 false = true → ∃ y z, x45 = .agg #[y, z] ∧ Blk W w y 1 #[.int .u8 F.op, str F.name, .slice fa fn fc, .slice fb fm fd] ∧ Blk W w z 1 #[.int .u8 G.op, str G.name, .slice ga gn gc, .slice gb gm gd]
  f5 : listed.getD 5 false = true → x46 = (.agg #[.int .u8 F.op, str F.name, .slice fa fn fc, .slice fb fm fd] : Value)
  f6 : listed.getD 6 false = true → x47 = (.agg #[.int .u8 G.op, str G.name, .slice ga gn gc, .slice gb gm gd] : Value)
  f7 : listed.getD 7 false = true → Blk W w x48 2 #[.int .u8 F.op, str F.name, .slice fa fn fc, .slice fb fm fd, .int .u8 G.op, str G.name, .slice ga gn gc, .slice gb gm gd]
  f8 : listed.getD 8 false = true → ∃ y, x49 = .agg #[y, .slice none 0 0] ∧ Blk W w y 2 #[.int .u8 F.op, str F.name, .slice fa fn fc, .slice fb fm fd, .int .u8 G.op, str G.name, .slice ga gn gc, .slice gb gm gd]
  f9 : listed.getD 9 false = true → ∃ g v u, x13 = one g ∧ W.heap.size ≤ g ∧ w.heap[g]? = some (.cells #[v, u] 48 (0, 0)) ∧ (listed.getD 11 false = true → Blk W w v 1 #[.int .u8 F.op, str F.name, .slice fa fn fc, .slice fb fm fd] ∧ Blk W w u 1 #[.int .u8 G.op, str G.name, .slice ga gn gc, .slice gb gm gd])
  f10 : listed.getD 10 false = true → ∃ g v u, x14 = one g ∧ W.heap.size ≤ g ∧ w.heap[g]? = some (.cells #[v, u] 48 (0, 0)) ∧ (listed.getD 12 false = true → Blk W w v 2 #[.int .u8 F.op, str F.name, .slice fa fn fc, .slice fb fm fd, .int .u8 G.op, str G.name, .slice ga gn gc, .slice gb gm gd] ∧ u = .slice none 0 0)
  c11 : listed.getD 11 false = true → listed.getD 9 false = true
  c12 : listed.getD 12 false = true → listed.getD 10 false = true
  ne : listed.getD 9 false = true → listed.getD 10 false = true → x13 ≠ x14
section
variable {W w w' : World} {F G : Fm} {fa : Option Addr} {fn fc : Nat} {fb : Option Addr} {fm fd : Nat} {ga : Option Addr} {gn gc : Nat} {gb : Option Addr} {gm gd : Nat} {listed : Array Bool} {x13 x14 x41 x42 x43 x44 x45 x46 x47 x48 x49 : Value}
theorem I6.moved (I : I6 W F G fa fn fc fb fm fd ga gn gc gb gm gd listed x13 x14 x41 x42 x43 x44 x45 x46 x47 x48 x49 w) (hb : Below W.heap.size W w') (k : ∀ (b : Nat) (cs : Array Value), w.heap[b]? = some (Obj.cells cs 25 (0, 0)) → w'.heap[b]? = some (.cells cs 25 (0, 0))) (k' : ∀ (b : Nat) (cs : Array Value), w.heap[b]? = some (Obj.cells cs 48 (0, 0)) → w'.heap[b]? = some (.cells cs 48 (0, 0))) : I6 W F G fa fn fc fb fm fd ga gn gc gb gm gd listed x13 x14 x41 x42 x43 x44 x45 x46 x47 x48 x49 w' :=
  ⟨I.sz, hb, I.f0, fun h => (I.f1 h).moved k, I.f2, fun h => (I.f3 h).moved k, fun h => by obtain ⟨y, z, e, a, b⟩ := I.f4 h; exact ⟨y, z, e, a.moved k, b.moved k⟩, I.f5, I.f6, fun h => (I.f7 h).moved k, fun h => by obtain ⟨y, e, a⟩ := I.f8 h; exact ⟨y, e, a.moved k⟩,
   fun h => by obtain ⟨g, v, u, e, h1, h2, h3⟩ := I.f9 h; exact ⟨g, v, u, e, h1, k' _ _ h2, fun h => ⟨(h3 h).1.moved k, (h3 h).2.moved k⟩⟩,
   fun h => by obtain ⟨g, v, u, e, h1, h2, h3⟩ := I.f10 h; exact ⟨g, v, u, e, h1, k' _ _ h2, fun h => ⟨(h3 h).1.moved k, (h3 h).2⟩⟩, I.c11, I.c12, I.ne⟩
theorem I6.alloc (I : I6 W F G fa fn fc fb fm fd ga gn gc gb gm gd listed x13 x14 x41 x42 x43 x44 x45 x46 x47 x48 x49 w) (o : Obj) : I6 W F G fa fn fc fb fm fd ga gn gc gb gm gd listed x13 x14 x41 x42 x43 x44 x45 x46 x47 x48 x49 (w.alloc o) :=
  I.moved (I.bw.alloc I.bw.size _) (fun b cs h => ka _ h) (fun b cs h => ka _ h)
theorem getD_self {i : Nat} (h : i < listed.size) : (listed.setIfInBounds i true).getD i false = true := by
  simp only [Array.getD_eq_getD_getElem?]
  rw [Array.getElem?_setIfInBounds_self_of_lt h]; rfl
theorem I6.s0 (I : I6 W F G fa fn fc fb fm fd ga gn gc gb gm gd listed x13 x14 x41 x42 x43 x44 x45 x46 x47 x48 x49 w)  : I6 W F G fa fn fc fb fm fd ga gn gc gb gm gd (listed.setIfInBounds 0 true) x13 x14 (.agg #[.int .u8 F.op, str F.name, .slice fa fn fc, .slice fb fm fd] : Value) x42 x43 x44 x45 x46 x47 x48 x49 w :=
  ⟨by simpa using I.sz,
   I.bw,
   fun _ => rfl,
   fun h => I.f1 (listed_other h (by decide)),
   fun h => I.f2 (listed_other h (by decide)),
   fun h => I.f3 (listed_other h (by decide)),
   fun h => I.f4 (listed_other h (by decide)),
   fun h => I.f5 (listed_other h (by decide)),
   fun h => I.f6 (listed_other h (by decide)),
   fun h => I.f7 (listed_other h (by decide)),
   fun h => I.f8 (listed_other h (by decide)),
   fun h => by obtain ⟨g, v, u, e, h1, h2, h3⟩ := I.f9 (listed_other h (by decide)); exact ⟨g, v, u, e, h1, h2, fun h => h3 (listed_other h (by decide))⟩,
   fun h => by obtain ⟨g, v, u, e, h1, h2, h3⟩ := I.f10 (listed_other h (by decide)); exact ⟨g, v, u, e, h1, h2, fun h => h3 (listed_other h (by decide))⟩,
   fun h => getD_set_true (I.c11 (listed_other h (by decide))),
   fun h => getD_set_true (I.c12 (listed_other h (by decide))),
   fun h h' => I.ne (listed_other h (by decide)) (listed_other h' (by decide))⟩
theorem I6.s2 (I : I6 W F G fa fn fc fb fm fd ga gn gc gb gm gd listed x13 x14 x41 x42 x43 x44 x45 x46 x47 x48 x49 w)  : I6 W F G fa fn fc fb fm fd ga gn gc gb gm gd (listed.setIfInBounds 2 true) x13 x14 x41 x42 (.agg #[.int .u8 G.op, str G.name, .slice ga gn gc, .slice gb gm gd] : Value) x44 x45 x46 x47 x48 x49 w :=
  ⟨by simpa using I.sz,
   I.bw,
   fun h => I.f0 (listed_other h (by decide)),
   fun h => I.f1 (listed_other h (by decide)),
   fun _ => rfl,
   fun h => I.f3 (listed_other h (by decide)),
   fun h => I.f4 (listed_other h (by decide)),
   fun h => I.f5 (listed_other h (by decide)),
   fun h => I.f6 (listed_other h (by decide)),
   fun h => I.f7 (listed_other h (by decide)),
   fun h => I.f8 (listed_other h (by decide)),
   fun h => by obtain ⟨g, v, u, e, h1, h2, h3⟩ := I.f9 (listed_other h (by decide)); exact ⟨g, v, u, e, h1, h2, fun h => h3 (listed_other h (by decide))⟩,
   fun h => by obtain ⟨g, v, u, e, h1, h2, h3⟩ := I.f10 (listed_other h (by decide)); exact ⟨g, v, u, e, h1, h2, fun h => h3 (listed_other h (by decide))⟩,
   fun h => getD_set_true (I.c11 (listed_other h (by decide))),
   fun h => getD_set_true (I.c12 (listed_other h (by decide))),
   fun h h' => I.ne (listed_other h (by decide)) (listed_other h' (by decide))⟩
theorem I6.s5 (I : I6 W F G fa fn fc fb fm fd ga gn gc gb gm gd listed x13 x14 x41 x42 x43 x44 x45 x46 x47 x48 x49 w)  : I6 W F G fa fn fc fb fm fd ga gn gc gb gm gd (listed.setIfInBounds 5 true) x13 x14 x41 x42 x43 x44 x45 (.agg #[.int .u8 F.op, str F.name, .slice fa fn fc, .slice fb fm fd] : Value) x47 x48 x49 w :=
  ⟨by simpa using I.sz,
   I.bw,
   fun h => I.f0 (listed_other h (by decide)),
   fun h => I.f1 (listed_other h (by decide)),
   fun h => I.f2 (listed_other h (by decide)),
   fun h => I.f3 (listed_other h (by decide)),
   fun h => I.f4 (listed_other h (by decide)),
   fun _ => rfl,
   fun h => I.f6 (listed_other h (by decide)),
   fun h => I.f7 (listed_other h (by decide)),
   fun h => I.f8 (listed_other h (by decide)),
   fun h => by obtain ⟨g, v, u, e, h1, h2, h3⟩ := I.f9 (listed_other h (by decide)); exact ⟨g, v, u, e, h1, h2, fun h => h3 (listed_other h (by decide))⟩,
   fun h => by obtain ⟨g, v, u, e, h1, h2, h3⟩ := I.f10 (listed_other h (by decide)); exact ⟨g, v, u, e, h1, h2, fun h => h3 (listed_other h (by decide))⟩,
   fun h => getD_set_true (I.c11 (listed_other h (by decide))),
   fun h => getD_set_true (I.c12 (listed_other h (by decide))),
   fun h h' => I.ne (listed_other h (by decide)) (listed_other h' (by decide))⟩
theorem I6.s6 (I : I6 W F G fa fn fc fb fm fd ga gn gc gb gm gd listed x13 x14 x41 x42 x43 x44 x45 x46 x47 x48 x49 w)  : I6 W F G fa fn fc fb fm fd ga gn gc gb gm gd (listed.setIfInBounds 6 true) x13 x14 x41 x42 x43 x44 x45 x46 (.agg #[.int .u8 G.op, str G.name, .slice ga gn gc, .slice gb gm gd] : Value) x48 x49 w :=
  ⟨by simpa using I.sz,
   I.bw,
   fun h => I.f0 (listed_other h (by decide)),
   fun h => I.f1 (listed_other h (by decide)),
   fun h => I.f2 (listed_other h (by decide)),
   fun h => I.f3 (listed_other h (by decide)),
   fun h => I.f4 (listed_other h (by decide)),
   fun h => I.f5 (listed_other h (by decide)),
   fun _ => rfl,
   fun h => I.f7 (listed_other h (by decide)),
   fun h => I.f8 (listed_other h (by decide)),
   fun h => by obtain ⟨g, v, u, e, h1, h2, h3⟩ := I.f9 (listed_other h (by decide)); exact ⟨g, v, u, e, h1, h2, fun h => h3 (listed_other h (by decide))⟩,
   fun h => by obtain ⟨g, v, u, e, h1, h2, h3⟩ := I.f10 (listed_other h (by decide)); exact ⟨g, v, u, e, h1, h2, fun h => h3 (listed_other h (by decide))⟩,
   fun h => getD_set_true (I.c11 (listed_other h (by decide))),
   fun h => getD_set_true (I.c12 (listed_other h (by decide))),
   fun h h' => I.ne (listed_other h (by decide)) (listed_other h' (by decide))⟩
theorem I6.s1 (I : I6 W F G fa fn fc fb fm fd ga gn gc gb gm gd listed x13 x14 x41 x42 x43 x44 x45 x46 x47 x48 x49 w) {y0 : Value} (h0 : Blk W w y0 1 #[.int .u8 F.op, str F.name, .slice fa fn fc, .slice fb fm fd]) : I6 W F G fa fn fc fb fm fd ga gn gc gb gm gd (listed.setIfInBounds 1 true) x13 x14 x41 y0 x43 x44 x45 x46 x47 x48 x49 w :=
  ⟨by simpa using I.sz,
   I.bw,
   fun h => I.f0 (listed_other h (by decide)),
   fun _ => h0,
   fun h => I.f2 (listed_other h (by decide)),
   fun h => I.f3 (listed_other h (by decide)),
   fun h => I.f4 (listed_other h (by decide)),
   fun h => I.f5 (listed_other h (by decide)),
   fun h => I.f6 (listed_other h (by decide)),
   fun h => I.f7 (listed_other h (by decide)),
   fun h => I.f8 (listed_other h (by decide)),
   fun h => by obtain ⟨g, v, u, e, h1, h2, h3⟩ := I.f9 (listed_other h (by decide)); exact ⟨g, v, u, e, h1, h2, fun h => h3 (listed_other h (by decide))⟩,
   fun h => by obtain ⟨g, v, u, e, h1, h2, h3⟩ := I.f10 (listed_other h (by decide)); exact ⟨g, v, u, e, h1, h2, fun h => h3 (listed_other h (by decide))⟩,
   fun h => getD_set_true (I.c11 (listed_other h (by decide))),
   fun h => getD_set_true (I.c12 (listed_other h (by decide))),
   fun h h' => I.ne (listed_other h (by decide)) (listed_other h' (by decide))⟩
theorem I6.s3 (I : I6 W F G fa fn fc fb fm fd ga gn gc gb gm gd listed x13 x14 x41 x42 x43 x44 x45 x46 x47 x48 x49 w) {y0 : Value} (h0 : Blk W w y0 1 #[.int .u8 G.op, str G.name, .slice ga gn gc, .slice gb gm gd]) : I6 W F G fa fn fc fb fm fd ga gn gc gb gm gd (listed.setIfInBounds 3 true) x13 x14 x41 x42 x43 y0 x45 x46 x47 x48 x49 w :=
  ⟨by simpa using I.sz,
   I.bw,
   fun h => I.f0 (listed_other h (by decide)),
   fun h => I.f1 (listed_other h (by decide)),
   fun h => I.f2 (listed_other h (by decide)),
   fun _ => h0,
   fun h => I.f4 (listed_other h (by decide)),
   fun h => I.f5 (listed_other h (by decide)),
   fun h => I.f6 (listed_other h (by decide)),
   fun h => I.f7 (listed_other h (by decide)),
   fun h => I.f8 (listed_other h (by decide)),
   fun h => by obtain ⟨g, v, u, e, h1, h2, h3⟩ := I.f9 (listed_other h (by decide)); exact ⟨g, v, u, e, h1, h2, fun h => h3 (listed_other h (by decide))⟩,
   fun h => by obtain ⟨g, v, u, e, h1, h2, h3⟩ := I.f10 (listed_other h (by decide)); exact ⟨g, v, u, e, h1, h2, fun h => h3 (listed_other h (by decide))⟩,
   fun h => getD_set_true (I.c11 (listed_other h (by decide))),
   fun h => getD_set_true (I.c12 (listed_other h (by decide))),
   fun h h' => I.ne (listed_other h (by decide)) (listed_other h' (by decide))⟩
theorem I6.s7 (I : I6 W F G fa fn fc fb fm fd ga gn gc gb gm gd listed x13 x14 x41 x42 x43 x44 x45 x46 x47 x48 x49 w) {y0 : Value} (h0 : Blk W w y0 2 #[.int .u8 F.op, str F.name, .slice fa fn fc, .slice fb fm fd, .int .u8 G.op, str G.name, .slice ga gn gc, .slice gb gm gd]) : I6 W F G fa fn fc fb fm fd ga gn gc gb gm gd (listed.setIfInBounds 7 true) x13 x14 x41 x42 x43 x44 x45 x46 x47 y0 x49 w :=
  ⟨by simpa using I.sz,
   I.bw,
   fun h => I.f0 (listed_other h (by decide)),
   fun h => I.f1 (listed_other h (by decide)),
   fun h => I.f2 (listed_other h (by decide)),
   fun h => I.f3 (listed_other h (by decide)),
   fun h => I.f4 (listed_other h (by decide)),
   fun h => I.f5 (listed_other h (by decide)),
   fun h => I.f6 (listed_other h (by decide)),
   fun _ => h0,
   fun h => I.f8 (listed_other h (by decide)),
   fun h => by obtain ⟨g, v, u, e, h1, h2, h3⟩ := I.f9 (listed_other h (by decide)); exact ⟨g, v, u, e, h1, h2, fun h => h3 (listed_other h (by decide))⟩,
   fun h => by obtain ⟨g, v, u, e, h1, h2, h3⟩ := I.f10 (listed_other h (by decide)); exact ⟨g, v, u, e, h1, h2, fun h => h3 (listed_other h (by decide))⟩,
   fun h => getD_set_true (I.c11 (listed_other h (by decide))),
   fun h => getD_set_true (I.c12 (listed_other h (by decide))),
   fun h h' => I.ne (listed_other h (by decide)) (listed_other h' (by decide))⟩
theorem I6.s4 (I : I6 W F G fa fn fc fb fm fd ga gn gc gb gm gd listed x13 x14 x41 x42 x43 x44 x45 x46 x47 x48 x49 w) (h1 : listed.getD 1 false = true) (h3 : listed.getD 3 false = true) : I6 W F G fa fn fc fb fm fd ga gn gc gb gm gd (listed.setIfInBounds 4 true) x13 x14 x41 x42 x43 x44 (.agg #[x42, x44]) x46 x47 x48 x49 w :=
  ⟨by simpa using I.sz,
   I.bw,
   fun h => I.f0 (listed_other h (by decide)),
   fun h => I.f1 (listed_other h (by decide)),
   fun h => I.f2 (listed_other h (by decide)),
   fun h => I.f3 (listed_other h (by decide)),
   fun _ => ⟨_, _, rfl, I.f1 h1, I.f3 h3⟩,
   fun h => I.f5 (listed_other h (by decide)),
   fun h => I.f6 (listed_other h (by decide)),
   fun h => I.f7 (listed_other h (by decide)),
   fun h => I.f8 (listed_other h (by decide)),
   fun h => by obtain ⟨g, v, u, e, h1, h2, h3⟩ := I.f9 (listed_other h (by decide)); exact ⟨g, v, u, e, h1, h2, fun h => h3 (listed_other h (by decide))⟩,
   fun h => by obtain ⟨g, v, u, e, h1, h2, h3⟩ := I.f10 (listed_other h (by decide)); exact ⟨g, v, u, e, h1, h2, fun h => h3 (listed_other h (by decide))⟩,
   fun h => getD_set_true (I.c11 (listed_other h (by decide))),
   fun h => getD_set_true (I.c12 (listed_other h (by decide))),
   fun h h' => I.ne (listed_other h (by decide)) (listed_other h' (by decide))⟩
theorem I6.s8 (I : I6 W F G fa fn fc fb fm fd ga gn gc gb gm gd listed x13 x14 x41 x42 x43 x44 x45 x46 x47 x48 x49 w) (h7 : listed.getD 7 false = true) : I6 W F G fa fn fc fb fm fd ga gn gc gb gm gd (listed.setIfInBounds 8 true) x13 x14 x41 x42 x43 x44 x45 x46 x47 x48 (.agg #[x48, .slice none 0 0]) w :=
  ⟨by simpa using I.sz,
   I.bw,
   fun h => I.f0 (listed_other h (by decide)),
   fun h => I.f1 (listed_other h (by decide)),
   fun h => I.f2 (listed_other h (by decide)),
   fun h => I.f3 (listed_other h (by decide)),
   fun h => I.f4 (listed_other h (by decide)),
   fun h => I.f5 (listed_other h (by decide)),
   fun h => I.f6 (listed_other h (by decide)),
   fun h => I.f7 (listed_other h (by decide)),
   fun _ => ⟨_, rfl, I.f7 h7⟩,
   fun h => by obtain ⟨g, v, u, e, h1, h2, h3⟩ := I.f9 (listed_other h (by decide)); exact ⟨g, v, u, e, h1, h2, fun h => h3 (listed_other h (by decide))⟩,
   fun h => by obtain ⟨g, v, u, e, h1, h2, h3⟩ := I.f10 (listed_other h (by decide)); exact ⟨g, v, u, e, h1, h2, fun h => h3 (listed_other h (by decide))⟩,
   fun h => getD_set_true (I.c11 (listed_other h (by decide))),
   fun h => getD_set_true (I.c12 (listed_other h (by decide))),
   fun h h' => I.ne (listed_other h (by decide)) (listed_other h' (by decide))⟩
theorem I6.s9 (I : I6 W F G fa fn fc fb fm fd ga gn gc gb gm gd listed x13 x14 x41 x42 x43 x44 x45 x46 x47 x48 x49 w) {g : Nat} (hl : listed.getD 9 false = false) (hg : W.heap.size ≤ g) (h0 : w.heap[g]? = some (.cells #[.slice none 0 0, .slice none 0 0] 48 (0, 0))) (hne : listed.getD 10 false = true → one g ≠ x14) : I6 W F G fa fn fc fb fm fd ga gn gc gb gm gd (listed.setIfInBounds 9 true) (one g) x14 x41 x42 x43 x44 x45 x46 x47 x48 x49 w :=
  ⟨by simpa using I.sz,
   I.bw,
   fun h => I.f0 (listed_other h (by decide)),
   fun h => I.f1 (listed_other h (by decide)),
   fun h => I.f2 (listed_other h (by decide)),
   fun h => I.f3 (listed_other h (by decide)),
   fun h => I.f4 (listed_other h (by decide)),
   fun h => I.f5 (listed_other h (by decide)),
   fun h => I.f6 (listed_other h (by decide)),
   fun h => I.f7 (listed_other h (by decide)),
   fun h => I.f8 (listed_other h (by decide)),
   fun _ => ⟨g, _, _, rfl, hg, h0, fun h => (by have := I.c11 (listed_other h (by decide)); rw [hl] at this; cases this)⟩,
   fun h => by obtain ⟨g, v, u, e, h1, h2, h3⟩ := I.f10 (listed_other h (by decide)); exact ⟨g, v, u, e, h1, h2, fun h => h3 (listed_other h (by decide))⟩,
   fun h => (by have := I.c11 (listed_other h (by decide)); rw [hl] at this; cases this),
   fun h => getD_set_true (I.c12 (listed_other h (by decide))),
   fun _ h' => hne (listed_other h' (by decide))⟩
theorem I6.s10 (I : I6 W F G fa fn fc fb fm fd ga gn gc gb gm gd listed x13 x14 x41 x42 x43 x44 x45 x46 x47 x48 x49 w) {g : Nat} (hl : listed.getD 10 false = false) (hg : W.heap.size ≤ g) (h0 : w.heap[g]? = some (.cells #[.slice none 0 0, .slice none 0 0] 48 (0, 0))) (hne : listed.getD 9 false = true → x13 ≠ one g) : I6 W F G fa fn fc fb fm fd ga gn gc gb gm gd (listed.setIfInBounds 10 true) x13 (one g) x41 x42 x43 x44 x45 x46 x47 x48 x49 w :=
  ⟨by simpa using I.sz,
   I.bw,
   fun h => I.f0 (listed_other h (by decide)),
   fun h => I.f1 (listed_other h (by decide)),
   fun h => I.f2 (listed_other h (by decide)),
   fun h => I.f3 (listed_other h (by decide)),
   fun h => I.f4 (listed_other h (by decide)),
   fun h => I.f5 (listed_other h (by decide)),
   fun h => I.f6 (listed_other h (by decide)),
   fun h => I.f7 (listed_other h (by decide)),
   fun h => I.f8 (listed_other h (by decide)),
   fun h => by obtain ⟨g, v, u, e, h1, h2, h3⟩ := I.f9 (listed_other h (by decide)); exact ⟨g, v, u, e, h1, h2, fun h => h3 (listed_other h (by decide))⟩,
   fun _ => ⟨g, _, _, rfl, hg, h0, fun h => (by have := I.c12 (listed_other h (by decide)); rw [hl] at this; cases this)⟩,
   fun h => getD_set_true (I.c11 (listed_other h (by decide))),
   fun h => (by have := I.c12 (listed_other h (by decide)); rw [hl] at this; cases this),
   fun h _ => hne (listed_other h (by decide))⟩
theorem I6.s11 (I : I6 W F G fa fn fc fb fm fd ga gn gc gb gm gd listed x13 x14 x41 x42 x43 x44 x45 x46 x47 x48 x49 w) (ha : listed.getD 9 false = true) (hd : listed.getD 4 false = true) : ∃ g y z, x13 = one g ∧ x45 = .agg #[.slice (some ⟨y, 0, none⟩) 1 1, .slice (some ⟨z, 0, none⟩) 1 1] ∧ (∃ v u, w.heap[g]? = some (.cells #[v, u] 48 (0, 0))) ∧ I6 W F G fa fn fc fb fm fd ga gn gc gb gm gd (listed.setIfInBounds 11 true) x13 x14 x41 x42 x43 x44 x45 x46 x47 x48 x49 ((w.setCell ⟨g, 0, none⟩ (.slice (some ⟨y, 0, none⟩) 1 1)).setCell ⟨g, 1, none⟩ (.slice (some ⟨z, 0, none⟩) 1 1)) := by
  obtain ⟨g, v, u, rfl, hg, hh, -⟩ := I.f9 ha
  obtain ⟨_, _, rfl, ⟨y, rfl, hy1⟩, ⟨z, rfl, hz1⟩⟩ := I.f4 hd
  have hy : Blk W w (.slice (some ⟨y, 0, none⟩) 1 1) _ _ := ⟨_, rfl, hy1⟩
  have hz : Blk W w (.slice (some ⟨z, 0, none⟩) 1 1) _ _ := ⟨_, rfl, hz1⟩
  have hh2 : ((w.setCell ⟨g, 0, none⟩ (.slice (some ⟨y, 0, none⟩) 1 1)).setCell ⟨g, 1, none⟩ (.slice (some ⟨z, 0, none⟩) 1 1)).heap[g]? = some (.cells #[.slice (some ⟨y, 0, none⟩) 1 1, .slice (some ⟨z, 0, none⟩) 1 1] 48 (0, 0)) := (set_block (set_block hh)).trans rfl
  have B2 : Below W.heap.size W ((w.setCell ⟨g, 0, none⟩ (.slice (some ⟨y, 0, none⟩) 1 1)).setCell ⟨g, 1, none⟩ (.slice (some ⟨z, 0, none⟩) 1 1)) := (I.bw.setCell hg _).setCell hg _
  have off : ∀ b, b ≠ g → ((w.setCell ⟨g, 0, none⟩ (.slice (some ⟨y, 0, none⟩) 1 1)).setCell ⟨g, 1, none⟩ (.slice (some ⟨z, 0, none⟩) 1 1)).heap[b]? = w.heap[b]? := fun b hb => by rw [Below.heap_setCell _ _ _ _ hb, Below.heap_setCell _ _ _ _ hb]
  have k : ∀ (b : Nat) (cs : Array Value), w.heap[b]? = some (Obj.cells cs 25 (0, 0)) → ((w.setCell ⟨g, 0, none⟩ (.slice (some ⟨y, 0, none⟩) 1 1)).setCell ⟨g, 1, none⟩ (.slice (some ⟨z, 0, none⟩) 1 1)).heap[b]? = some (.cells cs 25 (0, 0)) := fun b cs h => by
    rw [off b (fun e => by subst e; rw [hh] at h; simp at h)]; exact h
  have k' : ∀ (b : Nat) (cs : Array Value), b ≠ g → w.heap[b]? = some (Obj.cells cs 48 (0, 0)) → ((w.setCell ⟨g, 0, none⟩ (.slice (some ⟨y, 0, none⟩) 1 1)).setCell ⟨g, 1, none⟩ (.slice (some ⟨z, 0, none⟩) 1 1)).heap[b]? = some (.cells cs 48 (0, 0)) := fun b cs hne h => by
    rw [off b hne]; exact h
  refine ⟨g, y, z, rfl, rfl, ⟨v, u, hh⟩, ?_⟩
  exact ⟨by simpa using I.sz,
    B2,
    fun h => I.f0 (listed_other h (by decide)),
    fun h => (I.f1 (listed_other h (by decide))).moved k,
    fun h => I.f2 (listed_other h (by decide)),
    fun h => (I.f3 (listed_other h (by decide))).moved k,
    fun h => by obtain ⟨y', z', e, a, b⟩ := I.f4 (listed_other h (by decide)); exact ⟨y', z', e, a.moved k, b.moved k⟩,
    fun h => I.f5 (listed_other h (by decide)),
    fun h => I.f6 (listed_other h (by decide)),
    fun h => (I.f7 (listed_other h (by decide))).moved k,
    fun h => by obtain ⟨y', e, a⟩ := I.f8 (listed_other h (by decide)); exact ⟨y', e, a.moved k⟩,
    fun h => ⟨g, _, _, rfl, hg, hh2, fun _ => ⟨hy.moved k, hz.moved k⟩⟩,
    fun h => by obtain ⟨g', v', u', e, h1, h2, h3⟩ := I.f10 (listed_other h (by decide)); exact ⟨g', v', u', e, h1, k' _ _ (fun e2 => absurd (e.trans (by rw [e2])) ((I.ne ha (listed_other h (by decide))).symm)) h2, fun h => ⟨(h3 (listed_other h (by decide))).1.moved k, (h3 (listed_other h (by decide))).2⟩⟩,
    fun _ => getD_set_true ha,
    fun h => getD_set_true (I.c12 (listed_other h (by decide))),
    fun h h' => I.ne (listed_other h (by decide)) (listed_other h' (by decide))⟩
theorem I6.s12 (I : I6 W F G fa fn fc fb fm fd ga gn gc gb gm gd listed x13 x14 x41 x42 x43 x44 x45 x46 x47 x48 x49 w) (ha : listed.getD 10 false = true) (hd : listed.getD 8 false = true) : ∃ g y, x14 = one g ∧ x49 = .agg #[.slice (some ⟨y, 0, none⟩) 2 2, .slice none 0 0] ∧ (∃ v u, w.heap[g]? = some (.cells #[v, u] 48 (0, 0))) ∧ I6 W F G fa fn fc fb fm fd ga gn gc gb gm gd (listed.setIfInBounds 12 true) x13 x14 x41 x42 x43 x44 x45 x46 x47 x48 x49 ((w.setCell ⟨g, 0, none⟩ (.slice (some ⟨y, 0, none⟩) 2 2)).setCell ⟨g, 1, none⟩ (.slice none 0 0)) := by
  obtain ⟨g, v, u, rfl, hg, hh, -⟩ := I.f10 ha
  obtain ⟨_, rfl, y, rfl, hy1⟩ := I.f8 hd
  have hy : Blk W w (.slice (some ⟨y, 0, none⟩) 2 2) _ _ := ⟨_, rfl, hy1⟩
  have hh2 : ((w.setCell ⟨g, 0, none⟩ (.slice (some ⟨y, 0, none⟩) 2 2)).setCell ⟨g, 1, none⟩ (.slice none 0 0)).heap[g]? = some (.cells #[.slice (some ⟨y, 0, none⟩) 2 2, .slice none 0 0] 48 (0, 0)) := (set_block (set_block hh)).trans rfl
  have B2 : Below W.heap.size W ((w.setCell ⟨g, 0, none⟩ (.slice (some ⟨y, 0, none⟩) 2 2)).setCell ⟨g, 1, none⟩ (.slice none 0 0)) := (I.bw.setCell hg _).setCell hg _
  have off : ∀ b, b ≠ g → ((w.setCell ⟨g, 0, none⟩ (.slice (some ⟨y, 0, none⟩) 2 2)).setCell ⟨g, 1, none⟩ (.slice none 0 0)).heap[b]? = w.heap[b]? := fun b hb => by rw [Below.heap_setCell _ _ _ _ hb, Below.heap_setCell _ _ _ _ hb]
  have k : ∀ (b : Nat) (cs : Array Value), w.heap[b]? = some (Obj.cells cs 25 (0, 0)) → ((w.setCell ⟨g, 0, none⟩ (.slice (some ⟨y, 0, none⟩) 2 2)).setCell ⟨g, 1, none⟩ (.slice none 0 0)).heap[b]? = some (.cells cs 25 (0, 0)) := fun b cs h => by
    rw [off b (fun e => by subst e; rw [hh] at h; simp at h)]; exact h
  have k' : ∀ (b : Nat) (cs : Array Value), b ≠ g → w.heap[b]? = some (Obj.cells cs 48 (0, 0)) → ((w.setCell ⟨g, 0, none⟩ (.slice (some ⟨y, 0, none⟩) 2 2)).setCell ⟨g, 1, none⟩ (.slice none 0 0)).heap[b]? = some (.cells cs 48 (0, 0)) := fun b cs hne h => by
    rw [off b hne]; exact h
  refine ⟨g, y, rfl, rfl, ⟨v, u, hh⟩, ?_⟩
  exact ⟨by simpa using I.sz,
    B2,
    fun h => I.f0 (listed_other h (by decide)),
    fun h => (I.f1 (listed_other h (by decide))).moved k,
    fun h => I.f2 (listed_other h (by decide)),
    fun h => (I.f3 (listed_other h (by decide))).moved k,
    fun h => by obtain ⟨y', z', e, a, b⟩ := I.f4 (listed_other h (by decide)); exact ⟨y', z', e, a.moved k, b.moved k⟩,
    fun h => I.f5 (listed_other h (by decide)),
    fun h => I.f6 (listed_other h (by decide)),
    fun h => (I.f7 (listed_other h (by decide))).moved k,
    fun h => by obtain ⟨y', e, a⟩ := I.f8 (listed_other h (by decide)); exact ⟨y', e, a.moved k⟩,
    fun h => by obtain ⟨g', v', u', e, h1, h2, h3⟩ := I.f9 (listed_other h (by decide)); exact ⟨g', v', u', e, h1, k' _ _ (fun e2 => absurd (e.trans (by rw [e2])) (I.ne (listed_other h (by decide)) ha)) h2, fun h => ⟨(h3 (listed_other h (by decide))).1.moved k, (h3 (listed_other h (by decide))).2.moved k⟩⟩,
    fun h => ⟨g, _, _, rfl, hg, hh2, fun _ => ⟨hy.moved k, rfl⟩⟩,
    fun h => getD_set_true (I.c11 (listed_other h (by decide))),
    fun _ => getD_set_true ha,
    fun h h' => I.ne (listed_other h (by decide)) (listed_other h' (by decide))⟩
end
end Go.Proofs.YtcandidgaegghaaGreatDoor
