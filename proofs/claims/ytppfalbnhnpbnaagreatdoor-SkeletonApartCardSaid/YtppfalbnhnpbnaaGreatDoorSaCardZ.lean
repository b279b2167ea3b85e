/-
  lyceumlaw30.SkeletonApart is true of every slice of bytes and every byte: claims of different shape have different skeletons.
  Conditions: the package-level variables that the row lists start as the program's text lays them (the card ties them to it).
-/
import Derived.Test.YtppfalbnhnpbnaaGreatDoorRowZ
import Derived.Test.YtppfalbnhnpbnaaGreatDoorLaBZ
import Derived.Test.YtppfalbnhnpbnaaGreatDoorSaFactAZ
import Derived.Test.YtppfalbnhnpbnaaGreatDoorSaFactBZ
import Derived.Test.YtppfalbnhnpbnaaGreatDoorSaFactCZ
import Derived.Test.YtppfalbnhnpbnaaGreatDoorCards
import Derived.Test.YtppfalbnhnpbnaaGreatDoorTie
set_option linter.unusedSimpArgs false
set_option linter.unusedVariables false
namespace Go.Proofs.YtppfalbnhnpbnaaGreatDoor.SkelApart
open Go Go.ChangeShapes Go.WideShapes Go.ChangeAt Go.RowKit Ly
set_option maxRecDepth 10000
theorem own : ownKnob Tryz.prog.godebug = none := by kernel_rfl
theorem met {W : World} (hL : laidMetH Tryz.prog Rows.skeletonApartRow.laid W) : laidMet Tryz.prog Rows.skeletonApartRow.laid W := hL
theorem contract (H : Type) (enc : TypeId × Value → H) (W : World) (base : Nat) (args : Array Value) (ds gs : List (DataW H)) (before : List MemPlace)
    (hval : ∀ (j : Nat) t v, Tryz.f4.params[j]? = some t → args[j]? = some v → Value.okWide Tryz.prog W .any base t v)
    (hW : DataW.Whole enc Tryz.prog Tryz.f4.params.toList Rows.skeletonApartSpec.vars false W args.toList ds gs before) (hL : laidMetH Tryz.prog Rows.skeletonApartRow.laid W) (hsh : W.ShapedOpen Tryz.prog) :
    Calls Tryz.prog 4 args W fun e W' => ∃ v, e = .returned v ∧ Rows.skeletonApartSpec.post enc Tryz.prog Tryz.f4 false true false false W args v W' := by
  have hW' := hW
  obtain ⟨p, q, hA0, hV, rfl, hfz, hnd⟩ := hW
  have hA : DataW.TrodAll enc Tryz.prog W 0 (fun _ => true) true Tryz.f4.params.toList args.toList ds p := hA0
  rw [Tryz.params4] at hA hval
  obtain ⟨v0, vs0, d0, ds0, p0, q0, hargs, rfl, rfl, h0, r0⟩ := trodAll_cons hA
  obtain ⟨v1, vs1, d1, ds1, p1, q1, rfl, rfl, rfl, h1, r1⟩ := trodAll_cons r0
  obtain ⟨rfl, rfl, rfl⟩ := trodAll_nil r1
  obtain rfl : args = #[v0, v1] := by cases args; simp_all
  obtain ⟨l, a, n, c, rfl, hl⟩ := bts_of (hval 0 43 v0 rfl rfl) h0
  obtain ⟨sd, rfl, _, _, hwf⟩ := open_int Tryz.underlying5 (hval 1 5 v1 rfl rfl) h1
  have hb := bounds_u8 hwf
  obtain ⟨k, rfl⟩ : ∃ k : Nat, sd = (k : Int) := ⟨sd.toNat, by omega⟩
  have rows := rows_at (met hL) (by simp [Rows.skeletonApartRow])
  have pow := pow_at (met hL) (by simp [Rows.skeletonApartRow]) (t := 258) (by kernel_rfl) Tryz.underlying258 (by kernel_rfl)
  refine (apart30_c l a n c k (by omega) W rows pow hl).mono fun e W' ⟨he, hbw⟩ => ?_
  exact ⟨_, he, law_post (fun t ht => by rw [Tryz.params4] at ht; simp at ht; rcases ht with rfl | rfl <;> exact ⟨by kernel_rfl, of_decide_eq_true (by kernel_rfl)⟩) (by kernel_rfl) rfl rfl hW' hbw⟩
def flatV : Nat → DataW Unit → List Value
  | n + 1, .lit (.bool b) => [.bool b]
  | n + 1, .lit (.int k z) => [.int k z]
  | n + 1, .agg ds => ds.flatMap (flatV n)
  | _, _ => []
noncomputable def put (g : Nat) (d : DataW Unit) (w : World) : World := { w with heap := w.heap.modify g fun
  | .cells _ t frozen => .cells (flatV 3 d).toArray t frozen
  | o => o }
noncomputable def laidWorld (os : Os) : World :=
  put 0 Rows.laid_lyceum_syntax_rows (put 3 Rows.laid_internal_strconv_uint64pow10 (put 4 Rows.laid_math_bits_deBruijn32tab (put 5 Rows.laid_math_bits_deBruijn64tab (World.holding Tryz.prog os ⟨#[], #[], []⟩))))
theorem laid_met (os : Os) : laidMet Tryz.prog Rows.skeletonApartRow.laid ((laidWorld os).forCall (fun _ _ => 0) ⟨#[], #[.slice none 0 0, .int .u8 0], []⟩).memory :=
  laidMet_of_run' 8 (by kernel_rfl) (by kernel_rfl)
theorem reads (os : Os) {H : Type} (enc : TypeId × Value → H) : ∃ places, DataW.whole enc Tryz.prog ((laidWorld os).forCall (fun _ _ => 0) ⟨#[], #[.slice none 0 0, .int .u8 0], []⟩).memory Tryz.f4.params.toList Rows.skeletonApartSpec.vars false #[Value.slice none 0 0, .int .u8 0].toList 8 = some ([.nil, .lit (.int .u8 0)], [], places) :=
  ⟨[], by kernel_rfl⟩
set_option maxRecDepth 100000 in
theorem lifted (os : Os) (started : os.Started) (H : Type) (enc : TypeId × Value → H) (F : Stop.Interp) :
    ReturnsInHanded {} Tryz.checked os 4 .any ((OpenSpec.ofChange Rows.skeletonApartSpec).preRow enc Tryz.prog Tryz.f4 Rows.skeletonApartRow.domain false Rows.skeletonApartRow.laid) (((OpenSpec.ofChange Rows.skeletonApartSpec).at F).post enc Tryz.prog Tryz.f4 false true false false) := by
  obtain ⟨places, hx⟩ := reads os enc
  refine returnsInHanded_of_row (C := Tryz.checked) (s := OpenSpec.ofChange Rows.skeletonApartSpec) own started (by kernel_rfl) Tryz.func4
    (witness_row_at (enc := enc) (C := Tryz.checked) false (laidWorld os) #[.slice none 0 0, .int .u8 0] rfl (by kernel_rfl) (by kernel_rfl) (by kernel_rfl)
      (OpenSpec.preRow_of_cond 8 hx (by kernel_rfl) (fun k hk => by cases hk) (by kernel_rfl) (laid_met os))) ?_
  intro W base args ds gs before hval hW _ _ _ hL hsh _
  exact contract H enc W base args ds gs before hval hW hL hsh
theorem named : Tryz.pinned.checked.prog.funcNamed Rows.skeletonApartRow.func = some 4 := by kernel_rfl
theorem said : Rows.SkeletonApartSaid :=
  OpenClaim.holds_of_cond 4 Tryz.f4 rfl rfl rfl rfl rfl rfl rfl ⟨rfl, rfl, rfl, rfl, rfl⟩ rfl rfl rfl rfl rfl named Tryz.func4 closed
    (of_decide_eq_true (by as_aux_lemma => kernel_rfl)) (by unfold Func.isWrapper; first | (rw [if_pos (by decide +kernel)]; as_aux_lemma => kernel_rfl) | (rw [if_neg (by decide +kernel)]; exact ⟨rfl, rfl⟩))
    (fun os started H enc _ F => by rw [OpenClaim.pre_eq_preRow]; exact lifted os started H enc F)
theorem plain (f : FuncId) (fn : Func) (hf : Tryz.pinned.checked.prog.funcNamed "lyceum/lyceumlaw30.SkeletonApart" = some f) (hfn : Tryz.pinned.checked.prog.funcs[f]? = some fn) :
    false = Tryz.pinned.checked.prog.looks [] ∧ ∀ (j : Nat) t, fn.params[j]? = some t → Tryz.pinned.checked.prog.wantsStandIn t = false := by
  obtain rfl : f = 4 := Option.some.inj ((show Tryz.prog.funcNamed "lyceum/lyceumlaw30.SkeletonApart" = some 4 by kernel_rfl).symm.trans hf) |>.symm
  obtain rfl : fn = Tryz.f4 := (Option.some.inj (Tryz.func4.symm.trans hfn)).symm
  refine ⟨looks, fun j t ht => ?_⟩
  rw [Tryz.params4] at ht
  have : t = 43 ∨ t = 5 := by simpa using Array.mem_of_getElem? ht
  rcases this with rfl | rfl
  · exact (show Tryz.prog.wantsStandIn 43 = false by kernel_rfl)
  · exact (show Tryz.prog.wantsStandIn 5 = false by kernel_rfl)
end Go.Proofs.YtppfalbnhnpbnaaGreatDoor.SkelApart
namespace Go.Proofs.YtppfalbnhnpbnaaGreatDoor
theorem skeletonApart_card : Rows.SkeletonApartCardSaid :=
  Claim7.holds_tied_plain_at .later [] _ _ _ _ SkelApart.said (fun _ h => by cases h) SkelApart.words (fun _ h => by cases h) skeletonApart_row_tie rfl ⟨rfl, rfl⟩ SkelApart.mainIs rfl SkelApart.plain SkelApart.goes
end Go.Proofs.YtppfalbnhnpbnaaGreatDoor
