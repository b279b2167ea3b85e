/-
  lyceumlaw41.DescribeModels is true, whatever its arguments are.
  Conditions: the package-level variables that the row lists start as the program's text lays them (the card ties them to it).
-/
import Derived.Test.YtcandidgaegghaaGreatDoorCards
import Derived.Test.YtcandidgaegghaaGreatDoorTie
import Derived.Test.YtcandidgaegghaaGreatDoorMdAZ
import Derived.Test.YtcandidgaegghaaGreatDoorNdSZ
import Derived.Test.YtcandidgaegghaaGreatDoorMoFactAZ
import Derived.Test.YtcandidgaegghaaGreatDoorMoFactBZ
import Derived.Test.YtcandidgaegghaaGreatDoorMoFactCZ
set_option maxRecDepth 10000
set_option linter.unusedSimpArgs false
set_option linter.unusedVariables false
namespace Go.Proofs.YtcandidgaegghaaGreatDoor.DescModels
open Go Go.ChangeShapes Go.WideShapes Go.ChangeAt Go.RowKit Ly
theorem own : ownKnob Tryz.prog.godebug = none:=by kernel_rfl
theorem met {W : World} (hL : laidMetH Tryz.prog Rows.describeModelsRow.laid W) : laidMet Tryz.prog Rows.describeModelsRow.laid W:=hL
theorem vT (H : Type) (enc : TypeId × Value → H) (W : World) (base : Nat) (args : Array Value) (ds gs : List (DataW H)) (before : List MemPlace)
  (hval : ∀ (j : Nat) t v,Tryz.f4.params[j]? = some t → args[j]? = some v → Value.okWide Tryz.prog W .any base t v)
  (hW : DataW.Whole enc Tryz.prog Tryz.f4.params.toList Rows.describeModelsSpec.vars false W args.toList ds gs before) (hwt : (DataW.weightsEach Tryz.prog (Tryz.f4.params.toList ++ (OpenSpec.ofChange Rows.describeModelsSpec).bare.plain.varTypes Tryz.prog) (ds ++ gs)).all (· ≤ reachBytes) = true) (hL : laidMetH Tryz.prog Rows.describeModelsRow.laid W) (hsh : W.ShapedOpen Tryz.prog) :
  Calls Tryz.prog 4 args W fun e W'=>∃ v,e = .returned v ∧ Rows.describeModelsSpec.post enc Tryz.prog Tryz.f4 false true false false W args v W':=by
 have hW':=hW
 obtain ⟨p,q,hA0,hV,rfl,hfz,hnd⟩:=hW
 have hA : DataW.TrodAll enc Tryz.prog W 0 (fun _=>true) true Tryz.f4.params.toList args.toList ds p:=hA0
 rw [Tryz.params4] at hA hval
 obtain ⟨v0,vs0,d0,ds0,p0,q0,hargs,rfl,rfl,h0,r0⟩:=trodAll_cons hA
 obtain ⟨rfl,rfl,rfl⟩:=trodAll_nil r0
 obtain rfl : args = #[v0]:=by cases args;simp_all
 have hy : kR 34 d0:=fun n hn=>by
  have h9:=List.all_eq_true.1 hwt n (by rw [Tryz.params4];exact List.mem_append_left _ hn)
  exact of_decide_eq_true h9
 obtain ⟨m,ra,rn,rc,fa,fn,fc,ga,gn,gc,ba,bn,bc,rfl,hx,hsz⟩:=md_of (hval 0 34 v0 rfl rfl) hy h0
 have rows:=rows_at (met hL) (by simp [Rows.describeModelsRow])
 have pow:=pow_at (met hL) (by simp [Rows.describeModelsRow]) (t:=319) (by kernel_rfl) Tryz.underlying319 (by kernel_rfl)
 have mx:=max_at hsh
 refine (describeModels_c m hsz ra fa ga ba rn rc fn fc gn gc bn bc W rows pow mx hx).mono fun e W' ⟨he,hbw⟩=>?_
 exact ⟨_,he,law_post (fun t ht=>by rw [Tryz.params4] at ht;simp at ht;subst ht;exact ⟨by kernel_rfl,of_decide_eq_true (by kernel_rfl)⟩) (by kernel_rfl) rfl rfl hW' hbw⟩
def AE : Nat → DataW Unit → List Value
 | n + 1,.lit (.bool b)=>[.bool b]
 | n + 1,.lit (.int k z)=>[.int k z]
 | n + 1,.agg ds=>ds.flatMap (AE n)
 | _,_=>[]
noncomputable def put (g : Nat) (d : DataW Unit) (w : World) : World:={ w with heap:=w.heap.modify g fun
 | .cells _ t frozen=>.cells (AE 3 d).toArray t frozen
 | o=>o }
noncomputable def putV (g : Nat) (cs : Array Value) (w : World) : World:={ w with heap:=w.heap.modify g fun
 | .cells _ t frozen=>.cells cs t frozen
 | o=>o }
noncomputable def pZ (os : Os) : World :=
 putV 2 #[.iface 315 (.pointer (some ⟨(World.settled Tryz.prog os).heap.size,0,none⟩))] (putV 3 #[.iface 315 (.pointer (some ⟨(World.settled Tryz.prog os).heap.size + 1,0,none⟩))]
 (put 0 Rows.laid_lyceum_syntax_rows (put 4 Rows.laid_internal_strconv_uint64pow10 (put 5 Rows.laid_unicode_utf8_first (put 6 Rows.laid_unicode_utf8_acceptRanges (put 7 Rows.laid_math_bits_deBruijn32tab (put 8 Rows.laid_math_bits_deBruijn64tab
  (World.holding Tryz.prog os ⟨#[.cells #[.string ⟨#[105,110,118,97,108,105,100,32,115,121,110,116,97,120]⟩] 317,.cells #[.string ⟨#[118,97,108,117,101,32,111,117,116,32,111,102,32,114,97,110,103,101]⟩] 317],#[],[]⟩))))))))
theorem laid_met (os : Os) : laidMet Tryz.prog Rows.describeModelsRow.laid ((pZ os).forCall (fun _ _=>0) ⟨#[],#[.agg #[.int .u8 0,.int .i64 0,.slice none 0 0,.int .i64 0,.slice none 0 0,.slice none 0 0,.slice none 0 0]],[]⟩).memory :=
 laidMet_of_run' 8 (by kernel_rfl) (by kernel_rfl)
theorem reads (os : Os) {H : Type} (enc : TypeId × Value → H) : ∃ places,DataW.whole enc Tryz.prog ((pZ os).forCall (fun _ _=>0) ⟨#[],#[.agg #[.int .u8 0,.int .i64 0,.slice none 0 0,.int .i64 0,.slice none 0 0,.slice none 0 0,.slice none 0 0]],[]⟩).memory Tryz.f4.params.toList Rows.describeModelsSpec.vars false #[Value.agg #[.int .u8 0,.int .i64 0,.slice none 0 0,.int .i64 0,.slice none 0 0,.slice none 0 0,.slice none 0 0]].toList 8 = some ([.agg [.lit (.int .u8 0),.lit (.int .i64 0),.nil,.lit (.int .i64 0),.nil,.nil,.nil]],[],places) :=
 ⟨[],by kernel_rfl⟩
set_option maxRecDepth 100000 in
theorem lifted (os : Os) (started : os.Started) (H : Type) (enc : TypeId × Value → H) (F : Stop.Interp) :
  ReturnsInHanded {} Tryz.checked os 4 .any ((OpenSpec.ofChange Rows.describeModelsSpec).preRow enc Tryz.prog Tryz.f4 Rows.describeModelsRow.domain false Rows.describeModelsRow.laid) (((OpenSpec.ofChange Rows.describeModelsSpec).at F).post enc Tryz.prog Tryz.f4 false true false false):=by
 obtain ⟨places,hx⟩:=reads os enc
 refine returnsInHanded_of_row (C:=Tryz.checked) (s:=OpenSpec.ofChange Rows.describeModelsSpec) own started (by kernel_rfl) Tryz.func4
  (witness_row_at (enc:=enc) (C:=Tryz.checked) false (pZ os) #[.agg #[.int .u8 0,.int .i64 0,.slice none 0 0,.int .i64 0,.slice none 0 0,.slice none 0 0,.slice none 0 0]] rfl (by kernel_rfl) (by kernel_rfl) (by kernel_rfl)
   (OpenSpec.preRow_of_cond 8 hx (by kernel_rfl) (fun k hk=>by cases hk) (by kernel_rfl) (laid_met os))) ?_
 intro W base args ds gs before hval hW _ _ hwt hL hsh _
 exact vT H enc W base args ds gs before hval hW hwt hL hsh
theorem named : Tryz.pinned.checked.prog.funcNamed Rows.describeModelsRow.func = some 4:=by kernel_rfl
theorem said : Rows.DescribeModelsSaid :=
 OpenClaim.holds_of_cond 4 Tryz.f4 rfl rfl rfl rfl rfl rfl rfl ⟨rfl,rfl,rfl,rfl,rfl⟩ rfl rfl rfl rfl rfl named Tryz.func4 closed
  (of_decide_eq_true (by as_aux_lemma=>kernel_rfl)) (by unfold Func.isWrapper;first | (rw [if_pos (by decide +kernel)];as_aux_lemma=>kernel_rfl) | (rw [if_neg (by decide +kernel)];exact ⟨rfl,rfl⟩))
  (fun os started H enc _ F=>by rw [OpenClaim.pre_eq_preRow];exact lifted os started H enc F)
theorem plain (f : FuncId) (fn : Func) (hf : Tryz.pinned.checked.prog.funcNamed "lyceum/lyceumlaw41.DescribeModels" = some f) (hfn : Tryz.pinned.checked.prog.funcs[f]? = some fn) :
  true = Tryz.pinned.checked.prog.looks [] ∧ ∀ (j : Nat) t,fn.params[j]? = some t → Tryz.pinned.checked.prog.wantsStandIn t = false:=by
 obtain rfl : f = 4:=Option.some.inj ((show Tryz.prog.funcNamed "lyceum/lyceumlaw41.DescribeModels" = some 4 by kernel_rfl).symm.trans hf) |>.symm
 obtain rfl : fn = Tryz.f4:=(Option.some.inj (Tryz.func4.symm.trans hfn)).symm
 refine ⟨looks,fun j t ht=>?_⟩
 rw [Tryz.params4] at ht
 have : t = 34:=by simpa using Array.mem_of_getElem? ht
 subst this
 exact (show Tryz.prog.wantsStandIn 34 = false by kernel_rfl)
end Go.Proofs.YtcandidgaegghaaGreatDoor.DescModels
namespace Go.Proofs.YtcandidgaegghaaGreatDoor
theorem describeModels_card : Rows.DescribeModelsCardSaid :=
 Claim7.holds_tied_plain_at .later [] _ _ _ _ DescModels.said (fun _ h=>by cases h) DescModels.words (fun _ h=>by cases h) describeModels_row_tie rfl ⟨rfl,rfl⟩ DescModels.mainIs rfl DescModels.plain DescModels.goes
end Go.Proofs.YtcandidgaegghaaGreatDoor
