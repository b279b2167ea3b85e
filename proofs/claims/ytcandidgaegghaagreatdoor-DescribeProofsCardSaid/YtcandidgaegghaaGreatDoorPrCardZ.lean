/-
  lyceumlaw41.DescribeProofs is true, whatever its arguments are.
  Conditions: the package-level variables that the row lists start as the program's text lays them (the card ties them to it).
-/
import Derived.Test.YtcandidgaegghaaGreatDoorCards
import Derived.Test.YtcandidgaegghaaGreatDoorTie
import Derived.Test.YtcandidgaegghaaGreatDoorOvAZ
import Derived.Test.YtcandidgaegghaaGreatDoorRwEZ
import Derived.Test.YtcandidgaegghaaGreatDoorPrFactAZ
import Derived.Test.YtcandidgaegghaaGreatDoorPrFactBZ
import Derived.Test.YtcandidgaegghaaGreatDoorPrFactCZ
set_option maxRecDepth 10000
set_option linter.unusedSimpArgs false
set_option linter.unusedVariables false
namespace Go.Proofs.YtcandidgaegghaaGreatDoor.DescProofs
open Go Go.ChangeShapes Go.WideShapes Go.ChangeAt Go.RowKit Ly
theorem own : ownKnob Tryz.prog.godebug = none:=by kernel_rfl
theorem met {W : World} (hL : laidMetH Tryz.prog Rows.describeProofsRow.laid W) : laidMet Tryz.prog Rows.describeProofsRow.laid W:=hL
theorem mM (H : Type) (enc : TypeId × Value → H) (W : World) (base : Nat) (args : Array Value) (ds gs : List (DataW H)) (before : List MemPlace)
  (hval : ∀ (j : Nat) t v,Tryz.f9.params[j]? = some t → args[j]? = some v → Value.okWide Tryz.prog W .any base t v)
  (hW : DataW.Whole enc Tryz.prog Tryz.f9.params.toList Rows.describeProofsSpec.vars false W args.toList ds gs before) (hwt : (DataW.weightsEach Tryz.prog (Tryz.f9.params.toList ++ (OpenSpec.ofChange Rows.describeProofsSpec).bare.plain.varTypes Tryz.prog) (ds ++ gs)).all (· ≤ reachBytes) = true) (hL : laidMetH Tryz.prog Rows.describeProofsRow.laid W) (hsh : W.ShapedOpen Tryz.prog) :
  Calls Tryz.prog 9 args W fun e W'=>∃ v,e = .returned v ∧ Rows.describeProofsSpec.post enc Tryz.prog Tryz.f9 false true false false W args v W':=by
 have hW':=hW
 obtain ⟨p,q,hA0,hV,rfl,hfz,hnd⟩:=hW
 have hA : DataW.TrodAll enc Tryz.prog W 0 (fun _=>true) true Tryz.f9.params.toList args.toList ds p:=hA0
 rw [Tryz.params9] at hA hval
 obtain ⟨v0,vs0,d0,ds0,p0,q0,hargs,rfl,rfl,h0,r0⟩:=trodAll_cons hA
 obtain ⟨v1,vs1,d1,ds1,p1,q1,rfl,rfl,rfl,h1,r1⟩:=trodAll_cons r0
 obtain ⟨rfl,rfl,rfl⟩:=trodAll_nil r1
 obtain rfl : args = #[v0,v1]:=by cases args;simp_all
 have hy0 : gH 53 d0:=fun n hn=>by
  have h9:=List.all_eq_true.1 hwt n (by rw [Tryz.params9];exact List.mem_append_left _ hn)
  exact of_decide_eq_true h9
 have hy1 : gH 36 d1:=fun n hn=>by
  have h9:=List.all_eq_true.1 hwt n (by rw [Tryz.params9];exact List.mem_append_right _ (List.mem_append_left _ hn))
  exact of_decide_eq_true h9
 obtain ⟨P,hzP,hP⟩:=pf_of (hval 0 53 v0 rfl rfl) hy0 h0
 obtain ⟨L,aL,nL,cL,rfl,hlb,hL2⟩:=txs_of (hval 1 36 v1 rfl rfl) hy1 h1
 have rows:=rows_at (met hL) (by simp [Rows.describeProofsRow])
 have pow:=pow_at (met hL) (by simp [Rows.describeProofsRow]) (t:=319) (by kernel_rfl) Tryz.underlying319 (by kernel_rfl)
 have rowsn:=rows_no (met hL) (by simp [Rows.describeProofsRow])
 have mx:=max_at hsh
 have er:=err_at (((((met hL).tail).tail).tail).tail)
 refine (describeProofs_c P hzP L hlb _ aL nL cL W ⟨mx,rows,rowsn,er⟩ pow hP hL2).mono fun e W' ⟨he,hbw⟩=>?_
 exact ⟨_,he,law_post (fun t ht=>by rw [Tryz.params9] at ht;simp at ht;rcases ht with rfl | rfl <;> exact ⟨by kernel_rfl,of_decide_eq_true (by kernel_rfl)⟩) (by kernel_rfl) rfl rfl hW' hbw⟩
def MT : Nat → DataW Unit → List Value
 | n + 1,.lit (.bool b)=>[.bool b]
 | n + 1,.lit (.int k z)=>[.int k z]
 | n + 1,.agg ds=>ds.flatMap (MT n)
 | _,_=>[]
noncomputable def put (g : Nat) (d : DataW Unit) (w : World) : World:={ w with heap:=w.heap.modify g fun
 | .cells _ t frozen=>.cells (MT 3 d).toArray t frozen
 | o=>o }
noncomputable def putV (g : Nat) (cs : Array Value) (w : World) : World:={ w with heap:=w.heap.modify g fun
 | .cells _ t frozen=>.cells cs t frozen
 | o=>o }
noncomputable def tZ (os : Os) : World :=
 putV 2 #[.iface 315 (.pointer (some ⟨(World.settled Tryz.prog os).heap.size,0,none⟩))] (putV 3 #[.iface 315 (.pointer (some ⟨(World.settled Tryz.prog os).heap.size + 1,0,none⟩))]
 (put 0 Rows.laid_lyceum_syntax_rows (put 4 Rows.laid_internal_strconv_uint64pow10 (put 5 Rows.laid_unicode_utf8_first (put 6 Rows.laid_unicode_utf8_acceptRanges (put 7 Rows.laid_math_bits_deBruijn32tab (put 8 Rows.laid_math_bits_deBruijn64tab
  (World.holding Tryz.prog os ⟨#[.cells #[.string ⟨#[105,110,118,97,108,105,100,32,115,121,110,116,97,120]⟩] 317,.cells #[.string ⟨#[118,97,108,117,101,32,111,117,116,32,111,102,32,114,97,110,103,101]⟩] 317],#[],[]⟩))))))))
theorem laid_met (os : Os) : laidMet Tryz.prog Rows.describeProofsRow.laid ((tZ os).forCall (fun _ _=>0) ⟨#[],#[.agg #[.string ⟨#[]⟩,.int .u8 0,.string ⟨#[]⟩,.slice none 0 0,.slice none 0 0,.int .i64 0,.slice none 0 0,.slice none 0 0],.slice none 0 0],[]⟩).memory :=
 laidMet_of_run' 8 (by kernel_rfl) (by kernel_rfl)
theorem reads (os : Os) {H : Type} (enc : TypeId × Value → H) : ∃ places,DataW.whole enc Tryz.prog ((tZ os).forCall (fun _ _=>0) ⟨#[],#[.agg #[.string ⟨#[]⟩,.int .u8 0,.string ⟨#[]⟩,.slice none 0 0,.slice none 0 0,.int .i64 0,.slice none 0 0,.slice none 0 0],.slice none 0 0],[]⟩).memory Tryz.f9.params.toList Rows.describeProofsSpec.vars false #[Value.agg #[.string ⟨#[]⟩,.int .u8 0,.string ⟨#[]⟩,.slice none 0 0,.slice none 0 0,.int .i64 0,.slice none 0 0,.slice none 0 0],.slice none 0 0].toList 8 = some ([.agg [.lit (.string []),.agg [.lit (.int .u8 0),.lit (.string []),.nil,.nil],.lit (.int .i64 0),.nil,.nil],.nil],[],places) :=
 ⟨[],by kernel_rfl⟩
set_option maxRecDepth 100000 in
theorem lifted (os : Os) (started : os.Started) (H : Type) (enc : TypeId × Value → H) (F : Stop.Interp) :
  ReturnsInHanded {} Tryz.checked os 9 .any ((OpenSpec.ofChange Rows.describeProofsSpec).preRow enc Tryz.prog Tryz.f9 Rows.describeProofsRow.domain false Rows.describeProofsRow.laid) (((OpenSpec.ofChange Rows.describeProofsSpec).at F).post enc Tryz.prog Tryz.f9 false true false false):=by
 obtain ⟨places,hx⟩:=reads os enc
 refine returnsInHanded_of_row (C:=Tryz.checked) (s:=OpenSpec.ofChange Rows.describeProofsSpec) own started (by kernel_rfl) Tryz.func9
  (witness_row_at (enc:=enc) (C:=Tryz.checked) false (tZ os) #[.agg #[.string ⟨#[]⟩,.int .u8 0,.string ⟨#[]⟩,.slice none 0 0,.slice none 0 0,.int .i64 0,.slice none 0 0,.slice none 0 0],.slice none 0 0] rfl (by kernel_rfl) (by kernel_rfl) (by kernel_rfl)
   (OpenSpec.preRow_of_cond 8 hx (by kernel_rfl) (fun k hk=>by cases hk) (by kernel_rfl) (laid_met os))) ?_
 intro W base args ds gs before hval hW _ _ hwt hL hsh _
 exact mM H enc W base args ds gs before hval hW hwt hL hsh
theorem named : Tryz.pinned.checked.prog.funcNamed Rows.describeProofsRow.func = some 9:=by kernel_rfl
theorem said : Rows.DescribeProofsSaid :=
 OpenClaim.holds_of_cond 9 Tryz.f9 rfl rfl rfl rfl rfl rfl rfl ⟨rfl,rfl,rfl,rfl,rfl⟩ rfl rfl rfl rfl rfl named Tryz.func9 closed
  (of_decide_eq_true (by as_aux_lemma=>kernel_rfl)) (by unfold Func.isWrapper;first | (rw [if_pos (by decide +kernel)];as_aux_lemma=>kernel_rfl) | (rw [if_neg (by decide +kernel)];exact ⟨rfl,rfl⟩))
  (fun os started H enc _ F=>by rw [OpenClaim.pre_eq_preRow];exact lifted os started H enc F)
theorem plain (f : FuncId) (fn : Func) (hf : Tryz.pinned.checked.prog.funcNamed "lyceum/lyceumlaw41.DescribeProofs" = some f) (hfn : Tryz.pinned.checked.prog.funcs[f]? = some fn) :
  true = Tryz.pinned.checked.prog.looks [] ∧ ∀ (j : Nat) t,fn.params[j]? = some t → Tryz.pinned.checked.prog.wantsStandIn t = false:=by
 obtain rfl : f = 9:=Option.some.inj ((show Tryz.prog.funcNamed "lyceum/lyceumlaw41.DescribeProofs" = some 9 by kernel_rfl).symm.trans hf) |>.symm
 obtain rfl : fn = Tryz.f9:=(Option.some.inj (Tryz.func9.symm.trans hfn)).symm
 refine ⟨looks,fun j t ht=>?_⟩
 rw [Tryz.params9] at ht
 have : t = 53 ∨ t = 36:=by simpa using Array.mem_of_getElem? ht
 rcases this with rfl | rfl
 ·exact (show Tryz.prog.wantsStandIn 53 = false by kernel_rfl)
 ·exact (show Tryz.prog.wantsStandIn 36 = false by kernel_rfl)
end Go.Proofs.YtcandidgaegghaaGreatDoor.DescProofs
namespace Go.Proofs.YtcandidgaegghaaGreatDoor
theorem describeProofs_card : Rows.DescribeProofsCardSaid :=
 Claim7.holds_tied_plain_at .later [] _ _ _ _ DescProofs.said (fun _ h=>by cases h) DescProofs.words (fun _ h=>by cases h) describeProofs_row_tie rfl ⟨rfl,rfl⟩ DescProofs.mainIs rfl DescProofs.plain DescProofs.goes
end Go.Proofs.YtcandidgaegghaaGreatDoor
