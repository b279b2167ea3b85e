/-
  lyceumlaw30.SkeletonClasses is true of every list of slices of bytes and all numbers: Classes tells which claims have the same shape, turned lists too.
  Conditions: the package-level variables that the row lists start as the program's text lays them (the card ties them to it).
-/
import Derived.Test.YtppfalbnhnpbnaaGreatDoorRgmC
import Derived.Test.YtppfalbnhnpbnaaGreatDoorWtAC
import Derived.Test.YtppfalbnhnpbnaaGreatDoorWtDC
import Derived.Test.YtppfalbnhnpbnaaGreatDoorLcBC
import Derived.Test.YtppfalbnhnpbnaaGreatDoorCsFactAC
import Derived.Test.YtppfalbnhnpbnaaGreatDoorCsFactBC
import Derived.Test.YtppfalbnhnpbnaaGreatDoorCsFactCC
import Derived.Test.YtppfalbnhnpbnaaGreatDoorCards
import Derived.Test.YtppfalbnhnpbnaaGreatDoorTie
set_option linter.unusedSimpArgs false
set_option linter.unusedVariables false
namespace Go.Proofs.YtppfalbnhnpbnaaGreatDoor.SkelClasses
open Go Go.ChangeShapes Go.WideShapes Go.ChangeAt Go.RowKit Ly
set_option maxRecDepth 10000
theorem own : ownKnob Tryz.prog.godebug = none:=by kernel_rfl
theorem met {W : World} (hL : laidMetH Tryz.prog Rows.skeletonClassesRow.laid W) : laidMet Tryz.prog Rows.skeletonClassesRow.laid W:=hL
theorem qQ (H : Type) (enc : TypeId × Value → H) (W : World) (base : Nat) (args : Array Value) (ds gs : List (DataW H)) (before : List MemPlace)
  (hval : ∀ (j : Nat) t v,Tryz.f8.params[j]? = some t → args[j]? = some v → Value.okWide Tryz.prog W .any base t v)
  (hW : DataW.Whole enc Tryz.prog Tryz.f8.params.toList Rows.skeletonClassesSpec.vars false W args.toList ds gs before) (hL : laidMetH Tryz.prog Rows.skeletonClassesRow.laid W) (hsh : W.ShapedOpen Tryz.prog) :
  Calls Tryz.prog 8 args W fun e W'=>∃ v,e = .returned v ∧ Rows.skeletonClassesSpec.post enc Tryz.prog Tryz.f8 false true false false W args v W':=by
 have hW':=hW
 obtain ⟨p,q,hA0,hV,rfl,hfz,hnd⟩:=hW
 have hA : DataW.TrodAll enc Tryz.prog W 0 (fun _=>true) true Tryz.f8.params.toList args.toList ds p:=hA0
 rw [Tryz.params8] at hA hval
 obtain ⟨v0,vs0,d0,ds0,p0,q0,hargs,rfl,rfl,h0,r0⟩:=trodAll_cons hA
 obtain ⟨v1,vs1,d1,ds1,p1,q1,rfl,rfl,rfl,h1,r1⟩:=trodAll_cons r0
 obtain ⟨v2,vs2,d2,ds2,p2,q2,rfl,rfl,rfl,h2,r2⟩:=trodAll_cons r1
 obtain ⟨rfl,rfl,rfl⟩:=trodAll_nil r2
 obtain rfl : args = #[v0,v1,v2]:=by cases args;simp_all
 obtain ⟨l,a,n,c,rfl,hl⟩:=bbs_of (hval 0 22 v0 rfl rfl) h0
 obtain ⟨sd,rfl,_,_,hwf⟩:=open_int Tryz.underlying5 (hval 1 5 v1 rfl rfl) h1
 obtain ⟨sd2,rfl,_,_,hwf2⟩:=open_int Tryz.underlying5 (hval 2 5 v2 rfl rfl) h2
 have hb:=bounds_u8 hwf
 have hb2:=bounds_u8 hwf2
 obtain ⟨k,rfl⟩ : ∃ k : Nat,sd = (k : Int):=⟨sd.toNat,by omega⟩
 obtain ⟨tn,rfl⟩ : ∃ k : Nat,sd2 = (k : Int):=⟨sd2.toNat,by omega⟩
 have rows:=rows_at (met hL) (by simp [Rows.skeletonClassesRow])
 have pow:=pow_at (met hL) (by simp [Rows.skeletonClassesRow]) (t:=258) (by kernel_rfl) Tryz.underlying258 (by kernel_rfl)
 have ops:=ops_at (met hL) (by simp [Rows.skeletonClassesRow])
 refine (classes30_c l k tn (by omega) (by omega) a n c W rows pow ops hl).mono fun e W' ⟨he,hbw⟩=>?_
 exact ⟨_,he,law_post (fun t ht=>by rw [Tryz.params8] at ht;simp at ht;rcases ht with rfl | rfl | rfl <;> exact ⟨by kernel_rfl,of_decide_eq_true (by kernel_rfl)⟩) (by kernel_rfl) rfl rfl hW' hbw⟩
def AF : Nat → DataW Unit → List Value
 | n + 1,.lit (.bool b)=>[.bool b]
 | n + 1,.lit (.int k z)=>[.int k z]
 | n + 1,.lit (.string b)=>[.string ⟨b.toArray⟩]
 | n + 1,.agg ds=>ds.flatMap (AF n)
 | _,_=>[]
noncomputable def put (g : Nat) (d : DataW Unit) (w : World) : World:={ w with heap:=w.heap.modify g fun
 | .cells _ t frozen=>.cells (AF 3 d).toArray t frozen
 | o=>o }
noncomputable def oJ (os : Os) : World :=
 put 0 Rows.laid_lyceum_syntax_rows (put 1 Rows.laid_lyceum_format_operators (put 3 Rows.laid_internal_strconv_uint64pow10 (put 4 Rows.laid_math_bits_deBruijn32tab (put 5 Rows.laid_math_bits_deBruijn64tab (World.holding Tryz.prog os ⟨#[],#[],[]⟩)))))
theorem laid_met (os : Os) : laidMet Tryz.prog Rows.skeletonClassesRow.laid ((oJ os).forCall (fun _ _=>0) ⟨#[],#[.slice none 0 0,.int .u8 0,.int .u8 0],[]⟩).memory :=
 laidMet_of_run' 8 (by kernel_rfl) (by kernel_rfl)
theorem reads (os : Os) {H : Type} (enc : TypeId × Value → H) : ∃ places,DataW.whole enc Tryz.prog ((oJ os).forCall (fun _ _=>0) ⟨#[],#[.slice none 0 0,.int .u8 0,.int .u8 0],[]⟩).memory Tryz.f8.params.toList Rows.skeletonClassesSpec.vars false #[Value.slice none 0 0,.int .u8 0,.int .u8 0].toList 8 = some ([.nil,.lit (.int .u8 0),.lit (.int .u8 0)],[],places) :=
 ⟨[],by kernel_rfl⟩
set_option maxRecDepth 100000 in
theorem lifted (os : Os) (started : os.Started) (H : Type) (enc : TypeId × Value → H) (F : Stop.Interp) :
  ReturnsInHanded {} Tryz.checked os 8 .any ((OpenSpec.ofChange Rows.skeletonClassesSpec).preRow enc Tryz.prog Tryz.f8 Rows.skeletonClassesRow.domain false Rows.skeletonClassesRow.laid) (((OpenSpec.ofChange Rows.skeletonClassesSpec).at F).post enc Tryz.prog Tryz.f8 false true false false):=by
 obtain ⟨places,hx⟩:=reads os enc
 refine returnsInHanded_of_row (C:=Tryz.checked) (s:=OpenSpec.ofChange Rows.skeletonClassesSpec) own started (by kernel_rfl) Tryz.func8
  (witness_row_at (enc:=enc) (C:=Tryz.checked) false (oJ os) #[.slice none 0 0,.int .u8 0,.int .u8 0] rfl (by kernel_rfl) (by kernel_rfl) (by kernel_rfl)
   (OpenSpec.preRow_of_cond 8 hx (by kernel_rfl) (fun k hk=>by cases hk) (by kernel_rfl) (laid_met os))) ?_
 intro W base args ds gs before hval hW _ _ _ hL hsh _
 exact qQ H enc W base args ds gs before hval hW hL hsh
theorem named : Tryz.pinned.checked.prog.funcNamed Rows.skeletonClassesRow.func = some 8:=by kernel_rfl
theorem said : Rows.SkeletonClassesSaid :=
 OpenClaim.holds_of_cond 8 Tryz.f8 rfl rfl rfl rfl rfl rfl rfl ⟨rfl,rfl,rfl,rfl,rfl⟩ rfl rfl rfl rfl rfl named Tryz.func8 closed
  (of_decide_eq_true (by as_aux_lemma=>kernel_rfl)) (by unfold Func.isWrapper;first | (rw [if_pos (by decide +kernel)];as_aux_lemma=>kernel_rfl) | (rw [if_neg (by decide +kernel)];exact ⟨rfl,rfl⟩))
  (fun os started H enc _ F=>by rw [OpenClaim.pre_eq_preRow];exact lifted os started H enc F)
theorem plain (f : FuncId) (fn : Func) (hf : Tryz.pinned.checked.prog.funcNamed "lyceum/lyceumlaw30.SkeletonClasses" = some f) (hfn : Tryz.pinned.checked.prog.funcs[f]? = some fn) :
  false = Tryz.pinned.checked.prog.looks [] ∧ ∀ (j : Nat) t,fn.params[j]? = some t → Tryz.pinned.checked.prog.wantsStandIn t = false:=by
 obtain rfl : f = 8:=Option.some.inj ((show Tryz.prog.funcNamed "lyceum/lyceumlaw30.SkeletonClasses" = some 8 by kernel_rfl).symm.trans hf) |>.symm
 obtain rfl : fn = Tryz.f8:=(Option.some.inj (Tryz.func8.symm.trans hfn)).symm
 refine ⟨looks,fun j t ht=>?_⟩
 rw [Tryz.params8] at ht
 have : t = 22 ∨ t = 5 ∨ t = 5:=by simpa using Array.mem_of_getElem? ht
 rcases this with rfl | rfl | rfl
 ·exact (show Tryz.prog.wantsStandIn 22 = false by kernel_rfl)
 ·exact (show Tryz.prog.wantsStandIn 5 = false by kernel_rfl)
 ·exact (show Tryz.prog.wantsStandIn 5 = false by kernel_rfl)
end Go.Proofs.YtppfalbnhnpbnaaGreatDoor.SkelClasses
namespace Go.Proofs.YtppfalbnhnpbnaaGreatDoor
theorem skeletonClasses_card : Rows.SkeletonClassesCardSaid :=
 Claim7.holds_tied_plain_at .later [] _ _ _ _ SkelClasses.said (fun _ h=>by cases h) SkelClasses.words (fun _ h=>by cases h) skeletonClasses_row_tie rfl ⟨rfl,rfl⟩ SkelClasses.mainIs rfl SkelClasses.plain SkelClasses.goes
end Go.Proofs.YtppfalbnhnpbnaaGreatDoor
