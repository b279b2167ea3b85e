/-
  lyceumlaw30.SkeletonRenames is true of every list of slices of bytes and all numbers: renamed one symbol after the other, and in normal form, a claim keeps its shape, its skeleton and its weight; given back its name, it is as before.
  Conditions: the package-level variables that the row lists start as the program's text lays them (the card ties them to it).
-/
import Derived.Test.YtppfalbnhnpbnaaGreatDoorRgmX
import Derived.Test.YtppfalbnhnpbnaaGreatDoorRwBX
import Derived.Test.YtppfalbnhnpbnaaGreatDoorRsBX
import Derived.Test.YtppfalbnhnpbnaaGreatDoorRkFactAX
import Derived.Test.YtppfalbnhnpbnaaGreatDoorRkFactBX
import Derived.Test.YtppfalbnhnpbnaaGreatDoorRkFactCX
import Derived.Test.YtppfalbnhnpbnaaGreatDoorCards
import Derived.Test.YtppfalbnhnpbnaaGreatDoorTie
set_option linter.unusedSimpArgs false
set_option linter.unusedVariables false
namespace Go.Proofs.YtppfalbnhnpbnaaGreatDoor.SkelRenames
open Go Go.ChangeShapes Go.WideShapes Go.ChangeAt Go.RowKit Ly
set_option maxRecDepth 10000
theorem own : ownKnob Tryz.prog.godebug = none:=by kernel_rfl
theorem met {W : World} (hL : laidMetH Tryz.prog Rows.skeletonRenamesRow.laid W) : laidMet Tryz.prog Rows.skeletonRenamesRow.laid W:=hL
theorem vV (H : Type) (enc : TypeId × Value → H) (W : World) (base : Nat) (args : Array Value) (ds gs : List (DataW H)) (before : List MemPlace)
  (hval : ∀ (j : Nat) t v,Tryz.f6.params[j]? = some t → args[j]? = some v → Value.okWide Tryz.prog W .any base t v)
  (hW : DataW.Whole enc Tryz.prog Tryz.f6.params.toList Rows.skeletonRenamesSpec.vars false W args.toList ds gs before) (hL : laidMetH Tryz.prog Rows.skeletonRenamesRow.laid W) (hsh : W.ShapedOpen Tryz.prog) :
  Calls Tryz.prog 6 args W fun e W'=>∃ v,e = .returned v ∧ Rows.skeletonRenamesSpec.post enc Tryz.prog Tryz.f6 false true false false W args v W':=by
 have hW':=hW
 obtain ⟨p,q,hA0,hV,rfl,hfz,hnd⟩:=hW
 have hA : DataW.TrodAll enc Tryz.prog W 0 (fun _=>true) true Tryz.f6.params.toList args.toList ds p:=hA0
 rw [Tryz.params6] at hA hval
 obtain ⟨v0,vs0,d0,ds0,p0,q0,hargs,rfl,rfl,h0,r0⟩:=trodAll_cons hA
 obtain ⟨v1,vs1,d1,ds1,p1,q1,rfl,rfl,rfl,h1,r1⟩:=trodAll_cons r0
 obtain ⟨v2,vs2,d2,ds2,p2,q2,rfl,rfl,rfl,h2,r2⟩:=trodAll_cons r1
 obtain ⟨v3,vs3,d3,ds3,p3,q3,rfl,rfl,rfl,h3,r3⟩:=trodAll_cons r2
 obtain ⟨rfl,rfl,rfl⟩:=trodAll_nil r3
 obtain rfl : args = #[v0,v1,v2,v3]:=by cases args;simp_all
 obtain ⟨l,a,n,c,rfl,hl⟩:=bbs_of (hval 0 22 v0 rfl rfl) h0
 obtain ⟨sd,rfl,_,_,hwf⟩:=open_int Tryz.underlying5 (hval 1 5 v1 rfl rfl) h1
 obtain ⟨sd2,rfl,_,_,hwf2⟩:=open_int Tryz.underlying54 (hval 2 54 v2 rfl rfl) h2
 obtain ⟨sd3,rfl,_,_,hwf3⟩:=open_int Tryz.underlying5 (hval 3 5 v3 rfl rfl) h3
 have hb:=bounds_u8 hwf
 have hb2:=bounds_u16 hwf2
 have hb3:=bounds_u8 hwf3
 obtain ⟨k,rfl⟩ : ∃ k : Nat,sd = (k : Int):=⟨sd.toNat,by omega⟩
 obtain ⟨bt,rfl⟩ : ∃ k : Nat,sd2 = (k : Int):=⟨sd2.toNat,by omega⟩
 obtain ⟨wh,rfl⟩ : ∃ k : Nat,sd3 = (k : Int):=⟨sd3.toNat,by omega⟩
 have rows:=rows_at (met hL) (by simp [Rows.skeletonRenamesRow])
 have pow:=pow_at (met hL) (by simp [Rows.skeletonRenamesRow]) (t:=258) (by kernel_rfl) Tryz.underlying258 (by kernel_rfl)
 refine (renames30_c l k bt wh (by omega) (by omega) (by omega) a n c W rows pow hl).mono fun e W' ⟨he,hbw⟩=>?_
 exact ⟨_,he,law_post (fun t ht=>by rw [Tryz.params6] at ht;simp at ht;rcases ht with rfl | rfl | rfl | rfl <;> exact ⟨by kernel_rfl,of_decide_eq_true (by kernel_rfl)⟩) (by kernel_rfl) rfl rfl hW' hbw⟩
def AK : Nat → DataW Unit → List Value
 | n + 1,.lit (.bool b)=>[.bool b]
 | n + 1,.lit (.int k z)=>[.int k z]
 | n + 1,.agg ds=>ds.flatMap (AK n)
 | _,_=>[]
noncomputable def put (g : Nat) (d : DataW Unit) (w : World) : World:={ w with heap:=w.heap.modify g fun
 | .cells _ t frozen=>.cells (AK 3 d).toArray t frozen
 | o=>o }
noncomputable def oX (os : Os) : World :=
 put 0 Rows.laid_lyceum_syntax_rows (put 3 Rows.laid_internal_strconv_uint64pow10 (put 4 Rows.laid_math_bits_deBruijn32tab (put 5 Rows.laid_math_bits_deBruijn64tab (World.holding Tryz.prog os ⟨#[],#[],[]⟩))))
theorem laid_met (os : Os) : laidMet Tryz.prog Rows.skeletonRenamesRow.laid ((oX os).forCall (fun _ _=>0) ⟨#[],#[.slice none 0 0,.int .u8 0,.int .u16 0,.int .u8 0],[]⟩).memory :=
 laidMet_of_run' 8 (by kernel_rfl) (by kernel_rfl)
theorem reads (os : Os) {H : Type} (enc : TypeId × Value → H) : ∃ places,DataW.whole enc Tryz.prog ((oX os).forCall (fun _ _=>0) ⟨#[],#[.slice none 0 0,.int .u8 0,.int .u16 0,.int .u8 0],[]⟩).memory Tryz.f6.params.toList Rows.skeletonRenamesSpec.vars false #[Value.slice none 0 0,.int .u8 0,.int .u16 0,.int .u8 0].toList 8 = some ([.nil,.lit (.int .u8 0),.lit (.int .u16 0),.lit (.int .u8 0)],[],places) :=
 ⟨[],by kernel_rfl⟩
set_option maxRecDepth 100000 in
theorem lifted (os : Os) (started : os.Started) (H : Type) (enc : TypeId × Value → H) (F : Stop.Interp) :
  ReturnsInHanded {} Tryz.checked os 6 .any ((OpenSpec.ofChange Rows.skeletonRenamesSpec).preRow enc Tryz.prog Tryz.f6 Rows.skeletonRenamesRow.domain false Rows.skeletonRenamesRow.laid) (((OpenSpec.ofChange Rows.skeletonRenamesSpec).at F).post enc Tryz.prog Tryz.f6 false true false false):=by
 obtain ⟨places,hx⟩:=reads os enc
 refine returnsInHanded_of_row (C:=Tryz.checked) (s:=OpenSpec.ofChange Rows.skeletonRenamesSpec) own started (by kernel_rfl) Tryz.func6
  (witness_row_at (enc:=enc) (C:=Tryz.checked) false (oX os) #[.slice none 0 0,.int .u8 0,.int .u16 0,.int .u8 0] rfl (by kernel_rfl) (by kernel_rfl) (by kernel_rfl)
   (OpenSpec.preRow_of_cond 8 hx (by kernel_rfl) (fun k hk=>by cases hk) (by kernel_rfl) (laid_met os))) ?_
 intro W base args ds gs before hval hW _ _ _ hL hsh _
 exact vV H enc W base args ds gs before hval hW hL hsh
theorem named : Tryz.pinned.checked.prog.funcNamed Rows.skeletonRenamesRow.func = some 6:=by kernel_rfl
theorem said : Rows.SkeletonRenamesSaid :=
 OpenClaim.holds_of_cond 6 Tryz.f6 rfl rfl rfl rfl rfl rfl rfl ⟨rfl,rfl,rfl,rfl,rfl⟩ rfl rfl rfl rfl rfl named Tryz.func6 closed
  (of_decide_eq_true (by as_aux_lemma=>kernel_rfl)) (by unfold Func.isWrapper;first | (rw [if_pos (by decide +kernel)];as_aux_lemma=>kernel_rfl) | (rw [if_neg (by decide +kernel)];exact ⟨rfl,rfl⟩))
  (fun os started H enc _ F=>by rw [OpenClaim.pre_eq_preRow];exact lifted os started H enc F)
theorem plain (f : FuncId) (fn : Func) (hf : Tryz.pinned.checked.prog.funcNamed "lyceum/lyceumlaw30.SkeletonRenames" = some f) (hfn : Tryz.pinned.checked.prog.funcs[f]? = some fn) :
  false = Tryz.pinned.checked.prog.looks [] ∧ ∀ (j : Nat) t,fn.params[j]? = some t → Tryz.pinned.checked.prog.wantsStandIn t = false:=by
 obtain rfl : f = 6:=Option.some.inj ((show Tryz.prog.funcNamed "lyceum/lyceumlaw30.SkeletonRenames" = some 6 by kernel_rfl).symm.trans hf) |>.symm
 obtain rfl : fn = Tryz.f6:=(Option.some.inj (Tryz.func6.symm.trans hfn)).symm
 refine ⟨looks,fun j t ht=>?_⟩
 rw [Tryz.params6] at ht
 have : t = 22 ∨ t = 5 ∨ t = 54 ∨ t = 5:=by simpa using Array.mem_of_getElem? ht
 rcases this with rfl | rfl | rfl | rfl
 ·exact (show Tryz.prog.wantsStandIn 22 = false by kernel_rfl)
 ·exact (show Tryz.prog.wantsStandIn 5 = false by kernel_rfl)
 ·exact (show Tryz.prog.wantsStandIn 54 = false by kernel_rfl)
 ·exact (show Tryz.prog.wantsStandIn 5 = false by kernel_rfl)
end Go.Proofs.YtppfalbnhnpbnaaGreatDoor.SkelRenames
namespace Go.Proofs.YtppfalbnhnpbnaaGreatDoor
theorem skeletonRenames_card : Rows.SkeletonRenamesCardSaid :=
 Claim7.holds_tied_plain_at .later [] _ _ _ _ SkelRenames.said (fun _ h=>by cases h) SkelRenames.words (fun _ h=>by cases h) skeletonRenames_row_tie rfl ⟨rfl,rfl⟩ SkelRenames.mainIs rfl SkelRenames.plain SkelRenames.goes
end Go.Proofs.YtppfalbnhnpbnaaGreatDoor
