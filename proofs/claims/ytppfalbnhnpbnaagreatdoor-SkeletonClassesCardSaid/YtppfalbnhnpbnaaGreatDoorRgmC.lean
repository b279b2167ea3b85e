/- From a describe law's row to its walk: slices of bytes that came in, what the law leaves of its arguments, a world for the witness. Conditions: none but those of each statement. -/
import Derived.Test.YtppfalbnhnpbnaaGreatDoorBuiltAC
import Derived.Test.YtppfalbnhnpbnaaGreatDoorRows
import Derived.Lib.LaidU8
import Derived.ShapedOpen
import Derived.WalkKit
import Derived.ProofKit
import Derived.OpenShut
import Derived.Deep.DeepHandedRow
import Derived.Carry
import Derived.Shelf.Vars
import Derived.Lib.SplitLaws
import Derived.Test.YtppfalbnhnpbnaaGreatDoorMakeC
import Derived.RangeFuncNested
import Derived.OrdersIn
set_option linter.unusedSimpArgs false
set_option linter.unusedVariables false
namespace Go.Proofs.YtppfalbnhnpbnaaGreatDoor
open Go Go.RowKit Ly
set_option maxRecDepth 10000
theorem cells264 : Tryz.prog.cellsOf 125 = 5:=by kernel_rfl
theorem xC : Tryz.prog.cellsOf 4 = 1:=by kernel_rfl
theorem xD : Tryz.prog.cellsOf 5 = 1:=by kernel_rfl
theorem uL : Tryz.prog.cellsOf 3 = 1:=by kernel_rfl
theorem gRows : Tryz.prog.globalNamed "lyceum/syntax.rows" = some 0:=by kernel_rfl
theorem gRowsT : (Tryz.prog.globals[0]?).map (·.type) = some 126:=by kernel_rfl
section
variable {H : Type} {enc : TypeId × Value → H} {w : World} {base : Nat} {sp : Nat → Bool} {held : Bool}
theorem row_cells {fuel : Nat} {cs : List Value} {a b : Bool} {x y z : Int} {p : List MemPlace} (h : DataW.trod enc Tryz.prog w base sp held fuel 125 cs = some (.agg [.lit (.bool a),.lit (.bool b),.lit (.int .u8 x),.lit (.int .i64 y),.lit (.int .i64 z)],p)) :
  cs[0]? = some (.bool a) ∧ cs[1]? = some (.bool b) ∧ cs[2]? = some (.int .u8 x) ∧ cs[3]? = some (.int .i64 y) ∧ cs[4]? = some (.int .i64 z):=by
 obtain ⟨xs,n,rfl,hx,hl,hxl,hall⟩:=DataW.trod_struct Tryz.underlying125 h
 have hxs : xs.map (·.1) = [.lit (.bool a),.lit (.bool b),.lit (.int .u8 x),.lit (.int .i64 y),.lit (.int .i64 z)]:=by
  have:=congrArg Prod.fst hx
  simpa using this.symm
 have get : ∀ (i : Nat) (d : DataW H),([.lit (.bool a),.lit (.bool b),.lit (.int .u8 x),.lit (.int .i64 y),.lit (.int .i64 z)] : List (DataW H))[i]? = some d → ∃ q,xs[i]? = some (d,q):=by
  intro i d hd
  rw [← hxs,List.getElem?_map] at hd
  obtain ⟨⟨d',q⟩,e,rfl⟩:=Option.map_eq_some_iff.1 hd
  exact ⟨q,e⟩
 have at_ : ∀ (i : Nat) (v : Value),(cs.drop i).take 1 = [v] → cs[i]? = some v:=by
  intro i v e
  have:=congrArg (·[0]?) e
  simpa [List.getElem?_take,List.getElem?_drop] using this
 obtain ⟨q0,g0⟩:=get 0 _ rfl
 obtain ⟨q1,g1⟩:=get 1 _ rfl
 obtain ⟨q2,g2⟩:=get 2 _ rfl
 obtain ⟨q3,g3⟩:=get 3 _ rfl
 obtain ⟨q4,g4⟩:=get 4 _ rfl
 have h0 : DataW.trod enc Tryz.prog w base sp held n 4 ((cs.drop 0).take (Tryz.prog.cellsOf 4)) = _:=(hall 0 _ rfl).trans g0
 rw [xC] at h0
 have h1 : DataW.trod enc Tryz.prog w base sp held n 4 ((cs.drop 1).take (Tryz.prog.cellsOf 4)) = _:=(hall 1 _ rfl).trans g1
 rw [xC] at h1
 have h2 : DataW.trod enc Tryz.prog w base sp held n 5 ((cs.drop 2).take (Tryz.prog.cellsOf 5)) = _:=(hall 2 _ rfl).trans g2
 rw [xD] at h2
 have h3 : DataW.trod enc Tryz.prog w base sp held n 3 ((cs.drop 3).take (Tryz.prog.cellsOf 3)) = _:=(hall 3 _ rfl).trans g3
 rw [uL] at h3
 have h4 : DataW.trod enc Tryz.prog w base sp held n 3 ((cs.drop 4).take (Tryz.prog.cellsOf 3)) = _:=(hall 4 _ rfl).trans g4
 rw [uL] at h4
 obtain ⟨v0,e0,k0⟩:=DataW.trod_bool Tryz.underlying4 h0
 obtain ⟨v1,e1,k1⟩:=DataW.trod_bool Tryz.underlying4 h1
 obtain ⟨v2,e2,k2,_⟩:=DataW.trod_int Tryz.underlying5 h2
 obtain ⟨v3,e3,k3,_⟩:=DataW.trod_int Tryz.underlying3 h3
 obtain ⟨v4,e4,k4,_⟩:=DataW.trod_int Tryz.underlying3 h4
 cases k0;cases k1;cases k2;cases k3;cases k4
 exact ⟨at_ 0 _ e0,at_ 1 _ e1,at_ 2 _ e2,at_ 3 _ e3,at_ 4 _ e4⟩
end
theorem rows_at {W : World} {L : List (String × DataW Unit)} (h : laidMet Tryz.prog L W) (hm : ("lyceum/syntax.rows",Rows.laid_lyceum_syntax_rows) ∈ L) : cU W:=by
 obtain ⟨g,t,cs,fuel,p,hg,ht,hv,hd⟩:=Lib.laidMet.reads h hm
 obtain rfl:=Option.some.inj (gRows.symm.trans hg)
 obtain rfl:=Option.some.inj (gRowsT.symm.trans ht)
 have one : ∀ (i : Nat) (a b : Bool) (x y z : Int),i < 17 → (match (Rows.laid_lyceum_syntax_rows : DataW Unit) with | .agg ds=>ds[i]? | _=>none) = some (.agg [.lit (.bool a),.lit (.bool b),.lit (.int .u8 x),.lit (.int .i64 y),.lit (.int .i64 z)]) →
   W.cell? ⟨0,i * 5,none⟩ = some (.bool a) ∧ W.cell? ⟨0,i * 5 + 1,none⟩ = some (.bool b) ∧ W.cell? ⟨0,i * 5 + 2,none⟩ = some (.int .u8 x) ∧ W.cell? ⟨0,i * 5 + 3,none⟩ = some (.int .i64 y) ∧ W.cell? ⟨0,i * 5 + 4,none⟩ = some (.int .i64 z):=by
  intro i a b x y z hi e
  obtain ⟨f',d,q,e2,hd'⟩:=Lib.array_elem Tryz.underlying126 hd i hi
  have : d = .agg [.lit (.bool a),.lit (.bool b),.lit (.int .u8 x),.lit (.int .i64 y),.lit (.int .i64 z)]:=Option.some.inj (e2.symm.trans e)
  subst this
  rw [cells264] at hd'
  obtain ⟨k0,k1,k2,k3,k4⟩:=row_cells hd'
  have cell : ∀ (j : Nat) (v : Value),j < 5 → ((cs.toList.drop (i * 5)).take 5)[j]? = some v → W.cell? ⟨0,i * 5 + j,none⟩ = some v:=by
   intro j v hj e
   rw [List.getElem?_take,if_pos hj,List.getElem?_drop] at e
   have:=World.var?_cell hg hv (i * 5 + j)
   rw [this]
   simpa using e
  exact ⟨cell 0 _ (by omega) k0,cell 1 _ (by omega) k1,cell 2 _ (by omega) k2,cell 3 _ (by omega) k3,cell 4 _ (by omega) k4⟩
 intro op h1 h2
 rcases (show op = 1 ∨ op = 2 ∨ op = 3 ∨ op = 4 ∨ op = 5 ∨ op = 6 ∨ op = 7 ∨ op = 8 ∨ op = 9 ∨ op = 10 ∨ op = 11 ∨ op = 12 ∨ op = 13 ∨ op = 14 by omega) with rfl | rfl | rfl | rfl | rfl | rfl | rfl | rfl | rfl | rfl | rfl | rfl | rfl | rfl
 all_goals exact one _ _ _ _ _ _ (by decide) rfl
theorem gPow : Tryz.prog.globalNamed "internal/strconv.uint64pow10" = some 3:=by kernel_rfl
theorem pow_at {W : World} {L : List (String × DataW Unit)} (h : laidMet Tryz.prog L W) (hm : ("internal/strconv.uint64pow10",Rows.laid_internal_strconv_uint64pow10) ∈ L) {t : TypeId} (hty : (Tryz.prog.globals[3]?).map (·.type) = some t) (hu : Tryz.prog.underlying t = some (.array 20 239)) (hct : Tryz.prog.cellsOf t = 20) : cK W:=by
 obtain ⟨g,t',cs,fuel,p,hg,ht,hv,hd⟩:=Lib.laidMet.reads h hm
 obtain rfl:=Option.some.inj (gPow.symm.trans hg)
 obtain rfl:=Option.some.inj (hty.symm.trans ht)
 have e : (Rows.laid_internal_strconv_uint64pow10 : DataW Unit) = Lib.tabData .u64 Lib.pow10Tab:=rfl
 rw [e] at hd
 unfold cK Lib.TabIs
 rw [hv,← Lib.cells_of_tab hu Tryz.underlying239 (by kernel_rfl) hct hd]
end Go.Proofs.YtppfalbnhnpbnaaGreatDoor
namespace Go.Proofs.YtppfalbnhnpbnaaGreatDoor
open Go Go.ChangeShapes Go.WideShapes Go.ChangeAt Go.RowKit Ly
set_option maxRecDepth 10000
section
variable {H : Type} {enc : TypeId × Value → H}
theorem sL {W W' : World} {sp : Nat → Bool} : ∀ {ts : List TypeId} {vs : List Value} {ds : List (DataW H)} {ps : List MemPlace},(∀ t ∈ ts,Tryz.prog.readableRec t = true ∧ t < Tryz.prog.types.size) →
  DataW.TrodAll enc Tryz.prog W 0 (fun _=>true) true ts vs ds ps → (∀ x ∈ ps,W.sameAt W' x) → (∀ x ∈ ps,sp x.block = true) → DataW.TrodAll enc Tryz.prog W' 0 sp true ts vs ds ps
 | [],[],[],_,_,h,_,_=>h
 | t :: _,_ :: _,_ :: _,_,hT,⟨p,q,h1,h2,e⟩,hs,hp =>
  ⟨p,q,WideElems.Trod_stays (by kernel_rfl) (hT t (List.mem_cons.2 (.inl rfl))).1 (hT t (List.mem_cons.2 (.inl rfl))).2 h1 (fun x hx=>hs x (by rw [e];exact List.mem_append_left _ hx)) (fun x hx=>hp x (by rw [e];exact List.mem_append_left _ hx)),
   sL (fun u hu=>hT u (List.mem_cons.2 (.inr hu))) h2 (fun x hx=>hs x (by rw [e];exact List.mem_append_right _ hx)) (fun x hx=>hp x (by rw [e];exact List.mem_append_right _ hx)),e⟩
theorem law_post {f : Func} {s : ChangeSpec} {apart fresh handsOn again : Bool} {W W' : World} {args : Array Value} {ds gs : List (DataW H)} {before : List MemPlace}
  (hT : ∀ t ∈ f.params.toList,Tryz.prog.readableRec t = true ∧ t < Tryz.prog.types.size) (hres : f.resultTypes = #[4]) (hvars : s.vars = []) (hfn : s.fn H ds = { results:=[.lit (.bool true)],args:=ds })
  (hW : DataW.Whole enc Tryz.prog f.params.toList s.vars apart W args.toList ds gs before) (hb : Below W.heap.size W W') : s.post enc Tryz.prog f apart fresh handsOn again W args (.bool true) W':=by
 have hW0:=hW
 obtain ⟨p,q,hA,hV,hpq,hz,hn⟩:=hW
 have hgs : gs = [] ∧ q = []:=by rw [hvars] at hV;exact trodVars_none hV
 obtain ⟨rfl,rfl⟩:=hgs
 have hpp : before = p ++ []:=hpq
 have hp : before = p:=by rw [hpp,List.append_nil]
 have hlt : ∀ x ∈ before,x.block < W.heap.size:=fun x hx=>hW0.lt x hx
 have hfn : s.fn H (ds ++ []) = { results:=[.lit (.bool true)],args:=ds }:=by rw [List.append_nil];exact hfn
 have stay : ∀ sp : Nat → Bool,(∀ x ∈ before,sp x.block = true) → DataW.TrodAll enc Tryz.prog W' 0 sp true f.params.toList args.toList (s.fn H (ds ++ [])).args before:=fun sp hsp=>by
  rw [hfn]
  rw [← hp] at hA
  exact sL hT hA (fun x hx=>hb.same (hlt x hx)) hsp
 have res : ∀ (b : Nat) (sp : Nat → Bool) (hd : Bool),DataW.TrodAll enc Tryz.prog W' b sp hd f.resultTypes.toList ((Value.bool true).resultList f.resultTypes.size) (s.fn H (ds ++ [])).results []:=fun b sp hd=>by
  rw [hfn,hres]
  exact trodAll_cons_mk (shut_bool Tryz.underlying4 _) trodAll_mk0
 have vars : ∀ sp : Nat → Bool,DataW.TrodVars enc Tryz.prog W' sp s.vars (s.fn H (ds ++ [])).vars []:=fun sp=>by
  rw [hvars,hfn];rfl
 refine ⟨ds,[],before,[],before,[],hW0,res _ _ _,stay _ (fun x hx=>by simpa using hlt x hx),vars _,World.keptBut_mono (fun x hx=>⟨hx,.inr (by simpa using hx)⟩) (hb.frame (· ∈ before)),fun _=>?_⟩
 refine ⟨ok_one hres rfl (okWide_bool_mk Tryz.underlying4 _),_,_,([] ++ before) ++ [],⟨[] ++ before,[],trodAll_append (stay _ (fun _ _=>rfl)) (res _ _ _),vars _,rfl,fun b off hx=>?_,fun ha=>?_⟩,fun x hx _=>?_⟩
 ·have hin : MemPlace.cell b off ∈ before:=by simpa using hx
  rw [hb.frozen (hlt _ hin)]
  exact hz b off hin
 ·simpa using hn ha
 ·simpa using hx
end
end Go.Proofs.YtppfalbnhnpbnaaGreatDoor
namespace Ly
open Go Go.RowKit
def kQ : Obj → Bool
 | .loop _=>true
 | .deferred _=>true
 | _=>false
structure eQ (B : Nat) (A X : World) : Prop where
 os : X.os = A.os
 tape : X.tape = A.tape
 output : X.output = A.output
 size : A.heap.size ≤ X.heap.size
 block : ∀ i o,A.heap[i]? = some o → (i < B ∨ kQ o = true) → X.heap[i]? = some o
structure fW (m : Nat) (A X : World) : Prop where
 os : X.os = A.os
 tape : X.tape = A.tape
 output : X.output = A.output
 size : A.heap.size ≤ X.heap.size
 block : ∀ i o,A.heap[i]? = some o → (i ≠ m ∨ o.isCells = true) → X.heap[i]? = some o
structure bN (m : Nat) (A X : World) : Prop where
 os : X.os = A.os
 tape : X.tape = A.tape
 output : X.output = A.output
 size : A.heap.size ≤ X.heap.size
 block : ∀ i o,A.heap[i]? = some o → (i ≠ m ∨ o.isCells = true) → kQ o = false → X.heap[i]? = some o
theorem eQ.of_below {B : Nat} {A X : World} (h : Below A.heap.size A X) : eQ B A X :=
 ⟨h.os,h.tape,h.output,h.size,fun i o ho _=>(h.block i (Array.getElem?_eq_some_iff.1 ho).1).trans ho⟩
theorem eQ.of_grownBy {B : Nat} {A X : World} {row : Option Nat} (h : A.grownBy X row) (hr : ∀ r,row = some r → B ≤ r ∧ ∀ o,A.heap[r]? = some o → kQ o = false) : eQ B A X :=
 ⟨h.os,h.tape,h.output,h.size,fun i o ho hi=>(h.block i (Array.getElem?_eq_some_iff.1 ho).1 (fun e=>by
  obtain ⟨h1,h2⟩:=hr i e.symm
  have:=h2 o ho
  rcases hi with hi | hi
  ·omega
  ·rw [this] at hi;cases hi)).trans ho⟩
theorem eQ.below {B n : Nat} {A X : World} (h : eQ B A X) (hB : n ≤ B) (hA : n ≤ A.heap.size) : Below n A X :=
 ⟨h.os,h.tape,h.output,h.size,fun i hi=>by
  have hlt : i < A.heap.size:=by omega
  obtain ⟨o,ho⟩ : ∃ o,A.heap[i]? = some o:=⟨_,Array.getElem?_eq_getElem hlt⟩
  rw [ho];exact h.block i o ho (.inl (by omega))⟩
theorem fW.refl (m : Nat) (A : World) : fW m A A:=⟨rfl,rfl,rfl,Nat.le_refl _,fun _ _ h _=>h⟩
theorem fW.of_below {m : Nat} {A X : World} (h : Below A.heap.size A X) : fW m A X :=
 ⟨h.os,h.tape,h.output,h.size,fun i o ho _=>(h.block i (Array.getElem?_eq_some_iff.1 ho).1).trans ho⟩
theorem fW.of_grownBy {m : Nat} {A X : World} (h : A.grownBy X (some m)) (hm : ∃ es c,A.heap[m]? = some (.map es c)) : fW m A X :=
 ⟨h.os,h.tape,h.output,h.size,fun i o ho hi=>(h.block i (Array.getElem?_eq_some_iff.1 ho).1 (fun e=>by
  cases e
  obtain ⟨es,c,hm⟩:=hm
  rw [hm] at ho;cases ho
  rcases hi with hi | hi
  ·exact hi rfl
  ·cases hi)).trans ho⟩
theorem bN.keeps {m : Nat} {A X : World} (h : bN m A X) {i : Nat} {xs : Array Value} {t : TypeId} {s : Nat × Nat} (hi : A.heap[i]? = some (.cells xs t s)) : X.heap[i]? = some (.cells xs t s):=h.block i _ hi (.inr rfl) rfl
theorem fW.rounds {m : Nat} {A X : World} (h : fW m A X) : bN m A X:=⟨h.os,h.tape,h.output,h.size,fun i o ho hi _=>h.block i o ho hi⟩
theorem bN.refl (m : Nat) (A : World) : bN m A A:=(fW.refl m A).rounds
theorem bN.trans {m : Nat} {A X Y : World} (h : bN m A X) (k : bN m X Y) : bN m A Y :=
 ⟨k.os.trans h.os,k.tape.trans h.tape,k.output.trans h.output,Nat.le_trans h.size k.size,fun i o ho hi hr=>k.block i o (h.block i o ho hi hr) hi hr⟩
theorem bN.put {m r : Nat} {A : World} {o : Obj} (o' : Obj) (hr : A.heap[r]? = some o) (ho : kQ o = true) : bN m A (A.putObj r o'):=by
 have g:=grownBy_putObj' A r o'
 refine ⟨g.os,g.tape,g.output,g.size,fun i q hq _ hrec=>(g.block i (Array.getElem?_eq_some_iff.1 hq).1 (fun e=>?_)).trans hq⟩
 cases e;rw [hr] at hq;cases hq;rw [ho] at hrec;cases hrec
theorem iG {n r : Nat} {W : World} (o' : Obj) (hn : n ≤ r) : Below n W (W.putObj r o'):=by
 have g:=grownBy_putObj' W r o'
 refine ⟨g.os,g.tape,g.output,g.size,fun i hi=>?_⟩
 rcases Nat.lt_or_ge i W.heap.size with h | h
 ·exact g.block i h (fun e=>by cases e;omega)
 ·rw [Array.getElem?_eq_none h,Array.getElem?_eq_none (by have:=g.size;have e : (W.putObj r o').heap.size = W.heap.size:=(by simp [World.putObj]);omega)]
theorem bN.cells {m : Nat} {A X : World} (k : bN m A X) : bI A X:=fun a v h=>by
 unfold World.cell? at h ⊢
 cases ho : A.heap[a.block]? with
 | none=>rw [ho] at h;cases h
 | some o =>
  cases o with
  | cells xs t s=>rw [k.keeps ho];rw [ho] at h;exact h
  | _=>rw [ho] at h;cases h
theorem cH (m : Nat) (W : World) (o : Obj) : bN m W (W.alloc o):=(fW.of_below ((Below.refl _ _).alloc (Nat.le_refl _) _)).rounds
theorem eF (B : Nat) (W : World) (o : Obj) : eQ B W (W.alloc o):=eQ.of_below ((Below.refl _ _).alloc (Nat.le_refl _) _)
structure bO (m m2 : Nat) (A X : World) : Prop where
 os : X.os = A.os
 tape : X.tape = A.tape
 output : X.output = A.output
 size : A.heap.size ≤ X.heap.size
 block : ∀ i o,A.heap[i]? = some o → (i ≠ m ∨ o.isCells = true) → (i ≠ m2 ∨ o.isCells = true) → kQ o = false → X.heap[i]? = some o
theorem bO.trans {m m2 : Nat} {A X Y : World} (h : bO m m2 A X) (k : bO m m2 X Y) : bO m m2 A Y :=
 ⟨k.os.trans h.os,k.tape.trans h.tape,k.output.trans h.output,Nat.le_trans h.size k.size,fun i o ho h1 h2 hr=>k.block i o (h.block i o ho h1 h2 hr) h1 h2 hr⟩
theorem bN.two {m : Nat} {A X : World} (h : bN m A X) (m2 : Nat) : bO m m2 A X:=⟨h.os,h.tape,h.output,h.size,fun i o ho h1 _ hr=>h.block i o ho h1 hr⟩
theorem bO.keeps {m m2 : Nat} {A X : World} (h : bO m m2 A X) {i : Nat} {xs : Array Value} {t : TypeId} {s : Nat × Nat} (hi : A.heap[i]? = some (.cells xs t s)) : X.heap[i]? = some (.cells xs t s):=h.block i _ hi (.inr rfl) (.inr rfl) rfl
theorem bO.cells {m m2 : Nat} {A X : World} (k : bO m m2 A X) : bI A X:=fun a v h=>by
 unfold World.cell? at h ⊢
 cases ho : A.heap[a.block]? with
 | none=>rw [ho] at h;cases h
 | some o =>
  cases o with
  | cells xs t s=>rw [k.keeps ho];rw [ho] at h;exact h
  | _=>rw [ho] at h;cases h
theorem bO.of_grownBy {m m2 : Nat} {A X : World} (h : A.grownBy X (some m2)) (hm : ∃ es c,A.heap[m2]? = some (.map es c)) : bO m m2 A X :=
 ⟨h.os,h.tape,h.output,h.size,fun i o ho _ hi _=>(h.block i (Array.getElem?_eq_some_iff.1 ho).1 (fun e=>by
  cases e
  obtain ⟨es,c,hm⟩:=hm
  rw [hm] at ho;cases ho
  rcases hi with hi | hi
  ·exact hi rfl
  ·cases hi)).trans ho⟩
theorem bO.of_below {m m2 : Nat} {A X : World} (h : Below A.heap.size A X) : bO m m2 A X:=(fW.of_below h).rounds.two _
def qI {α : Type} (F : Fence) (n : Nat) (P : Program) (g : Nat) (lb : Array Value) (enc : α → Value) (m : Nat) (l : List α) (w0 : World) : Prop :=
 ∀ (r : Nat) (J : List α → World → Prop) (W : World),Below w0.heap.size w0 W → (∀ s A X,J s A → eQ W.heap.size A X → J s X) →
  (∀ pre x W1,J pre W1 → pre ++ [x] <+: l → YieldAt F (n - 1) P r #[enc x] W1 fun e W'=>e = .returned (.bool true) ∧ J (pre ++ [x]) W' ∧ bN m W1 W') →
  J [] W → CallsIn F n P g (#[.func (.yield r) #[] #[]] ++ lb) W fun e W'=>(∃ v,e = .returned v) ∧ J l W'
section
variable {F : Fence} {n : Nat} {P : Program} {w : World}
theorem pW {α : Type} {g : Operand} {ps : Array Tmp} {assign body : Code} {Q : Exit → Act → World → Prop} {a : Act}
  (hro : F.round = none) (h1 : 1 ≤ n) {gf : Nat} {lb : Array Value} (hg : a.eval g = .func (.func gf) #[] lb) (hFg : F.fn gf) (eg : ∀ args w,(callFunc gf args).run P w = .ok (.enter gf args) w)
  {enc : α → Value} {m : Nat} {l : List α} {w0 : World} (hm : m < w.heap.size) (hseq : qI F (n - 1) P gf lb enc m l w0) (hb0 : Below w0.heap.size w0 w) (hps : ps.size = 1)
  (I : List α → World → Prop) (hI : ∀ s A X,I s A → w.heap.size ≤ A.heap.size → Below w.heap.size A X → I s X) (h0 : I [] w)
  (Ax : α → Act → World → Prop) (hAx : ∀ (x : α) (a : Act) (A X : World),Ax x a A → (∀ (i : Nat) (o : Obj),A.heap[i]? = some o → kQ o = false → X.heap[i]? = some o) → Ax x a X)
  (hassign : ∀ (r : Nat) (pre : List α) (x : α) (W : World) (K : Act → World → Prop),w.heap.size ≤ W.heap.size → I pre W → pre ++ [x] <+: l → (∀ a1 W1,fW m W W1 → I pre W1 → Ax x a1 W1 → K a1 W1) → assign.wpIn (F.inRound r) (n - 1 - 1) P (Exit.then K (fun _ _ _=>False)) { tmps:=(ps.zip #[enc x]).foldl (fun t (p,v)=>t.setIfInBounds p v) a.tmps,defers:=[] } W)
  (hbody : ∀ (r : Nat) (pre : List α) (x : α) (W : World) (a1 : Act),w.heap.size ≤ W.heap.size → I pre W → Ax x a1 W → pre ++ [x] <+: l → body.wpIn (F.inRound r) (n - 1 - 1) P (fun e _ W'=>e = .normal ∧ fW m W W' ∧ I (pre ++ [x]) W') a1 W)
  (hdone : ∀ (D : Nat) (W : World),w.heap.size ≤ D → I l W → W.heap[D]? = some (.deferred (some [])) → Q .normal { a with defers:={ target:=.collected D,args:=#[] } :: a.defers } W) :
  (Code.rangeFunc g ps assign body).wpIn F n P Q a w:=by
 refine wpIn_rangeFunc fun fn hfn=>?_
 rw [hro]
 obtain ⟨rec,hrec⟩ : ∃ rec : LoopState → Option Code → Loop,rec = fun st pe=>{ state:=st,pending:=pe,fn,tmps:=a.tmps,params:=ps,assign,body,defers:=w.heap.size }:=⟨_,rfl⟩
 obtain ⟨W1,hW1⟩ : ∃ W1,(w.alloc (.deferred (some []))).alloc (.loop (rec .ready none)) = W1:=⟨_,rfl⟩
 have hs1 : W1.heap.size = w.heap.size + 2:=by rw [← hW1];simp
 have hL1 : W1.heap[w.heap.size + 1]? = some (.loop (rec .ready none)):=by
  rw [← hW1]
  have:=World.alloc_heap_new (w.alloc (.deferred (some []))) (.loop (rec .ready none))
  rwa [World.size_alloc] at this
 have hK1 : W1.heap[w.heap.size]? = some (.deferred (some [])):=by
  rw [← hW1]
  exact (Below.heap_alloc _ _ _ (by simp)).trans (World.alloc_heap_new w _)
 have hw1 : Below w.heap.size w W1:=by
  rw [← hW1]
  exact ((Below.refl _ w).alloc (Nat.le_refl _) _).alloc (by simp) _
 have hI1 : I [] W1:=hI _ _ _ h0 (Nat.le_refl _) hw1
 have hb1 : Below w0.heap.size w0 W1:=hb0.trans (hw1.mono hb0.size)
 refine ⟨w.heap.size + 1,[{ target:=.collected w.heap.size,args:=#[] }],W1,{ target:=.fn (.func gf) lb,args:=#[.func (.yield (w.heap.size + 1)) #[] #[]] },W1,gf,
  #[.func (.yield (w.heap.size + 1)) #[] #[]] ++ lb,W1, ?_, ?_, ?_, ?_,fun _=>h1, ?_⟩
 ·rw [← hW1,hrec];exact run_enterLoop_outer _ _ _ _ _
 ·simp only [resolve,hg];simp [go_sem]
 ·intro f' hf';simp [Target.leads] at hf';subst hf';exact hFg
 ·simp [invoke,go_sem,eg]
 ·refine (hseq (w.heap.size + 1)
   (fun pre W=>I pre W ∧ w.heap.size ≤ W.heap.size ∧ W.heap[w.heap.size + 1]? = some (.loop (rec .ready none)) ∧ W.heap[w.heap.size]? = some (.deferred (some [])))
   W1 hb1 (fun s A X hs hgr=>⟨hI s A X hs.1 hs.2.1 (hgr.below (by omega) hs.2.1),Nat.le_trans hs.2.1 hgr.size,hgr.block _ _ hs.2.2.1 (.inr rfl),hgr.block _ _ hs.2.2.2 (.inr rfl)⟩) ?_ ⟨hI1,by omega,hL1,hK1⟩).mono ?_
  ·rintro pre x W ⟨hi,hsz,hl,hk⟩ hpre
   have hlt : w.heap.size + 1 < W.heap.size:=(Array.getElem?_eq_some_iff.1 hl).1
   have hy:=run_yield (P:=P) (args:=#[enc x]) hl (by rw [hrec];exact hps.symm)
   rw [hrec] at hy
   refine ⟨fn,_,assign,body,hy,roundIn_of_wpIn hfn (hassign _ pre x W _ hsz hi hpre fun a1 W2 ht2 hi2 hax2=>?_)⟩
   have hl2:=ht2.block _ _ hl (.inl (by omega))
   have hk2:=ht2.block _ _ hk (.inl (by omega))
   have hsz2 : w.heap.size ≤ W2.heap.size:=Nat.le_trans hsz ht2.size
   have hlt2 : w.heap.size + 1 < W2.heap.size:=(Array.getElem?_eq_some_iff.1 hl2).1
   refine ⟨_,run_beginRound hl2 (by rw [hrec]), ?_⟩
   obtain ⟨W3,hW3⟩ : ∃ W3,W2.putObj (w.heap.size + 1) (.loop { rec .ready none with state:=.busy }) = W3:=⟨_,rfl⟩
   rw [hW3]
   have hl3 : W3.heap[w.heap.size + 1]? = some (.loop { rec .ready none with state:=.busy }):=by rw [← hW3];exact World.putObj_heap_same hlt2
   have hk3 : W3.heap[w.heap.size]? = some (.deferred (some [])):=by rw [← hW3];exact (World.putObj_heap_other (by omega)).trans hk2
   have hr3 : ∀ q,bN q W2 W3:=fun q=>by rw [← hW3];exact bN.put _ hl2 rfl
   have hi3 : I pre W3:=hI _ _ _ hi2 hsz2 (by rw [← hW3];exact iG _ (by omega))
   have hax3 : Ax x a1 W3:=hAx _ _ _ _ hax2 fun i o ho hr=>by
    rcases Nat.lt_or_ge i W2.heap.size with h | h
    ·exact (hr3 (W2.heap.size)).block i o ho (.inl (by omega)) hr
    ·rw [Array.getElem?_eq_none h] at ho;cases ho
   refine wpIn_mono (hbody _ pre x W3 a1 (Nat.le_trans hsz2 (hr3 0).size) hi3 hax3 hpre) ?_
   rintro e a4 W4 ⟨rfl,ht4,hi4⟩
   have hl4:=ht4.block _ _ hl3 (.inl (by omega))
   have hk4:=ht4.block _ _ hk3 (.inl (by omega))
   have hlt4 : w.heap.size + 1 < W4.heap.size:=(Array.getElem?_eq_some_iff.1 hl4).1
   have hr:=run_endRound (P:=P) none hl4
   rw [hrec] at hr
   refine ⟨_,_,hr,rfl,⟨hI _ _ _ hi4 (by omega) (iG _ (by omega)),by have:=(grownBy_putObj' W4 (w.heap.size + 1) (Obj.loop { rec .ready none with state:=.ready })).size;simp [World.putObj];omega, ?_, ?_⟩, ?_⟩
   ·rw [World.putObj_heap_same hlt4,hrec];rfl
   ·exact (World.putObj_heap_other (by omega)).trans hk4
   ·exact ht2.rounds.trans ((hr3 _).trans (ht4.rounds.trans (bN.put _ hl4 rfl)))
  ·rintro e W2 ⟨⟨v,rfl⟩,hi,hsz,hl,hk⟩
   exact ⟨none,_,by have:=run_endLoop (P:=P) hl (by rw [hrec];simp);rw [hrec] at this;exact this,hdone _ _ (Nat.le_refl _) (hI _ _ _ hi hsz (iG _ (by omega))) ((World.putObj_heap_other (by omega)).trans hk)⟩
end
end Ly
