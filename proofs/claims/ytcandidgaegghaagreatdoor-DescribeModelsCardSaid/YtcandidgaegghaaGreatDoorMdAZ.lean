/- lyceumlaw30.term returns the term of a byte, in memory of its own. Conditions: a byte. -/
import Derived.Test.YtcandidgaegghaaGreatDoorAwakeZ
import Derived.Deep.RegionHeld3
import Derived.Deep.RegionLaw
import Derived.Deep.RegionWith
import Derived.Deep.QuietTactic
import Derived.BigQuiet
import Derived.Maps.AppendAt
import Derived.Test.YtcandidgaegghaaGreatDoorRdGZ
import Derived.Test.YtcandidgaegghaaGreatDoorRows
import Derived.Lib.LaidU8
import Derived.ShapedOpen
import Derived.WalkKit
import Derived.ProofKit
import Derived.OpenShut
import Derived.Deep.DeepHandedRow
import Derived.Carry
import Derived.Shelf.Vars
import Derived.Deep.Slices
import Derived.Test.YtcandidgaegghaaGreatDoorRdCZ
import Derived.Test.YtcandidgaegghaaGreatDoorCpZ
import Derived.Test.YtcandidgaegghaaGreatDoorRdEZ
import Derived.OwnWalk
set_option maxRecDepth 10000
set_option linter.unusedSimpArgs false
set_option linter.unusedVariables false
namespace Go.Proofs.YtcandidgaegghaaGreatDoor
open Go Go.RowKit Ly
set_option maxHeartbeats 800000
section
variable {W w w' : World} {g : Nat}
end
open Go Go.RowKit Ly
set_option maxHeartbeats 2000000
open Go Go.RowKit Ly
theorem cells264 : Tryz.prog.cellsOf 264 = 5:=by kernel_rfl
theorem yX : Tryz.prog.cellsOf 4 = 1:=by kernel_rfl
theorem cells5 : Tryz.prog.cellsOf 5 = 1:=by kernel_rfl
theorem cells3 : Tryz.prog.cellsOf 3 = 1:=by kernel_rfl
theorem gRows : Tryz.prog.globalNamed "lyceum/syntax.rows" = some 0:=by kernel_rfl
theorem gRowsT : (Tryz.prog.globals[0]?).map (·.type) = some 265:=by kernel_rfl
section
variable {H : Type} {enc : TypeId × Value → H} {w : World} {base : Nat} {sp : Nat → Bool} {held : Bool}
theorem row_cells {fuel : Nat} {cs : List Value} {a b : Bool} {x y z : Int} {p : List MemPlace} (h : DataW.trod enc Tryz.prog w base sp held fuel 264 cs = some (.agg [.lit (.bool a),.lit (.bool b),.lit (.int .u8 x),.lit (.int .i64 y),.lit (.int .i64 z)],p)) :
  cs[0]? = some (.bool a) ∧ cs[1]? = some (.bool b) ∧ cs[2]? = some (.int .u8 x) ∧ cs[3]? = some (.int .i64 y) ∧ cs[4]? = some (.int .i64 z):=by
 obtain ⟨xs,n,rfl,hx,hl,hxl,hall⟩:=DataW.trod_struct Tryz.underlying264 h
 have hxs : xs.map (·.1) = [.lit (.bool a),.lit (.bool b),.lit (.int .u8 x),.lit (.int .i64 y),.lit (.int .i64 z)]:=by
  have:=congrArg Prod.fst hx
  simpa using this.symm
 have get : ∀ (i : Nat) (d : DataW H),([.lit (.bool a),.lit (.bool b),.lit (.int .u8 x),.lit (.int .i64 y),.lit (.int .i64 z)] : List (DataW H))[i]? = some d → ∃ q,xs[i]? = some (d,q):=by
  intro i d hd
  rw [← hxs,List.getElem?_map] at hd
  obtain ⟨⟨d',q⟩,e,rfl⟩:=Option.map_eq_some_iff.1 hd
  exact ⟨q,e⟩
 have at_ : ∀ (i : Nat) (v : Value),(cs.drop i).take 1 = [v] → cs[i]? = some v:=by
  intro i v e
  have:=congrArg (·[0]?) e
  simpa [List.getElem?_take,List.getElem?_drop] using this
 obtain ⟨q0,g0⟩:=get 0 _ rfl
 obtain ⟨q1,g1⟩:=get 1 _ rfl
 obtain ⟨q2,g2⟩:=get 2 _ rfl
 obtain ⟨q3,g3⟩:=get 3 _ rfl
 obtain ⟨q4,g4⟩:=get 4 _ rfl
 have h0 : DataW.trod enc Tryz.prog w base sp held n 4 ((cs.drop 0).take (Tryz.prog.cellsOf 4)) = _:=(hall 0 _ rfl).trans g0
 rw [yX] at h0
 have h1 : DataW.trod enc Tryz.prog w base sp held n 4 ((cs.drop 1).take (Tryz.prog.cellsOf 4)) = _:=(hall 1 _ rfl).trans g1
 rw [yX] at h1
 have h2 : DataW.trod enc Tryz.prog w base sp held n 5 ((cs.drop 2).take (Tryz.prog.cellsOf 5)) = _:=(hall 2 _ rfl).trans g2
 rw [cells5] at h2
 have h3 : DataW.trod enc Tryz.prog w base sp held n 3 ((cs.drop 3).take (Tryz.prog.cellsOf 3)) = _:=(hall 3 _ rfl).trans g3
 rw [cells3] at h3
 have h4 : DataW.trod enc Tryz.prog w base sp held n 3 ((cs.drop 4).take (Tryz.prog.cellsOf 3)) = _:=(hall 4 _ rfl).trans g4
 rw [cells3] at h4
 obtain ⟨v0,e0,k0⟩:=DataW.trod_bool Tryz.underlying4 h0
 obtain ⟨v1,e1,k1⟩:=DataW.trod_bool Tryz.underlying4 h1
 obtain ⟨v2,e2,k2,_⟩:=DataW.trod_int Tryz.underlying5 h2
 obtain ⟨v3,e3,k3,_⟩:=DataW.trod_int Tryz.underlying3 h3
 obtain ⟨v4,e4,k4,_⟩:=DataW.trod_int Tryz.underlying3 h4
 cases k0;cases k1;cases k2;cases k3;cases k4
 exact ⟨at_ 0 _ e0,at_ 1 _ e1,at_ 2 _ e2,at_ 3 _ e3,at_ 4 _ e4⟩
end
theorem rows_at {W : World} {L : List (String × DataW Unit)} (h : laidMet Tryz.prog L W) (hm : ("lyceum/syntax.rows",Rows.laid_lyceum_syntax_rows) ∈ L) : gC W:=by
 obtain ⟨g,t,cs,fuel,p,hg,ht,hv,hd⟩:=Lib.laidMet.reads h hm
 obtain rfl:=Option.some.inj (gRows.symm.trans hg)
 obtain rfl:=Option.some.inj (gRowsT.symm.trans ht)
 have one : ∀ (i : Nat) (a b : Bool) (x y z : Int),i < 17 → (match (Rows.laid_lyceum_syntax_rows : DataW Unit) with | .agg ds=>ds[i]? | _=>none) = some (.agg [.lit (.bool a),.lit (.bool b),.lit (.int .u8 x),.lit (.int .i64 y),.lit (.int .i64 z)]) →
   W.cell? ⟨0,i * 5,none⟩ = some (.bool a) ∧ W.cell? ⟨0,i * 5 + 1,none⟩ = some (.bool b) ∧ W.cell? ⟨0,i * 5 + 2,none⟩ = some (.int .u8 x) ∧ W.cell? ⟨0,i * 5 + 3,none⟩ = some (.int .i64 y) ∧ W.cell? ⟨0,i * 5 + 4,none⟩ = some (.int .i64 z):=by
  intro i a b x y z hi e
  obtain ⟨f',d,q,e2,hd'⟩:=Lib.array_elem Tryz.underlying265 hd i hi
  have : d = .agg [.lit (.bool a),.lit (.bool b),.lit (.int .u8 x),.lit (.int .i64 y),.lit (.int .i64 z)]:=Option.some.inj (e2.symm.trans e)
  subst this
  rw [cells264] at hd'
  obtain ⟨k0,k1,k2,k3,k4⟩:=row_cells hd'
  have cell : ∀ (j : Nat) (v : Value),j < 5 → ((cs.toList.drop (i * 5)).take 5)[j]? = some v → W.cell? ⟨0,i * 5 + j,none⟩ = some v:=by
   intro j v hj e
   rw [List.getElem?_take,if_pos hj,List.getElem?_drop] at e
   have:=World.var?_cell hg hv (i * 5 + j)
   rw [this]
   simpa using e
  exact ⟨cell 0 _ (by omega) k0,cell 1 _ (by omega) k1,cell 2 _ (by omega) k2,cell 3 _ (by omega) k3,cell 4 _ (by omega) k4⟩
 intro op h1 h2
 rcases (show op = 1 ∨ op = 2 ∨ op = 3 ∨ op = 4 ∨ op = 5 ∨ op = 6 ∨ op = 7 ∨ op = 8 ∨ op = 9 ∨ op = 10 ∨ op = 11 ∨ op = 12 ∨ op = 13 ∨ op = 14 by omega) with rfl | rfl | rfl | rfl | rfl | rfl | rfl | rfl | rfl | rfl | rfl | rfl | rfl | rfl
 all_goals exact one _ _ _ _ _ _ (by decide) rfl
theorem gPow : Tryz.prog.globalNamed "internal/strconv.uint64pow10" = some 4:=by kernel_rfl
theorem pow_at {W : World} {L : List (String × DataW Unit)} (h : laidMet Tryz.prog L W) (hm : ("internal/strconv.uint64pow10",Rows.laid_internal_strconv_uint64pow10) ∈ L) {t : TypeId} (hty : (Tryz.prog.globals[4]?).map (·.type) = some t) (hu : Tryz.prog.underlying t = some (.array 20 234)) (hct : Tryz.prog.cellsOf t = 20) : gP W:=by
 obtain ⟨g,t',cs,fuel,p,hg,ht,hv,hd⟩:=Lib.laidMet.reads h hm
 obtain rfl:=Option.some.inj (gPow.symm.trans hg)
 obtain rfl:=Option.some.inj (hty.symm.trans ht)
 have e : (Rows.laid_internal_strconv_uint64pow10 : DataW Unit) = Lib.tabData .u64 Lib.pow10Tab:=rfl
 rw [e] at hd
 unfold gP Lib.TabIs
 rw [hv,← Lib.cells_of_tab hu Tryz.underlying234 (by kernel_rfl) hct hd]
open Go Go.ChangeShapes Go.WideShapes Go.ChangeAt Go.RowKit Ly
theorem max_at {W : World} (h : W.ShapedOpen Tryz.prog) : oN W :=
 Go.Proofs.cell_of_shapedOpen_int (g:=1) (zero:=#[.int .i64 0]) (t:=3) h (of_decide_eq_true (by kernel_rfl)) (by kernel_rfl) rfl (by kernel_rfl) (by kernel_rfl) Tryz.underlying3
section
variable {H : Type} {enc : TypeId × Value → H}
theorem tF {W W' : World} {sp : Nat → Bool} : ∀ {ts : List TypeId} {vs : List Value} {ds : List (DataW H)} {ps : List MemPlace},(∀ t ∈ ts,Tryz.prog.readableRec t = true ∧ t < Tryz.prog.types.size) →
  DataW.TrodAll enc Tryz.prog W 0 (fun _=>true) true ts vs ds ps → (∀ x ∈ ps,W.sameAt W' x) → (∀ x ∈ ps,sp x.block = true) → DataW.TrodAll enc Tryz.prog W' 0 sp true ts vs ds ps
 | [],[],[],_,_,h,_,_=>h
 | t :: _,_ :: _,_ :: _,_,hT,⟨p,q,h1,h2,e⟩,hs,hp =>
  ⟨p,q,WideElems.Trod_stays (by kernel_rfl) (hT t (List.mem_cons.2 (.inl rfl))).1 (hT t (List.mem_cons.2 (.inl rfl))).2 h1 (fun x hx=>hs x (by rw [e];exact List.mem_append_left _ hx)) (fun x hx=>hp x (by rw [e];exact List.mem_append_left _ hx)),
   tF (fun u hu=>hT u (List.mem_cons.2 (.inr hu))) h2 (fun x hx=>hs x (by rw [e];exact List.mem_append_right _ hx)) (fun x hx=>hp x (by rw [e];exact List.mem_append_right _ hx)),e⟩
theorem law_post {f : Func} {s : ChangeSpec} {apart fresh handsOn again : Bool} {W W' : World} {args : Array Value} {ds gs : List (DataW H)} {before : List MemPlace}
  (hT : ∀ t ∈ f.params.toList,Tryz.prog.readableRec t = true ∧ t < Tryz.prog.types.size) (hres : f.resultTypes = #[4]) (hvars : s.vars = []) (hfn : s.fn H ds = { results:=[.lit (.bool true)],args:=ds })
  (hW : DataW.Whole enc Tryz.prog f.params.toList s.vars apart W args.toList ds gs before) (hb : Below W.heap.size W W') : s.post enc Tryz.prog f apart fresh handsOn again W args (.bool true) W':=by
 have hW0:=hW
 obtain ⟨p,q,hA,hV,hpq,hz,hn⟩:=hW
 have hgs : gs = [] ∧ q = []:=by rw [hvars] at hV;exact trodVars_none hV
 obtain ⟨rfl,rfl⟩:=hgs
 have hpp : before = p ++ []:=hpq
 have hp : before = p:=by rw [hpp,List.append_nil]
 have hlt : ∀ x ∈ before,x.block < W.heap.size:=fun x hx=>hW0.lt x hx
 have hfn : s.fn H (ds ++ []) = { results:=[.lit (.bool true)],args:=ds }:=by rw [List.append_nil];exact hfn
 have stay : ∀ sp : Nat → Bool,(∀ x ∈ before,sp x.block = true) → DataW.TrodAll enc Tryz.prog W' 0 sp true f.params.toList args.toList (s.fn H (ds ++ [])).args before:=fun sp hsp=>by
  rw [hfn]
  rw [← hp] at hA
  exact tF hT hA (fun x hx=>hb.same (hlt x hx)) hsp
 have res : ∀ (b : Nat) (sp : Nat → Bool) (hd : Bool),DataW.TrodAll enc Tryz.prog W' b sp hd f.resultTypes.toList ((Value.bool true).resultList f.resultTypes.size) (s.fn H (ds ++ [])).results []:=fun b sp hd=>by
  rw [hfn,hres]
  exact trodAll_cons_mk (shut_bool Tryz.underlying4 _) trodAll_mk0
 have vars : ∀ sp : Nat → Bool,DataW.TrodVars enc Tryz.prog W' sp s.vars (s.fn H (ds ++ [])).vars []:=fun sp=>by
  rw [hvars,hfn];rfl
 refine ⟨ds,[],before,[],before,[],hW0,res _ _ _,stay _ (fun x hx=>by simpa using hlt x hx),vars _,World.keptBut_mono (fun x hx=>⟨hx,.inr (by simpa using hx)⟩) (hb.frame (· ∈ before)),fun _=>?_⟩
 refine ⟨ok_one hres rfl (okWide_bool_mk Tryz.underlying4 _),_,_,([] ++ before) ++ [],⟨[] ++ before,[],trodAll_append (stay _ (fun _ _=>rfl)) (res _ _ _),vars _,rfl,fun b off hx=>?_,fun ha=>?_⟩,fun x hx _=>?_⟩
 ·have hin : MemPlace.cell b off ∈ before:=by simpa using hx
  rw [hb.frozen (hlt _ hin)]
  exact hz b off hin
 ·simpa using hn ha
 ·simpa using hx
end
end Go.Proofs.YtcandidgaegghaaGreatDoor
namespace Ly
open Go Go.RowKit
end Ly
namespace Go.Proofs.YtcandidgaegghaaGreatDoor
open Go Go.ChangeShapes Go.WideShapes Go.ChangeAt Go.RowKit Ly
section
variable {H : Type} {enc : TypeId × Value → H} {W : World}
def vM (W : World) (cs : List Value) (ds : List D) : Prop:=∀ (j : Nat) (d : D),ds[j]? = some d → ∃ u,cs[j]? = some u ∧ At W d u
theorem xI : Tryz.prog.cellsOf 9 = 1:=by kernel_rfl
theorem cell_of_one {cs : List Value} {i : Nat} {v : Value} (e : (cs.drop i).take 1 = [v]) : cs[i]? = some v:=by
 have:=congrArg (·[0]?) e
 simpa [List.getElem?_take,List.getElem?_drop] using this
theorem sO {fuel : Nat} {cs : List Value} {y : DataW H × List MemPlace} (h : DataW.trod enc Tryz.prog W 0 (fun _=>true) true fuel 9 cs = some y) : ∃ s : Bs,cs = [str s] ∧ s.length ≤ maxLen:=by
 obtain ⟨s,rfl,_,hs⟩:=DataW.trod_string Tryz.underlying9 h
 refine ⟨s.data.toList, ?_, ?_⟩
 ·simp
 ·simpa using hs
instance : Inhabited Tm:=⟨.mk false [] []⟩
instance : Inhabited Fm:=⟨.mk 0 [] [] []⟩
end
open Go Go.RowKit Ly
def cX (i : Nat) : Bs:=[35,1,0,0,47,UInt8.ofNat i,0,0]
def nR (W : World) (b : Nat) (ys : List Value) : Prop:=∀ (j : Nat) (u : Value),ys[j]? = some u → W.cell? ⟨b,j,none⟩ = some u
theorem nR.keep {W W' : World} {b : Nat} {ys : List Value} (h : nR W b ys) (k : bI W W') : nR W' b ys:=fun j u hu=>k _ _ (h j u hu)
theorem nR.left {W : World} {b : Nat} {xs ys : List Value} (h : nR W b (xs ++ ys)) : nR W b xs:=fun j u hu=>h j u (by rw [List.getElem?_append_left (List.getElem?_eq_some_iff.1 hu).1];exact hu)
open Go Go.RowKit Ly
set_option maxHeartbeats 1600000
theorem mark_run (i : Nat) (hi : i < 12) (w : World) : (convert 43 9 (.slice (some ⟨w.heap.size,0,none⟩) 8 8)).run Tryz.prog (w.alloc (.cells #[.int .u8 35,.int .u8 1,.int .u8 0,.int .u8 0,.int .u8 47,.int .u8 i,.int .u8 0,.int .u8 0] 5)) = .ok (str (cX i)) (w.alloc (.cells #[.int .u8 35,.int .u8 1,.int .u8 0,.int .u8 0,.int .u8 47,.int .u8 i,.int .u8 0,.int .u8 0] 5)):=by
 have h:=run_convert_bytes_back (P:=Tryz.prog) (w.alloc (.cells #[.int .u8 35,.int .u8 1,.int .u8 0,.int .u8 0,.int .u8 47,.int .u8 i,.int .u8 0,.int .u8 0] 5)) 43 9 5 ⟨w.heap.size,0,none⟩ 8 (cX i) Tryz.underlying43 Tryz.underlying5 Tryz.underlying9 (fun j hj=>by
  have hl : (cX i).length = 8:=rfl
  rw [show ((⟨w.heap.size,0,none⟩ : Addr).add j) = ⟨w.heap.size,j,none⟩ by simp [Addr.add];omega,aJ (heap_alloc_new w _)]
  rcases (show j = 0 ∨ j = 1 ∨ j = 2 ∨ j = 3 ∨ j = 4 ∨ j = 5 ∨ j = 6 ∨ j = 7 by omega) with rfl | rfl | rfl | rfl | rfl | rfl | rfl | rfl
  all_goals first
   | rfl
   | (show some (Value.int .u8 i) = some (.int .u8 ((UInt8.ofNat i).toNat : Int));have : (UInt8.ofNat i).toNat = i:=(by simp;omega);rw [this]))
 exact h
theorem oF (i : Nat) (hi : i < 12) (w : World) : Calls Tryz.prog 182 #[.int .i64 1,.int .i64 i] w (Rt (str (cX i)) w):=by
 rcases (show i = 0 ∨ i = 1 ∨ i = 2 ∨ i = 3 ∨ i = 4 ∨ i = 5 ∨ i = 6 ∨ i = 7 ∨ i = 8 ∨ i = 9 ∨ i = 10 ∨ i = 11 by omega) with rfl | rfl | rfl | rfl | rfl | rfl | rfl | rfl | rfl | rfl | rfl | rfl
 all_goals
  have hrun:=mark_run _ hi w
  push_cast at hrun
  clear hi
  go_enter Tryz.func182,Tryz.ntmps182
  go_wp2_with fail
  go_ret
  exact ⟨rfl,bnew⟩
theorem uG {w w' : World} {B g n c size : Nat} {e : TypeId} {xs : List Value} (h : w.ownsRow B e size (.slice (some ⟨g,0,none⟩) n c) n xs) (hb : w'.heap[g]? = w.heap[g]?) : w'.ownsRow B e size (.slice (some ⟨g,0,none⟩) n c) n xs:=by
 refine ⟨h.1, ?_⟩
 rcases h.2 with ⟨h1,_⟩ | ⟨g',cap,cur,h1,h2,h3,h4⟩
 ·cases h1
 ·simp only [Value.slice.injEq,Option.some.injEq,Addr.mk.injEq,and_true,true_and] at h1
  obtain ⟨rfl,rfl⟩:=h1
  exact .inr ⟨g,c,cur,rfl,h2,hb.trans h3,h4⟩
theorem below_grown {w w' : World} {B : Nat} {row : Option Nat} (h : w.grownBy w' row) (hr : ∀ g,row = some g → B ≤ g) (hB : B ≤ w.heap.size) : Below B w w' :=
 ⟨h.os,h.tape,h.output,h.size,fun k hk=>h.block k (Nat.lt_of_lt_of_le hk hB) (fun e=>by have:=hr k e.symm;omega)⟩
theorem kB {W W' : World} {g : Nat} (b : ∀ k,k < W.heap.size → g < k → W'.heap[k]? = W.heap[k]?) : bI (hide (fun n=>decide (n < g + 1)) W) (hide (fun n=>decide (n < g + 1)) W') :=
 bP fun k h1 h2=>⟨h2,b k h1 (by simp at h2;omega)⟩
theorem news3' (w : World) (o : Obj) (a b c : Value) (t : TypeId) : ∀ (j : Nat) (u : Value),[a,b,c][j]? = some u → ((w.alloc o).alloc (.cells #[a,b,c] t)).cell? ((⟨w.heap.size + 1,0,none⟩ : Addr).add j) = some u:=by
 have:=wQ (w.alloc o) a b c t
 rwa [World.size_alloc] at this
open Go Go.RowKit Ly
def aM (w : World) (k : Nat) (zs : List Value) (n : Nat) (u : Value) : Prop :=
 ∃ a cap,u = .slice a n cap ∧ n ≤ cap ∧ cap ≤ maxLen ∧ zs.length = n * k ∧ (n = 0 ∨ ∃ b off,a = some ⟨b,off,none⟩ ∧ ∀ j v,zs[j]? = some v → w.cell? ⟨b,off + j,none⟩ = some v)
theorem aM.keep {w w' : World} {k n : Nat} {zs : List Value} {u : Value} (h : aM w k zs n u) (K : bI w w') : aM w' k zs n u:=by
 obtain ⟨a,cap,h1,h2,h3,h4,h5⟩:=h
 refine ⟨a,cap,h1,h2,h3,h4,h5.elim .inl fun h=>.inr ?_⟩
 obtain ⟨b,off,e,hc⟩:=h
 exact ⟨b,off,e,fun j v hv=>K _ _ (hc j v hv)⟩
theorem aM.len {w : World} {k n m c : Nat} {zs : List Value} {a : Option Addr} (h : aM w k zs n (.slice a m c)) : m = n ∧ n ≤ c ∧ c ≤ maxLen ∧ zs.length = n * k:=by
 obtain ⟨a',cap,e,h1,h2,h3,_⟩:=h
 simp only [Value.slice.injEq] at e
 obtain ⟨_,rfl,rfl⟩:=e
 exact ⟨rfl,h1,h2,h3⟩
theorem aM.slice {w : World} {k n : Nat} {zs : List Value} {u : Value} (h : aM w k zs n u) : ∃ a c,u = .slice a n c:=by
 obtain ⟨a,c,e,_⟩:=h;exact ⟨a,c,e⟩
theorem aM.at {w : World} {k n m c : Nat} {zs : List Value} {a : Option Addr} (h : aM w k zs n (.slice a m c)) (hn : n ≠ 0) : ∃ b off,a = some ⟨b,off,none⟩ ∧ ∀ j v,zs[j]? = some v → w.cell? ⟨b,off + j,none⟩ = some v:=by
 obtain ⟨a',cap,e,_,_,_,h5⟩:=h
 simp only [Value.slice.injEq] at e
 obtain ⟨rfl,rfl,rfl⟩:=e
 exact h5.resolve_left hn
theorem aM.news {w : World} {k n m c : Nat} {zs : List Value} {a : Option Addr} (h : aM w k zs n (.slice a m c)) : ∀ ad,a = some ad → ∀ j v,zs[j]? = some v → w.cell? (ad.add j) = some v:=by
 intro ad e j v hv
 by_cases hn : n = 0
 ·have:=h.len.2.2.2
  subst hn
  have : zs = []:=List.eq_nil_of_length_eq_zero (by simpa using this)
  subst this;simp at hv
 ·obtain ⟨b,off,e',hc⟩:=h.at hn
  rw [e] at e';cases e'
  have : (⟨b,off,none⟩ : Addr).add j = ⟨b,off + j,none⟩:=by simp [Addr.add]
  rw [this];exact hc j v hv
theorem aM.none {w : World} {k n m c : Nat} {zs : List Value} (h : aM w k zs n (.slice none m c)) : m = 0 ∧ zs = []:=by
 have hl:=h.len
 by_cases hn : n = 0
 ·exact ⟨hl.1.trans hn,List.eq_nil_of_length_eq_zero (by rw [hl.2.2.2,hn];simp)⟩
 ·obtain ⟨b,off,e',_⟩:=h.at hn;cases e'
theorem lL {w : World} {k n : Nat} {zs : List Value} {u : Value} (h : At w (.sl k n (zs.map D.val)) u) : aM w k zs n u:=by
 obtain ⟨a,cap,h1,h2,h3,h4,h5⟩:=h.sl_inv
 refine ⟨a,cap,h1,h2,h3,by simpa using h4,h5.elim .inl fun h=>.inr ?_⟩
 obtain ⟨b,off,e,hc⟩:=h
 refine ⟨b,off,e,fun j v hv=>?_⟩
 obtain ⟨u',h6,h7⟩:=hc j (.val v) (by rw [List.getElem?_map,hv];rfl)
 have h7' : u' = v:=h7
 rw [← h7'];exact h6
theorem aM.to {w : World} {k n : Nat} {zs : List Value} {u : Value} (h : aM w k zs n u) : At w (.sl k n (zs.map D.val)) u:=by
 obtain ⟨a,cap,rfl,h2,h3,h4,h5⟩:=h
 refine ⟨a,cap,rfl,h2,h3,by simpa using h4,h5.elim .inl fun h=>.inr ?_⟩
 obtain ⟨b,off,e,hc⟩:=h
 refine ⟨b,off,e,jV.mk fun j d hd=>?_⟩
 rw [List.getElem?_map] at hd
 obtain ⟨v,hv,rfl⟩:=Option.map_eq_some_iff.1 hd
 exact ⟨v,hc j v hv,rfl⟩
def cQ (w : World) (k : Nat) (zs ms : List Value) (n : Nat) (u : Value) : Prop :=
 ∃ b cap,u = .slice (some ⟨b,0,none⟩) n cap ∧ n + 12 ≤ cap ∧ cap ≤ maxLen ∧ zs.length = n * k ∧ nR w b (zs ++ ms)
theorem cQ.keep {w w' : World} {k n : Nat} {zs ms : List Value} {u : Value} (h : cQ w k zs ms n u) (K : bI w w') : cQ w' k zs ms n u:=by
 obtain ⟨b,cap,h1,h2,h3,h4,h5⟩:=h
 exact ⟨b,cap,h1,h2,h3,h4,h5.keep K⟩
theorem cQ.flat {w : World} {k n : Nat} {zs ms : List Value} {u : Value} (h : cQ w k zs ms n u) : aM w k zs n u:=by
 obtain ⟨b,cap,rfl,h2,h3,h4,h5⟩:=h
 refine ⟨_,_,rfl,by omega,h3,h4,.inr ⟨b,0,rfl,fun j v hv=>?_⟩⟩
 rw [Nat.zero_add];exact h5.left j v hv
/- Marks. -/
def qR (i : Nat) : Int:=8000024 + i
def kO (i : Nat) : List Value:=[.int .i64 (qR i)]
def pU (i : Nat) : List Value:=[str (cX i),.int .i64 0,.int .i64 0]
def pR (i : Nat) : List Value:=[str (cX i),.int .i64 0]
def vF (i : Nat) : List Value:=[str (cX i),.int .i64 0,.slice none 0 0]
def marksOf (f : Nat → List Value) (n : Nat) : List Value:=(List.range n).flatMap f
theorem jN (f : Nat → List Value) (n : Nat) : marksOf f (n + 1) = marksOf f n ++ f n:=by simp [marksOf,List.range_succ]
theorem qT (f : Nat → List Value) (k : Nat) (hk : ∀ i,(f i).length = k) : ∀ n,(marksOf f n).length = n * k
 | 0=>by simp [marksOf]
 | n + 1=>by rw [jN,List.length_append,qT f k hk n,hk,Nat.succ_mul]
theorem qS (f : Nat → List Value) (k : Nat) (hk : ∀ i,(f i).length = k) : ∀ (n i j : Nat),i < n → j < k → (marksOf f n)[i * k + j]? = (f i)[j]?
 | 0,i,j,h,_=>by omega
 | n + 1,i,j,h,hj=>by
  have hl:=qT f k hk n
  rw [jN]
  by_cases hi : i < n
  ·rw [List.getElem?_append_left (by rw [hl];calc i * k + j < i * k + k:=Nat.add_lt_add_left hj _
    _ = (i + 1) * k:=by rw [Nat.succ_mul]
    _ ≤ n * k:=Nat.mul_le_mul_right k hi)]
   exact qS f k hk n i j hi hj
  ·have : i = n:=by omega
   subst this
   rw [List.getElem?_append_right (by rw [hl];omega),hl]
   congr 1;omega
structure jJ (w : World) (e k : Nat) (zs : List Value) (mk : Nat → List Value) (n i : Nat) (W : World) : Prop where
 own : W.ownsRow w.heap.size e k (.slice (some ⟨w.heap.size,0,none⟩) (n + i) (n + 12)) (n + i) (zs ++ marksOf mk i)
 bw : Below w.heap.size w W
theorem jJ.moved {w W W' : World} {e k n i : Nat} {zs : List Value} {mk : Nat → List Value} (h : jJ w e k zs mk n i W) (b : Below W.heap.size W W') : jJ w e k zs mk n i W' :=
 ⟨uG h.own (b.block _ (h.own.lt _ rfl).2),aA h.bw b⟩
theorem jJ.mark {w W W' : World} {e k n i : Nat} {zs : List Value} {mk : Nat → List Value} (b : Below w.heap.size w W) (hB : w.heap.size ≤ W.heap.size)
  (ho : W'.ownsRow w.heap.size e k (.slice (some ⟨w.heap.size,0,none⟩) (n + i + 1) (n + 12)) (n + i + 1) (zs ++ marksOf mk i ++ mk i)) (hg : W.grownBy W' (some w.heap.size)) : jJ w e k zs mk n (i + 1) W' :=
 ⟨by rw [jN,← List.append_assoc];exact ho,b.trans (below_grown hg (fun x h=>by cases h;exact Nat.le_refl _) hB)⟩
theorem jJ.lent {w W : World} {e k n : Nat} {zs : List Value} {mk : Nat → List Value} (h : jJ w e k zs mk n 12 W) (hz : zs.length = n * k) (hm : n + 12 ≤ maxLen) : cQ (hide (lo w) W) k zs (marksOf mk 12) n (.slice (some ⟨w.heap.size,0,none⟩) n (n + 12)):=by
 refine ⟨_,_,rfl,Nat.le_refl _,hm,hz,fun j u hu=>?_⟩
 have:=h.own.cells (g:=w.heap.size) rfl j u hu
 rw [show ((⟨w.heap.size,0,none⟩ : Addr).add j) = ⟨w.heap.size,j,none⟩ by simp [Addr.add];omega] at this
 rw [iB (by simp [lo])]
 exact this
theorem hH {P : Program} (w : World) {ops : Array Oper} {rest : List Oper} {o : Oper} {a : Act} {Q : Exit → Act → World → Prop}
  (hg : o.guard = none) (s x : Operand) (t : TypeId) (hop : o.op = Op.call { callee:=Callee.builtin Builtin.append,args:=#[s,x],argTypes:=#[t,t] })
  (base : Nat) (e : TypeId) (i : TypeInfo) (size : Nat) (h1 : P.underlying t = some (.slice e)) (h2 : P.info? e = some i) (h4 : i.size = size)
  (g k cap : Nat) (xs : List Value) (hs : a.eval s = .slice (some ⟨g,0,none⟩) k cap) (hown : w.ownsRow base e size (.slice (some ⟨g,0,none⟩) k cap) k xs) (ao : Option Addr) (m c : Nat) (news : List Value) (hx : a.eval x = .slice ao m c) (hf : aM w size news m (.slice ao m c))
  (h1c : ∀ u ∈ news,u.oneCell' = true) (b1 : k + m ≤ cap)
  (hK : ∀ w',w'.ownsRow base e size (.slice (some ⟨g,0,none⟩) (k + m) cap) (k + m) (xs ++ news) → w.grownBy w' (some g) → wpList P ops Q rest (a.put o.dst (.slice (some ⟨g,0,none⟩) (k + m) cap)) w') :
  wpList P ops Q (o :: rest) a w:=by
 cases ao with
 | some ad=>exact wpList_append_fits w hg s x t hop base e i size h1 h2 h4 g k cap xs hs hown ad m c news hx hf.len.2.2.2 (hf.news ad rfl) h1c b1 hK
 | none =>
  obtain ⟨rfl,rfl⟩:=hf.none
  refine wpList_plain hg fun K hK'=>?_
  have hrun : (Builtin.append_ #[t,t] o.type #[.slice (some ⟨g,0,none⟩) k cap,.slice none 0 c]).run P w = .ok (.slice (some ⟨g,0,none⟩) k cap) w:=by
   rcases hown.2 with ⟨h,_⟩ | ⟨g',cap',cur,h,_,_,hnc,_⟩
   ·cases h
   ·simp only [Value.slice.injEq,Option.some.injEq,Addr.mk.injEq,and_true,true_and] at h
    obtain ⟨rfl,rfl⟩:=h
    simp [Builtin.append_,run_underlying h1,sizeOf,typeInfo,h2,Builtin.lenOf,Builtin.firstCells,hnc,storeCells]
  unfold Oper.wp
  simp [execOp,hop,resolve,invoke,builtin,hs,hx,hrun,Result.andThen]
  exact hK' _ _ (hK w (by simpa using hown) (World.grownBy.refl _ _))
theorem zF (i : Nat) (hi : i < 12) (w : World) : Calls Tryz.prog 136 #[.int .i64 1,.int .i64 i] w fun e w'=>e = .returned (.int .i64 (qR i)) ∧ w' = w:=by
 go_enter Tryz.func136,Tryz.ntmps136
 go_wp2_with fail
 go_ret
 exact ⟨by simp [qR],rfl⟩
end Go.Proofs.YtcandidgaegghaaGreatDoor
