/- lyceumlaw30.term returns the term of a byte, in memory of its own. Conditions: a byte. -/
import Derived.Test.YtcandidgaegghaaGreatDoorAwakeZ
import Derived.Deep.RegionHeld3
import Derived.Deep.RegionLaw
import Derived.Deep.RegionWith
import Derived.Deep.QuietTactic
import Derived.BigQuiet
import Derived.Maps.AppendAt
import Derived.Test.YtcandidgaegghaaGreatDoorRdGZ
import Derived.Test.YtcandidgaegghaaGreatDoorRows
import Derived.Lib.LaidU8
import Derived.ShapedOpen
import Derived.WalkKit
import Derived.ProofKit
import Derived.OpenShut
import Derived.Deep.DeepHandedRow
import Derived.Carry
import Derived.Shelf.Vars
import Derived.Deep.Slices
import Derived.Test.YtcandidgaegghaaGreatDoorRdCZ
set_option maxRecDepth 10000
set_option linter.unusedSimpArgs false
set_option linter.unusedVariables false
namespace Go.Proofs.YtcandidgaegghaaGreatDoor
open Go Go.RowKit Ly
set_option maxHeartbeats 800000
section
variable {W w w' : World} {g : Nat}
end
theorem row95' {w : World} {b : Nat} {x y z : Value} (h : w.heap[b]? = some (.cells #[x,y,z] 95 (0,0))) :
  w.cell? ⟨b,0,none⟩ = some x ∧ w.cell? ⟨b,1,none⟩ = some y ∧ w.cell? ⟨b,2,none⟩ = some z ∧ w.frozen? ⟨b,0,none⟩ = false ∧ w.frozen? ⟨b,1,none⟩ = false ∧ w.frozen? ⟨b,2,none⟩ = false :=
 ⟨(box_cell h 0).trans rfl,(box_cell h 1).trans rfl,(box_cell h 2).trans rfl,by simp [World.frozen?,h],by simp [World.frozen?,h],by simp [World.frozen?,h]⟩
open Go Go.RowKit Ly
set_option maxHeartbeats 2000000
theorem info25 : (Tryz.prog.info? 25).map (fun i=>(i.zero,i.size,i.bytes)) = some (some (.agg #[.int .u8 0,.string ⟨#[]⟩,.slice none 0 0,.slice none 0 0]),4,72):=by kernel_rfl
def lo1 (w : World) : Nat → Bool:=fun k=>decide (k < w.heap.size + 1)
theorem pH {p : Nat → Bool} {base : Nat} {w : World} {e : TypeId} {size n : Nat} {ds : List D} {v : Value} (h : iP p base w e size n ds v) : ∀ g,v.ownBlock = some g → base ≤ g ∧ g < w.heap.size:=by
 obtain ⟨xs,ho,_⟩:=h
 exact ho.lt
open Go Go.RowKit Ly
theorem ES : Tryz.prog.cellsOf 264 = 5:=by kernel_rfl
theorem GY : Tryz.prog.cellsOf 4 = 1:=by kernel_rfl
theorem cells5 : Tryz.prog.cellsOf 5 = 1:=by kernel_rfl
theorem cells3 : Tryz.prog.cellsOf 3 = 1:=by kernel_rfl
theorem MX : Tryz.prog.globalNamed "lyceum/syntax.rows" = some 0:=by kernel_rfl
theorem KY : (Tryz.prog.globals[0]?).map (·.type) = some 265:=by kernel_rfl
section
variable {H : Type} {enc : TypeId × Value → H} {w : World} {base : Nat} {sp : Nat → Bool} {held : Bool}
theorem BU {fuel : Nat} {cs : List Value} {a b : Bool} {x y z : Int} {p : List MemPlace} (h : DataW.trod enc Tryz.prog w base sp held fuel 264 cs = some (.agg [.lit (.bool a),.lit (.bool b),.lit (.int .u8 x),.lit (.int .i64 y),.lit (.int .i64 z)],p)) :
  cs[0]? = some (.bool a) ∧ cs[1]? = some (.bool b) ∧ cs[2]? = some (.int .u8 x) ∧ cs[3]? = some (.int .i64 y) ∧ cs[4]? = some (.int .i64 z):=by
 obtain ⟨xs,n,rfl,hx,hl,hxl,hall⟩:=DataW.trod_struct Tryz.underlying264 h
 have hxs : xs.map (·.1) = [.lit (.bool a),.lit (.bool b),.lit (.int .u8 x),.lit (.int .i64 y),.lit (.int .i64 z)]:=by
  have:=congrArg Prod.fst hx
  simpa using this.symm
 have get : ∀ (i : Nat) (d : DataW H),([.lit (.bool a),.lit (.bool b),.lit (.int .u8 x),.lit (.int .i64 y),.lit (.int .i64 z)] : List (DataW H))[i]? = some d → ∃ q,xs[i]? = some (d,q):=by
  intro i d hd
  rw [← hxs,List.getElem?_map] at hd
  obtain ⟨⟨d',q⟩,e,rfl⟩:=Option.map_eq_some_iff.1 hd
  exact ⟨q,e⟩
 have at_ : ∀ (i : Nat) (v : Value),(cs.drop i).take 1 = [v] → cs[i]? = some v:=by
  intro i v e
  have:=congrArg (·[0]?) e
  simpa [List.getElem?_take,List.getElem?_drop] using this
 obtain ⟨q0,g0⟩:=get 0 _ rfl
 obtain ⟨q1,g1⟩:=get 1 _ rfl
 obtain ⟨q2,g2⟩:=get 2 _ rfl
 obtain ⟨q3,g3⟩:=get 3 _ rfl
 obtain ⟨q4,g4⟩:=get 4 _ rfl
 have h0 : DataW.trod enc Tryz.prog w base sp held n 4 ((cs.drop 0).take (Tryz.prog.cellsOf 4)) = _:=(hall 0 _ rfl).trans g0
 rw [GY] at h0
 have h1 : DataW.trod enc Tryz.prog w base sp held n 4 ((cs.drop 1).take (Tryz.prog.cellsOf 4)) = _:=(hall 1 _ rfl).trans g1
 rw [GY] at h1
 have h2 : DataW.trod enc Tryz.prog w base sp held n 5 ((cs.drop 2).take (Tryz.prog.cellsOf 5)) = _:=(hall 2 _ rfl).trans g2
 rw [cells5] at h2
 have h3 : DataW.trod enc Tryz.prog w base sp held n 3 ((cs.drop 3).take (Tryz.prog.cellsOf 3)) = _:=(hall 3 _ rfl).trans g3
 rw [cells3] at h3
 have h4 : DataW.trod enc Tryz.prog w base sp held n 3 ((cs.drop 4).take (Tryz.prog.cellsOf 3)) = _:=(hall 4 _ rfl).trans g4
 rw [cells3] at h4
 obtain ⟨v0,e0,k0⟩:=DataW.trod_bool Tryz.underlying4 h0
 obtain ⟨v1,e1,k1⟩:=DataW.trod_bool Tryz.underlying4 h1
 obtain ⟨v2,e2,k2,_⟩:=DataW.trod_int Tryz.underlying5 h2
 obtain ⟨v3,e3,k3,_⟩:=DataW.trod_int Tryz.underlying3 h3
 obtain ⟨v4,e4,k4,_⟩:=DataW.trod_int Tryz.underlying3 h4
 cases k0;cases k1;cases k2;cases k3;cases k4
 exact ⟨at_ 0 _ e0,at_ 1 _ e1,at_ 2 _ e2,at_ 3 _ e3,at_ 4 _ e4⟩
end
theorem rows_at {W : World} {L : List (String × DataW Unit)} (h : laidMet Tryz.prog L W) (hm : ("lyceum/syntax.rows",Rows.laid_lyceum_syntax_rows) ∈ L) : dV W:=by
 obtain ⟨g,t,cs,fuel,p,hg,ht,hv,hd⟩:=Lib.laidMet.reads h hm
 obtain rfl:=Option.some.inj (MX.symm.trans hg)
 obtain rfl:=Option.some.inj (KY.symm.trans ht)
 have one : ∀ (i : Nat) (a b : Bool) (x y z : Int),i < 17 → (match (Rows.laid_lyceum_syntax_rows : DataW Unit) with | .agg ds=>ds[i]? | _=>none) = some (.agg [.lit (.bool a),.lit (.bool b),.lit (.int .u8 x),.lit (.int .i64 y),.lit (.int .i64 z)]) →
   W.cell? ⟨0,i * 5,none⟩ = some (.bool a) ∧ W.cell? ⟨0,i * 5 + 1,none⟩ = some (.bool b) ∧ W.cell? ⟨0,i * 5 + 2,none⟩ = some (.int .u8 x) ∧ W.cell? ⟨0,i * 5 + 3,none⟩ = some (.int .i64 y) ∧ W.cell? ⟨0,i * 5 + 4,none⟩ = some (.int .i64 z):=by
  intro i a b x y z hi e
  obtain ⟨f',d,q,e2,hd'⟩:=Lib.array_elem Tryz.underlying265 hd i hi
  have : d = .agg [.lit (.bool a),.lit (.bool b),.lit (.int .u8 x),.lit (.int .i64 y),.lit (.int .i64 z)]:=Option.some.inj (e2.symm.trans e)
  subst this
  rw [ES] at hd'
  obtain ⟨k0,k1,k2,k3,k4⟩:=BU hd'
  have cell : ∀ (j : Nat) (v : Value),j < 5 → ((cs.toList.drop (i * 5)).take 5)[j]? = some v → W.cell? ⟨0,i * 5 + j,none⟩ = some v:=by
   intro j v hj e
   rw [List.getElem?_take,if_pos hj,List.getElem?_drop] at e
   have:=World.var?_cell hg hv (i * 5 + j)
   rw [this]
   simpa using e
  exact ⟨cell 0 _ (by omega) k0,cell 1 _ (by omega) k1,cell 2 _ (by omega) k2,cell 3 _ (by omega) k3,cell 4 _ (by omega) k4⟩
 intro op h1 h2
 rcases (show op = 1 ∨ op = 2 ∨ op = 3 ∨ op = 4 ∨ op = 5 ∨ op = 6 ∨ op = 7 ∨ op = 8 ∨ op = 9 ∨ op = 10 ∨ op = 11 ∨ op = 12 ∨ op = 13 ∨ op = 14 by omega) with rfl | rfl | rfl | rfl | rfl | rfl | rfl | rfl | rfl | rfl | rfl | rfl | rfl | rfl
 all_goals exact one _ _ _ _ _ _ (by decide) rfl
theorem gPow : Tryz.prog.globalNamed "internal/strconv.uint64pow10" = some 4:=by kernel_rfl
theorem pow_at {W : World} {L : List (String × DataW Unit)} (h : laidMet Tryz.prog L W) (hm : ("internal/strconv.uint64pow10",Rows.laid_internal_strconv_uint64pow10) ∈ L) {t : TypeId} (hty : (Tryz.prog.globals[4]?).map (·.type) = some t) (hu : Tryz.prog.underlying t = some (.array 20 234)) (hct : Tryz.prog.cellsOf t = 20) : iK W:=by
 obtain ⟨g,t',cs,fuel,p,hg,ht,hv,hd⟩:=Lib.laidMet.reads h hm
 obtain rfl:=Option.some.inj (gPow.symm.trans hg)
 obtain rfl:=Option.some.inj (hty.symm.trans ht)
 have e : (Rows.laid_internal_strconv_uint64pow10 : DataW Unit) = Lib.tabData .u64 Lib.pow10Tab:=rfl
 rw [e] at hd
 unfold iK Lib.TabIs
 rw [hv,← Lib.cells_of_tab hu Tryz.underlying234 (by kernel_rfl) hct hd]
open Go Go.ChangeShapes Go.WideShapes Go.ChangeAt Go.RowKit Ly
theorem max_at {W : World} (h : W.ShapedOpen Tryz.prog) : kL W :=
 Go.Proofs.cell_of_shapedOpen_int (g:=1) (zero:=#[.int .i64 0]) (t:=3) h (of_decide_eq_true (by kernel_rfl)) (by kernel_rfl) rfl (by kernel_rfl) (by kernel_rfl) Tryz.underlying3
section
variable {H : Type} {enc : TypeId × Value → H}
theorem zP {W W' : World} {sp : Nat → Bool} : ∀ {ts : List TypeId} {vs : List Value} {ds : List (DataW H)} {ps : List MemPlace},(∀ t ∈ ts,Tryz.prog.readableRec t = true ∧ t < Tryz.prog.types.size) →
  DataW.TrodAll enc Tryz.prog W 0 (fun _=>true) true ts vs ds ps → (∀ x ∈ ps,W.sameAt W' x) → (∀ x ∈ ps,sp x.block = true) → DataW.TrodAll enc Tryz.prog W' 0 sp true ts vs ds ps
 | [],[],[],_,_,h,_,_=>h
 | t :: _,_ :: _,_ :: _,_,hT,⟨p,q,h1,h2,e⟩,hs,hp =>
  ⟨p,q,WideElems.Trod_stays (by kernel_rfl) (hT t (List.mem_cons.2 (.inl rfl))).1 (hT t (List.mem_cons.2 (.inl rfl))).2 h1 (fun x hx=>hs x (by rw [e];exact List.mem_append_left _ hx)) (fun x hx=>hp x (by rw [e];exact List.mem_append_left _ hx)),
   zP (fun u hu=>hT u (List.mem_cons.2 (.inr hu))) h2 (fun x hx=>hs x (by rw [e];exact List.mem_append_right _ hx)) (fun x hx=>hp x (by rw [e];exact List.mem_append_right _ hx)),e⟩
theorem law_post {f : Func} {s : ChangeSpec} {apart fresh handsOn again : Bool} {W W' : World} {args : Array Value} {ds gs : List (DataW H)} {before : List MemPlace}
  (hT : ∀ t ∈ f.params.toList,Tryz.prog.readableRec t = true ∧ t < Tryz.prog.types.size) (hres : f.resultTypes = #[4]) (hvars : s.vars = []) (hfn : s.fn H ds = { results:=[.lit (.bool true)],args:=ds })
  (hW : DataW.Whole enc Tryz.prog f.params.toList s.vars apart W args.toList ds gs before) (hb : Below W.heap.size W W') : s.post enc Tryz.prog f apart fresh handsOn again W args (.bool true) W':=by
 have hW0:=hW
 obtain ⟨p,q,hA,hV,hpq,hz,hn⟩:=hW
 have hgs : gs = [] ∧ q = []:=by rw [hvars] at hV;exact trodVars_none hV
 obtain ⟨rfl,rfl⟩:=hgs
 have hpp : before = p ++ []:=hpq
 have hp : before = p:=by rw [hpp,List.append_nil]
 have hlt : ∀ x ∈ before,x.block < W.heap.size:=fun x hx=>hW0.lt x hx
 have hfn : s.fn H (ds ++ []) = { results:=[.lit (.bool true)],args:=ds }:=by rw [List.append_nil];exact hfn
 have stay : ∀ sp : Nat → Bool,(∀ x ∈ before,sp x.block = true) → DataW.TrodAll enc Tryz.prog W' 0 sp true f.params.toList args.toList (s.fn H (ds ++ [])).args before:=fun sp hsp=>by
  rw [hfn]
  rw [← hp] at hA
  exact zP hT hA (fun x hx=>hb.same (hlt x hx)) hsp
 have res : ∀ (b : Nat) (sp : Nat → Bool) (hd : Bool),DataW.TrodAll enc Tryz.prog W' b sp hd f.resultTypes.toList ((Value.bool true).resultList f.resultTypes.size) (s.fn H (ds ++ [])).results []:=fun b sp hd=>by
  rw [hfn,hres]
  exact trodAll_cons_mk (shut_bool Tryz.underlying4 _) trodAll_mk0
 have vars : ∀ sp : Nat → Bool,DataW.TrodVars enc Tryz.prog W' sp s.vars (s.fn H (ds ++ [])).vars []:=fun sp=>by
  rw [hvars,hfn];rfl
 refine ⟨ds,[],before,[],before,[],hW0,res _ _ _,stay _ (fun x hx=>by simpa using hlt x hx),vars _,World.keptBut_mono (fun x hx=>⟨hx,.inr (by simpa using hx)⟩) (hb.frame (· ∈ before)),fun _=>?_⟩
 refine ⟨ok_one hres rfl (okWide_bool_mk Tryz.underlying4 _),_,_,([] ++ before) ++ [],⟨[] ++ before,[],trodAll_append (stay _ (fun _ _=>rfl)) (res _ _ _),vars _,rfl,fun b off hx=>?_,fun ha=>?_⟩,fun x hx _=>?_⟩
 ·have hin : MemPlace.cell b off ∈ before:=by simpa using hx
  rw [hb.frozen (hlt _ hin)]
  exact hz b off hin
 ·simpa using hn ha
 ·simpa using hx
end
end Go.Proofs.YtcandidgaegghaaGreatDoor
namespace Ly
open Go Go.RowKit
mutual
def Tm.sz : Tm → Prop
 | .mk _ n l=>n.length ≤ maxLen ∧ mZ l
def mZ : List Tm → Prop
 | []=>True
 | t :: ts=>t.sz ∧ mZ ts
end
mutual
def Fm.sz : Fm → Prop
 | .mk op n l sub=>(0 ≤ op ∧ op < 256) ∧ n.length ≤ maxLen ∧ mZ l ∧ sI sub
def sI : List Fm → Prop
 | []=>True
 | f :: fs=>f.sz ∧ sI fs
end
theorem lA : ∀ l : List Tm,mZ l ↔ ∀ t ∈ l,t.sz
 | []=>by simp [mZ]
 | t :: ts=>by simp [mZ,lA ts]
theorem pW : ∀ l : List Fm,sI l ↔ ∀ t ∈ l,t.sz
 | []=>by simp [sI]
 | t :: ts=>by simp [sI,pW ts]
end Ly
namespace Go.Proofs.YtcandidgaegghaaGreatDoor
open Go Go.ChangeShapes Go.WideShapes Go.ChangeAt Go.RowKit Ly
section
variable {H : Type} {enc : TypeId × Value → H} {W : World}
def wN (W : World) (cs : List Value) (ds : List D) : Prop:=∀ (j : Nat) (d : D),ds[j]? = some d → ∃ u,cs[j]? = some u ∧ At W d u
theorem DF : Tryz.prog.cellsOf 9 = 1:=by kernel_rfl
theorem IW : Tryz.prog.cellsOf 22 = 1:=by kernel_rfl
theorem cells23 : Tryz.prog.cellsOf 23 = 1:=by kernel_rfl
theorem IX : Tryz.prog.cellsOf 25 = 4:=by kernel_rfl
theorem IZ : Tryz.prog.cellsOf 95 = 3:=by kernel_rfl
theorem cell_of_one {cs : List Value} {i : Nat} {v : Value} (e : (cs.drop i).take 1 = [v]) : cs[i]? = some v:=by
 have:=congrArg (·[0]?) e
 simpa [List.getElem?_take,List.getElem?_drop] using this
theorem NU (v : Bool) (n : Bs) (l : List Tm) : (Tm.mk v n l).ds = [.val (.bool v),.val (str n),.sl 3 l.length (cC l)]:=by rw [Tm.ds]
theorem KX (op : Int) (n : Bs) (l : List Tm) (s : List Fm) : (Fm.mk op n l s).ds = [.val (.int .u8 op),.val (str n),.sl 3 l.length (cC l),.sl 4 s.length (cH s)]:=by rw [Fm.ds]
theorem mY : ∀ l : List Tm,(cC l).length = l.length * 3
 | []=>by simp [cC]
 | t :: ts=>by simp [cC,mY ts,Tm.ds_length];omega
theorem pV : ∀ l : List Fm,(cH l).length = l.length * 4
 | []=>by simp [cH]
 | t :: ts=>by simp [cH,pV ts,Fm.ds_length];omega
instance : Inhabited Tm:=⟨.mk false [] []⟩
instance : Inhabited Fm:=⟨.mk 0 [] [] []⟩
end
open Go Go.RowKit Ly
def bD (i : Nat) : Bs:=[35,1,0,0,47,UInt8.ofNat i,0,0]
def MD (i : Nat) : List Value:=[.bool false,str (bD i),.slice none 0 0]
def gF (n : Nat) : List Value:=(List.range n).flatMap MD
def KW (i : Nat) : List Value:=[.int .u8 0,str (bD i),.slice none 0 0,.slice none 0 0]
def fU (n : Nat) : List Value:=(List.range n).flatMap KW
def jW (W : World) (b : Nat) (ys : List Value) : Prop:=∀ (j : Nat) (u : Value),ys[j]? = some u → W.cell? ⟨b,j,none⟩ = some u
theorem jW.keep {W W' : World} {b : Nat} {ys : List Value} (h : jW W b ys) (k : aR W W') : jW W' b ys:=fun j u hu=>k _ _ (h j u hu)
theorem jW.left {W : World} {b : Nat} {xs ys : List Value} (h : jW W b (xs ++ ys)) : jW W b xs:=fun j u hu=>h j u (by rw [List.getElem?_append_left (List.getElem?_eq_some_iff.1 hu).1];exact hu)
mutual
def TmL (W : World) : Tm → List Value → Prop
 | .mk v n l,cs=>∃ (b cap : Nat) (zs : List Value),cs = [.bool v,str n,.slice (some ⟨b,0,none⟩) l.length cap] ∧ l.length + 12 ≤ cap ∧ cap ≤ maxLen ∧ jW W b (zs ++ gF 12) ∧ TmsC W l zs
def TmsC (W : World) : List Tm → List Value → Prop
 | [],ys=>ys = []
 | t :: ts,ys=>∃ c r,ys = c ++ r ∧ TmL W t c ∧ TmsC W ts r
end
def dJ (W : World) (l : List Tm) (u : Value) : Prop:=∃ (b cap : Nat) (zs : List Value),u = .slice (some ⟨b,0,none⟩) l.length cap ∧ l.length + 12 ≤ cap ∧ cap ≤ maxLen ∧ jW W b (zs ++ gF 12) ∧ TmsC W l zs
mutual
def FmL (W : World) : Fm → List Value → Prop
 | .mk op n l sub,cs=>∃ (a : Value) (b cap : Nat) (zs : List Value),cs = [.int .u8 op,str n,a,.slice (some ⟨b,0,none⟩) sub.length cap] ∧ dJ W l a ∧ sub.length + 12 ≤ cap ∧ cap ≤ maxLen ∧ jW W b (zs ++ fU 12) ∧ FmsC W sub zs
def FmsC (W : World) : List Fm → List Value → Prop
 | [],ys=>ys = []
 | t :: ts,ys=>∃ c r,ys = c ++ r ∧ FmL W t c ∧ FmsC W ts r
end
def eW (W : World) (l : List Fm) (u : Value) : Prop:=∃ (b cap : Nat) (zs : List Value),u = .slice (some ⟨b,0,none⟩) l.length cap ∧ l.length + 12 ≤ cap ∧ cap ≤ maxLen ∧ jW W b (zs ++ fU 12) ∧ FmsC W l zs
theorem DA {W : World} {t : Tm} {cs : List Value} : TmL W t cs ↔ ∃ u,cs = [.bool t.v,str t.name,u] ∧ dJ W t.args u:=by
 obtain ⟨v,n,l⟩:=t
 rw [TmL]
 constructor
 ·rintro ⟨b,cap,zs,rfl,h⟩
  exact ⟨_,rfl,b,cap,zs,rfl,h⟩
 ·rintro ⟨u,rfl,b,cap,zs,rfl,h⟩
  exact ⟨b,cap,zs,rfl,h⟩
theorem CR {W : World} {t : Fm} {cs : List Value} : FmL W t cs ↔ ∃ a u,cs = [.int .u8 t.op,str t.name,a,u] ∧ dJ W t.args a ∧ eW W t.sub u:=by
 obtain ⟨op,n,l,sub⟩:=t
 rw [FmL]
 constructor
 ·rintro ⟨a,b,cap,zs,rfl,h1,h⟩
  exact ⟨_,_,rfl,h1,b,cap,zs,rfl,h⟩
 ·rintro ⟨a,u,rfl,h1,b,cap,zs,rfl,h⟩
  exact ⟨a,b,cap,zs,rfl,h1,h⟩
mutual
theorem TmL.keep {W W' : World} (k : aR W W') : ∀ (t : Tm) (cs : List Value),TmL W t cs → TmL W' t cs
 | .mk v n l,cs,h=>by
  rw [TmL] at h ⊢
  obtain ⟨b,cap,zs,h1,h2,h3,h4,h5⟩:=h
  exact ⟨b,cap,zs,h1,h2,h3,h4.keep k,TmsC.keep k l zs h5⟩
theorem TmsC.keep {W W' : World} (k : aR W W') : ∀ (l : List Tm) (ys : List Value),TmsC W l ys → TmsC W' l ys
 | [],ys,h=>by rw [TmsC] at h ⊢;exact h
 | t :: ts,ys,h=>by
  rw [TmsC] at h ⊢
  obtain ⟨c,r,e,h1,h2⟩:=h
  exact ⟨c,r,e,TmL.keep k t c h1,TmsC.keep k ts r h2⟩
end
theorem dJ.keep {W W' : World} {l : List Tm} {u : Value} (h : dJ W l u) (k : aR W W') : dJ W' l u:=by
 obtain ⟨b,cap,zs,h1,h2,h3,h4,h5⟩:=h
 exact ⟨b,cap,zs,h1,h2,h3,h4.keep k,TmsC.keep k l zs h5⟩
mutual
theorem FmL.keep {W W' : World} (k : aR W W') : ∀ (t : Fm) (cs : List Value),FmL W t cs → FmL W' t cs
 | .mk op n l sub,cs,h=>by
  rw [FmL] at h ⊢
  obtain ⟨a,b,cap,zs,h1,h0,h2,h3,h4,h5⟩:=h
  exact ⟨a,b,cap,zs,h1,h0.keep k,h2,h3,h4.keep k,FmsC.keep k sub zs h5⟩
theorem FmsC.keep {W W' : World} (k : aR W W') : ∀ (l : List Fm) (ys : List Value),FmsC W l ys → FmsC W' l ys
 | [],ys,h=>by rw [FmsC] at h ⊢;exact h
 | t :: ts,ys,h=>by
  rw [FmsC] at h ⊢
  obtain ⟨c,r,e,h1,h2⟩:=h
  exact ⟨c,r,e,FmL.keep k t c h1,FmsC.keep k ts r h2⟩
end
theorem eW.keep {W W' : World} {l : List Fm} {u : Value} (h : eW W l u) (k : aR W W') : eW W' l u:=by
 obtain ⟨b,cap,zs,h1,h2,h3,h4,h5⟩:=h
 exact ⟨b,cap,zs,h1,h2,h3,h4.keep k,FmsC.keep k l zs h5⟩
/- A lent list is a list. -/
theorem rN {W : World} {ds : List D} {zs ms : List Value} {b size n cap : Nat} (h : aP W ds zs) (hr : jW W b (zs ++ ms)) (hl : ds.length = n * size) (h1 : n ≤ cap) (h2 : cap ≤ maxLen) : At W (.sl size n ds) (.slice (some ⟨b,0,none⟩) n cap) :=
 At.sl_mk hl h1 h2 fun j d hd=>by
  obtain ⟨u,h3,h4⟩:=h.2 j d hd
  exact ⟨u,by rw [Nat.zero_add];exact hr.left j u h3,h4⟩
mutual
theorem TmL.cells {W : World} : ∀ (t : Tm) (cs : List Value),TmL W t cs → aP W t.ds cs
 | .mk v n l,cs,h=>by
  rw [TmL] at h
  obtain ⟨b,cap,zs,rfl,h2,h3,h4,h5⟩:=h
  rw [NU]
  exact aP.cons rfl (aP.cons rfl (aP.cons (rN (TmsC.cells l zs h5) h4 (mY l) (by omega) h3) (aP.nil _)))
theorem TmsC.cells {W : World} : ∀ (l : List Tm) (ys : List Value),TmsC W l ys → aP W (cC l) ys
 | [],ys,h=>by rw [TmsC] at h;subst h;exact aP.nil _
 | t :: ts,ys,h=>by
  rw [TmsC] at h
  obtain ⟨c,r,rfl,h1,h2⟩:=h
  exact (TmL.cells t c h1).append (TmsC.cells ts r h2)
end
theorem dJ.at {W : World} {l : List Tm} {u : Value} (h : dJ W l u) : bI W l u:=by
 obtain ⟨b,cap,zs,rfl,h2,h3,h4,h5⟩:=h
 exact rN (TmsC.cells l zs h5) h4 (mY l) (by omega) h3
mutual
theorem FmL.cells {W : World} : ∀ (t : Fm) (cs : List Value),FmL W t cs → aP W t.ds cs
 | .mk op n l sub,cs,h=>by
  rw [FmL] at h
  obtain ⟨a,b,cap,zs,rfl,h0,h2,h3,h4,h5⟩:=h
  rw [KX]
  exact aP.cons rfl (aP.cons rfl (aP.cons h0.at (aP.cons (rN (FmsC.cells sub zs h5) h4 (pV sub) (by omega) h3) (aP.nil _))))
theorem FmsC.cells {W : World} : ∀ (l : List Fm) (ys : List Value),FmsC W l ys → aP W (cH l) ys
 | [],ys,h=>by rw [FmsC] at h;subst h;exact aP.nil _
 | t :: ts,ys,h=>by
  rw [FmsC] at h
  obtain ⟨c,r,rfl,h1,h2⟩:=h
  exact (FmL.cells t c h1).append (FmsC.cells ts r h2)
end
theorem eW.at {W : World} {l : List Fm} {u : Value} (h : eW W l u) : cD W l u:=by
 obtain ⟨b,cap,zs,rfl,h2,h3,h4,h5⟩:=h
 exact rN (FmsC.cells l zs h5) h4 (pV l) (by omega) h3
/- The elements. -/
theorem TmL.len {W : World} {t : Tm} {cs : List Value} (h : TmL W t cs) : cs.length = 3:=by rw [DA] at h;obtain ⟨u,rfl,_⟩:=h;rfl
theorem FmL.len {W : World} {t : Fm} {cs : List Value} (h : FmL W t cs) : cs.length = 4:=by rw [CR] at h;obtain ⟨a,u,rfl,_⟩:=h;rfl
theorem TmsC.len {W : World} : ∀ {l : List Tm} {ys : List Value},TmsC W l ys → ys.length = l.length * 3
 | [],ys,h=>by rw [TmsC] at h;subst h;rfl
 | t :: ts,ys,h=>by
  rw [TmsC] at h
  obtain ⟨c,r,rfl,h1,h2⟩:=h
  simp only [List.length_append,h1.len,TmsC.len h2,List.length_cons];omega
theorem FmsC.len {W : World} : ∀ {l : List Fm} {ys : List Value},FmsC W l ys → ys.length = l.length * 4
 | [],ys,h=>by rw [FmsC] at h;subst h;rfl
 | t :: ts,ys,h=>by
  rw [FmsC] at h
  obtain ⟨c,r,rfl,h1,h2⟩:=h
  simp only [List.length_append,h1.len,FmsC.len h2,List.length_cons];omega
theorem TmsC.put {W : World} : ∀ {l : List Tm} {ys : List Value} {t : Tm} {c : List Value},TmsC W l ys → TmL W t c → TmsC W (l ++ [t]) (ys ++ c)
 | [],ys,t,c,h,h'=>by rw [TmsC] at h;subst h;rw [List.nil_append,TmsC];exact ⟨c,[],by simp,h',by rw [TmsC]⟩
 | x :: l,ys,t,c,h,h'=>by
  rw [TmsC] at h
  obtain ⟨d,r,rfl,h1,h2⟩:=h
  rw [List.cons_append,TmsC]
  exact ⟨d,r ++ c,by simp,h1,TmsC.put h2 h'⟩
theorem FmsC.put {W : World} : ∀ {l : List Fm} {ys : List Value} {t : Fm} {c : List Value},FmsC W l ys → FmL W t c → FmsC W (l ++ [t]) (ys ++ c)
 | [],ys,t,c,h,h'=>by rw [FmsC] at h;subst h;rw [List.nil_append,FmsC];exact ⟨c,[],by simp,h',by rw [FmsC]⟩
 | x :: l,ys,t,c,h,h'=>by
  rw [FmsC] at h
  obtain ⟨d,r,rfl,h1,h2⟩:=h
  rw [List.cons_append,FmsC]
  exact ⟨d,r ++ c,by simp,h1,FmsC.put h2 h'⟩
theorem TmsC.get {W : World} : ∀ {l : List Tm} {ys : List Value} {j : Nat} {t : Tm},TmsC W l ys → l[j]? = some t → ∃ u,ys[j * 3]? = some (.bool t.v) ∧ ys[j * 3 + 1]? = some (str t.name) ∧ ys[j * 3 + 2]? = some u ∧ dJ W t.args u
 | [],ys,j,t,h,e=>by simp at e
 | x :: l,ys,0,t,h,e=>by
  rw [TmsC] at h
  obtain ⟨d,r,rfl,h1,h2⟩:=h
  simp at e;subst e
  rw [DA] at h1
  obtain ⟨u,rfl,h3⟩:=h1
  exact ⟨u,rfl,rfl,rfl,h3⟩
 | x :: l,ys,j + 1,t,h,e=>by
  rw [TmsC] at h
  obtain ⟨d,r,rfl,h1,h2⟩:=h
  obtain ⟨u,e0,e1,e2,h3⟩:=TmsC.get (j:=j) h2 (by simpa using e)
  have hd:=h1.len
  refine ⟨u, ?_, ?_, ?_,h3⟩
  ·rw [List.getElem?_append_right (by omega),hd,show (j + 1) * 3 - 3 = j * 3 by omega];exact e0
  ·rw [List.getElem?_append_right (by omega),hd,show (j + 1) * 3 + 1 - 3 = j * 3 + 1 by omega];exact e1
  ·rw [List.getElem?_append_right (by omega),hd,show (j + 1) * 3 + 2 - 3 = j * 3 + 2 by omega];exact e2
theorem FmsC.get {W : World} : ∀ {l : List Fm} {ys : List Value} {j : Nat} {t : Fm},FmsC W l ys → l[j]? = some t → ∃ a u,ys[j * 4]? = some (.int .u8 t.op) ∧ ys[j * 4 + 1]? = some (str t.name) ∧ ys[j * 4 + 2]? = some a ∧ ys[j * 4 + 3]? = some u ∧ dJ W t.args a ∧ eW W t.sub u
 | [],ys,j,t,h,e=>by simp at e
 | x :: l,ys,0,t,h,e=>by
  rw [FmsC] at h
  obtain ⟨d,r,rfl,h1,h2⟩:=h
  simp at e;subst e
  rw [CR] at h1
  obtain ⟨a,u,rfl,h3,h4⟩:=h1
  exact ⟨a,u,rfl,rfl,rfl,rfl,h3,h4⟩
 | x :: l,ys,j + 1,t,h,e=>by
  rw [FmsC] at h
  obtain ⟨d,r,rfl,h1,h2⟩:=h
  obtain ⟨a,u,e0,e1,e2,e3,h3⟩:=FmsC.get (j:=j) h2 (by simpa using e)
  have hd:=h1.len
  refine ⟨a,u, ?_, ?_, ?_, ?_,h3⟩
  ·rw [List.getElem?_append_right (by omega),hd,show (j + 1) * 4 - 4 = j * 4 by omega];exact e0
  ·rw [List.getElem?_append_right (by omega),hd,show (j + 1) * 4 + 1 - 4 = j * 4 + 1 by omega];exact e1
  ·rw [List.getElem?_append_right (by omega),hd,show (j + 1) * 4 + 2 - 4 = j * 4 + 2 by omega];exact e2
  ·rw [List.getElem?_append_right (by omega),hd,show (j + 1) * 4 + 3 - 4 = j * 4 + 3 by omega];exact e3
theorem tmMarks_succ (n : Nat) : gF (n + 1) = gF n ++ MD n:=by simp [gF,List.range_succ]
theorem fmMarks_succ (n : Nat) : fU (n + 1) = fU n ++ KW n:=by simp [fU,List.range_succ]
theorem tmMarks_get {i : Nat} (h : i < 12) : (gF 12)[i * 3]? = some (.bool false) ∧ (gF 12)[i * 3 + 1]? = some (str (bD i)) ∧ (gF 12)[i * 3 + 2]? = some (.slice none 0 0):=by
 rcases (show i = 0 ∨ i = 1 ∨ i = 2 ∨ i = 3 ∨ i = 4 ∨ i = 5 ∨ i = 6 ∨ i = 7 ∨ i = 8 ∨ i = 9 ∨ i = 10 ∨ i = 11 by omega) with rfl | rfl | rfl | rfl | rfl | rfl | rfl | rfl | rfl | rfl | rfl | rfl <;> exact ⟨rfl,rfl,rfl⟩
theorem fmMarks_get {i : Nat} (h : i < 12) : (fU 12)[i * 4]? = some (.int .u8 0) ∧ (fU 12)[i * 4 + 1]? = some (str (bD i)) ∧ (fU 12)[i * 4 + 2]? = some (.slice none 0 0) ∧ (fU 12)[i * 4 + 3]? = some (.slice none 0 0):=by
 rcases (show i = 0 ∨ i = 1 ∨ i = 2 ∨ i = 3 ∨ i = 4 ∨ i = 5 ∨ i = 6 ∨ i = 7 ∨ i = 8 ∨ i = 9 ∨ i = 10 ∨ i = 11 by omega) with rfl | rfl | rfl | rfl | rfl | rfl | rfl | rfl | rfl | rfl | rfl | rfl <;> exact ⟨rfl,rfl,rfl,rfl⟩
open Go Go.RowKit Ly
def cY (k : Nat) (M : (Nat → Option Value) → Prop) (xs ys : Array Value) : Prop :=
 ys.size = xs.size ∧ ∀ o,o % k = 0 → o + k ≤ xs.size → (∀ i,i < k → ys[o + i]? = xs[o + i]?) ∨ M (fun i=>ys[o + i]?)
theorem cY.refl (k : Nat) (M : (Nat → Option Value) → Prop) (xs : Array Value) : cY k M xs xs:=⟨rfl,fun _ _ _=>.inl fun _ _=>rfl⟩
theorem cY.trans {k : Nat} {M : (Nat → Option Value) → Prop} (hM : ∀ f g,(∀ i,i < k → f i = g i) → M f → M g) {xs ys zs : Array Value} (h1 : cY k M xs ys) (h2 : cY k M ys zs) : cY k M xs zs:=by
 refine ⟨h2.1.trans h1.1,fun o ho hs=>?_⟩
 rcases h2.2 o ho (by rw [h1.1];exact hs) with e | e
 ·rcases h1.2 o ho hs with e1 | e1
  ·exact .inl fun i hi=>(e i hi).trans (e1 i hi)
  ·exact .inr (hM _ _ (fun i hi=>(e i hi).symm) e1)
 ·exact .inr e
def MkT (f : Nat → Option Value) : Prop:=f 0 = some (.bool false) ∧ (∃ s,f 1 = some (str s)) ∧ f 2 = some (.slice none 0 0)
def MkF (f : Nat → Option Value) : Prop:=f 0 = some (.int .u8 0) ∧ (∃ s,f 1 = some (str s)) ∧ f 2 = some (.slice none 0 0) ∧ f 3 = some (.slice none 0 0)
def MkP (f : Nat → Option Value) : Prop:=(∃ s,f 0 = some (str s)) ∧ f 1 = some (.int .u8 0) ∧ (∃ s,f 2 = some (str s)) ∧ f 3 = some (.slice none 0 0) ∧ f 4 = some (.slice none 0 0) ∧ (∃ z,f 5 = some (.int .i64 z)) ∧ f 6 = some (.slice none 0 0) ∧ f 7 = some (.slice none 0 0)
theorem MkT.of {f g : Nat → Option Value} (h : ∀ i,i < 3 → f i = g i) (m : MkT f) : MkT g:=by
 unfold MkT at *
 rw [← h 0 (by omega),← h 1 (by omega),← h 2 (by omega)];exact m
theorem MkF.of {f g : Nat → Option Value} (h : ∀ i,i < 4 → f i = g i) (m : MkF f) : MkF g:=by
 unfold MkF at *
 rw [← h 0 (by omega),← h 1 (by omega),← h 2 (by omega),← h 3 (by omega)];exact m
theorem MkP.of {f g : Nat → Option Value} (h : ∀ i,i < 8 → f i = g i) (m : MkP f) : MkP g:=by
 unfold MkP at *
 rw [← h 0 (by omega),← h 1 (by omega),← h 2 (by omega),← h 3 (by omega),← h 4 (by omega),← h 5 (by omega),← h 6 (by omega),← h 7 (by omega)];exact m
def Mk1 (B : Nat) (W : World) (u : Option Value) : Prop:=∃ (b : Nat) (xs : Array Value),u = some (.slice (some ⟨b,0,none⟩) 1 1) ∧ B ≤ b ∧ W.heap[b]? = some (Obj.cells xs 3 (0,0)) ∧ 1 ≤ xs.size
structure Ovr (B : Nat) (S : Nat → Prop) (W W' : World) : Prop where
 os : W'.os = W.os
 output : W'.output = W.output
 tape : W'.tape = W.tape
 size : W.heap.size ≤ W'.heap.size
 old : ∀ b : Nat,b < W.heap.size → ¬ S b → (b < B ∨ ∀ xs,W.heap[b]? ≠ some (Obj.cells xs 3 (0,0))) → W'.heap[b]? = W.heap[b]?
 tms : ∀ (b : Nat) (xs : Array Value),W.heap[b]? = some (Obj.cells xs 95 (0,0)) → ∃ ys,W'.heap[b]? = some (Obj.cells ys 95 (0,0)) ∧ cY 3 MkT xs ys
 fms : ∀ (b : Nat) (xs : Array Value),W.heap[b]? = some (Obj.cells xs 25 (0,0)) → ∃ ys,W'.heap[b]? = some (Obj.cells ys 25 (0,0)) ∧ cY 4 MkF xs ys
 pfs : ∀ (b : Nat) (xs : Array Value),W.heap[b]? = some (Obj.cells xs 53 (0,0)) → ∃ ys,W'.heap[b]? = some (Obj.cells ys 53 (0,0)) ∧ cY 8 MkP xs ys
 mks : ∀ (b : Nat) (xs : Array Value),W.heap[b]? = some (Obj.cells xs 29 (0,0)) → ∃ ys,W'.heap[b]? = some (Obj.cells ys 29 (0,0)) ∧ ys.size = xs.size ∧ ∀ j : Nat,j < xs.size → ys[j]? = xs[j]? ∨ Mk1 B W' ys[j]?
 nums : ∀ (b : Nat) (xs : Array Value),W.heap[b]? = some (Obj.cells xs 3 (0,0)) → ∃ ys,W'.heap[b]? = some (Obj.cells ys 3 (0,0)) ∧ ys.size = xs.size
theorem Ovr.refl (B : Nat) (S : Nat → Prop) (W : World) : Ovr B S W W :=
 ⟨rfl,rfl,rfl,Nat.le_refl _,fun _ _ _ _=>rfl,fun _ xs h=>⟨xs,h,cY.refl _ _ _⟩,fun _ xs h=>⟨xs,h,cY.refl _ _ _⟩,fun _ xs h=>⟨xs,h,cY.refl _ _ _⟩,fun _ xs h=>⟨xs,h,rfl,fun _ _=>.inl rfl⟩,fun _ xs h=>⟨xs,h,rfl⟩⟩
theorem Mk1.ovr {B : Nat} {S : Nat → Prop} {W W' : World} (h : Ovr B S W W') {u : Option Value} (k : Mk1 B W u) : Mk1 B W' u:=by
 obtain ⟨b,xs,e,h1,h2,h3⟩:=k
 obtain ⟨ys,e1,r⟩:=h.nums b xs h2
 exact ⟨b,ys,e,h1,e1,by rw [r];exact h3⟩
theorem Ovr.trans {B : Nat} {S : Nat → Prop} {W W' W'' : World} (h1 : Ovr B S W W') (h2 : Ovr B S W' W'') : Ovr B S W W'':=by
 refine ⟨h2.os.trans h1.os,h2.output.trans h1.output,h2.tape.trans h1.tape,Nat.le_trans h1.size h2.size,fun b hb hn hx=>?_,fun b xs h=>?_,fun b xs h=>?_,fun b xs h=>?_,fun b xs h=>?_,fun b xs h=>?_⟩
 ·have e:=h1.old b hb hn hx
  refine (h2.old b (Nat.lt_of_lt_of_le hb h1.size) hn (hx.elim .inl fun q=>.inr fun xs=>?_)).trans e
  rw [e];exact q xs
 ·obtain ⟨ys,e,r⟩:=h1.tms b xs h
  obtain ⟨zs,e',r'⟩:=h2.tms b ys e
  exact ⟨zs,e',r.trans (fun f g hh m=>MkT.of hh m) r'⟩
 ·obtain ⟨ys,e,r⟩:=h1.fms b xs h
  obtain ⟨zs,e',r'⟩:=h2.fms b ys e
  exact ⟨zs,e',r.trans (fun f g hh m=>MkF.of hh m) r'⟩
 ·obtain ⟨ys,e,r⟩:=h1.pfs b xs h
  obtain ⟨zs,e',r'⟩:=h2.pfs b ys e
  exact ⟨zs,e',r.trans (fun f g hh m=>MkP.of hh m) r'⟩
 ·obtain ⟨ys,e,r,q⟩:=h1.mks b xs h
  obtain ⟨zs,e',r',q'⟩:=h2.mks b ys e
  refine ⟨zs,e',r'.trans r,fun j hj=>?_⟩
  rcases q' j (by rw [r];exact hj) with x | x
  ·rcases q j hj with y | y
   ·exact .inl (x.trans y)
   ·rw [← x] at y;exact .inr (y.ovr h2)
  ·exact .inr x
 ·obtain ⟨ys,e,r⟩:=h1.nums b xs h
  obtain ⟨zs,e',r'⟩:=h2.nums b ys e
  exact ⟨zs,e',r'.trans r⟩
theorem Ovr.below {B : Nat} {S : Nat → Prop} {W W' : World} (h : Below W.heap.size W W') : Ovr B S W W':=by
 have k : ∀ b (o : Obj),W.heap[b]? = some o → W'.heap[b]? = some o:=fun b o e=>(h.block b (Array.getElem?_eq_some_iff.1 e).1).trans e
 exact ⟨h.os,h.output,h.tape,h.size,fun b hb _ _=>h.block b hb,fun b xs e=>⟨xs,k b _ e,cY.refl _ _ _⟩,fun b xs e=>⟨xs,k b _ e,cY.refl _ _ _⟩,fun b xs e=>⟨xs,k b _ e,cY.refl _ _ _⟩,fun b xs e=>⟨xs,k b _ e,rfl,fun _ _=>.inl rfl⟩,fun b xs e=>⟨xs,k b _ e,rfl⟩⟩
def kK (l c : Nat) : Prop:=l ≤ 140737488355328 ∧ c ≤ 9223372036854775807
def OkTs (S : Nat → Prop) (W : World) : Nat → Value → Prop
 | 0,u=>∃ a c,u = .slice a 0 c ∧ (c = 0 ∨ ∃ (b off : Nat) (xs : Array Value),a = some ⟨b,off,none⟩ ∧ S b ∧ off % 3 = 0 ∧ W.heap[b]? = some (Obj.cells xs 95 (0,0)) ∧ off + c * 3 ≤ xs.size ∧ kK 0 c)
 | n + 1,u=>∃ a l c,u = .slice a l c ∧ l ≤ c ∧ (c = 0 ∨ ∃ (b off : Nat) (xs : Array Value),a = some ⟨b,off,none⟩ ∧ S b ∧ off % 3 = 0 ∧ W.heap[b]? = some (Obj.cells xs 95 (0,0)) ∧ off + c * 3 ≤ xs.size ∧ kK l c ∧
   ∀ j : Nat,j < l → ∃ v s u',xs[off + j * 3]? = some (.bool v) ∧ xs[off + j * 3 + 1]? = some (str s) ∧ xs[off + j * 3 + 2]? = some u' ∧ OkTs S W n u')
theorem OkTs.nul {S : Nat → Prop} {W : World} : ∀ n,OkTs S W n (.slice none 0 0)
 | 0=>⟨_,_,rfl,.inl rfl⟩
 | _ + 1=>⟨_,_,_,rfl,Nat.le_refl _,.inl rfl⟩
theorem OkTs.ovr {B : Nat} {S : Nat → Prop} {W W' : World} (h : Ovr B S W W') : ∀ (n : Nat) (u : Value),OkTs S W n u → OkTs S W' n u
 | 0,u,⟨a,c,e,k⟩=>by
  refine ⟨a,c,e,k.elim .inl fun ⟨b,off,xs,h1,h2,h3,h4,h5,h6⟩=>.inr ?_⟩
  obtain ⟨ys,e1,r⟩:=h.tms b xs h4
  exact ⟨b,off,ys,h1,h2,h3,e1,by rw [r.1];exact h5,h6⟩
 | n + 1,u,⟨a,l,c,e,hl,k⟩=>by
  refine ⟨a,l,c,e,hl,k.elim .inl fun ⟨b,off,xs,h1,h2,h3,h4,h5,h6,h7⟩=>.inr ?_⟩
  obtain ⟨ys,e1,r⟩:=h.tms b xs h4
  refine ⟨b,off,ys,h1,h2,h3,e1,by rw [r.1];exact h5,h6,fun j hj=>?_⟩
  rcases r.2 (off + j * 3) (by omega) (by omega) with q | ⟨m0,⟨s,m1⟩,m2⟩
  ·obtain ⟨v,s,u',x0,x1,x2,x3⟩:=h7 j hj
   exact ⟨v,s,u',(q 0 (by omega)).trans x0,(q 1 (by omega)).trans x1,(q 2 (by omega)).trans x2,OkTs.ovr h n u' x3⟩
  ·exact ⟨false,s,_,m0,m1,m2,OkTs.nul n⟩
end Go.Proofs.YtcandidgaegghaaGreatDoor
