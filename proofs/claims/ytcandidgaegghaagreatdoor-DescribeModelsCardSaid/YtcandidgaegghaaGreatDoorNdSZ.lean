/- lyceumref41.Model at any model: the lines that describe.Model gives, or an error. Conditions: few facts, functions, binds and worlds; names fit into memory. -/
import Derived.Test.YtcandidgaegghaaGreatDoorCpZ
import Derived.Test.YtcandidgaegghaaGreatDoorNdGZ
import Derived.Test.YtcandidgaegghaaGreatDoorNdHZ
import Derived.Test.YtcandidgaegghaaGreatDoorNdIZ
import Derived.Test.YtcandidgaegghaaGreatDoorNdQZ
import Derived.Test.YtcandidgaegghaaGreatDoorPlZ
import Derived.Test.YtcandidgaegghaaGreatDoorMdAZ
import Derived.Test.YtcandidgaegghaaGreatDoorTxBZ
import Derived.Test.YtcandidgaegghaaGreatDoorRefDZ
import Derived.Test.YtcandidgaegghaaGreatDoorAwakeZ
set_option maxRecDepth 10000
set_option linter.unusedSimpArgs false
set_option linter.unusedVariables false
namespace Go.Proofs.YtcandidgaegghaaGreatDoor
open Go Go.RowKit Go.Sort Ly
theorem Model17_any (m : Md) (hm : vN m) (ra fa ga ba : Option Addr) (rn rc fn fc gn gc bn bc : Nat) (w : World) (hx : MdAt w m ra rn rc fa fn fc ga gn gc ba bn bc) :
  Calls Tryz.prog 17 #[mdV m ra rn rc fa fn fc ga gn gc ba bn bc] w (tC m w):=by
 have hV : ∀ W,Below w.heap.size w W → Calls Tryz.prog 72 #[lgV m.kind 0,mdV m ra rn rc fa fn fc ga gn gc ba bn bc] W (Rt (.bool (fU m)) W):=fun W hW=>refValid_c m hm ra fa ga ba rn rc fn fc gn gc bn bc W (hx.keep (aC hW))
 cases hv : fU m with
 | false =>
  rw [hv] at hV
  exact (model17_no m.kind m.size m.loop ra fa ga ba rn rc fn fc gn gc bn bc w hV).mono fun e w' h=>wO hv h
 | true =>
  rw [hv] at hV
  obtain ⟨κ,z,R,lo,F,G,B⟩:=m
  obtain ⟨h1,h2,h3,h4,n1,n2,n3⟩:=hm
  simp only [] at h1 h2 h3 h4 n1 n2 n3
  have hv0:=hv
  unfold fU at hv0
  simp only [] at hv0
  by_cases e1 : κ = 1
  ·subst e1
   rw [if_pos rfl] at hv0
   obtain ⟨o1,o2,o3,o4,o5,o6⟩:=uY hv0
   have hL : iS ⟨1,z,R,lo,F,G,B⟩ = F.map cN:=by
    obtain rfl:=eT o4;obtain rfl:=eT o5;obtain rfl:=eT o6
    exact wJ z lo F
   exact (model17_1 F h1 o1 o2 z lo ra fa ga ba rn rc fn fc gn gc bn bc w (hx.rel.len.1.trans o4) (hx.funcs.len.1.trans o5) (hx.binds.len.1.trans o6) hx.facts hV).mono fun e w' h=>fT hv hL h
  by_cases e2 : κ = 2
  ·subst e2
   rw [if_neg (by decide),if_pos rfl] at hv0
   obtain ⟨o1,o2,o3,o4⟩:=uZ h1 h2 h3 hv0
   obtain rfl:=eT o3
   have hL:=wK z lo F G B
   obtain ⟨zn,hzn⟩ : ∃ zn,z.toNat = zn:=⟨_,rfl⟩
   rw [hzn] at o1 o2 hL
   subst o2
   exact (model17_2 F G B zn o1 lo ra fa ga ba rn rc fn fc gn gc bn bc hx.rel.len.1 w hx.facts hx.funcs hx.binds hV).mono fun e w' h=>fT hv hL h
  by_cases e3 : κ = 3
  ·subst e3
   rw [if_neg (by decide),if_neg (by decide),if_pos rfl] at hv0
   obtain ⟨o1,o2,o3,o4,o5⟩:=lX h1 h4 hv0
   obtain rfl:=eT o3;obtain rfl:=eT o4
   exact (model17_3 F R z lo o1 o2.1 o2.2 (by omega) (by omega) ra fa ga ba rn rc fn fc gn gc bn bc hx.funcs.len.1 hx.binds.len.1 w hx.facts hx.rel hV).mono fun e w' h=>fT hv (wL z lo R F) h
  by_cases e4 : κ = 4
  ·subst e4
   rw [if_neg (by decide),if_neg (by decide),if_neg (by decide),if_pos rfl] at hv0
   obtain ⟨o1,o2,o3,o4,o5⟩:=lX h1 h4 hv0
   obtain rfl:=eT o3;obtain rfl:=eT o4
   exact (model17_4 F R z lo o1 o2.1 o2.2 (by omega) (by omega) ra fa ga ba rn rc fn fc gn gc bn bc hx.funcs.len.1 hx.binds.len.1 w hx.facts hx.rel hV).mono fun e w' h=>fT hv (wM z lo R F) h
  by_cases e5 : κ = 5
  ·subst e5
   rw [if_neg (by decide),if_neg (by decide),if_neg (by decide),if_neg (by decide),if_pos rfl] at hv0
   obtain ⟨o1,o2,o3,o4,o5,o6⟩:=vA h1 hv0
   obtain rfl:=eT o4;obtain rfl:=eT o5;obtain rfl:=eT o6
   exact (model17_5 F [] z lo o1 o2.1 o2.2 o3.1 o3.2 ra fa ga ba rn rc fn fc gn gc bn bc hx.funcs.len.1 hx.binds.len.1 w hx.facts hx.rel hV).mono fun e w' h=>fT hv (wN z lo F) h
  rw [if_neg e1,if_neg e2,if_neg e3,if_neg e4,if_neg e5] at hv0
  cases hv0
end Go.Proofs.YtcandidgaegghaaGreatDoor
namespace Ly
end Ly
namespace Go.Proofs.YtcandidgaegghaaGreatDoor
open Go Go.ChangeShapes Go.WideShapes Go.ChangeAt Go.RowKit Ly
section
variable {H : Type} {enc : TypeId × Value → H} {W : World}
def kR (t : TypeId) (d : DataW H) : Prop:=∀ n ∈ DataW.weights Tryz.prog t d,n ≤ 140737488351232
theorem nI {e : TypeId} : ∀ {l : List (DataW H)} {d : DataW H},d ∈ l → ∀ n ∈ d.weights Tryz.prog e,n ∈ DataW.weightsAll Tryz.prog e l
 | x :: l,d,hd,n,hn=>by
  simp only [DataW.weightsAll,List.mem_append]
  rcases List.mem_cons.1 hd with rfl | hd
  ·exact .inl hn
  ·exact .inr (nI hd n hn)
theorem nP {α : Type} [Inhabited α] {k : Nat} {one : α → List D} {all : List α → List D} (hall : ∀ l,(all l).length = l.length * k) (hone : ∀ x,(one x).length = k)
  (hget : ∀ (l : List α) (i : Nat) (x : α),l[i]? = some x → ∀ j,j < k → (all l)[i * k + j]? = (one x)[j]?) {P : α → Prop} {t e : TypeId} {fuel : Nat} {cs : List Value} {y : DataW H × List MemPlace}
  (ht : Tryz.prog.underlying t = some (.slice e)) (hc : Tryz.prog.cellsOf e = k) (hk : 0 < k) (hy : kR t y.1)
  (elem : ∀ n cs y,n < fuel → cs.length = k → kR e y.1 → DataW.trod enc Tryz.prog W 0 (fun _=>true) true n e cs = some y → ∃ x : α,P x ∧ vM W cs (one x))
  (h : DataW.trod enc Tryz.prog W 0 (fun _=>true) true fuel t cs = some y) : ∃ (l : List α) (a : Option Addr) (n c : Nat),cs = [.slice a n c] ∧ (∀ x ∈ l,P x) ∧ At W (.sl k l.length (all l)) (.slice a n c):=by
 rcases DataW.trod_slice ht h with ⟨rfl,-⟩ | ⟨ad,len,cap,elems,rest,n,rfl,rfl,rfl,-,hlc,hcm,hel,hx,-⟩
 ·refine ⟨[],none,0,0,rfl,by simp, ?_⟩
  have : all [] = []:=List.eq_nil_of_length_eq_zero (by rw [hall];simp)
  rw [this]
  exact At.sl_nil (Nat.zero_le _)
 ·have hy2 : ∀ z ∈ elems,kR e z.1:=fun z hz n hn=>hy n (by
   simp only [DataW.weights,ht,List.mem_cons,List.mem_append]
   exact .inr (.inl (nI (List.mem_map_of_mem hz) n hn)))
  obtain ⟨f,hF⟩:=Go.Deep.choose_lt (α:=α) (n:=len) (p:=fun i x=>P x ∧ ∀ (j : Nat) (d : D),(one x)[j]? = some d → ∃ u,W.cell? (ad.add (i * k + j)) = some u ∧ At W d u) fun i hi=>by
   have h1:=hx i hi
   rw [List.getElem?_eq_getElem (show i < elems.length by omega)] at h1
   obtain ⟨cs',h2,h3⟩:=Option.bind_eq_some_iff.1 h1
   obtain ⟨_,h4,h5⟩:=World.cells?_some h2
   rw [hc] at h4 h5
   obtain ⟨x,h6,h7⟩:=elem n cs' _ (Nat.lt_succ_self n) h4 (hy2 _ (List.getElem_mem _)) h3
   refine ⟨x,h6,fun j d hd=>?_⟩
   obtain ⟨u,h8,h9⟩:=h7 j d hd
   have hj : j < k:=by rw [← hone x];exact (List.getElem?_eq_some_iff.1 hd).1
   have h10:=h5 j hj
   rw [h8,Go.Deep.add_add] at h10
   exact ⟨u,h10,h9⟩
  refine ⟨(List.range len).map f,_,_,_,rfl, ?_, ?_⟩
  ·intro x hm
   obtain ⟨i,hi,rfl⟩:=List.mem_map.1 hm
   exact (hF i (List.mem_range.1 hi)).1
  ·have hl : ((List.range len).map f).length = len:=by simp
   rw [hl]
   rcases Nat.eq_zero_or_pos len with h0 | h0
   ·subst h0
    have : all ((List.range 0).map f) = []:=List.eq_nil_of_length_eq_zero (by rw [hall];simp)
    rw [this]
    exact At.sl_nil hcm
   ·obtain ⟨ab,ao,spot⟩:=ad
    have hspot : spot = none:=by
     obtain ⟨u,h1,_⟩:=(hF 0 h0).2 0 _ (List.getElem?_eq_getElem (show 0 < (one (f 0)).length by rw [hone];exact hk))
     simpa [Addr.add] using World.cell?_spot h1
    subst hspot
    refine At.sl_mk (by rw [hall,hl]) hlc hcm fun j d hd=>?_
    have hj : j < len * k:=by
     have:=(List.getElem?_eq_some_iff.1 hd).1
     rwa [hall,hl] at this
    have hi : j / k < len:=Nat.div_lt_of_lt_mul (by rwa [Nat.mul_comm])
    have hjk : j / k * k + j % k = j:=by rw [Nat.mul_comm];exact Nat.div_add_mod j k
    have h1:=hget ((List.range len).map f) (j / k) (f (j / k)) (by rw [List.getElem?_map,List.getElem?_range hi];rfl) (j % k) (Nat.mod_lt _ hk)
    rw [hjk,hd] at h1
    obtain ⟨u,h2,h3⟩:=(hF _ hi).2 _ _ h1.symm
    rw [hjk,Addr.add_lit] at h2
    exact ⟨u,h2,h3⟩
theorem list3 {α : Type} {xs : List α} {a b c : α} (h : xs.length = 3) (h0 : xs[0]? = some a) (h1 : xs[1]? = some b) (h2 : xs[2]? = some c) : xs = [a,b,c]:=by
 match xs,h with
 | [x,y,z],_=>simp at h0 h1 h2;simp [h0,h1,h2]
end
open Go Go.ChangeShapes Go.WideShapes Go.ChangeAt Go.RowKit Ly
theorem kU {α : Type} {f : α → List D} {k : Nat} (hf : ∀ x,(f x).length = k) : ∀ l : List α,(l.flatMap f).length = l.length * k
 | []=>by simp
 | x :: l=>by
  have:=kU hf l
  rw [List.flatMap_cons,List.length_append,hf,this,List.length_cons,Nat.succ_mul];omega
theorem jP {α : Type} {f : α → List D} {k : Nat} (hf : ∀ x,(f x).length = k) : ∀ (l : List α) (i : Nat) (x : α),l[i]? = some x → ∀ j,j < k → (l.flatMap f)[i * k + j]? = (f x)[j]?
 | [],i,x,h,j,hj=>by simp at h
 | y :: l,0,x,h,j,hj=>by
  simp at h;subst h
  rw [List.flatMap_cons,Nat.zero_mul,Nat.zero_add,List.getElem?_append_left (by rw [hf];exact hj)]
 | y :: l,i + 1,x,h,j,hj=>by
  have:=jP hf l i x (by simpa using h) j hj
  have e : (i + 1) * k = i * k + k:=Nat.succ_mul i k
  rw [List.flatMap_cons,List.getElem?_append_right (by rw [hf];omega),hf,show (i + 1) * k + j - k = i * k + j by omega]
  exact this
def faD (f : Fa) : List D:=[.val (str f.name),.val (.int .i64 f.args),.val (.int .i64 f.tru)]
def biD (f : Bi) : List D:=[.val (str f.name),.val (.int .i64 f.at_)]
def inD (x : Int) : List D:=[.val (.int .i64 x)]
theorem fasD_eq (l : List Fa) : l.flatMap faD = (fasV l).map D.val:=by unfold fasV;rw [List.map_flatMap];rfl
theorem bisD_eq (l : List Bi) : l.flatMap biD = (bisV l).map D.val:=by unfold bisV;rw [List.map_flatMap];rfl
theorem yB (l : List Int) : l.flatMap inD = (inV l).map D.val:=by
 induction l with
 | nil=>rfl
 | cons x l ih=>rw [List.flatMap_cons,ih];rfl
def fuD (f : Fu) : List D:=[.val (str f.name),.val (.int .i64 f.args),.sl 1 f.value.length (f.value.flatMap inD)]
instance : Inhabited Fa:=⟨⟨[],0,0⟩⟩
instance : Inhabited Fu:=⟨⟨[],0,[]⟩⟩
instance : Inhabited Bi:=⟨⟨[],0⟩⟩
theorem cells102 : Tryz.prog.cellsOf 102 = 3:=by kernel_rfl
theorem cells121 : Tryz.prog.cellsOf 121 = 3:=by kernel_rfl
theorem cells123 : Tryz.prog.cellsOf 123 = 2:=by kernel_rfl
theorem xU : Tryz.prog.cellsOf 29 = 1:=by kernel_rfl
theorem cells30 : Tryz.prog.cellsOf 30 = 1:=by kernel_rfl
theorem cells31 : Tryz.prog.cellsOf 31 = 1:=by kernel_rfl
theorem cells32 : Tryz.prog.cellsOf 32 = 1:=by kernel_rfl
theorem cells34 : Tryz.prog.cellsOf 34 = 7:=by kernel_rfl
theorem bytes3 : Tryz.prog.bytesOf 3 = 8:=by kernel_rfl
section
variable {H : Type} {enc : TypeId × Value → H} {W : World}
theorem slice_weight {t e : TypeId} {fuel : Nat} {cs : List Value} {y : DataW H × List MemPlace} (ht : Tryz.prog.underlying t = some (.slice e)) (hy : kR t y.1)
  (h : DataW.trod enc Tryz.prog W 0 (fun _=>true) true fuel t cs = some y) : ∃ a n c,cs = [.slice a n c] ∧ n * Tryz.prog.bytesOf e ≤ 140737488351232:=by
 rcases DataW.trod_slice ht h with ⟨rfl,-⟩ | ⟨ad,len,cap,elems,rest,n,rfl,rfl,rfl,-,hlc,hcm,hel,hx,-⟩
 ·exact ⟨none,0,0,rfl,by simp⟩
 ·refine ⟨_,_,_,rfl, ?_⟩
  have:=hy _ (by
   simp only [DataW.weights,ht]
   exact List.mem_cons_self)
  have h2:=Nat.mul_le_mul_right (Tryz.prog.bytesOf e) (show elems.length ≤ (elems.map (·.1)).length + (rest.map (·.1)).length by simp)
  rw [hel] at h2
  exact Nat.le_trans h2 this
theorem int_lie {n : Nat} {cs : List Value} {y : DataW H × List MemPlace} (h : DataW.trod enc Tryz.prog W 0 (fun _=>true) true n 3 cs = some y) : ∃ x : Int,True ∧ vM W cs (inD x):=by
 obtain ⟨x,rfl,-,-⟩:=DataW.trod_int Tryz.underlying3 h
 refine ⟨x,trivial,fun j d hd=>?_⟩
 rcases (show j = 0 ∨ 1 ≤ j by omega) with rfl | h3
 ·cases hd;exact ⟨_,rfl,rfl⟩
 ·rw [List.getElem?_eq_none (by simpa [inD] using h3)] at hd;cases hd
theorem fa_lie {n : Nat} {cs : List Value} {y : DataW H × List MemPlace} (h : DataW.trod enc Tryz.prog W 0 (fun _=>true) true n 102 cs = some y) : ∃ f : Fa,f.name.length ≤ maxLen ∧ vM W cs (faD f):=by
 obtain ⟨xs,m,rfl,rfl,hl,hxl,hall⟩:=DataW.trod_struct Tryz.underlying102 h
 have hx : ∀ i,i < 3 → ∃ z,xs[i]? = some z:=fun i hi=>⟨_,List.getElem?_eq_getElem (show i < xs.length by rw [hxl];exact hi)⟩
 obtain ⟨z0,g0⟩:=hx 0 (by omega)
 obtain ⟨z1,g1⟩:=hx 1 (by omega)
 obtain ⟨z2,g2⟩:=hx 2 (by omega)
 have h0 : DataW.trod enc Tryz.prog W 0 (fun _=>true) true m 9 ((cs.drop 0).take (Tryz.prog.cellsOf 9)) = _:=(hall 0 _ rfl).trans g0
 have h1 : DataW.trod enc Tryz.prog W 0 (fun _=>true) true m 3 ((cs.drop 1).take (Tryz.prog.cellsOf 3)) = _:=(hall 1 _ rfl).trans g1
 have h2 : DataW.trod enc Tryz.prog W 0 (fun _=>true) true m 3 ((cs.drop 2).take (Tryz.prog.cellsOf 3)) = _:=(hall 2 _ rfl).trans g2
 rw [xI] at h0
 rw [cells3] at h1 h2
 obtain ⟨s,e0,hs⟩:=sO h0
 obtain ⟨x,e1,-,-⟩:=DataW.trod_int Tryz.underlying3 h1
 obtain ⟨t,e2,-,-⟩:=DataW.trod_int Tryz.underlying3 h2
 refine ⟨⟨s,x,t⟩,hs,fun j d hd=>?_⟩
 rcases (show j = 0 ∨ j = 1 ∨ j = 2 ∨ 3 ≤ j by omega) with rfl | rfl | rfl | h3
 ·cases hd;exact ⟨_,cell_of_one e0,rfl⟩
 ·cases hd;exact ⟨_,cell_of_one e1,rfl⟩
 ·cases hd;exact ⟨_,cell_of_one e2,rfl⟩
 ·rw [List.getElem?_eq_none (by simpa [faD] using h3)] at hd;cases hd
theorem bi_lie {n : Nat} {cs : List Value} {y : DataW H × List MemPlace} (h : DataW.trod enc Tryz.prog W 0 (fun _=>true) true n 123 cs = some y) : ∃ f : Bi,f.name.length ≤ maxLen ∧ vM W cs (biD f):=by
 obtain ⟨xs,m,rfl,rfl,hl,hxl,hall⟩:=DataW.trod_struct Tryz.underlying123 h
 have hx : ∀ i,i < 2 → ∃ z,xs[i]? = some z:=fun i hi=>⟨_,List.getElem?_eq_getElem (show i < xs.length by rw [hxl];exact hi)⟩
 obtain ⟨z0,g0⟩:=hx 0 (by omega)
 obtain ⟨z1,g1⟩:=hx 1 (by omega)
 have h0 : DataW.trod enc Tryz.prog W 0 (fun _=>true) true m 9 ((cs.drop 0).take (Tryz.prog.cellsOf 9)) = _:=(hall 0 _ rfl).trans g0
 have h1 : DataW.trod enc Tryz.prog W 0 (fun _=>true) true m 3 ((cs.drop 1).take (Tryz.prog.cellsOf 3)) = _:=(hall 1 _ rfl).trans g1
 rw [xI] at h0
 rw [cells3] at h1
 obtain ⟨s,e0,hs⟩:=sO h0
 obtain ⟨x,e1,-,-⟩:=DataW.trod_int Tryz.underlying3 h1
 refine ⟨⟨s,x⟩,hs,fun j d hd=>?_⟩
 rcases (show j = 0 ∨ j = 1 ∨ 2 ≤ j by omega) with rfl | rfl | h3
 ·cases hd;exact ⟨_,cell_of_one e0,rfl⟩
 ·cases hd;exact ⟨_,cell_of_one e1,rfl⟩
 ·rw [List.getElem?_eq_none (by simpa [biD] using h3)] at hd;cases hd
theorem vZ {n : Nat} {cs : List Value} {y : DataW H × List MemPlace} (hy : kR 29 y.1) (h : DataW.trod enc Tryz.prog W 0 (fun _=>true) true n 29 cs = some y) :
  ∃ (l : List Int) (a : Option Addr) (k c : Nat),cs = [.slice a k c] ∧ At W (.sl 1 l.length (l.flatMap inD)) (.slice a k c) ∧ l.length * 8 ≤ 140737488351232:=by
 obtain ⟨l,a,k,c,e,-,hA⟩:=nP (k:=1) (one:=inD) (all:=fun l=>l.flatMap inD) (P:=fun _=>True) (kU fun _=>rfl) (fun _=>rfl) (jP fun _=>rfl) Tryz.underlying29 cells3 (by decide) hy (fun n' cs' y' hn _ hy' h'=>int_lie h') h
 obtain ⟨a',k',c',e',hk⟩:=slice_weight Tryz.underlying29 hy h
 rw [e] at e'
 simp only [List.cons.injEq,Value.slice.injEq,and_true] at e'
 obtain ⟨-,rfl,-⟩:=e'
 rw [bytes3] at hk
 have hl : k = l.length:=by
  obtain ⟨_,_,e2,_⟩:=hA.sl_inv
  simp only [Value.slice.injEq] at e2
  exact e2.2.1
 exact ⟨l,a,k,c,e,hA,by rw [← hl];exact hk⟩
theorem fu_lie {n : Nat} {cs : List Value} {y : DataW H × List MemPlace} (hy : kR 121 y.1) (h : DataW.trod enc Tryz.prog W 0 (fun _=>true) true n 121 cs = some y) : ∃ f : Fu,(f.name.length ≤ maxLen ∧ f.value.length * 8 ≤ 140737488351232) ∧ vM W cs (fuD f):=by
 obtain ⟨xs,m,rfl,rfl,hl,hxl,hall⟩:=DataW.trod_struct Tryz.underlying121 h
 have hx : ∀ i,i < 3 → ∃ z,xs[i]? = some z:=fun i hi=>⟨_,List.getElem?_eq_getElem (show i < xs.length by rw [hxl];exact hi)⟩
 obtain ⟨z0,g0⟩:=hx 0 (by omega)
 obtain ⟨z1,g1⟩:=hx 1 (by omega)
 obtain ⟨z2,g2⟩:=hx 2 (by omega)
 have e:=list3 hxl g0 g1 g2
 have hw : DataW.weights Tryz.prog 121 (DataW.agg (xs.map (·.1))) = z0.1.weights Tryz.prog 9 ++ (z1.1.weights Tryz.prog 3 ++ (z2.1.weights Tryz.prog 29 ++ [])):=by
  rw [e];simp [DataW.weights,DataW.weightsEach,Tryz.underlying121]
 have y2 : kR 29 z2.1:=fun n hn=>hy n (by show n ∈ DataW.weights Tryz.prog 121 _;rw [hw];simp [hn])
 have h0 : DataW.trod enc Tryz.prog W 0 (fun _=>true) true m 9 ((cs.drop 0).take (Tryz.prog.cellsOf 9)) = _:=(hall 0 _ rfl).trans g0
 have h1 : DataW.trod enc Tryz.prog W 0 (fun _=>true) true m 3 ((cs.drop 1).take (Tryz.prog.cellsOf 3)) = _:=(hall 1 _ rfl).trans g1
 have h2 : DataW.trod enc Tryz.prog W 0 (fun _=>true) true m 29 ((cs.drop 2).take (Tryz.prog.cellsOf 29)) = _:=(hall 2 _ rfl).trans g2
 rw [xI] at h0
 rw [cells3] at h1
 rw [xU] at h2
 obtain ⟨s,e0,hs⟩:=sO h0
 obtain ⟨x,e1,-,-⟩:=DataW.trod_int Tryz.underlying3 h1
 obtain ⟨l,a,k,c,e2,hA,hk⟩:=vZ y2 h2
 refine ⟨⟨s,x,l⟩,⟨hs,hk⟩,fun j d hd=>?_⟩
 rcases (show j = 0 ∨ j = 1 ∨ j = 2 ∨ 3 ≤ j by omega) with rfl | rfl | rfl | h3
 ·cases hd;exact ⟨_,cell_of_one e0,rfl⟩
 ·cases hd;exact ⟨_,cell_of_one e1,rfl⟩
 ·cases hd;exact ⟨_,cell_of_one e2,hA⟩
 ·rw [List.getElem?_eq_none (by simpa [fuD] using h3)] at hd;cases hd
theorem fus_of_at {l : List Fu} {a : Option Addr} {n c : Nat} (h : At W (.sl 3 l.length (l.flatMap fuD)) (.slice a n c)) : fZ W l (.slice a n c):=by
 obtain ⟨a',cap,h1,h2,h3,h4,h5⟩:=h.sl_inv
 refine ⟨a',cap,h1,h2,h3, ?_⟩
 rcases h5 with h5 | ⟨b,off,rfl,hc⟩
 ·exact .inl (List.eq_nil_of_length_eq_zero h5)
 ·refine .inr ⟨b,off,rfl,fun j f hf=>?_⟩
  have G:=jP (f:=fuD) (k:=3) (fun _=>rfl) l j f hf
  obtain ⟨u0,c0,v0⟩:=hc (j * 3 + 0) _ ((G 0 (by decide)).trans rfl)
  obtain ⟨u1,c1,v1⟩:=hc (j * 3 + 1) _ ((G 1 (by decide)).trans rfl)
  obtain ⟨u2,c2,v2⟩:=hc (j * 3 + 2) _ ((G 2 (by decide)).trans rfl)
  have v0' : u0 = str f.name:=v0
  have v1' : u1 = .int .i64 f.args:=v1
  subst v0' v1'
  rw [yB] at v2
  exact ⟨u2,by simpa [Nat.add_assoc] using c0,by simpa [Nat.add_assoc] using c1,by simpa [Nat.add_assoc] using c2,lL v2⟩
structure MdSz (m : Md) : Prop where
 nF : ∀ x ∈ m.facts,x.name.length ≤ maxLen
 nG : ∀ x ∈ m.funcs,x.name.length ≤ maxLen
 vG : ∀ x ∈ m.funcs,x.value.length * 8 ≤ 140737488351232
 nB : ∀ x ∈ m.binds,x.name.length ≤ maxLen
theorem list7 {α : Type} {xs : List α} {a b c d e f g : α} (h : xs.length = 7) (h0 : xs[0]? = some a) (h1 : xs[1]? = some b) (h2 : xs[2]? = some c) (h3 : xs[3]? = some d) (h4 : xs[4]? = some e) (h5 : xs[5]? = some f) (h6 : xs[6]? = some g) : xs = [a,b,c,d,e,f,g]:=by
 match xs,h with
 | [x,y,z,w,u,v,t],_=>simp at h0 h1 h2 h3 h4 h5 h6;simp [h0,h1,h2,h3,h4,h5,h6]
theorem md_of {base : Nat} {v : Value} {d : DataW H} {p : List MemPlace} (hval : Value.okWide Tryz.prog W .any base 34 v) (hy : kR 34 d) (h : DataW.Trod enc Tryz.prog W 0 (fun _=>true) true 34 v d p) :
  ∃ (m : Md) (ra : Option Addr) (rn rc : Nat) (fa : Option Addr) (fn fc : Nat) (ga : Option Addr) (gn gc : Nat) (ba : Option Addr) (bn bc : Nat),v = mdV m ra rn rc fa fn fc ga gn gc ba bn bc ∧ MdAt W m ra rn rc fa fn fc ga gn gc ba bn bc ∧ MdSz m:=by
 obtain ⟨cs,rfl,hsz⟩:=okWide_struct Tryz.underlying34 hval
 rw [cells34] at hsz
 obtain ⟨fuel,h⟩:=h
 obtain ⟨xs,n,rfl,e1,hl,hxl,hall⟩:=DataW.trod_struct Tryz.underlying34 h
 simp only [Prod.mk.injEq] at e1
 obtain ⟨rfl,-⟩:=e1
 have hx : ∀ i,i < 7 → ∃ z,xs[i]? = some z:=fun i hi=>⟨_,List.getElem?_eq_getElem (show i < xs.length by rw [hxl];exact hi)⟩
 obtain ⟨z0,g0⟩:=hx 0 (by omega)
 obtain ⟨z1,g1⟩:=hx 1 (by omega)
 obtain ⟨z2,g2⟩:=hx 2 (by omega)
 obtain ⟨z3,g3⟩:=hx 3 (by omega)
 obtain ⟨z4,g4⟩:=hx 4 (by omega)
 obtain ⟨z5,g5⟩:=hx 5 (by omega)
 obtain ⟨z6,g6⟩:=hx 6 (by omega)
 have e:=list7 hxl g0 g1 g2 g3 g4 g5 g6
 have hw : DataW.weights Tryz.prog 34 (DataW.agg (xs.map (·.1))) = z0.1.weights Tryz.prog 5 ++ (z1.1.weights Tryz.prog 3 ++ (z2.1.weights Tryz.prog 29 ++ (z3.1.weights Tryz.prog 3 ++ (z4.1.weights Tryz.prog 30 ++ (z5.1.weights Tryz.prog 31 ++ (z6.1.weights Tryz.prog 32 ++ [])))))):=by
  rw [e];simp [DataW.weights,DataW.weightsEach,Tryz.underlying34]
 have y2 : kR 29 z2.1:=fun n hn=>hy n (by show n ∈ DataW.weights Tryz.prog 34 _;rw [hw];simp [hn])
 have y4 : kR 30 z4.1:=fun n hn=>hy n (by show n ∈ DataW.weights Tryz.prog 34 _;rw [hw];simp [hn])
 have y5 : kR 31 z5.1:=fun n hn=>hy n (by show n ∈ DataW.weights Tryz.prog 34 _;rw [hw];simp [hn])
 have y6 : kR 32 z6.1:=fun n hn=>hy n (by show n ∈ DataW.weights Tryz.prog 34 _;rw [hw];simp [hn])
 have h0 : DataW.trod enc Tryz.prog W 0 (fun _=>true) true n 5 (((Value.agg cs).cells.toList.drop 0).take (Tryz.prog.cellsOf 5)) = _:=(hall 0 _ rfl).trans g0
 have h1 : DataW.trod enc Tryz.prog W 0 (fun _=>true) true n 3 (((Value.agg cs).cells.toList.drop 1).take (Tryz.prog.cellsOf 3)) = _:=(hall 1 _ rfl).trans g1
 have h2 : DataW.trod enc Tryz.prog W 0 (fun _=>true) true n 29 (((Value.agg cs).cells.toList.drop 2).take (Tryz.prog.cellsOf 29)) = _:=(hall 2 _ rfl).trans g2
 have h3 : DataW.trod enc Tryz.prog W 0 (fun _=>true) true n 3 (((Value.agg cs).cells.toList.drop 3).take (Tryz.prog.cellsOf 3)) = _:=(hall 3 _ rfl).trans g3
 have h4 : DataW.trod enc Tryz.prog W 0 (fun _=>true) true n 30 (((Value.agg cs).cells.toList.drop 4).take (Tryz.prog.cellsOf 30)) = _:=(hall 4 _ rfl).trans g4
 have h5 : DataW.trod enc Tryz.prog W 0 (fun _=>true) true n 31 (((Value.agg cs).cells.toList.drop 5).take (Tryz.prog.cellsOf 31)) = _:=(hall 5 _ rfl).trans g5
 have h6 : DataW.trod enc Tryz.prog W 0 (fun _=>true) true n 32 (((Value.agg cs).cells.toList.drop 6).take (Tryz.prog.cellsOf 32)) = _:=(hall 6 _ rfl).trans g6
 rw [cells5] at h0
 rw [cells3] at h1 h3
 rw [xU] at h2
 rw [cells30] at h4
 rw [cells31] at h5
 rw [cells32] at h6
 obtain ⟨κ,e0,-,-⟩:=DataW.trod_int Tryz.underlying5 h0
 obtain ⟨sz,e1,-,-⟩:=DataW.trod_int Tryz.underlying3 h1
 obtain ⟨R,ra,rn,rc,e2,hR,-⟩:=vZ y2 h2
 obtain ⟨lo,e3,-,-⟩:=DataW.trod_int Tryz.underlying3 h3
 obtain ⟨F,fa,fn,fc,e4,pF,hF⟩:=nP (k:=3) (one:=faD) (all:=fun l=>l.flatMap faD) (P:=fun f=>f.name.length ≤ maxLen) (kU fun _=>rfl) (fun _=>rfl) (jP fun _=>rfl) Tryz.underlying30 cells102 (by decide) y4 (fun n' cs' y' hn _ hy' h'=>fa_lie h') h4
 obtain ⟨G,ga,gn,gc,e5,pG,hG⟩:=nP (k:=3) (one:=fuD) (all:=fun l=>l.flatMap fuD) (P:=fun f=>f.name.length ≤ maxLen ∧ f.value.length * 8 ≤ 140737488351232) (kU fun _=>rfl) (fun _=>rfl) (jP fun _=>rfl) Tryz.underlying31 cells121 (by decide) y5 (fun n' cs' y' hn _ hy' h'=>fu_lie hy' h') h5
 obtain ⟨B,ba,bn,bc,e6,pB,hB⟩:=nP (k:=2) (one:=biD) (all:=fun l=>l.flatMap biD) (P:=fun f=>f.name.length ≤ maxLen) (kU fun _=>rfl) (fun _=>rfl) (jP fun _=>rfl) Tryz.underlying32 cells123 (by decide) y6 (fun n' cs' y' hn _ hy' h'=>bi_lie h') h6
 have c0:=cell_of_one e0
 have c1:=cell_of_one e1
 have c2:=cell_of_one e2
 have c3:=cell_of_one e3
 have c4:=cell_of_one e4
 have c5:=cell_of_one e5
 have c6:=cell_of_one e6
 simp only [Value.cells,Array.getElem?_toList] at c0 c1 c2 c3 c4 c5 c6
 have hcs : cs = #[.int .u8 κ,.int .i64 sz,.slice ra rn rc,.int .i64 lo,.slice fa fn fc,.slice ga gn gc,.slice ba bn bc]:=by
  apply Array.ext
  ·simp [hsz]
  ·intro i h1 h2
   rcases (show i = 0 ∨ i = 1 ∨ i = 2 ∨ i = 3 ∨ i = 4 ∨ i = 5 ∨ i = 6 by omega) with rfl | rfl | rfl | rfl | rfl | rfl | rfl
   ·simpa using (Array.getElem?_eq_some_iff.1 c0).2
   ·simpa using (Array.getElem?_eq_some_iff.1 c1).2
   ·simpa using (Array.getElem?_eq_some_iff.1 c2).2
   ·simpa using (Array.getElem?_eq_some_iff.1 c3).2
   ·simpa using (Array.getElem?_eq_some_iff.1 c4).2
   ·simpa using (Array.getElem?_eq_some_iff.1 c5).2
   ·simpa using (Array.getElem?_eq_some_iff.1 c6).2
 subst hcs
 refine ⟨⟨κ,sz,R,lo,F,G,B⟩,ra,rn,rc,fa,fn,fc,ga,gn,gc,ba,bn,bc,rfl,⟨?_, ?_, ?_, ?_⟩,⟨pF,fun x hx=>(pG x hx).1,fun x hx=>(pG x hx).2,pB⟩⟩
 ·exact lL (by rw [← yB];exact hR)
 ·exact lL (by rw [← fasD_eq];exact hF)
 ·exact fus_of_at hG
 ·exact lL (by rw [← bisD_eq];exact hB)
end
open Go Go.RowKit Go.Sort Ly
set_option maxHeartbeats 4000000
theorem rW {n : Nat} (h : n ≤ maxLen) : n ≤ 9223372036854775807:=by unfold maxLen at h;omega
theorem describeModels_c (m : Md) (hz : MdSz m) (ra fa ga ba : Option Addr) (rn rc fn fc gn gc bn bc : Nat) (w : World) (hr : gC w) (hp : gP w) (hm : oN w) (hx : MdAt w m ra rn rc fa fn fc ga gn gc ba bn bc) :
  Calls Tryz.prog 4 #[mdV m ra rn rc fa fn fc ga gn gc ba bn bc] w (Rt (.bool true) w):=by
 have HB : Hid (Below w.heap.size w (w.alloc (.cells #[.int .u8 m.kind,.int .i64 m.size,.slice ra rn rc,.int .i64 m.loop,.slice fa fn fc,.slice ga gn gc,.slice ba bn bc] 34))):=bnew
 have NEW : Hid ((w.alloc (.cells #[.int .u8 m.kind,.int .i64 m.size,.slice ra rn rc,.int .i64 m.loop,.slice fa fn fc,.slice ga gn gc,.slice ba bn bc] 34)).heap[w.heap.size]? = some (.cells #[.int .u8 m.kind,.int .i64 m.size,.slice ra rn rc,.int .i64 m.loop,.slice fa fn fc,.slice ga gn gc,.slice ba bn bc] 34)):=heap_alloc_new w _
 have C14 : Hid (∀ W,Below w.heap.size w W → Calls Tryz.prog 14 #[] W (Rt (.bool true) W)):=fun W hW =>
  awake_c W (hr.keep (aC hW)) (hp.below hW) (hm.keep (aC hW))
 have L1:=Hd hx.facts.len.1
 have L2:=Hd hx.funcs.len.1
 have L3:=Hd hx.binds.len.1
 have L4:=Hd hx.rel.len.1
 obtain ⟨⟨k0,k1,k2,k3,k4,k5,k6⟩,-⟩:=aK NEW.out
 by_cases t1 : fn ≤ 12
 rotate_left
 ·have g1 : decide ((12 : Int) < (fn : Int)) = true:=by simp;omega
  clear hr hp hm hx hz
  go_enter Tryz.func4,Tryz.ntmps4
  go_wp2_with (go_at_call 14;refine (C14.out _ HB.out).mono ?_;rintro e w4 ⟨rfl,b4⟩;have B4:=Hd (aA HB.out b4);clear b4)
  go_ret
  exact ⟨rfl,B4.out⟩
 have g1 : decide ((12 : Int) < (fn : Int)) = false:=by simp;omega
 by_cases t2 : gn ≤ 12
 rotate_left
 ·have g2 : decide ((12 : Int) < (gn : Int)) = true:=by simp;omega
  clear hr hp hm hx hz
  go_enter Tryz.func4,Tryz.ntmps4
  go_wp2_with (go_at_call 14;refine (C14.out _ HB.out).mono ?_;rintro e w4 ⟨rfl,b4⟩;have B4:=Hd (aA HB.out b4);clear b4)
  go_ret
  exact ⟨rfl,B4.out⟩
 have g2 : decide ((12 : Int) < (gn : Int)) = false:=by simp;omega
 by_cases t3 : bn ≤ 12
 rotate_left
 ·have g3 : decide ((12 : Int) < (bn : Int)) = true:=by simp;omega
  clear hr hp hm hx hz
  go_enter Tryz.func4,Tryz.ntmps4
  go_wp2_with (go_at_call 14;refine (C14.out _ HB.out).mono ?_;rintro e w4 ⟨rfl,b4⟩;have B4:=Hd (aA HB.out b4);clear b4)
  go_ret
  exact ⟨rfl,B4.out⟩
 have g3 : decide ((12 : Int) < (bn : Int)) = false:=by simp;omega
 by_cases t4 : rn ≤ 8
 rotate_left
 ·have g4 : decide ((8 : Int) < (rn : Int)) = true:=by simp;omega
  clear hr hp hm hx hz
  go_enter Tryz.func4,Tryz.ntmps4
  go_wp2_with (go_at_call 14;refine (C14.out _ HB.out).mono ?_;rintro e w4 ⟨rfl,b4⟩;have B4:=Hd (aA HB.out b4);clear b4)
  go_ret
  exact ⟨rfl,B4.out⟩
 have g4 : decide ((8 : Int) < (rn : Int)) = false:=by simp;omega
 have hf : vN m:=by
  have l1:=L1.out
  have l2:=L2.out
  have l3:=L3.out
  have l4:=L4.out
  exact ⟨by omega,by omega,by omega,by omega,fun x h=>rW (hz.nF x h),fun x h=>rW (hz.nG x h),fun x h=>rW (hz.nB x h)⟩
 have hfit : zV m:=by
  have h1:=hf.facts;have h2:=hf.funcs;have h3:=hf.binds;have h4:=hf.rel
  exact ⟨by omega,by omega,by omega,hz.vG,by omega⟩
 have C15:=Hd (lentModel_c m hfit ra fa ga ba rn rc fn fc gn gc bn bc (w.alloc (.cells #[.int .u8 m.kind,.int .i64 m.size,.slice ra rn rc,.int .i64 m.loop,.slice fa fn fc,.slice ga gn gc,.slice ba bn bc] 34)) (hx.keep (aC HB.out)))
 have C17 : Hid (∀ W,Below w.heap.size w W → Calls Tryz.prog 17 #[mdV m ra rn rc fa fn fc ga gn gc ba bn bc] W (tC m W)):=fun W hW=>Model17_any m hf ra fa ga ba rn rc fn fc gn gc bn bc W (hx.keep (aC hW))
 have HX:=Hd hx
 have HP:=Hd hp
 have HF:=Hd hf
 have C19 : Hid (∀ (a a' : Option Addr) (c c' : Nat) (W : World),aX W (lnOf m) (.slice a (lnOf m).length c) → aX W (lnOf m) (.slice a' (lnOf m).length c') → Calls Tryz.prog 19 #[.slice a (lnOf m).length c,.slice a' (lnOf m).length c'] W (Rt (.bool true) W)):=fun a a' c c' W h1 h2=>by
  have:=iE (lnOf m) (lnOf m) a a' _ c _ c' W h1 h2
  simpa using this
 obtain ⟨cd,hcd⟩ : ∃ cd,cdOf m = cd:=⟨_,rfl⟩
 have C16 : Hid (∀ (ra fa ga ba : Option Addr) (rn rc fn fc gn gc bn bc : Nat) W,MdAt W m ra rn rc fa fn fc ga gn gc ba bn bc → gP W → Calls Tryz.prog 16 #[mdV m ra rn rc fa fn fc ga gn gc ba bn bc] W (fun e w'=>∃ a c,e = .returned (.tuple #[.slice a (lnOf m).length c,.int .i64 cd]) ∧ aD W.heap.size w' (lnOf m) (.slice a (lnOf m).length c) ∧ Below W.heap.size W w')):=fun ra fa ga ba rn rc fn fc gn gc bn bc W h1 h2=>(Model16_any m HF.out ra fa ga ba rn rc fn fc gn gc bn bc W h1 h2).mono fun e w' ⟨v,he,ho,hb⟩=>by
  obtain ⟨a,c,rfl⟩:=bN ho
  exact ⟨a,c,by rw [he,hcd],ho,hb⟩
 have C17' : Hid (∀ W,Below w.heap.size w W → Calls Tryz.prog 17 #[mdV m ra rn rc fa fn fc ga gn gc ba bn bc] W (fun e w'=>∃ a c,e = .returned (.tuple #[.slice a (lnOf m).length c,.int .i64 cd]) ∧ aD W.heap.size w' (lnOf m) (.slice a (lnOf m).length c) ∧ Below W.heap.size W w')):=fun W hW=>(C17.out W hW).mono fun e w' ⟨v,he,ho,hb⟩=>by
  obtain ⟨a,c,rfl⟩:=bN ho
  exact ⟨a,c,by rw [he,hcd],ho,hb⟩
 generalize lnOf m = LN at *
 have ee : (cd == cd) = true:=by simp
 have HC:=Hd hcd
 clear hr hp hm hx hz hf hfit hcd C17
 go_enter Tryz.func4,Tryz.ntmps4
 go_wp2_with (first
  | (go_at_call 14;have Z19b:=Z19.out;clear Z19b;refine (C14.out _ B5.out).mono ?_;rintro e w6 ⟨rfl,b6⟩;have B6:=Hd (aA B5.out b6);clear b6)
  | (go_at_call 19;have Z18b:=Z18.out;clear Z18b;refine (C19.out _ _ _ _ _ (aD.below O2.out Y24.out).strsAt (aD.below O3.out Y34.out).strsAt).mono ?_;rintro e w5 ⟨rfl,b5⟩;have B5:=Hd (aA B4.out b5);have Z19:=Hd True.intro;clear b5)
  | (go_at_call 18;have Z17b:=Z17.out;clear Z17b;refine (keptModel_c m _ _ _ _ _ _ _ _ _ _ _ _ _ _ _ _ _ _ _ _ _ _ _ _ _ (M1.out.keep ((dM _ _).trans (aC Z13.out))) (HX.out.keep (aC B3.out))).mono ?_;rintro e w4 ⟨rfl,b4⟩;have B4:=Hd (aA B3.out b4);have Y24:=Hd (aA Y23.out b4);have Y34:=Hd b4;have Z18:=Hd True.intro;clear b4)
  | (go_at_call 17;have Z16b:=Z16.out;clear Z16b;refine (C17'.out _ B2.out).mono ?_;rintro e w3 ⟨a3,c3,rfl,o3,b3⟩;have O3:=Hd o3;have B3:=Hd (aA B2.out b3);have Y23:=Hd b3;have Z13:=Hd (aA Z12.out b3);have X3:=Hd (kc b3 X2.out);have Y3:=Hd (kc b3 Y2.out);have Z17:=Hd True.intro;clear o3 b3 k0 k1 k2 k3 k4 k5 k6 l0 l1 l2 l3 l4 l5 l6;obtain ⟨⟨k0,k1,k2,k3,k4,k5,k6⟩,-⟩:=aK X3.out;obtain ⟨⟨l0,l1,l2,l3,l4,l5,l6⟩,-⟩:=aK Y3.out)
  | (go_at_call 16;refine (C16.out _ _ _ _ _ _ _ _ _ _ _ _ _ ((M1.out.keep (dM _ _)).at.keep (aC A1.out)) (HP.out.below B1.out)).mono ?_;rintro e w2 ⟨a2,c2,rfl,o2,b2⟩;have O2:=Hd o2;have B2:=Hd (aA B1.out b2);have Z12:=Hd (aA A1.out b2);have X2:=Hd (kc b2 X1.out);have Y2:=Hd (kc b2 Y1.out);have Z16:=Hd True.intro;clear o2 b2 k0 k1 k2 k3 k4 k5 k6 l0 l1 l2 l3 l4 l5 l6;obtain ⟨⟨k0,k1,k2,k3,k4,k5,k6⟩,-⟩:=aK X2.out;obtain ⟨⟨l0,l1,l2,l3,l4,l5,l6⟩,-⟩:=aK Y2.out)
  | (go_at_call 15;refine C15.out.mono ?_;rintro e w1 ⟨rb,rk,rc2,fb,fk,fc2,gb,gk,gc2,bb,bk,bc2,rfl,m1,b1⟩;have M1:=Hd m1;have A1 : Hid (Below w1.heap.size w1 (w1.alloc (.cells #[.int .u8 m.kind,.int .i64 m.size,.slice (some ⟨rb,0,none⟩) rk rc2,.int .i64 m.loop,.slice (some ⟨fb,0,none⟩) fk fc2,.slice (some ⟨gb,0,none⟩) gk gc2,.slice (some ⟨bb,0,none⟩) bk bc2] 34))):=bnew;have B1:=Hd (aA (aA HB.out b1) A1.out);have X1:=Hd (kc A1.out (kc b1 NEW.out));have Y1:=Hd (heap_alloc_new w1 (.cells #[.int .u8 m.kind,.int .i64 m.size,.slice (some ⟨rb,0,none⟩) rk rc2,.int .i64 m.loop,.slice (some ⟨fb,0,none⟩) fk fc2,.slice (some ⟨gb,0,none⟩) gk gc2,.slice (some ⟨bb,0,none⟩) bk bc2] 34));clear m1 b1 k0 k1 k2 k3 k4 k5 k6;obtain ⟨⟨k0,k1,k2,k3,k4,k5,k6⟩,-⟩:=aK X1.out;obtain ⟨⟨l0,l1,l2,l3,l4,l5,l6⟩,-⟩:=aK Y1.out))
 go_ret
 exact ⟨rfl,B6.out⟩
end Go.Proofs.YtcandidgaegghaaGreatDoor
