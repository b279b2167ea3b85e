/- Contracts of the functions that make terms, formulas and proofs (lyceumlaw41 and lyceumlaw30: atom, variable, apply, join, bound, leaf, step). -/
import Derived.Deep.RegionWith
import Derived.Lib.Hide
import Derived.Test.YtcandidgaegghaaGreatDoorMemZ
import Derived.Test.YtcandidgaegghaaGreatDoorProg
import Derived.Test.YtcandidgaegghaaGreatDoorCpZ
import Derived.Lib.AppendZerosOnto
import Derived.Lib.SliceRun
import Derived.Maps.AppendAt
set_option maxRecDepth 10000
set_option linter.unusedSimpArgs false
set_option linter.unusedVariables false
namespace Go.Proofs.YtcandidgaegghaaGreatDoor
open Go Go.RowKit Ly
theorem fms_one {w : World} {b : Nat} {f : Fm} {a : Option Addr} {n c : Nat} {a' : Option Addr} {m d : Nat} (h : wA w b 0 f a n c a' m d) : cD w [f] (.slice (some ⟨b,0,none⟩) 1 1):=by
 refine At.sl_mk (by simp [cH,Fm.ds_length]) (Nat.le_refl _) (by decide) fun j d hd=>?_
 obtain ⟨op,nm,ts,sub⟩:=f
 have hj : j < 4:=by
  have:=(List.getElem?_eq_some_iff.1 hd).1;simpa [cH,Fm.ds_length] using this
 rcases (show j = 0 ∨ j = 1 ∨ j = 2 ∨ j = 3 by omega) with rfl | rfl | rfl | rfl
 ·cases hd;exact ⟨_,h.c0,rfl⟩
 ·cases hd;exact ⟨_,h.c1,rfl⟩
 ·cases hd;exact ⟨_,h.c2,h.at_⟩
 ·cases hd;exact ⟨_,h.c3,h.at'⟩
set_option maxHeartbeats 400000
open Go Go.RowKit Ly
def aI (B : Nat) (w : World) (l : List Bs) (v : Value) : Prop:=w.ownsRow B 9 1 v l.length (l.map str)
theorem sP : (Tryz.prog.info? 9).map (fun i=>(i.zero,i.size,i.bytes)) = some (some (.string ⟨#[]⟩),1,16):=by kernel_rfl
theorem aI.strsAt {B : Nat} {w : World} {l : List Bs} {v : Value} (h : aI B w l v) : aU w l v:=by
 obtain ⟨h1,h2⟩:=h
 rcases h2 with ⟨rfl,hn⟩ | ⟨g,cap,cur,rfl,hb,hg,hc,hm,hs,ht⟩
 ·have : l = []:=List.eq_nil_of_length_eq_zero hn
  subst this
  exact At.sl_nil (Nat.zero_le _)
 ·refine At.sl_mk (by simp) hc hm fun j d hd=>?_
  have hj : j < l.length:=by have:=(List.getElem?_eq_some_iff.1 hd).1;simpa using this
  have hx : l[j]? = some l[j]:=List.getElem?_eq_getElem hj
  have e : (l.map str)[j]? = some (str l[j]):=by rw [List.getElem?_map,hx];rfl
  have own : w.ownsRow B 9 1 (.slice (some ⟨g,0,none⟩) l.length cap) l.length (l.map str):=⟨h1,.inr ⟨g,cap,cur,rfl,hb,hg,hc,hm,hs,ht⟩⟩
  have hcell:=own.cells (g:=g) rfl j _ e
  have hd' : d = strD l[j]:=by rw [List.getElem?_map,hx] at hd;exact (Option.some.inj hd).symm
  subst hd'
  refine ⟨_, ?_,rfl⟩
  have : (⟨g,0,none⟩ : Addr).add j = ⟨g,0 + j,none⟩:=by unfold Addr.add;split <;> simp_all
  rw [← this];exact hcell
theorem aI.mono {B B' : Nat} {w : World} {l : List Bs} {v : Value} (h : aI B w l v) (hB : B' ≤ B) : aI B' w l v:=by
 obtain ⟨h1,h2⟩:=h
 refine ⟨h1, ?_⟩
 rcases h2 with h2 | ⟨g,cap,cur,e,hb,r⟩
 ·exact .inl h2
 ·exact .inr ⟨g,cap,cur,e,Nat.le_trans hB hb,r⟩
set_option maxHeartbeats 1000000 in
theorem Grow_nil (n : Nat) (w : World) (h : n * 16 ≤ 140737488355328) : Calls Tryz.prog 219 #[.slice none 0 0,.int .i64 n] w fun e w' =>
  ∃ v,e = .returned v ∧ w'.ownsRow w.heap.size 9 1 v 0 [] ∧ Below w.heap.size w w':=by
 have hn : n ≤ 9223372036854775807:=by omega
 have h1 : ¬ ((n : Int) < 0):=by omega
 by_cases hz : n = 0
 ·subst hz
  clear h hn h1
  go_enter Tryz.func219,Tryz.ntmps219
  go_wp2
  go_ret
  exact ⟨_,rfl,World.ownsRow_nil _ _ _ _,Below.refl _ _⟩
 ·have h2 : 0 < n:=by omega
  obtain ⟨i0,hi0,hz0,hs0,hb0⟩:=info_parts sP
  have h4 : (n : Int) > 0:=by omega
  have hold : (Builtin.firstCells i0.size 0 (.slice none 0 0)).run Tryz.prog w.drew = .ok #[] w.drew:=run_firstCells_none w.drew i0.size 0 0 0
  have hGn : n ≤ grownCap w n 0 9:=grownCap_ge w _ _ _
  have hGm : grownCap w n 0 9 ≤ maxLen:=grownCap_le_maxLen w _ _ _ (by unfold maxLen;omega)
  have hrz : ∀ ty,(Builtin.append_ #[36,3] ty #[.slice none 0 0,.int .i64 (n : Int)]).run Tryz.prog w =
   .ok (.slice (some ⟨w.heap.size,0,none⟩) n (grownCap w n 0 9)) (w.drew.alloc (.cells (Builtin.zeroCells (Value.string ⟨#[]⟩).cells n ++ Builtin.zeroCells (Value.string ⟨#[]⟩).cells (grownCap w n 0 9 - n)) 9)):=fun ty=>by
   have h:=Lib.run_append_grow_zeros w 36 3 ty 9 i0 (.string ⟨#[]⟩) .i64 .i64 Tryz.underlying36 Tryz.underlying3 hi0 hz0 none 0 0 [] hold n (by omega) (by omega) (by omega) (by omega)
    (by rw [hb0];omega) (by rw [hb0];exact growslice_fits (by omega) (by omega))
   simpa using h
  have hsz : (Builtin.zeroCells (Value.string ⟨#[]⟩).cells n ++ Builtin.zeroCells (Value.string ⟨#[]⟩).cells (grownCap w n 0 9 - n)).size = grownCap w n 0 9 * 1:=by
   simp [Builtin.zeroCells,Value.cells];omega
  generalize (Builtin.zeroCells (Value.string ⟨#[]⟩).cells n ++ Builtin.zeroCells (Value.string ⟨#[]⟩).cells (grownCap w n 0 9 - n)) = Z at *
  generalize grownCap w n 0 9 = G at *
  have hG63 : G ≤ 9223372036854775807:=le63 hGm
  have HM:=Hd hGm
  have HS:=Hd hsz
  clear hold hi0 hz0 hs0 hb0 hGm hsz
  go_enter Tryz.func219,Tryz.ntmps219
  go_wp2_with (at_builtin;refine Lib.wpList_append_run _ rfl _ _ _ _ rfl _ _ rfl rfl _ _ (hrz _) ?_)
  go_ret
  exact ⟨_,rfl,World.ownsRow_made _ Z G (Nat.le_refl _) HM.out HS.out,((Below.refl _ _).drew).alloc (Nat.le_refl _) _⟩
def NR (l : List Bs) : D:=.sl 1 l.length (l.map strD)
def fQ (w : World) (ls : List (List Bs)) (u : Value) : Prop:=At w (.sl 1 ls.length (ls.map NR)) u
theorem fQ.len {w : World} {l : List (List Bs)} {a : Option Addr} {n c : Nat} (h : fQ w l (.slice a n c)) : n = l.length ∧ n ≤ c ∧ c ≤ maxLen:=by
 obtain ⟨a',cap,e,h1,h2,_⟩:=h
 simp only [Value.slice.injEq] at e
 obtain ⟨_,rfl,rfl⟩:=e
 exact ⟨rfl,h1,h2⟩
theorem fQ.get {w : World} {l : List (List Bs)} {a : Option Addr} {n c : Nat} (h : fQ w l (.slice a n c)) (hn : l ≠ []) :
  ∃ b off,a = some ⟨b,off,none⟩ ∧ ∀ (i : Nat) (x : List Bs),l[i]? = some x → ∃ s sn sc,w.cell? ⟨b,off + i,none⟩ = some (.slice s sn sc) ∧ aU w x (.slice s sn sc):=by
 obtain ⟨a',cap,e,_,_,_,h5⟩:=At.sl_inv h
 simp only [Value.slice.injEq] at e
 obtain ⟨rfl,rfl,rfl⟩:=e
 rcases h5 with h5 | ⟨b,off,rfl,h5⟩
 ·exact absurd (List.eq_nil_of_length_eq_zero h5) hn
 ·refine ⟨b,off,rfl,fun i x hx=>?_⟩
  obtain ⟨u,k,p⟩:=h5 i (NR x) (by rw [List.getElem?_map,hx];rfl)
  obtain ⟨s,sn,sc,rfl⟩:=aU.slice (w:=w) (l:=x) p
  exact ⟨s,sn,sc,k,p⟩
theorem uI {α : Type} {ls : List (List α)} {j : Nat} {T : List α} (h : ls[j]? = some T) : (ls.take (j + 1)).flatten = (ls.take j).flatten ++ T:=by
 rw [List.take_add_one,h];simp
theorem nU {α : Type} (ls : List (List α)) (j : Nat) : (ls.take j).flatten.length ≤ ls.flatten.length:=by
 conv=>rhs;rw [← List.take_append_drop j ls,List.flatten_append,List.length_append]
 omega
set_option maxHeartbeats 1600000 in
theorem Concat_c (ls : List (List Bs)) (a : Option Addr) (k c : Nat) (w : World) (h : fQ w ls (.slice a k c)) (hne : ∀ l ∈ ls,l ≠ []) (htot : ls.flatten.length * 16 ≤ 140737488355328) :
  Calls Tryz.prog 143 #[.slice a k c] w fun e w'=>∃ v,e = .returned v ∧ aI w.heap.size w' ls.flatten v ∧ Below w.heap.size w w':=by
 have hk:=h.len
 have hlen : k ≤ 9223372036854775807:=by have:=le63 hk.2.2;omega
 have L1:=Hd hk.1
 have HX:=Hd h
 have HE:=Hd hne
 have HT:=Hd htot
 clear hk h hne htot
 go_enter Tryz.func143,Tryz.ntmps143
 go_wp2_with fail
 go_loop [3,11] (fun s i=>∃ j S : Nat,j ≤ k ∧ i = .int .i64 j ∧ s = .int .i64 S ∧ Hid (S = (ls.take j).flatten.length)) (fun _ i=>k - (intOf i).toNat)
 case atStart=>exact ⟨0,0,Nat.zero_le _,rfl,rfl,rfl⟩
 case round =>
  obtain ⟨j,S,hj,rfl,rfl,hS⟩:=hrel
  by_cases hlt : j < k
  ·obtain ⟨T,hT⟩:=aF (l:=ls) (j:=j) (by rw [← L1.out];exact hlt)
   obtain ⟨b,off,rfl,hc⟩:=HX.out.get (aJ hT)
   obtain ⟨x0,x1,x2,c0,hx⟩:=hc j _ hT
   have hx1:=hx.len.1
   have e1:=uI hT
   have e2:=nU ls (j + 1)
   rw [e1,List.length_append,← hx1] at e2
   have E1 : Hid (S + x1 = (ls.take (j + 1)).flatten.length):=by show _ = _;rw [e1,List.length_append,hx1,hS.out]
   rw [← hS.out] at e2
   have hbnd : S + x1 ≤ 9223372036854775807:=by have:=HT.out;omega
   have hb0 : x1 ≤ 9223372036854775807:=by omega
   have hb1 : S ≤ 9223372036854775807:=by omega
   clear hc hx e1 e2 hT hx1
   go_wp2_with fail
   all_goals go_round
   case rel=>exact ⟨j + 1,S + x1,by omega,by go_num,by go_num,E1⟩
   case measure=>simp [intOf];omega
  ·have HT' : Hid (S * 16 ≤ 140737488355328):=by have:=HT.out;have:=nU ls j;have:=hS.out;show _ ≤ _;omega
   go_wp2_with fail
   refine (Grow_nil _ _ HT'.out).mono ?_
   rintro e w1 ⟨v,rfl,hown,hb⟩
   have HO:=Hd hown
   have HB:=Hd hb
   clear hown hb
   go_wp2_with fail
   obtain ⟨i0,hi0,hz0,hs0,hb0⟩:=info_parts sP
   go_loopw [6,27] (fun u i wr=>∃ (q : Nat) (F : List Bs),q ≤ k ∧ i = .int .i64 q ∧ Hid (F = (ls.take q).flatten) ∧ Hid (aI w.heap.size wr F u ∧ Below w.heap.size w wr)) (fun _ i _=>k - (intOf i).toNat)
   case atStart=>exact ⟨0,[],Nat.zero_le _,rfl,rfl,HO.out,HB.out⟩
   case round =>
    obtain ⟨q,F,hq,rfl,hF,hr⟩:=hrel
    by_cases hlt : q < k
    ·obtain ⟨T,hT⟩:=aF (l:=ls) (j:=q) (by rw [← L1.out];exact hlt)
     obtain ⟨b,off,rfl,hc⟩:=HX.out.get (aJ hT)
     obtain ⟨x0,x1,x2,c0,hx⟩:=hc q _ hT
     have hTne:=HE.out T (List.mem_of_getElem? hT)
     obtain ⟨b1,o1,rfl,hc1⟩:=hx.get hTne
     have hK:=aA hr.out.2
     have d0:=hK _ _ c0
     have hx1:=hx.len.1
     have e2:=nU ls (q + 1)
     rw [uI hT,← hF.out,List.length_append] at e2
     have FT : Hid (F ++ T = (ls.take (q + 1)).flatten):=by show _ = _;rw [uI hT,hF.out]
     have C1 : Hid (∀ j u,(T.map str)[j]? = some u → wr.cell? ((⟨b1,o1,none⟩ : Addr).add j) = some u):=fun j u hu=>by
      rw [List.getElem?_map] at hu
      obtain ⟨y,hy,rfl⟩:=Option.map_eq_some_iff.1 hu
      rw [Addr.add_lit]
      exact hK _ _ (hc1 j y hy)
     have C2 : Hid (∀ u ∈ T.map str,u.oneCell' = true):=fun u hu=>by obtain ⟨y,_,rfl⟩:=List.mem_map.1 hu;rfl
     have C3 : Hid (F.length + x1 ≤ maxLen):=by have:=HT.out;show _ ≤ _;unfold maxLen;omega
     have C4 : Hid ((F.length + x1) * 16 ≤ 140737488355328):=by have:=HT.out;show _ ≤ _;omega
     have C5 : Hid ((T.map str).length = x1 * 1):=by show _ = _;rw [List.length_map,hx1];omega
     have C6:=Hd hr.out.2.size
     have X1:=Hd hx1
     clear hc hx c0 hc1 e2 hT hTne hx1 hK
     go_wp2_with (at_builtin;refine wpList_append_own _ rfl _ _ 36 rfl w.heap.size 9 i0 (.string ⟨#[]⟩) 1 16 Tryz.underlying36 hi0 hz0 hs0 hb0 rfl (by decide) _ _ _ rfl hr.out.1 ⟨b1,o1,none⟩ x1 x2 (T.map str) rfl C5.out C1.out C2.out C3.out C4.out C6.out ?_)
     intro v' w2 hown2 hg2 _
     have R2 : Hid (aI w.heap.size w2 (F ++ T) v' ∧ Below w.heap.size w w2):=by
      refine ⟨?_,hr.out.2.grown hg2 hr.out.2.size (fun kk hkk=>(hr.out.1.lt kk hkk).1)⟩
      unfold aI
      rw [List.length_append,List.map_append,← X1.out]
      exact hown2
     clear hown2 hg2
     go_wp2_with fail
     go_roundw
     case rel=>exact ⟨q + 1,F ++ T,by omega,by go_num,FT,R2⟩
     case measure=>simp [intOf];omega
    ·go_wp2_with fail
     go_ret
     have e : ls.take q = ls:=List.take_of_length_le (by rw [← L1.out];omega)
     have h2:=hr.out
     have e2:=hF.out
     rw [e] at e2
     rw [e2] at h2
     exact ⟨_,rfl,h2.1,h2.2⟩
def iQ (l : List Bs) (w : World) (e : Ending) (w' : World) : Prop:=∃ v,e = .returned v ∧ aI w.heap.size w' l v ∧ Below w.heap.size w w'
theorem kB (ls : List (List Bs)) (a : Option Addr) (k c : Nat) (w : World) (h : fQ w ls (.slice a k c)) (hne : ∀ l ∈ ls,l ≠ []) (htot : ls.flatten.length * 16 ≤ 140737488355328) :
  Calls Tryz.prog 68 #[.slice a k c] w (iQ ls.flatten w):=by
 have HX:=Hd h
 have HE:=Hd hne
 have HT:=Hd htot
 clear h hne htot
 go_enter Tryz.func68,Tryz.ntmps68
 go_wp2_with fail
 refine (Concat_c ls a k c w HX.out HE.out HT.out).mono ?_
 rintro e w1 ⟨v,rfl,h1,h2⟩
 have R : Hid (iQ ls.flatten w (.returned v) w1):=⟨v,rfl,h1,h2⟩
 clear h1 h2
 go_wp2_with fail
 go_ret
 exact R
theorem qY : ∀ (b : Bool) (l : List Tm) (t : Tm),aQ b (l ++ [t]) = aQ b l ++ ((if b && l.isEmpty then wOf else wAnd) :: t.words)
 | b,[],t=>by cases b <;> simp [aQ]
 | b,x :: l,t=>by simp [aQ,qY false l t]
theorem Tm.words_args (t : Tm) : t.words = termWords t.name t.args:=by cases t;rfl
def twTo (n : Bs) (ts : List Tm) (i : Nat) : List Bs:=n :: aQ true (ts.take i)
theorem twTo_succ {n : Bs} {ts : List Tm} {i : Nat} {T : Tm} (h : ts[i]? = some T) : twTo n ts (i + 1) = twTo n ts i ++ ([if i = 0 then wOf else wAnd] ++ termWords T.name T.args):=by
 unfold twTo
 rw [List.take_add_one,h,Option.toList_some,qY,Tm.words_args]
 have hi : i < ts.length:=(List.getElem?_eq_some_iff.1 h).1
 have : (ts.take i).isEmpty = decide (i = 0):=by
  cases i with
  | zero=>simp
  | succ j=>cases ts with
   | nil=>simp at hi
   | cons x xs=>simp
 rw [this]
 by_cases h0 : i = 0 <;> simp [h0]
theorem twTo_le (n : Bs) (ts : List Tm) (i : Nat) : (twTo n ts i).length ≤ (termWords n ts).length:=by
 have key : ∀ (b : Bool) (l : List Tm) (i : Nat),(aQ b (l.take i)).length ≤ (aQ b l).length:=by
  intro b l
  induction l generalizing b with
  | nil=>intro i;simp
  | cons x l ih =>
   intro i
   cases i with
   | zero=>simp [aQ]
   | succ i=>simp only [List.take_succ_cons,aQ,List.length_cons,List.length_append];have:=ih false i;omega
 unfold twTo termWords
 simp only [List.length_cons,List.length_append]
 have:=key true ts i;omega
def TW (n : Bs) (ts : List Tm) : Prop:=∀ (a : Option Addr) (k c : Nat) (w : World),bI w ts (.slice a k c) → (termWords n ts).length ≤ 1000000 → Calls Tryz.prog 237 #[str n,.slice a k c] w (iQ (termWords n ts) w)
theorem pO {w : World} {b : Nat} {s : Bs} (h : w.cell? ⟨b,0,none⟩ = some (str s)) : aU w [s] (.slice (some ⟨b,0,none⟩) 1 1):=by
 refine At.sl_mk (by simp) (Nat.le_refl _) (by decide) fun j d hd=>?_
 have hj : j = 0:=by have:=(List.getElem?_eq_some_iff.1 hd).1;simp at this;omega
 subst hj
 cases hd
 exact ⟨_,h,rfl⟩
theorem pB {w : World} {b : Nat} {l1 l2 l3 : List Bs} {u1 u2 u3 : Value} (c1 : w.cell? ⟨b,0,none⟩ = some u1) (c2 : w.cell? ⟨b,0 + 1,none⟩ = some u2) (c3 : w.cell? ⟨b,0 + 2,none⟩ = some u3)
  (h1 : aU w l1 u1) (h2 : aU w l2 u2) (h3 : aU w l3 u3) : fQ w [l1,l2,l3] (.slice (some ⟨b,0,none⟩) 3 3):=by
 refine At.sl_mk (by simp) (Nat.le_refl _) (by decide) fun j d hd=>?_
 have hj : j < 3:=by have:=(List.getElem?_eq_some_iff.1 hd).1;simpa using this
 rcases (show j = 0 ∨ j = 1 ∨ j = 2 by omega) with rfl | rfl | rfl
 ·cases hd;exact ⟨_,c1,h1⟩
 ·cases hd;exact ⟨_,c2,h2⟩
 ·cases hd;exact ⟨_,c3,h3⟩
theorem qB {w : World} {b : Nat} {l1 l2 : List Bs} {u1 u2 : Value} (c1 : w.cell? ⟨b,0,none⟩ = some u1) (c2 : w.cell? ⟨b,0 + 1,none⟩ = some u2)
  (h1 : aU w l1 u1) (h2 : aU w l2 u2) : fQ w [l1,l2] (.slice (some ⟨b,0,none⟩) 2 2):=by
 refine At.sl_mk (by simp) (Nat.le_refl _) (by decide) fun j d hd=>?_
 have hj : j < 2:=by have:=(List.getElem?_eq_some_iff.1 hd).1;simpa using this
 rcases (show j = 0 ∨ j = 1 by omega) with rfl | rfl
 ·cases hd;exact ⟨_,c1,h1⟩
 ·cases hd;exact ⟨_,c2,h2⟩
theorem sX (w : World) (s : Bs) : aI w.heap.size (w.alloc (.cells #[str s] 9)) [s] (.slice (some ⟨w.heap.size,0,none⟩) 1 1) :=
 ⟨rfl,.inr ⟨w.heap.size,1,#[str s],rfl,Nat.le_refl _,heap_alloc_new w _,Nat.le_refl _,by decide,rfl,rfl⟩⟩
theorem GP {wr w1 : World} {A : Obj} {ah : Bs} {l m : List Bs} {y0 : Option Addr} {y1 y2 : Nat} {z0 : Option Addr} {z1 z2 : Nat} (h : aU wr l (.slice y0 y1 y2))
  (b1 : Below ((wr.alloc A).alloc (.cells #[str ah] 9)).heap.size ((wr.alloc A).alloc (.cells #[str ah] 9)) w1) (o1 : aU w1 m (.slice z0 z1 z2)) (T : TypeId) :
  fQ (w1.alloc (.cells #[.slice y0 y1 y2,.slice (some ⟨wr.heap.size + 1,0,none⟩) 1 1,.slice z0 z1 z2] T)) [l,[ah],m] (.slice (some ⟨w1.heap.size,0,none⟩) 3 3):=by
 have k1 : aR w1 (w1.alloc (.cells #[.slice y0 y1 y2,.slice (some ⟨wr.heap.size + 1,0,none⟩) 1 1,.slice z0 z1 z2] T)):=bH _ _
 refine pB (u1:=.slice y0 y1 y2) (u2:=.slice (some ⟨wr.heap.size + 1,0,none⟩) 1 1) (u3:=.slice z0 z1 z2) (by simp [go_sem]) (by simp [go_sem]) (by simp [go_sem]) (h.keep ((iJ _ _ _).trans ((aA b1).trans k1))) ?_ (o1.keep k1)
 have c : ((wr.alloc A).alloc (.cells #[str ah] 9)).cell? ⟨wr.heap.size + 1,0,none⟩ = some (str ah):=by simp [go_sem]
 exact (pO c).keep ((aA b1).trans k1)
theorem KM {w wr w1 w2 : World} {A A' O : Obj} {l : List Bs} {v : Value} (h : Below w.heap.size w wr) (b1 : Below ((wr.alloc A).alloc A').heap.size ((wr.alloc A).alloc A') w1)
  (o2 : aI (w1.alloc O).heap.size w2 l v) (b2 : Below (w1.alloc O).heap.size (w1.alloc O) w2) : aI w.heap.size w2 l v ∧ Below w.heap.size w w2:=by
 have s1:=(iT b1).size
 have s0:=h.size
 exact ⟨o2.mono (by simp;omega),h.trans (((iT b1).mono s0).trans ((bB b2).mono (by omega)))⟩
set_option maxHeartbeats 1600000 in
theorem termWords_step (n : Bs) (ts : List Tm) (hh : ∀ t ∈ ts,TW t.name t.args) : TW n ts:=by
 intro a k c w h hlim
 have hk:=h.len
 have hlen : k ≤ 9223372036854775807:=by have:=le63 hk.2.2;omega
 have L1:=Hd hk.1
 have HX:=Hd h
 have HH:=Hd hh
 have HL:=Hd hlim
 clear hk h hh hlim
 go_enter Tryz.func237,Tryz.ntmps237
 go_wp2_with fail
 go_loopw [5,13] (fun u i wr=>∃ j : Nat,j ≤ k ∧ i = .int .i64 j ∧ Hid (aI w.heap.size wr (twTo n ts j) u ∧ Below w.heap.size w wr)) (fun _ i _=>k - (intOf i).toNat)
 case atStart=>exact ⟨0,Nat.zero_le _,rfl,sX w n,bnew⟩
 case round =>
  obtain ⟨j,hj,rfl,hr⟩:=hrel
  by_cases hlt : j < k
  ·obtain ⟨T,hT⟩:=aF (l:=ts) (j:=j) (by rw [← L1.out];exact hlt)
   obtain ⟨b,off,rfl,hc⟩:=HX.out.get (aJ hT)
   obtain ⟨x0,x1,x2,hx⟩:=hc j _ hT
   have hK:=aA hr.out.2
   have c0:=hK _ _ hx.c0;have c1:=hK _ _ hx.c1;have c2:=hK _ _ hx.c2
   have X:=Hd (hx.at_.keep hK)
   have E:=Hd (twTo_succ (n:=n) hT)
   have E2:=Hd (twTo_le n ts (j + 1))
   have HM:=Hd (HH.out T (List.mem_of_getElem? hT))
   obtain ⟨y0,y1,y2,rfl⟩:=hr.out.1.strsAt.slice
   obtain ⟨ah,hah⟩ : ∃ ah : Bs,ah = if j = 0 then wOf else wAnd:=⟨_,rfl⟩
   have AH:=Hd hah
   rw [← hah] at E
   have B1 : Hid ((termWords T.name T.args).length ≤ 1000000):=by
    have h1:=E.out;have h2:=E2.out;have h3:=HL.out
    rw [h1] at h2;simp only [List.length_append] at h2;show _ ≤ _;omega
   have B2 : Hid (([twTo n ts j,[ah],termWords T.name T.args] : List (List Bs)).flatten.length * 16 ≤ 140737488355328):=by
    have h1:=E.out;have h2:=E2.out;have h3:=HL.out
    rw [h1] at h2;simp only [List.length_append] at h2
    show _ ≤ _;simp only [List.flatten_cons,List.flatten_nil,List.length_append,List.length_nil];omega
   have B3 : Hid (∀ l ∈ ([twTo n ts j,[ah],termWords T.name T.args] : List (List Bs)),l ≠ []):=by
    intro l hl;simp only [List.mem_cons,List.mem_nil_iff,or_false] at hl
    rcases hl with rfl | rfl | rfl <;> simp [twTo,termWords]
   have B4 : Hid (([twTo n ts j,[ah],termWords T.name T.args] : List (List Bs)).flatten = twTo n ts (j + 1)):=by show _ = _;rw [E.out];simp
   have SO:=Hd hr.out.1.strsAt
   clear hc hx hT hK hah
   by_cases hj0 : j = 0
   ·have t0 : ((j : Int) == 0) = true:=by simpa using hj0
    have AH2 : Hid (ah = wOf):=by show _ = _;rw [AH.out,if_pos hj0]
    clear hj0 AH
    go_wp2_with fail
    refine (HM.out _ _ _ _ (X.out.keep (iJ _ _ _)) B1.out).mono ?_
    rintro e w1 ⟨v1,rfl,o1,b1⟩
    obtain ⟨z0,z1,z2,rfl⟩:=o1.strsAt.slice
    have LT:=Hd (GP (ah:=ah) SO.out (by rw [AH2.out];exact b1) o1.strsAt 36)
    have BB:=Hd b1
    clear b1 o1
    go_wp2_with fail
    refine (kB _ _ _ _ _ LT.out B3.out B2.out).mono ?_
    rintro e w2 ⟨v2,rfl,o2,b2⟩
    have R:=Hd (KM hr.out.2 BB.out o2 b2)
    rw [B4.out] at R
    clear o2 b2
    go_wp2_with fail
    go_roundw
    case rel=>exact ⟨j + 1,by omega,by go_num,R⟩
    case measure=>simp [intOf];omega
   ·have t0 : ((j : Int) == 0) = false:=by simpa using hj0
    have AH2 : Hid (ah = wAnd):=by show _ = _;rw [AH.out,if_neg hj0]
    clear hj0 AH
    go_wp2_with fail
    refine (HM.out _ _ _ _ (X.out.keep (iJ _ _ _)) B1.out).mono ?_
    rintro e w1 ⟨v1,rfl,o1,b1⟩
    obtain ⟨z0,z1,z2,rfl⟩:=o1.strsAt.slice
    have LT:=Hd (GP (ah:=ah) SO.out (by rw [AH2.out];exact b1) o1.strsAt 36)
    have BB:=Hd b1
    clear b1 o1
    go_wp2_with fail
    refine (kB _ _ _ _ _ LT.out B3.out B2.out).mono ?_
    rintro e w2 ⟨v2,rfl,o2,b2⟩
    have R:=Hd (KM hr.out.2 BB.out o2 b2)
    rw [B4.out] at R
    clear o2 b2
    go_wp2_with fail
    go_roundw
    case rel=>exact ⟨j + 1,by omega,by go_num,R⟩
    case measure=>simp [intOf];omega
  ·have e : twTo n ts j = n :: aQ true ts:=by unfold twTo;rw [List.take_of_length_le (by rw [← L1.out];omega)]
   have hr2:=hr
   rw [e] at hr2
   have HR:=Hd hr2.out
   clear hr hr2 e
   by_cases hz : 0 < k
   ·have hts : Hid (termWords n ts = (n :: aQ true ts) ++ [cB]):=by
     have : ts ≠ []:=by intro e;have:=L1.out;simp [e] at this;omega
     show _ = _
     cases ts with
     | nil=>exact absurd rfl this
     | cons x xs=>simp [termWords]
    generalize (n :: aQ true ts) = M at *
    have C3 : Hid (M.length + 1 ≤ maxLen ∧ (M.length + 1) * 16 ≤ 140737488355328):=by
     have h1:=HL.out
     rw [hts.out,List.length_append] at h1
     simp only [List.length_cons,List.length_nil] at h1
     exact ⟨by unfold maxLen;omega,by omega⟩
    obtain ⟨i0,hi0,hz0,hs0,hb0⟩:=info_parts sP
    have C6:=Hd HR.out.2.size
    go_wp2_with (at_builtin;refine wpList_append_own _ rfl _ _ 36 rfl w.heap.size 9 i0 (.string ⟨#[]⟩) 1 16 Tryz.underlying36 hi0 hz0 hs0 hb0 rfl (by decide) _ _ _ rfl (HR.out.1.alloc _) ⟨wr.heap.size,0,none⟩ 1 1 [str cB] rfl rfl (cell_one_new _ _ _) (by intro u hu;simp at hu;subst hu;rfl) C3.out.1 C3.out.2 (by have:=C6.out;simp;omega) ?_)
    intro v' w2 hown2 hg2 _
    have R2 : Hid (iQ (termWords n ts) w (.returned v') w2):=by
     refine ⟨v',rfl, ?_,(HR.out.2.alloc HR.out.2.size _).grown hg2 (by have:=HR.out.2.size;simp;omega) (fun kk hkk=>(HR.out.1.lt kk hkk).1)⟩
     unfold aI
     rw [hts.out,List.length_append,List.map_append]
     exact hown2
    clear hown2 hg2
    go_wp2_with fail
    go_ret
    exact R2
   ·have hts : Hid (termWords n ts = n :: aQ true ts):=by
     have : ts = []:=List.eq_nil_of_length_eq_zero (by rw [← L1.out];omega)
     subst this;rfl
    have hz2 : k = 0:=by omega
    go_wp2_with fail
    go_ret
    exact ⟨_,rfl,by rw [hts.out];exact HR.out.1,HR.out.2⟩
mutual
theorem vX : ∀ t : Tm,TW t.name t.args
 | .mk _ n ts=>termWords_step n ts (qX ts)
theorem qX : ∀ l : List Tm,∀ t ∈ l,TW t.name t.args
 | [],_,h=>by cases h
 | x :: xs,t,h=>by
  rcases List.mem_cons.1 h with e | e
  ·rw [e];exact vX x
  ·exact qX xs t e
end
theorem termWords_any (n : Bs) (ts : List Tm) : TW n ts:=vX (.mk true n ts)
end Go.Proofs.YtcandidgaegghaaGreatDoor
