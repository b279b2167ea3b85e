/- slices.SortFunc at symbols. Conditions: those of each statement. -/
import Derived.Test.YtppfalbnhnpbnaaGreatDoorSdBC
import Derived.Test.YtppfalbnhnpbnaaGreatDoorShSortC
import Derived.Test.YtppfalbnhnpbnaaGreatDoorClAC
import Derived.Shelf.SlSortCmp.InsertionK
import Derived.Test.YtppfalbnhnpbnaaGreatDoorPdCC
import Derived.Shelf.SlSortCmp.WholeK
import Derived.RangeFuncBound
import Derived.Test.YtppfalbnhnpbnaaGreatDoorRnCC
import Derived.Test.YtppfalbnhnpbnaaGreatDoorSdAC
import Derived.Test.YtppfalbnhnpbnaaGreatDoorFlwC
import Derived.Test.YtppfalbnhnpbnaaGreatDoorKyAC
import Derived.Test.YtppfalbnhnpbnaaGreatDoorSameBC
set_option linter.unusedSimpArgs false
set_option linter.unusedVariables false
namespace Go.Proofs.YtppfalbnhnpbnaaGreatDoor
open Go Go.RowKit Ly
set_option maxRecDepth 100000
def cmpX (a b : Bs × Nat) : Int:=if Lib.compareBytes a.1 b.1 = 0 then Lib.compareInt a.2 b.2 else Lib.compareBytes a.1 b.1
theorem AE : ∀ a b : Bs,Lib.compareBytes a b < 0 ↔ a < b
 | [],[]=>by simp [Lib.compareBytes]
 | [],b :: bs=>by simp [Lib.compareBytes]
 | a :: xs,[]=>by simp [Lib.compareBytes]
 | a :: xs,b :: bs=>by
  rw [Lib.compareBytes,List.cons_lt_cons_iff]
  by_cases h1 : a < b
  ·simp [h1]
  ·by_cases h2 : b < a
   ·have : a ≠ b:=fun e=>by subst e;exact h1 h2
    simp [h1,h2,this]
   ·have e : a = b:=UInt8.le_antisymm (UInt8.not_lt.1 h2) (UInt8.not_lt.1 h1)
    simp [h1,h2,e,AE xs bs]
theorem nU (a b : Bs × Nat) : ltOf cmpX a b = true ↔ a.1 < b.1 ∨ (a.1 = b.1 ∧ a.2 < b.2):=by
 unfold ltOf cmpX
 rw [decide_eq_true_eq]
 by_cases h : Lib.compareBytes a.1 b.1 = 0
 ·have e:=(fD _ _).1 h
  rw [if_pos h,e]
  have : ¬ b.1 < b.1:=List.lt_irrefl _
  unfold Lib.compareInt
  by_cases h2 : (a.2 : Int) < b.2
  ·simp [h2,this];omega
  ·by_cases h3 : (a.2 : Int) > b.2 <;> simp [h2,h3,this] <;> omega
 ·have e : a.1 ≠ b.1:=fun e=>h ((fD _ _).2 e)
  rw [if_neg h,AE]
  simp [e]
theorem cmpX_swo : Go.Sort.SWO (ltOf cmpX):=by
 refine ⟨fun x=>?_,fun x y z h1 h2=>?_,fun x y z h1 h2=>?_⟩
 ·rw [Bool.eq_false_iff]
  intro h
  rcases (nU _ _).1 h with h | h
  ·exact List.lt_irrefl _ h
  ·omega
 ·rw [nU] at h1 h2 ⊢
  rcases h1 with h1 | ⟨e1,h1⟩ <;> rcases h2 with h2 | ⟨e2,h2⟩
  ·exact .inl (List.lt_trans h1 h2)
  ·exact .inl (e2 ▸ h1)
  ·exact .inl (e1 ▸ h2)
  ·exact .inr ⟨e1.trans e2,by omega⟩
 ·rw [Bool.eq_false_iff] at h1 h2 ⊢
  intro h3
  have h1:=fun h=>h1 ((nU _ _).2 h)
  have h2:=fun h=>h2 ((nU _ _).2 h)
  have a1 : y.1 ≤ x.1:=List.not_lt.1 fun h=>h1 (.inl h)
  have a2 : z.1 ≤ y.1:=List.not_lt.1 fun h=>h2 (.inl h)
  rcases (nU _ _).1 h3 with h | ⟨e,h⟩
  ·exact absurd h (List.not_lt.2 (List.le_trans a2 a1))
  ·have e1 : y.1 = x.1:=List.le_antisymm a1 (by rw [e];exact a2)
   have e2 : z.1 = y.1:=by rw [e1,← e]
   have b1 : ¬ x.2 < y.2:=fun h=>h1 (.inr ⟨e1.symm,h⟩)
   have b2 : ¬ y.2 < z.2:=fun h=>h2 (.inr ⟨e2.symm,h⟩)
   omega
set_option maxHeartbeats 4000000 in
theorem cmpX_c (x y : Bs × Nat) (W : World) : Calls Tryz.prog 206 #[.agg #[str x.1,.int .i64 x.2],.agg #[str y.1,.int .i64 y.2]] W fun e w'=>e = .returned (.int .i64 (cmpX x y)) ∧ ∃ q os',w' = Go.Sort.grow (W.drewN q) os':=by
 obtain ⟨x1,x2⟩:=x
 obtain ⟨y1,y2⟩:=y
 have HS : Hid (∀ w,Calls Tryz.prog 125 #[str x1,str y1] w fun e w'=>e = .returned (.int .i64 (Lib.compareBytes x1 y1)) ∧ w' = w):=fun w=>by simpa using Tryz.strings_Compare ⟨x1.toArray⟩ ⟨y1.toArray⟩ w
 have HI : Hid (∀ w,Calls Tryz.prog 179 #[.int .i64 x2,.int .i64 y2] w fun e w'=>e = .returned (.int .i64 (Lib.compareInt x2 y2)) ∧ w' = w):=fun w=>Tryz.cmp_Compare_int x2 y2 w
 have HE : Hid (cmpX (x1,x2) (y1,y2) = if Lib.compareBytes x1 y1 = 0 then Lib.compareInt x2 y2 else Lib.compareBytes x1 y1):=rfl
 obtain ⟨R,hR⟩ : ∃ R,cmpX (x1,x2) (y1,y2) = R:=⟨_,rfl⟩
 rw [hR] at HE ⊢
 obtain ⟨A,hA⟩ : ∃ A,Lib.compareBytes x1 y1 = A:=⟨_,rfl⟩
 obtain ⟨B,hB⟩ : ∃ B,Lib.compareInt x2 y2 = B:=⟨_,rfl⟩
 rw [hA] at HS HE
 rw [hB] at HI HE
 clear hR hA hB
 go_enter Tryz.func206,Tryz.ntmps206
 by_cases hz : A = 0
 ·subst hz
  go_wp2_with (first | (go_at_call 125;refine (HS.out _).mono ?_;rintro e w1 ⟨rfl,rfl⟩) | (go_at_call 179;refine (HI.out _).mono ?_;rintro e w2 ⟨rfl,rfl⟩))
  go_ret
  refine ⟨by have:=HE.out;simp at this;rw [this];rfl,0,_,by rw [Go.Sort.alloc_eq_grow,Go.Sort.alloc_eq_grow,Go.Sort.grow_grow];rfl⟩
 ·have t1 : (A == 0) = false:=beq_eq_false_iff_ne.2 hz
  have t2 : (A != 0) = true:=bne_iff_ne.2 hz
  go_wp2_with (first | (go_at_call 125;refine (HS.out _).mono ?_;rintro e w1 ⟨rfl,rfl⟩))
  go_ret
  refine ⟨by have:=HE.out;rw [if_neg hz] at this;rw [this];rfl,0,_,by rw [Go.Sort.alloc_eq_grow,Go.Sort.alloc_eq_grow,Go.Sort.grow_grow];rfl⟩
theorem sV : ∀ (l : List (Bs × Nat)) (i : Nat) (x : Bs × Nat),l[i]? = some x → ∀ j,j < 2 → (gA l)[i * 2 + j]? = (encL x)[j]?
 | [],i,x,h,_,_=>by simp at h
 | y :: ys,0,x,h,j,hj=>by
  simp at h;subst h
  rw [gA,List.flatMap_cons,Nat.zero_mul,Nat.zero_add,List.getElem?_append_left (by simpa [encL] using hj)]
 | y :: ys,i + 1,x,h,j,hj=>by
  have:=sV ys i x (by simpa using h) j hj
  rw [gA,List.flatMap_cons,List.getElem?_append_right (by simp [encL];omega)]
  rw [← this]
  congr 1
  simp [encL];omega
theorem uR (d : Array (Bs × Nat)) : Go.Sort.flatK encL 2 d = (gA d.toList).toArray:=by
 apply Array.ext
 ·simp [kI]
 ·intro t h1 h2
  rw [Go.Sort.size_flatK] at h1
  have hi : t / 2 < d.size:=by omega
  have:=sV d.toList (t / 2) d[t / 2] (by simp [hi]) (t % 2) (by omega)
  rw [show t / 2 * 2 + t % 2 = t by omega] at this
  have g:=Go.Sort.get_flatK encL 2 d t h1
  rw [getElem!_pos _ t (by rw [Go.Sort.size_flatK];exact h1),getElem!_pos d (t / 2) hi] at g
  rw [g]
  have h3 : t < (gA d.toList).length:=by simpa using h2
  rw [List.getElem?_eq_getElem h3] at this
  simp only [List.getElem_toArray]
  have h4 : t % 2 < (encL d[t / 2]).length:=by simp [encL];omega
  rw [List.getElem?_eq_getElem h4] at this
  rw [Option.some.inj this,getElem!_pos (encL d[t / 2]) (t % 2) h4]
end Go.Proofs.YtppfalbnhnpbnaaGreatDoor
namespace Go.Proofs.YtppfalbnhnpbnaaGreatDoor
open Go Go.RowKit Ly
set_option maxRecDepth 100000
set_option maxHeartbeats 4000000
theorem ins_none (p : Option Addr) (cap : Nat) (fv : Value) (w : World) : Calls Tryz.prog 267 #[.slice p 0 cap,.int .i64 0,.int .i64 0,fv] w fun e w'=>e = .returned (.tuple #[]) ∧ w' = w:=by
 go_enter Tryz.func267,Tryz.ntmps267
 go_wp2
 refine wp_loop_rounds 1 ?_
 rw [rounds_succ]
 go_wp2
 go_end0
 exact ⟨rfl,rfl⟩
theorem pdq_none (p : Option Addr) (cap : Nat) (lim : Int) (fv : Value) (w : World) : Calls Tryz.prog 256 #[.slice p 0 cap,.int .i64 0,.int .i64 0,.int .i64 lim,fv] w fun e w'=>e = .returned (.tuple #[]) ∧ w' = w:=by
 have hi:=fun W=>ins_none p cap fv W
 go_enter Tryz.func256,Tryz.ntmps256
 go_wp2
 refine wp_loop_rounds 1 ?_
 rw [rounds_succ]
 go_wp2_with (go_at_call 267;refine (hi _).mono ?_;rintro e w' ⟨rfl,rfl⟩)
 (try simp only [Exit.inBlock,Exit.then]);refine bodyPost_ret (results_none rfl _ _ _) rfl ?_
 exact ⟨rfl,rfl⟩
theorem len219 (n : Nat) (w : World) (h : n ≤ 100000) : Calls Tryz.prog 219 #[.int .u64 (n : Int)] w fun e w'=>e = .returned (.int .i64 (Lib.bitLen n : Nat)) ∧ w' = w:=by
 have h:=Any.bits_Len (SlLaysF0.n15.bits (P:=Tryz.prog) (ρ:=Tryz.sortFn234_ren) { Tryz.sortFn234 with }) (n : Int) w (by omega) (by omega)
 rwa [Int.toNat_natCast] at h
theorem sort_none (p : Option Addr) (cap : Nat) (fv : Value) (w : World) : Calls Tryz.prog 234 #[.slice p 0 cap,fv] w fun e w'=>e = .returned (.tuple #[]) ∧ w' = w:=by
 have hl:=len219 0 w (by omega)
 have hp:=fun W l=>pdq_none p cap l fv W
 go_enter Tryz.func234,Tryz.ntmps234
 go_wp2_with (first | (go_at_call 219;refine hl.mono ?_;rintro e w' ⟨rfl,rfl⟩) | (go_at_call 256;refine (hp _ _).mono ?_;rintro e w' ⟨rfl,rfl⟩))
 go_end0
 exact ⟨rfl,rfl⟩
theorem enters206 : ∀ args w,(callFunc 206 args).run Tryz.prog w = .ok (.enter 206 args) w:=enters_of Tryz.func206 (by kernel_rfl) rfl
theorem holds_row {W : World} {g : Nat} {cur : Array Value} {l : List (Bs × Nat)} (hg : W.heap[g]? = some (.cells cur 51 (0,0))) (ht : cur.toList.take (l.length * 2) = gA l) : Go.Sort.HoldsK encL 2 W g 0 l.toArray:=by
 intro j hj
 rw [uR] at hj ⊢
 have hj' : j < (gA l).length:=by simpa using hj
 refine ⟨?_,by simp [World.frozen?,hg]⟩
 have e : cur[j]? = (gA l)[j]?:=by
  rw [← ht,List.getElem?_take_of_lt (by rw [kI] at hj';exact hj')]
  simp
 have h2:=bE hg j
 rw [Nat.zero_add,h2,e,List.getElem?_eq_getElem hj']
 simp [hj']
theorem sort_row (g cap : Nat) (l : List (Bs × Nat)) (cur : Array Value) (W : World) (hg : W.heap[g]? = some (.cells cur 51 (0,0))) (ht : cur.toList.take (l.length * 2) = gA l) (hl : l.length ≤ 100000) :
  Calls Tryz.prog 234 #[.slice (some ⟨g,0,none⟩) l.length cap,.func (.func 206) #[] #[]] W fun e w'=>e = .returned (.tuple #[]) ∧ ∃ l' : List (Bs × Nat),l'.Perm l ∧ W.grownBy w' (some g) ∧ Go.Sort.HoldsK encL 2 w' g 0 l'.toArray:=by
 have hH:=holds_row hg ht
 have lt:=(Array.getElem?_eq_some_iff.1 hg).1
 have h:=AnyQ.slices_SortFunc Tryz.sortFn234 2 Tryz.isAgg51 Tryz.sizeOf51 encL (fun _=>rfl) (fun x v hv=>by simp [encL] at hv;rcases hv with rfl | rfl <;> rfl) cmpX cmpX_swo 206 #[] g 0 cap l.toArray W enters206 (fun m os dk hs x y=>cmpX_c x y _) hH lt (by simp;omega)
 change Calls Tryz.prog 234 _ _ _ at h
 rw [List.size_toArray] at h
 refine h.mono ?_
 rintro e w' ⟨rfl,d',n,os,⟨hs,-,hp⟩,-,rfl⟩
 refine ⟨rfl,d'.toList, ?_, ?_, ?_⟩
 ·simp only [List.size_toArray] at hs
  have e1 : d'.extract 0 l.length = d':=by rw [← hs];simp
  rw [e1] at hp
  simpa using hp
 ·refine ⟨rfl,rfl,rfl,by simp [sortWorldK,Go.Sort.putRowK],fun k hk hne=>?_⟩
  unfold sortWorldK Go.Sort.putRowK
  rw [Go.Sort.heap_grow_old _ _ (by simpa using hk)]
  have : g ≠ k:=fun e=>hne (by rw [e])
  simp [Go.Sort.putRow,Go.Sort.mapBlock,Go.Sort.ahead,Array.getElem?_modify,this]
 ·exact holdsK_sortWorldK encL 2 W g 0 n l.toArray d' os lt hH (by simpa using hs)
theorem wL (l : List (Bs × Nat)) : pR l = (gA l).map D.val:=by
 induction l with
 | nil=>rfl
 | cons x l ih=>simp only [pR,gA,List.flatMap_cons,List.map_append] at ih ⊢;rw [ih];rfl
theorem syms_at {W : World} {g cap : Nat} {l : List (Bs × Nat)} (h : Go.Sort.HoldsK encL 2 W g 0 l.toArray) (h1 : l.length ≤ cap) (h2 : cap ≤ maxLen) : fI W l (.slice (some ⟨g,0,none⟩) l.length cap):=by
 refine At.sl_mk (by rw [wL,List.length_map,kI]) h1 h2 fun j d hd=>?_
 rw [wL,List.getElem?_map] at hd
 have hj : j < (gA l).length:=by
  rcases Nat.lt_or_ge j (gA l).length with h | h
  ·exact h
  ·rw [List.getElem?_eq_none h] at hd;cases hd
 rw [List.getElem?_eq_getElem hj] at hd
 cases hd
 have:=h j (by rw [uR];simpa using hj)
 rw [uR] at this
 exact ⟨_,by rw [this.1];simp [hj],rfl⟩
theorem collectX_c (lb : Array Value) (S : List (Bs × Nat) → Prop) (N : Nat) (hN : N ≤ 100000) (w : World) (hseq : ∀ n,1 ≤ n → SeqGives Fence.wide n Tryz.prog 235 lb encX S N w) :
  Calls Tryz.prog 233 #[.func (.func 235) #[] lb] w fun e w'=>∃ v ss,e = .returned v ∧ S ss ∧ w'.ownsRow w.heap.size 51 2 v ss.length (gA ss) ∧ Below w.heap.size w w':=by
 have H:=appendSeqX_c lb S N hN w hseq
 clear hseq
 go_enter Tryz.func233,Tryz.ntmps233
 go_wp2_with (go_at_call 255;refine H.mono ?_;rintro e w' ⟨v,ss,rfl,hS,hrow,hb⟩)
 go_ret
 exact ⟨v,ss,rfl,hS,hrow,hb⟩
theorem sortedX_c (lb : Array Value) (S : List (Bs × Nat) → Prop) (N : Nat) (hN : N ≤ 100000) (w : World) (hseq : ∀ n,1 ≤ n → SeqGives Fence.wide n Tryz.prog 235 lb encX S N w) :
  Calls Tryz.prog 204 #[.func (.func 235) #[] lb,.func (.func 206) #[] #[]] w fun e w'=>∃ v ss l',e = .returned v ∧ S ss ∧ l'.Perm ss ∧ fI w' l' v ∧ ss.length ≤ N ∧ Below w.heap.size w w':=by
 have H:=collectX_c lb _ N hN w (fun n hn=>(hseq n hn).bounded)
 clear hseq
 go_enter Tryz.func204,Tryz.ntmps204
 go_wp2_with (go_at_call 233;refine H.mono ?_;rintro e w1 ⟨v,ss,rfl,⟨hS,hlen⟩,hrow,hb⟩)
 rcases hrow.2 with ⟨rfl,hz⟩ | ⟨g,cap,cur,rfl,hbase,hgb,r1,r2,r3,r4⟩
 ·have hss : ss = []:=List.eq_nil_of_length_eq_zero hz
  subst hss
  go_wp2_with (go_at_call 234;refine (sort_none none 0 _ w1).mono ?_;rintro e w' ⟨rfl,rfl⟩)
  go_ret
  exact ⟨_,[],[],rfl,hS,List.Perm.refl _,At.sl_nil (by unfold maxLen;omega),hlen,hb⟩
 ·have C:=sort_row g cap ss cur w1 hgb r4 (by omega)
  go_wp2_with (go_at_call 234;refine C.mono ?_;rintro e w' ⟨rfl,l',hp,hg,hh⟩)
  go_ret
  have hl:=hp.length_eq
  refine ⟨_,ss,l',rfl,hS,hp, ?_,hlen,hb.grown hg hb.size (fun k e=>by cases e;exact hbase)⟩
  rw [← hl] at r1 ⊢
  exact syms_at hh r1 r2
theorem sorted_c : pY:=by
 intro W M n l hs hn hok
 obtain ⟨w1,hw1⟩ : ∃ w1,W.alloc (.cells #[.map (some M)] 186) = w1:=⟨_,rfl⟩
 have b1 : Below W.heap.size W w1:=by rw [← hw1];exact (Below.refl _ _).alloc (Nat.le_refl _) _
 have r1 : w1.heap[W.heap.size]? = some (.cells #[.map (some M)] 186 (0,0)):=by rw [← hw1];exact heap_alloc_new W _
 have H:=sortedX_c #[one W.heap.size] (fun ss=>∀ s,s ∈ ss ↔ okX s ∧ s ∈ l) n hn w1 (fun k hk=>fun r J X hX hJ hY h0 =>
  keysX_in Fence.wide k trivial rfl hk r W.heap.size M n l J hY X hJ ((bE ((hX.block _ (Array.getElem?_eq_some_iff.1 r1).1).trans r1) 0).trans rfl) (hs.heap ((hX.block _ (Nat.lt_of_lt_of_le hs.lt b1.size)).trans (b1.block _ hs.lt))) h0)
 have HO:=Lib.hid hok
 have HN:=Lib.hid hn
 have HB:=Lib.hid b1
 clear hs hn hok b1 r1
 go_enter Tryz.func162,Tryz.ntmps162
 go_wp2_with (first
  | (go_at_call 205;refine (keysX_c (some M) W).mono ?_;rintro e w2 ⟨rfl,rfl⟩)
  | (go_at_call 204;refine H.mono ?_;rintro e w3 ⟨v,ss,l',rfl,hS,hp,hv,hlen,hb⟩))
 go_ret
 refine ⟨l',v,rfl,fun s=>?_,hv,HB.out.trans (hb.mono HB.out.size),by rw [hp.length_eq];have:=HN.out;omega⟩
 rw [hp.mem_iff,hS]
 exact ⟨fun h=>h.2,fun h=>⟨HO.out s h,h⟩⟩
end Go.Proofs.YtppfalbnhnpbnaaGreatDoor
namespace Go.Proofs.YtppfalbnhnpbnaaGreatDoor
open Go Go.RowKit Ly
set_option maxRecDepth 10000
def RetR (L R : List Fm) (z : Int) (w : World) (e : Ending) (w' : World) : Prop :=
 ∃ a n c b m d,e = .returned (.tuple #[.agg #[.slice a n c,.slice b m d],.int .i64 z]) ∧ aN (hide (lo w) w') L (.slice a n c) ∧ aN (hide (lo w) w') R (.slice b m d) ∧ Below w.heap.size w w'
theorem zL (tmps : Array Value) (w : World) (g : Nat) (a b z : Value) (h3 : tmps.getD 6 undef = one g) (h4 : tmps.getD 7 undef = z) (hg : w.heap[g]? = some (.cells #[a,b] 26 (0,0))) :
  (results Tryz.f29 tmps).run Tryz.prog w = .ok (.tuple #[.agg #[a,b],z]) w:=by
 have e3 : tmps[6]?.getD undef = .pointer (some ⟨g,0,none⟩):=by simpa using h3
 have e4 : tmps[7]?.getD undef = z:=by simpa using h4
 simp [results,Tryz.results29,e3,e4,asAddr,run_loadVar_row w g 26 26 #[a,b] (0,0) _ hg Tryz.underlying26 rfl iSq]
structure MidD (W : World) (x0 x1 : Value) (a b : Bs) (k : Nat) (X : World) : Prop where
 bt : Below W.heap.size W X
 r0 : X.heap[W.heap.size]? = some (.cells #[x0,x1] 26 (0,0))
 r1 : X.heap[W.heap.size + 1]? = some (.cells #[str a,.int .i64 k] 51 (0,0))
 r2 : X.heap[W.heap.size + 1 + 1]? = some (.cells #[str b,.int .i64 k] 51 (0,0))
 r3 : X.heap[W.heap.size + 1 + 1 + 1]? = some (.cells #[.slice none 0 0,.slice none 0 0] 26 (0,0))
section
variable {W : World} {x0 x1 : Value} {a b : Bs} {k : Nat} {X Y : World}
theorem MidD.next (h : MidD W x0 x1 a b k X) (e : Below X.heap.size X Y) : MidD W x0 x1 a b k Y :=
 ⟨h.bt.trans (e.mono h.bt.size),(e.block _ (Array.getElem?_eq_some_iff.1 h.r0).1).trans h.r0,(e.block _ (Array.getElem?_eq_some_iff.1 h.r1).1).trans h.r1,(e.block _ (Array.getElem?_eq_some_iff.1 h.r2).1).trans h.r2,(e.block _ (Array.getElem?_eq_some_iff.1 h.r3).1).trans h.r3⟩
theorem MidD.cells (h : MidD W x0 x1 a b k X) : ((X.cell? ⟨W.heap.size,0,none⟩ = some x0 ∧ X.cell? ⟨W.heap.size,1,none⟩ = some x1) ∧ (X.cell? ⟨W.heap.size + 1,0,none⟩ = some (str a) ∧ X.cell? ⟨W.heap.size + 1,1,none⟩ = some (.int .i64 k))) ∧ ((X.cell? ⟨W.heap.size + 1 + 1,0,none⟩ = some (str b) ∧ X.cell? ⟨W.heap.size + 1 + 1,1,none⟩ = some (.int .i64 k)) ∧
  X.cell? ⟨W.heap.size + 1 + 1 + 1,0,none⟩ = some (.slice none 0 0) ∧ X.cell? ⟨W.heap.size + 1 + 1 + 1,1,none⟩ = some (.slice none 0 0) ∧ X.frozen? ⟨W.heap.size + 1 + 1 + 1,0,none⟩ = false ∧ X.frozen? ⟨W.heap.size + 1 + 1 + 1,1,none⟩ = false):=by
 obtain ⟨p0,p1,-,-⟩:=row2 h.r0
 obtain ⟨q0,q1,-,-⟩:=row2 h.r1
 obtain ⟨s0,s1,-,-⟩:=row2 h.r2
 exact ⟨⟨⟨p0,p1⟩,q0,q1⟩,⟨s0,s1⟩,row2 h.r3⟩
end
theorem midD_new (W : World) (x0 x1 : Value) (a b : Bs) (k : Nat) : MidD W x0 x1 a b k ((((W.alloc (.cells #[x0,x1] 26)).alloc (.cells #[str a,.int .i64 k] 51)).alloc (.cells #[str b,.int .i64 k] 51)).alloc (.cells #[.slice none 0 0,.slice none 0 0] 26)):=by
 refine ⟨((((Below.refl _ _).alloc (Nat.le_refl _) _).alloc (by simp) _).alloc (by simp;omega) _).alloc (by simp;omega) _, ?_, ?_, ?_, ?_⟩
 ·exact aI _ (aI _ (aI _ (heap_alloc_new W _)))
 ·have:=heap_alloc_new (W.alloc (.cells #[x0,x1] 26)) (.cells #[str a,.int .i64 k] 51)
  rw [World.size_alloc] at this
  exact aI _ (aI _ this)
 ·have:=heap_alloc_new ((W.alloc (.cells #[x0,x1] 26)).alloc (.cells #[str a,.int .i64 k] 51)) (.cells #[str b,.int .i64 k] 51)
  rw [World.size_alloc,World.size_alloc] at this
  exact aI _ this
 ·have:=heap_alloc_new (((W.alloc (.cells #[x0,x1] 26)).alloc (.cells #[str a,.int .i64 k] 51)).alloc (.cells #[str b,.int .i64 k] 51)) (.cells #[.slice none 0 0,.slice none 0 0] 26)
  rw [World.size_alloc,World.size_alloc,World.size_alloc] at this
  exact this
def hasB (L R : List Fm) (a : Bs) (k : Nat) : Bool:=(L ++ R).any (fun f=>decide ((a,k) ∈ f.preds))
def renS (L R : List Fm) (a b : Bs) (k : Nat) : List Fm × List Fm × Int :=
 if hasB L R b k = true then ([],[],300) else if hasB L R a k = true then (iN ⟨80,a,k⟩ b L,iN ⟨80,a,k⟩ b R,0) else ([],[],6)
set_option maxHeartbeats 8000000 in
theorem oM (L R : List Fm) (x : Value) (W : World) (hr : cU W) (hx0 : cV W L R x) (h1 : okSq L R) (a b : Bs) (k : Nat) (ha : cW a = true) (hb : cW b = true) (hne : b ≠ a) :
  Calls Tryz.prog 29 #[x,.agg #[str a,.int .i64 k],.agg #[str b,.int .i64 k]] W (RetR (renS L R a b k).1 (renS L R a b k).2.1 (renS L R a b k).2.2 W):=by
 obtain ⟨xa,xn,xc,xb,xm,xd,rfl,hx,hy⟩:=hx0
 have KV : ∀ X,Below W.heap.size W X → cV X L R (.agg #[.slice xa xn xc,.slice xb xm xd]):=fun X hX=>⟨_,_,_,_,_,_,rfl,hx.keep (aA hX),hy.keep (aA hX)⟩
 have la : a.length ≤ maxLen:=by have:=dE ha;unfold maxLen;omega
 have lb : b.length ≤ maxLen:=by have:=dE hb;unfold maxLen;omega
 have SA : Hid (∀ X,Calls Tryz.prog 58 #[str a] X fun e w'=>e = .returned (str [80]) ∧ Below X.heap.size X w'):=fun X=>by have:=zQ a la X;rwa [yG,if_pos ha] at this
 have SB : Hid (∀ X,Calls Tryz.prog 58 #[str b] X fun e w'=>e = .returned (str [80]) ∧ Below X.heap.size X w'):=fun X=>by have:=zQ b lb X;rwa [yG,if_pos hb] at this
 have RC : Hid (∀ X,Below W.heap.size W X → Calls Tryz.prog 35 #[.agg #[.slice xa xn xc,.slice xb xm xd]] X fun e w'=>e = .returned (.bool true) ∧ Below X.heap.size X w'):=fun X hX=>yC L R _ X (hr.keep (aA hX)) (KV X hX) h1.1 h1.2.1 h1.2.2.1 h1.2.2.2
 have HC : Hid (∀ X n,Below W.heap.size W X → Calls Tryz.prog 59 #[.agg #[.slice xa xn xc,.slice xb xm xd],.agg #[str [80],str n,.int .i64 k]] X fun e w'=>e = .returned (.bool (hasB L R n k)) ∧ Below X.heap.size X w'):=fun X n hX=>hasP_c sorted_c L R _ n k X (KV X hX) h1
 have CC : Hid (∀ X,Below W.heap.size W X → Calls Tryz.prog 36 #[.agg #[.slice xa xn xc,.slice xb xm xd],.func (.func 61) #[.agg #[str [80],str a,.int .i64 k,str b]] #[]] X fun e w'=>∃ v,e = .returned v ∧ cV (hide (lo X) w') (iN ⟨80,a,k⟩ b L) (iN ⟨80,a,k⟩ b R) v ∧ Below X.heap.size X w'):=fun X hX=>by
  have rA : ∀ f ∈ L ++ R,f.right = true:=fun f hf=>by rcases List.mem_append.1 hf with h | h;exact h1.1 f h;exact h1.2.1 f h
  refine (change61_c (fun _=>False) (renV ⟨80,a,k⟩ b) (fun (_ : Unit) _=>True) (fun _ f=>(Fm.ren ⟨80,a,k⟩ b f,())) X L R () _ (KV X hX) (by have:=h1.2.2.1;omega) (by have:=h1.2.2.2;omega) trivial (fun _ _ _ _ _=>trivial) (fun _ _ _ k hk=>absurd hk (fun e=>e)) (fun k hk=>absurd hk (fun e=>e)) (fun j t ht Y y _ hY hv=>?_)).mono ?_
  ·have fr:=rA t (List.mem_of_getElem? ht)
   simp only [Fm.right,Bool.and_eq_true,decide_eq_true_eq] at fr
   refine (zM a b k t Y y hv (by omega)).mono ?_
   rintro e w' ⟨v,rfl,h1,h2⟩
   exact ⟨v,rfl,h1,trivial,.of_below h2⟩
  ·rintro e w' ⟨v,rfl,h1,-,h3⟩
   rw [jA,jA] at h1
   exact ⟨v,rfl,h1,h3.toBelow⟩
 have M0:=Lib.hid (midD_new W (.slice xa xn xc) (.slice xb xm xd) a b k)
 obtain ⟨W0,hW0⟩ : ∃ W0,((((W.alloc (.cells #[.slice xa xn xc,.slice xb xm xd] 26)).alloc (.cells #[str a,.int .i64 k] 51)).alloc (.cells #[str b,.int .i64 k] 51)).alloc (.cells #[.slice none 0 0,.slice none 0 0] 26)) = W0:=⟨_,rfl⟩
 rw [hW0] at M0
 obtain ⟨⟨⟨p0,p1⟩,q0,q1⟩,⟨s0,s1⟩,z0,z1,z2,z3⟩:=M0.out.cells
 unfold renS
 generalize hp : hasB L R b k = p at *
 generalize hq : hasB L R a k = q at *
 have HP:=Lib.hid hp
 have HQ:=Lib.hid hq
 clear hp hq hx hy KV h1 ha hb la lb hr
 go_enter Tryz.func29,Tryz.ntmps29
 cases p
 ·cases q
  ·go_wp2_with (first
    | (go_at_call 58;refine (SA.out _).mono ?_;rintro e w1 ⟨rfl,b1⟩;have M1:=Lib.hid (M0.out.next b1);clear b1 SA p0 p1 q0 q1 s0 s1 z0 z1 z2 z3;obtain ⟨⟨⟨p0,p1⟩,q0,q1⟩,⟨s0,s1⟩,z0,z1,z2,z3⟩:=M1.out.cells)
    | (go_at_call 35;refine (RC.out _ M1.out.bt).mono ?_;rintro e w2 ⟨rfl,b1⟩;have M2:=Lib.hid (M1.out.next b1);clear b1 RC p0 p1 q0 q1 s0 s1 z0 z1 z2 z3;obtain ⟨⟨⟨p0,p1⟩,q0,q1⟩,⟨s0,s1⟩,z0,z1,z2,z3⟩:=M2.out.cells)
    | (go_at_call 58;refine (SB.out _).mono ?_;rintro e w3 ⟨rfl,b1⟩;have M3:=Lib.hid (M2.out.next b1);clear b1 SB p0 p1 q0 q1 s0 s1 z0 z1 z2 z3;obtain ⟨⟨⟨p0,p1⟩,q0,q1⟩,⟨s0,s1⟩,z0,z1,z2,z3⟩:=M3.out.cells)
    | (have Z4:=M4.out;clear Z4;go_at_call 59;refine (HC.out _ a M4.out.bt).mono ?_;rw [HQ.out];rintro e w5 ⟨rfl,b1⟩;have M5:=Lib.hid (M4.out.next b1);clear b1 p0 p1 q0 q1 s0 s1 z0 z1 z2 z3;obtain ⟨⟨⟨p0,p1⟩,q0,q1⟩,⟨s0,s1⟩,z0,z1,z2,z3⟩:=M5.out.cells)
    | (go_at_call 59;refine (HC.out _ b M3.out.bt).mono ?_;rw [HP.out];rintro e w4 ⟨rfl,b1⟩;have M4:=Lib.hid (M3.out.next b1);clear b1 p0 p1 q0 q1 s0 s1 z0 z1 z2 z3;obtain ⟨⟨⟨p0,p1⟩,q0,q1⟩,⟨s0,s1⟩,z0,z1,z2,z3⟩:=M4.out.cells))
   refine bodyPost_ret (zL _ _ (W.heap.size + 1 + 1 + 1) (.slice none 0 0) (.slice none 0 0) _ rfl rfl (aC (o:=1) (u:=.slice none 0 0) (aC (o:=0) (u:=.slice none 0 0) M5.out.r3))) rfl ?_
   exact ⟨none,0,0,none,0,0,rfl,At.sl_nil (by unfold maxLen;omega),At.sl_nil (by unfold maxLen;omega),(M5.out.bt.setCell (by simp;omega) _).setCell (by simp;omega) _⟩
  ·go_wp2_with (first
    | (go_at_call 58;refine (SA.out _).mono ?_;rintro e w1 ⟨rfl,b1⟩;have M1:=Lib.hid (M0.out.next b1);clear b1 SA p0 p1 q0 q1 s0 s1 z0 z1 z2 z3;obtain ⟨⟨⟨p0,p1⟩,q0,q1⟩,⟨s0,s1⟩,z0,z1,z2,z3⟩:=M1.out.cells)
    | (go_at_call 35;refine (RC.out _ M1.out.bt).mono ?_;rintro e w2 ⟨rfl,b1⟩;have M2:=Lib.hid (M1.out.next b1);clear b1 RC p0 p1 q0 q1 s0 s1 z0 z1 z2 z3;obtain ⟨⟨⟨p0,p1⟩,q0,q1⟩,⟨s0,s1⟩,z0,z1,z2,z3⟩:=M2.out.cells)
    | (go_at_call 58;refine (SB.out _).mono ?_;rintro e w3 ⟨rfl,b1⟩;have M3:=Lib.hid (M2.out.next b1);clear b1 SB p0 p1 q0 q1 s0 s1 z0 z1 z2 z3;obtain ⟨⟨⟨p0,p1⟩,q0,q1⟩,⟨s0,s1⟩,z0,z1,z2,z3⟩:=M3.out.cells)
    | (
      go_at_call 36
      refine (CC.out _ M5.out.bt).mono ?_
      rintro e w6 ⟨v6,rfl,⟨ga,gn,gc,gb,gm,gd,rfl,h3,h4⟩,b6⟩
      have M6:=Lib.hid (M5.out.next b6)
      have H6:=Lib.hid (And.intro h3 (And.intro h4 b6))
      clear h3 h4 b6 CC p0 p1 q0 q1 s0 s1 z0 z1 z2 z3
      obtain ⟨⟨⟨p0,p1⟩,q0,q1⟩,⟨s0,s1⟩,z0,z1,z2,z3⟩:=M6.out.cells)
    | (have Z4:=M4.out;clear Z4;go_at_call 59;refine (HC.out _ a M4.out.bt).mono ?_;rw [HQ.out];rintro e w5 ⟨rfl,b1⟩;have M5:=Lib.hid (M4.out.next b1);clear b1 p0 p1 q0 q1 s0 s1 z0 z1 z2 z3;obtain ⟨⟨⟨p0,p1⟩,q0,q1⟩,⟨s0,s1⟩,z0,z1,z2,z3⟩:=M5.out.cells)
    | (go_at_call 59;refine (HC.out _ b M3.out.bt).mono ?_;rw [HP.out];rintro e w4 ⟨rfl,b1⟩;have M4:=Lib.hid (M3.out.next b1);clear b1 p0 p1 q0 q1 s0 s1 z0 z1 z2 z3;obtain ⟨⟨⟨p0,p1⟩,q0,q1⟩,⟨s0,s1⟩,z0,z1,z2,z3⟩:=M4.out.cells))
   obtain ⟨h3,h4,b6⟩:=H6.out
   have l5:=(Array.getElem?_eq_some_iff.1 M5.out.r3).1
   have key : ∀ k,k ≠ W.heap.size + 1 + 1 + 1 → ((w6.setCell ⟨W.heap.size + 1 + 1 + 1,0,none⟩ (.slice ga gn gc)).setCell ⟨W.heap.size + 1 + 1 + 1,1,none⟩ (.slice gb gm gd)).heap[k]? = w6.heap[k]?:=fun k hk=>by rw [Below.heap_setCell _ _ _ _ hk,Below.heap_setCell _ _ _ _ hk]
   refine bodyPost_ret (zL _ _ (W.heap.size + 1 + 1 + 1) (.slice ga gn gc) (.slice gb gm gd) _ rfl rfl (aC (o:=1) (u:=.slice gb gm gd) (aC (o:=0) (u:=.slice ga gn gc) M6.out.r3))) rfl ?_
   refine ⟨ga,gn,gc,gb,gm,gd,rfl, ?_, ?_,(M6.out.bt.setCell (by simp;omega) _).setCell (by simp;omega) _⟩
   ·refine h3.keep (aH fun k h1 h2=>?_)
    simp only [lo,decide_eq_false_iff_not,Nat.not_lt] at h2 ⊢
    exact ⟨by omega,key k (by omega)⟩
   ·refine h4.keep (aH fun k h1 h2=>?_)
    simp only [lo,decide_eq_false_iff_not,Nat.not_lt] at h2 ⊢
    exact ⟨by omega,key k (by omega)⟩
 ·have hne2 : ¬ a = b:=fun e=>hne e.symm
  go_wp2_with (first
    | (go_at_call 58;refine (SA.out _).mono ?_;rintro e w1 ⟨rfl,b1⟩;have M1:=Lib.hid (M0.out.next b1);clear b1 SA p0 p1 q0 q1 s0 s1 z0 z1 z2 z3;obtain ⟨⟨⟨p0,p1⟩,q0,q1⟩,⟨s0,s1⟩,z0,z1,z2,z3⟩:=M1.out.cells)
    | (go_at_call 35;refine (RC.out _ M1.out.bt).mono ?_;rintro e w2 ⟨rfl,b1⟩;have M2:=Lib.hid (M1.out.next b1);clear b1 RC p0 p1 q0 q1 s0 s1 z0 z1 z2 z3;obtain ⟨⟨⟨p0,p1⟩,q0,q1⟩,⟨s0,s1⟩,z0,z1,z2,z3⟩:=M2.out.cells)
    | (go_at_call 58;refine (SB.out _).mono ?_;rintro e w3 ⟨rfl,b1⟩;have M3:=Lib.hid (M2.out.next b1);clear b1 SB p0 p1 q0 q1 s0 s1 z0 z1 z2 z3;obtain ⟨⟨⟨p0,p1⟩,q0,q1⟩,⟨s0,s1⟩,z0,z1,z2,z3⟩:=M3.out.cells)
    | (go_at_call 59;refine (HC.out _ b M3.out.bt).mono ?_;rw [HP.out];rintro e w4 ⟨rfl,b1⟩;have M4:=Lib.hid (M3.out.next b1);clear b1 p0 p1 q0 q1 s0 s1 z0 z1 z2 z3;obtain ⟨⟨⟨p0,p1⟩,q0,q1⟩,⟨s0,s1⟩,z0,z1,z2,z3⟩:=M4.out.cells))
  refine bodyPost_ret (zL _ _ (W.heap.size + 1 + 1 + 1) (.slice none 0 0) (.slice none 0 0) _ rfl rfl (aC (o:=1) (u:=.slice none 0 0) (aC (o:=0) (u:=.slice none 0 0) M4.out.r3))) rfl ?_
  exact ⟨none,0,0,none,0,0,rfl,At.sl_nil (by unfold maxLen;omega),At.sl_nil (by unfold maxLen;omega),(M4.out.bt.setCell (by simp;omega) _).setCell (by simp;omega) _⟩
end Go.Proofs.YtppfalbnhnpbnaaGreatDoor
namespace Go.Proofs.YtppfalbnhnpbnaaGreatDoor
open Go Go.RowKit Ly
set_option maxRecDepth 10000
def eG (n : Nat) : Code → Option (Array Oper)
 | .region i ops _=>if i = n then some ops else none
 | .block _ c=>eG n c
 | .seq a b=>match eG n a with
  | some c=>some c
  | none=>eG n b
 | .cond _ a b=>match eG n a with
  | some c=>some c
  | none=>eG n b
 | .loop c=>eG n c
 | .scope c=>eG n c
 | _=>none
def fmP (f : Fm) : Value → World → Prop:=fun v w=>aV w f v
def fsP (fs : List Fm) : Value → World → Prop:=fun v w=>aN w fs v
def sqP (L R : List Fm) : Value → World → Prop:=fun v w=>cV w L R v
theorem gM (f : Fm) : gV (fmP f):=fun _ _ _ h hb=>aV.keep h (aA hb)
theorem bY (fs : List Fm) : gV (fsP fs):=fun _ _ _ h hb=>aN.keep h (aA hb)
theorem sqP_keep {w w' : World} {L R : List Fm} {v : Value} (h : cV w L R v) (hb : Below w.heap.size w w') : cV w' L R v:=by
 obtain ⟨a,n,c,b,m,d,e,h1,h2⟩:=h
 exact ⟨a,n,c,b,m,d,e,h1.keep (aA hb),h2.keep (aA hb)⟩
theorem eN (L R : List Fm) : gV (sqP L R):=fun _ _ _ h hb=>sqP_keep h hb
def atV (nm : Bs) : Value:=.agg #[.int .u8 1,str nm,.slice none 0 0,.slice none 0 0]
theorem qT {w : World} {f : Fm} {o : Int} {nm : Bs} {a b : Option Addr} {n c m d : Nat} (h : aV w f (.agg #[.int .u8 o,str nm,.slice a n c,.slice b m d])) : o = f.op ∧ str nm = str f.name ∧ bG w f.args (.slice a n c) ∧ aN w f.sub (.slice b m d):=by
 obtain ⟨a',n',c',b',m',d',e,h1,h2⟩:=h
 simp only [Value.agg.injEq,Array.mk.injEq,List.cons.injEq,Value.int.injEq,and_true,true_and] at e
 obtain ⟨e0,e1,e2,e3⟩:=e
 rw [← e2] at h1
 rw [← e3] at h2
 exact ⟨e0,e1,h1,h2⟩
theorem eR (w : World) (nm : Bs) : aV w (.mk 1 nm [] []) (atV nm):=⟨none,0,0,none,0,0,rfl,At.sl_nil (Nat.zero_le _),At.sl_nil (Nat.zero_le _)⟩
theorem kO {w : World} {f : Fm} {o : Int} {nm : Bs} {a b : Option Addr} {n c m d : Nat} (h : aV w f (.agg #[.int .u8 o,str nm,.slice a n c,.slice b m d])) :
  aN (w.alloc (.cells #[.int .u8 o,str nm,.slice a n c,.slice b m d] 40)) [f] (.slice (some ⟨w.heap.size,0,none⟩) 1 1):=by
 obtain ⟨rfl,e1,h1,h2⟩:=qT h
 have K:=aA ((Below.refl _ w).alloc (Nat.le_refl _) (.cells #[.int .u8 f.op,str nm,.slice a n c,.slice b m d] 40))
 exact uS (by rw [← e1];exact heap_alloc_new w _) (h1.keep K) (h2.keep K)
theorem kP {w : World} {f f' : Fm} {o o' : Int} {nm nm' : Bs} {a b a' b' : Option Addr} {n c m d n' c' m' d' : Nat} (h : aV w f (.agg #[.int .u8 o,str nm,.slice a n c,.slice b m d])) (h' : aV w f' (.agg #[.int .u8 o',str nm',.slice a' n' c',.slice b' m' d'])) :
  aN (w.alloc (.cells #[.int .u8 o,str nm,.slice a n c,.slice b m d,.int .u8 o',str nm',.slice a' n' c',.slice b' m' d'] 40)) [f,f'] (.slice (some ⟨w.heap.size,0,none⟩) 2 2):=by
 obtain ⟨rfl,e1,h1,h2⟩:=qT h
 obtain ⟨rfl,e1',h1',h2'⟩:=qT h'
 have K:=aA ((Below.refl _ w).alloc (Nat.le_refl _) (.cells #[.int .u8 f.op,str nm,.slice a n c,.slice b m d,.int .u8 f'.op,str nm',.slice a' n' c',.slice b' m' d'] 40))
 exact uT (by rw [← e1,← e1'];exact heap_alloc_new w _) (h1.keep K) (h2.keep K) (h1'.keep K) (h2'.keep K)
theorem aZ (w : World) (o : Obj) : Below w.heap.size w (w.alloc o):=(Below.refl _ _).alloc (Nat.le_refl _) o
def okB (L R : List Fm) : Bool:=L.all Fm.right && R.all Fm.right && decide (L.length ≤ 64) && decide (R.length ≤ 64)
theorem gT {L R : List Fm} (h : okB L R = true) : okSq L R:=by
 simp only [okB,Bool.and_eq_true,List.all_eq_true,decide_eq_true_eq] at h
 exact ⟨h.1.1.1,h.1.1.2,h.1.2,h.2⟩
theorem tS {L R L2 R2 : List Fm} (h : skOf L R = skOf L2 R2) : fQ L R L2 R2 = true:=by
 unfold fQ
 rw [h,(cY _ _).2 rfl,(cY _ _).2 rfl]
 rfl
theorem tT {L R L2 R2 : List Fm} (h : skOf L R ≠ skOf L2 R2) : fQ L R L2 R2 = false:=by
 rw [Bool.eq_false_iff]
 intro e
 simp only [fQ,Bool.and_eq_true,cY] at e
 exact h (Prod.ext e.1 e.2)
theorem sameSk_iff {L R L2 R2 : List Fm} : fQ L R L2 R2 = true ↔ skOf L R = skOf L2 R2:=⟨fun h=>by
 simp only [fQ,Bool.and_eq_true,cY] at h
 exact Prod.ext h.1 h.2,tS⟩
structure AwV (g1 g2 g3 : Nat) (w : World) : Prop where
 c1 : w.heap[g1]? = some (.cells #[.int .u8 1,str [80],.slice none 0 0,.slice none 0 0] 40 (0,0))
 c2 : w.heap[g2]? = some (.cells #[.int .u8 1,str [81],.slice none 0 0,.slice none 0 0] 40 (0,0))
 c3 : w.heap[g3]? = some (.cells #[.int .u8 1,str [82],.slice none 0 0,.slice none 0 0] 40 (0,0))
theorem AwV.below {g1 g2 g3 : Nat} {w w' : World} (h : AwV g1 g2 g3 w) (b : Below w.heap.size w w') : AwV g1 g2 g3 w':=⟨kc b h.c1,kc b h.c2,kc b h.c3⟩
def fV (g : Nat) (L R : List Fm) (w : World) : Prop:=∃ a n c b m d,w.heap[g]? = some (.cells #[.slice a n c,.slice b m d] 26 (0,0)) ∧ aN w L (.slice a n c) ∧ aN w R (.slice b m d)
theorem fV.below {g : Nat} {L R : List Fm} {w w' : World} (h : fV g L R w) (hb : Below w.heap.size w w') : fV g L R w':=by
 obtain ⟨a,n,c,b,m,d,h0,h1,h2⟩:=h
 exact ⟨a,n,c,b,m,d,kc hb h0,h1.keep (aA hb),h2.keep (aA hb)⟩
theorem nQ (L R : List Fm) : (cA L L && cA R R) = true:=by rw [(cY _ _).2 rfl,(cY _ _).2 rfl];rfl
end Go.Proofs.YtppfalbnhnpbnaaGreatDoor
