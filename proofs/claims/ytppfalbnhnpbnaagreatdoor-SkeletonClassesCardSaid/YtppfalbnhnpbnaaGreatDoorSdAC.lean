/- skeleton.sort; slices.Contains at symbols. Conditions: those of each statement. -/
import Derived.Test.YtppfalbnhnpbnaaGreatDoorPdCC
import Derived.Test.YtppfalbnhnpbnaaGreatDoorRightC
import Derived.Test.YtppfalbnhnpbnaaGreatDoorOfAC
import Derived.Test.YtppfalbnhnpbnaaGreatDoorClAC
import Derived.Test.YtppfalbnhnpbnaaGreatDoorEaEC
import Derived.Test.YtppfalbnhnpbnaaGreatDoorSameBC
import Derived.RangeFuncGives
import Derived.Sort.MapsRangeIn
import Derived.Sort.KeysCollected
import Derived.Shelf.AbstractIn
import Derived.TacticsInMore
import Derived.OwnWalkIn
import Derived.LoopNIn
import Derived.LoopIn
set_option linter.unusedSimpArgs false
set_option linter.unusedVariables false
namespace Go.Proofs.YtppfalbnhnpbnaaGreatDoor
open Go Go.RowKit Ly
set_option maxRecDepth 10000
def yG (s : Bs) : Bs:=if cW s then [80] else if eS s then [97] else if bU s then [117] else []
set_option maxHeartbeats 2000000 in
theorem zQ (s : Bs) (hs : s.length ≤ maxLen) (w : World) : Calls Tryz.prog 58 #[str s] w fun e w'=>e = .returned (str (yG s)) ∧ Below w.heap.size w w':=by
 have PC : Hid (∀ X,Calls Tryz.prog 103 #[str s] X fun e w'=>e = .returned (.bool (cW s)) ∧ Below X.heap.size X w'):=fun X=>oZ s X hs
 have FC : Hid (∀ X,Calls Tryz.prog 104 #[str s] X fun e w'=>e = .returned (.bool (eS s)) ∧ Below X.heap.size X w'):=fun X=>mJ s X hs
 have VC : Hid (∀ X,Calls Tryz.prog 105 #[str s] X fun e w'=>e = .returned (.bool (bU s)) ∧ Below X.heap.size X w'):=fun X=>kB s X hs
 unfold yG
 generalize cW s = p at *
 generalize eS s = f at *
 generalize bU s = v at *
 clear hs
 cases p <;> cases f <;> cases v
 all_goals
  go_enter Tryz.func58,Tryz.ntmps58
  go_wp2_with (first
   | (go_at_call 103;refine (PC.out _).mono ?_;rintro e w1 ⟨rfl,b1⟩;have B1:=Lib.hid b1;clear b1 PC)
   | (go_at_call 104;refine (FC.out _).mono ?_;rintro e w2 ⟨rfl,b2⟩;have B2:=Lib.hid (B1.out.trans (b2.mono B1.out.size));clear b2 FC)
   | (go_at_call 105;refine (VC.out _).mono ?_;rintro e w3 ⟨rfl,b3⟩;have B3:=Lib.hid (B2.out.trans (b3.mono B2.out.size));clear b3 VC))
  go_ret
  exact ⟨rfl,by first | exact B3.out | exact B2.out | exact B1.out⟩
theorem tZ : ∀ (l : List (Bs × Nat)) (j : Nat) {s : Bs × Nat},l[j]? = some s → (pR l)[j * 2]? = some (.val (str s.1)) ∧ (pR l)[j * 2 + 1]? = some (.val (.int .i64 s.2))
 | [],j,s,h=>by simp at h
 | x :: l,0,s,h=>by simp at h;subst h;simp [pR]
 | x :: l,j + 1,s,h=>by
  obtain ⟨h1,h2⟩:=tZ l j (s:=s) (by simpa using h)
  have e : pR (x :: l) = .val (str x.1) :: .val (.int .i64 x.2) :: pR l:=rfl
  rw [e,show (j + 1) * 2 = j * 2 + 2 by omega]
  exact ⟨by simpa using h1,by simpa using h2⟩
theorem fI.get {w : World} {l : List (Bs × Nat)} {a : Option Addr} {n c : Nat} (h : fI w l (.slice a n c)) : n = l.length ∧ n ≤ maxLen ∧ (l ≠ [] → ∃ b off,a = some ⟨b,off,none⟩ ∧ ∀ (j : Nat) (s : Bs × Nat),l[j]? = some s → w.cell? ⟨b,off + j * 2,none⟩ = some (str s.1) ∧ w.cell? ⟨b,off + j * 2 + 1,none⟩ = some (.int .i64 s.2)):=by
 obtain ⟨a',cap,e,h1,h2,h3,h5⟩:=At.sl_inv h
 simp only [Value.slice.injEq] at e
 obtain ⟨rfl,rfl,rfl⟩:=e
 refine ⟨rfl,by omega,fun hne=>?_⟩
 rcases h5 with h5 | ⟨b,off,rfl,h5⟩
 ·exact absurd (List.eq_nil_of_length_eq_zero h5) hne
 ·refine ⟨b,off,rfl,fun j s hs=>?_⟩
  obtain ⟨g1,g2⟩:=tZ l j hs
  obtain ⟨u,hu,ha⟩:=h5 _ _ g1
  obtain ⟨v,hv,hb⟩:=h5 _ _ g2
  have e1 : u = str s.1:=ha
  have e2 : v = .int .i64 s.2:=hb
  rw [e1] at hu
  rw [e2] at hv
  exact ⟨hu,hv⟩
set_option maxHeartbeats 2000000 in
theorem Index160_c (l : List (Bs × Nat)) (s : Bs × Nat) (a : Option Addr) (n c : Nat) (w : World) (hx : fI w l (.slice a n c)) (hn : n ≤ 1000000) :
  Calls Tryz.prog 160 #[.slice a n c,.agg #[str s.1,.int .i64 s.2]] w fun e w'=>∃ z : Int,e = .returned (.int .i64 z) ∧ (0 ≤ z ↔ s ∈ l) ∧ Below w.heap.size w w':=by
 obtain ⟨hl,hm,hc⟩:=hx.get
 have HN:=Lib.hid hl
 have HC:=Lib.hid hc
 obtain ⟨sn,sk⟩:=s
 simp only
 obtain ⟨W0,hW0⟩ : ∃ W0,w.alloc (.cells #[str sn,.int .i64 sk] 51) = W0:=⟨_,rfl⟩
 have b0 : Below w.heap.size w W0:=by rw [← hW0];exact (Below.refl _ _).alloc (Nat.le_refl _) _
 have r0 : W0.heap[w.heap.size]? = some (.cells #[str sn,.int .i64 sk] 51 (0,0)):=by rw [← hW0];exact heap_alloc_new w _
 have B0:=Lib.hid b0
 have R0:=Lib.hid r0
 clear hl hm hc hx b0 r0
 go_enter Tryz.func160,Tryz.ntmps160
 go_wp2_with fail
 clear hW0
 go_loopw [8] (fun i wr=>∃ j : Nat,j ≤ n ∧ i = .int .i64 j ∧ Hid ((sn,sk) ∉ l.take j ∧ Below W0.heap.size W0 wr)) (fun i _=>n - (intOf i).toNat)
 case atStart=>exact ⟨0,Nat.zero_le _,rfl,by simp,Below.refl _ _⟩
 case round =>
  obtain ⟨j,hj,rfl,hs⟩:=hrel
  have bw : Below w.heap.size w wr:=B0.out.trans (hs.out.2.mono B0.out.size)
  have BW:=Lib.hid bw
  have R1:=Lib.hid ((hs.out.2.block _ (Array.getElem?_eq_some_iff.1 R0.out).1).trans R0.out)
  by_cases hlt : j < n
  ·obtain ⟨T,hT⟩:=aT (l:=l) (j:=j) (by rw [← HN.out];exact hlt)
   obtain ⟨bb,off,rfl,hc⟩:=HC.out (aX hT)
   obtain ⟨h0,h1⟩:=hc j _ hT
   obtain ⟨tn,tk⟩:=T
   have C0:=Lib.hid (And.intro h0 h1)
   have HT:=Lib.hid hT
   clear hc h0 h1 hT bw
   go_upto_region 4 with fail
   by_cases he : (sn,sk) = (tn,tk)
   ·obtain ⟨rfl,rfl⟩:=Prod.mk.inj he
    clear he
    refine wp_region_held_drew (S:=fun w'=>Below wr.heap.size wr w') (by kernel_rfl) (Below.refl _ _).drew (fun hHeld=>?_)
    refine wpAnyH_take (i:=0) (v:=?_) rfl (by kernel_rfl) (by kernel_rfl) (by kernel_rfl) (fun _ _ _ h=>h) (Or.inl ⟨by rfl, ?_⟩) (by assumption) ?_
    rotate_left
    ·(intro w0 hSw;obtain ⟨z0,z1,-,-⟩:=row2 ((hSw.block _ (Array.getElem?_eq_some_iff.1 R1.out).1).trans R1.out);go_simp;(try with_reducible rfl))
    try simp only [Act.put,List.getElem_toArray,List.getElem_cons_succ,List.getElem_cons_zero,List.setIfInBounds_toArray,List.set_cons_zero,List.set_cons_succ]
    refine wpAnyH_take (i:=1) (v:=?_) rfl (by kernel_rfl) (by kernel_rfl) (by kernel_rfl) (fun _ _ _ h=>h) (Or.inl ⟨by rfl, ?_⟩) (by assumption) ?_
    rotate_left
    ·(intro w0 hSw;go_simp;(try with_reducible rfl))
    try simp only [Act.put,List.getElem_toArray,List.getElem_cons_succ,List.getElem_cons_zero,List.setIfInBounds_toArray,List.set_cons_zero,List.set_cons_succ]
    refine wpAnyH_take (i:=2) (v:=?_) rfl (by kernel_rfl) (by kernel_rfl) (by kernel_rfl) (fun _ _ _ h=>h) (Or.inl ⟨by rfl, ?_⟩) (by assumption) ?_
    rotate_left
    ·(intro w0 hSw;go_simp;(try with_reducible rfl))
    try simp only [Act.put,List.getElem_toArray,List.getElem_cons_succ,List.getElem_cons_zero,List.setIfInBounds_toArray,List.set_cons_zero,List.set_cons_succ]
    refine wpAnyH_take (i:=3) (v:=?_) rfl (by kernel_rfl) (by kernel_rfl) (by kernel_rfl) (fun _ _ _ h=>h) (Or.inl ⟨by rfl, ?_⟩) (by assumption) ?_
    rotate_left
    ·(intro w0 hSw;go_simp;(try with_reducible rfl))
    try simp only [Act.put,List.getElem_toArray,List.getElem_cons_succ,List.getElem_cons_zero,List.setIfInBounds_toArray,List.set_cons_zero,List.set_cons_succ]
    refine wpAnyH_take (i:=4) (v:=?_) rfl (by kernel_rfl) (by kernel_rfl) (by kernel_rfl) (fun _ _ _ h=>h) (Or.inl ⟨by rfl, ?_⟩) (by assumption) ?_
    rotate_left
    ·(intro w0 hSw;have z0:=aA hSw _ _ (aA BW.out _ _ C0.out.1);have z1:=aA hSw _ _ (aA BW.out _ _ C0.out.2);go_simp;(try with_reducible rfl))
    try simp only [Act.put,List.getElem_toArray,List.getElem_cons_succ,List.getElem_cons_zero,List.setIfInBounds_toArray,List.set_cons_zero,List.set_cons_succ]
    refine wpAnyH_ready (rs:=[5]) (by kernel_rfl) (by simp) ?_
    refine AllReadyH.cons rfl (fun K hK=>?_) AllReadyH.nil
    go_simp
    refine hK.out _ _ hHeld (fun hHeld2=>?_)
    clear hK K hHeld
    try simp only [Act.put,List.getElem_toArray,List.getElem_cons_succ,List.getElem_cons_zero,List.setIfInBounds_toArray,List.set_cons_zero,List.set_cons_succ]
    refine wpAnyH_done (by kernel_rfl) ?_ _
    go_wp2_with fail
    go_ret
    exact ⟨_,rfl,⟨fun _=>List.mem_of_getElem? HT.out,fun _=>by omega⟩,BW.out.drew⟩
   ·have HE:=Lib.hid he
    by_cases h1 : sn = tn
    ·have h2 : ¬ ((sk : Int) = tk):=fun e=>he (by rw [h1,show sk = tk by omega])
     subst h1
     clear he
     refine wp_region_held_drew (S:=fun w'=>Below wr.heap.size wr w') (by kernel_rfl) (Below.refl _ _).drew (fun hHeld=>?_)
     refine wpAnyH_take (i:=0) (v:=?_) rfl (by kernel_rfl) (by kernel_rfl) (by kernel_rfl) (fun _ _ _ h=>h) (Or.inl ⟨by rfl, ?_⟩) (by assumption) ?_
     rotate_left
     ·(intro w0 hSw;obtain ⟨z0,z1,-,-⟩:=row2 ((hSw.block _ (Array.getElem?_eq_some_iff.1 R1.out).1).trans R1.out);go_simp;(try with_reducible rfl))
     try simp only [Act.put,List.getElem_toArray,List.getElem_cons_succ,List.getElem_cons_zero,List.setIfInBounds_toArray,List.set_cons_zero,List.set_cons_succ]
     refine wpAnyH_take (i:=1) (v:=?_) rfl (by kernel_rfl) (by kernel_rfl) (by kernel_rfl) (fun _ _ _ h=>h) (Or.inl ⟨by rfl, ?_⟩) (by assumption) ?_
     rotate_left
     ·(intro w0 hSw;go_simp;(try with_reducible rfl))
     try simp only [Act.put,List.getElem_toArray,List.getElem_cons_succ,List.getElem_cons_zero,List.setIfInBounds_toArray,List.set_cons_zero,List.set_cons_succ]
     refine wpAnyH_take (i:=2) (v:=?_) rfl (by kernel_rfl) (by kernel_rfl) (by kernel_rfl) (fun _ _ _ h=>h) (Or.inl ⟨by rfl, ?_⟩) (by assumption) ?_
     rotate_left
     ·(intro w0 hSw;go_simp;(try with_reducible rfl))
     try simp only [Act.put,List.getElem_toArray,List.getElem_cons_succ,List.getElem_cons_zero,List.setIfInBounds_toArray,List.set_cons_zero,List.set_cons_succ]
     refine wpAnyH_take (i:=3) (v:=?_) rfl (by kernel_rfl) (by kernel_rfl) (by kernel_rfl) (fun _ _ _ h=>h) (Or.inl ⟨by rfl, ?_⟩) (by assumption) ?_
     rotate_left
     ·(intro w0 hSw;go_simp;(try with_reducible rfl))
     try simp only [Act.put,List.getElem_toArray,List.getElem_cons_succ,List.getElem_cons_zero,List.setIfInBounds_toArray,List.set_cons_zero,List.set_cons_succ]
     refine wpAnyH_take (i:=4) (v:=?_) rfl (by kernel_rfl) (by kernel_rfl) (by kernel_rfl) (fun _ _ _ h=>h) (Or.inl ⟨by rfl, ?_⟩) (by assumption) ?_
     rotate_left
     ·(intro w0 hSw;have z0:=aA hSw _ _ (aA BW.out _ _ C0.out.1);have z1:=aA hSw _ _ (aA BW.out _ _ C0.out.2);go_simp;(try with_reducible rfl))
     try simp only [Act.put,List.getElem_toArray,List.getElem_cons_succ,List.getElem_cons_zero,List.setIfInBounds_toArray,List.set_cons_zero,List.set_cons_succ]
     refine wpAnyH_ready (rs:=[5]) (by kernel_rfl) (by simp) ?_
     refine AllReadyH.cons rfl (fun K hK=>?_) AllReadyH.nil
     go_simp
     refine hK.out _ _ hHeld (fun hHeld2=>?_)
     clear hK K hHeld
     try simp only [Act.put,List.getElem_toArray,List.getElem_cons_succ,List.getElem_cons_zero,List.setIfInBounds_toArray,List.set_cons_zero,List.set_cons_succ]
     refine wpAnyH_done (by kernel_rfl) ?_ _
     go_wp2_with fail
     go_roundw
     case rel=>exact ⟨j + 1,by omega,by go_num,by rw [List.take_add_one,HT.out];exact fun hm=>(List.mem_append.1 hm).elim hs.out.1 (fun h=>HE.out (List.mem_singleton.1 h)),hs.out.2.drew⟩
     case measure=>simp [intOf];omega
    ·clear he
     refine wp_region_held_drew (S:=fun w'=>Below wr.heap.size wr w') (by kernel_rfl) (Below.refl _ _).drew (fun hHeld=>?_)
     refine wpAnyH_take (i:=0) (v:=?_) rfl (by kernel_rfl) (by kernel_rfl) (by kernel_rfl) (fun _ _ _ h=>h) (Or.inl ⟨by rfl, ?_⟩) (by assumption) ?_
     rotate_left
     ·(intro w0 hSw;obtain ⟨z0,z1,-,-⟩:=row2 ((hSw.block _ (Array.getElem?_eq_some_iff.1 R1.out).1).trans R1.out);go_simp;(try with_reducible rfl))
     try simp only [Act.put,List.getElem_toArray,List.getElem_cons_succ,List.getElem_cons_zero,List.setIfInBounds_toArray,List.set_cons_zero,List.set_cons_succ]
     refine wpAnyH_take (i:=1) (v:=?_) rfl (by kernel_rfl) (by kernel_rfl) (by kernel_rfl) (fun _ _ _ h=>h) (Or.inl ⟨by rfl, ?_⟩) (by assumption) ?_
     rotate_left
     ·(intro w0 hSw;go_simp;(try with_reducible rfl))
     try simp only [Act.put,List.getElem_toArray,List.getElem_cons_succ,List.getElem_cons_zero,List.setIfInBounds_toArray,List.set_cons_zero,List.set_cons_succ]
     refine wpAnyH_take (i:=2) (v:=?_) rfl (by kernel_rfl) (by kernel_rfl) (by kernel_rfl) (fun _ _ _ h=>h) (Or.inl ⟨by rfl, ?_⟩) (by assumption) ?_
     rotate_left
     ·(intro w0 hSw;go_simp;(try with_reducible rfl))
     try simp only [Act.put,List.getElem_toArray,List.getElem_cons_succ,List.getElem_cons_zero,List.setIfInBounds_toArray,List.set_cons_zero,List.set_cons_succ]
     refine wpAnyH_take (i:=3) (v:=?_) rfl (by kernel_rfl) (by kernel_rfl) (by kernel_rfl) (fun _ _ _ h=>h) (Or.inl ⟨by rfl, ?_⟩) (by assumption) ?_
     rotate_left
     ·(intro w0 hSw;go_simp;(try with_reducible rfl))
     try simp only [Act.put,List.getElem_toArray,List.getElem_cons_succ,List.getElem_cons_zero,List.setIfInBounds_toArray,List.set_cons_zero,List.set_cons_succ]
     refine wpAnyH_take (i:=4) (v:=?_) rfl (by kernel_rfl) (by kernel_rfl) (by kernel_rfl) (fun _ _ _ h=>h) (Or.inl ⟨by rfl, ?_⟩) (by assumption) ?_
     rotate_left
     ·(intro w0 hSw;have z0:=aA hSw _ _ (aA BW.out _ _ C0.out.1);have z1:=aA hSw _ _ (aA BW.out _ _ C0.out.2);go_simp;(try with_reducible rfl))
     try simp only [Act.put,List.getElem_toArray,List.getElem_cons_succ,List.getElem_cons_zero,List.setIfInBounds_toArray,List.set_cons_zero,List.set_cons_succ]
     refine wpAnyH_ready (rs:=[5]) (by kernel_rfl) (by simp) ?_
     refine AllReadyH.cons rfl (fun K hK=>?_) AllReadyH.nil
     go_simp
     refine hK.out _ _ hHeld (fun hHeld2=>?_)
     clear hK K hHeld
     try simp only [Act.put,List.getElem_toArray,List.getElem_cons_succ,List.getElem_cons_zero,List.setIfInBounds_toArray,List.set_cons_zero,List.set_cons_succ]
     refine wpAnyH_done (by kernel_rfl) ?_ _
     go_wp2_with fail
     go_roundw
     case rel=>exact ⟨j + 1,by omega,by go_num,by rw [List.take_add_one,HT.out];exact fun hm=>(List.mem_append.1 hm).elim hs.out.1 (fun h=>HE.out (List.mem_singleton.1 h)),hs.out.2.drew⟩
     case measure=>simp [intOf];omega
  ·have e : l.take j = l:=List.take_of_length_le (by rw [← HN.out];omega)
   have NE:=Lib.hid hs.out.1
   rw [e] at NE
   clear e hs bw
   go_wp2_with fail
   go_ret
   exact ⟨_,rfl,⟨fun h=>absurd h (by decide),fun h=>absurd h NE.out⟩,BW.out⟩
theorem Contains107_c (l : List (Bs × Nat)) (s : Bs × Nat) (v : Value) (w : World) (hx : fI w l v) (hn : l.length ≤ 1000000) :
  Calls Tryz.prog 107 #[v,.agg #[str s.1,.int .i64 s.2]] w fun e w'=>e = .returned (.bool (decide (s ∈ l))) ∧ Below w.heap.size w w':=by
 obtain ⟨a,c,rfl,-⟩:=At.sl_inv hx
 obtain ⟨W0,hW0⟩ : ∃ W0,w.alloc (.cells #[str s.1,.int .i64 s.2] 51) = W0:=⟨_,rfl⟩
 have b0 : Below w.heap.size w W0:=by rw [← hW0];exact (Below.refl _ _).alloc (Nat.le_refl _) _
 have r0 : W0.heap[w.heap.size]? = some (.cells #[str s.1,.int .i64 s.2] 51 (0,0)):=by rw [← hW0];exact heap_alloc_new w _
 have IC : Hid (Calls Tryz.prog 160 #[.slice a l.length c,.agg #[str s.1,.int .i64 s.2]] W0 fun e w'=>∃ z : Int,e = .returned (.int .i64 z) ∧ (0 ≤ z ↔ s ∈ l) ∧ Below W0.heap.size W0 w'):=Index160_c l s a _ c W0 (At.keep (aA b0) _ _ hx) hn
 have B0:=Lib.hid b0
 obtain ⟨y0,y1,-,-⟩:=row2 r0
 generalize hq : decide (s ∈ l) = q
 have HQ : Hid (q = decide (s ∈ l)):=hq.symm
 clear b0 r0 hx hn hq
 go_enter Tryz.func107,Tryz.ntmps107
 go_wp2_with (go_at_call 160;refine IC.out.mono ?_;rintro e w2 ⟨z,rfl,hz,b2⟩;have B2:=Lib.hid b2;have HZ:=Lib.hid hz;clear b2 hz IC)
 go_ret
 refine ⟨?_,B0.out.trans (B2.out.mono B0.out.size)⟩
 rw [HQ.out]
 show Ending.returned (.bool (decide (z ≥ 0))) = _
 congr 2
 exact decide_eq_decide.2 HZ.out
end Go.Proofs.YtppfalbnhnpbnaaGreatDoor
namespace Go.Proofs.YtppfalbnhnpbnaaGreatDoor
open Go Go.RowKit Ly
set_option maxRecDepth 10000
theorem Contains107_in (l L : List (Bs × Nat)) (hL : ∀ s,s ∈ L ↔ s ∈ l) (s : Bs × Nat) : decide (s ∈ L) = decide (s ∈ l):=decide_eq_decide.2 (hL s)
set_option maxHeartbeats 4000000 in
theorem has1_c (hS : pY) (f : Fm) (x : Value) (cs : Nat) (nm : Bs) (ar : Nat) (W : World) (hc : W.heap[cs]? = some (.cells #[str [80],str nm,.int .i64 ar] 104 (0,0))) (hx0 : aV W f x) (hok : f.ok = true) (hn : f.nodes ≤ 100000) :
  Calls Tryz.prog 106 #[x,one cs] W fun e w'=>e = .returned (.bool (decide ((nm,ar) ∈ f.preds))) ∧ Below W.heap.size W w':=by
 obtain ⟨a,n,c,b,m,d,rfl,hx,hy⟩:=hx0
 obtain ⟨W1,hW1⟩ : ∃ W1,W.alloc (.cells #[.int .u8 f.op,str f.name,.slice a n c,.slice b m d] 40) = W1:=⟨_,rfl⟩
 have b1 : Below W.heap.size W W1:=by rw [← hW1];exact (Below.refl _ _).alloc (Nat.le_refl _) _
 have r0 : W1.heap[W.heap.size]? = some (.cells #[.int .u8 f.op,str f.name,.slice a n c,.slice b m d] 40 (0,0)):=by rw [← hW1];exact heap_alloc_new W _
 have r1 : W1.heap[cs]? = some (.cells #[str [80],str nm,.int .i64 ar] 104 (0,0)):=(b1.block _ (Array.getElem?_eq_some_iff.1 hc).1).trans hc
 have PC : Hid (∀ X,Below W.heap.size W X → Calls Tryz.prog 108 #[.agg #[.int .u8 f.op,str f.name,.slice a n c,.slice b m d]] X fun e w'=>∃ L v,e = .returned v ∧ (∀ s,s ∈ L ↔ s ∈ f.preds) ∧ fI w' L v ∧ Below X.heap.size X w' ∧ L.length ≤ 100000):=fun X hb =>
  Predicates_c hS f _ X ⟨_,_,_,_,_,_,rfl,hx.keep (aA hb),hy.keep (aA hb)⟩ hok hn
 have B1:=Lib.hid b1
 have R0:=Lib.hid r0
 have R1:=Lib.hid r1
 obtain ⟨y0,y1,y2⟩:=row3 r1
 generalize hq : decide ((nm,ar) ∈ f.preds) = q
 have HQ:=Lib.hid hq
 clear b1 r0 r1 hx hy hok hn hc hS hq
 go_enter Tryz.func106,Tryz.ntmps106
 go_upto_region 3 with fail
 refine dG (q:=5) (S:=fun w'=>Below W1.heap.size W1 w') (by kernel_rfl) (Below.refl _ _).drew (fun hHeld=>?_)
 refine aJ (i:=0) (v:=?_) rfl (by kernel_rfl) (by kernel_rfl) (by kernel_rfl) (by kernel_rfl) (fun _ _ _ h=>h) (Or.inl ⟨by rfl, ?_⟩) (by assumption) ?_
 rotate_left
 ·(intro w0 hSw;obtain ⟨⟨z0,z1,z2,z3⟩,-⟩:=aL ((hSw.block _ (Array.getElem?_eq_some_iff.1 R0.out).1).trans R0.out);go_simp;(try with_reducible rfl))
 try simp only [Act.put,List.getElem_toArray,List.getElem_cons_succ,List.getElem_cons_zero,List.setIfInBounds_toArray,List.set_cons_zero,List.set_cons_succ]
 refine aJ (i:=2) (v:=?_) rfl (by kernel_rfl) (by kernel_rfl) (by kernel_rfl) (by kernel_rfl) (fun _ _ _ h=>h) (Or.inl ⟨by rfl, ?_⟩) (by assumption) ?_
 rotate_left
 ·(intro w0 hSw;go_simp;(try with_reducible rfl))
 try simp only [Act.put,List.getElem_toArray,List.getElem_cons_succ,List.getElem_cons_zero,List.setIfInBounds_toArray,List.set_cons_zero,List.set_cons_succ]
 refine aJ (i:=3) (v:=?_) rfl (by kernel_rfl) (by kernel_rfl) (by kernel_rfl) (by kernel_rfl) (fun _ _ _ h=>h) (Or.inl ⟨by rfl, ?_⟩) (by assumption) ?_
 rotate_left
 ·(intro w0 hSw;obtain ⟨z0,z1,z2⟩:=row3 ((hSw.block _ (Array.getElem?_eq_some_iff.1 R1.out).1).trans R1.out);go_simp;(try with_reducible rfl))
 try simp only [Act.put,List.getElem_toArray,List.getElem_cons_succ,List.getElem_cons_zero,List.setIfInBounds_toArray,List.set_cons_zero,List.set_cons_succ]
 refine bQ (j:=1) (by kernel_rfl) (by kernel_rfl) rfl (fun K hK=>?_)
 go_simp
 go_at_call 108
 refine (PC.out _ B1.out.drew).mono ?_
 rintro e w5 ⟨L,v,rfl,hL,hv,b5,hll⟩
 have H5:=Lib.hid (And.intro hL (And.intro hv hll))
 have hS5:=hHeld.trans b5
 clear hL hv b5 hll PC hHeld
 go_simp
 refine hK.out _ _ hS5 (fun hHeld=>?_)
 clear hK K hS5
 try simp only [Act.put,List.getElem_toArray,List.getElem_cons_succ,List.getElem_cons_zero,List.setIfInBounds_toArray,List.set_cons_zero,List.set_cons_succ]
 refine bQ (j:=4) (by kernel_rfl) (by kernel_rfl) rfl (fun K hK=>?_)
 go_simp
 go_at_call 107
 refine (Contains107_c L (nm,ar) v w5 H5.out.2.1 (Nat.le_trans H5.out.2.2 (by omega))).mono ?_
 rintro e w6 ⟨he,b6⟩
 rw [Contains107_in f.preds L H5.out.1,HQ.out] at he
 subst he
 have hS6:=hHeld.trans (b6.mono hHeld.size)
 have BF : Hid (Below W.heap.size W w6):=B1.out.trans (hS6.mono B1.out.size)
 clear b6 hHeld
 go_simp
 refine hK.out _ _ hS6 (fun hHeld=>?_)
 clear hK K hS6
 try simp only [Act.put,List.getElem_toArray,List.getElem_cons_succ,List.getElem_cons_zero,List.setIfInBounds_toArray,List.set_cons_zero,List.set_cons_succ]
 refine dF (by kernel_rfl) (by kernel_rfl) rfl (fun K hK=>?_)
 go_simp
 refine hK.out _ _ ?_
 clear hK K hHeld
 go_wp2_with fail
 go_ret
 exact ⟨rfl,BF.out⟩
end Go.Proofs.YtppfalbnhnpbnaaGreatDoor
namespace Go.Proofs.YtppfalbnhnpbnaaGreatDoor
open Go Go.RowKit Ly
set_option maxRecDepth 10000
set_option maxHeartbeats 2000000 in
theorem IndexFunc106_c (l : List Fm) (p : Fm → Bool) (cs : Nat) (a : Option Addr) (n c : Nat) (w : World) (hx : aN w l (.slice a n c)) (hn : n ≤ 1000)
  (h : ∀ f ∈ l,∀ x X,Below w.heap.size w X → aV X f x → Calls Tryz.prog 106 #[x,one cs] X fun e w'=>e = .returned (.bool (p f)) ∧ Below X.heap.size X w') :
  Calls Tryz.prog 118 #[.slice a n c,.func (.func 106) #[] #[one cs]] w fun e w'=>∃ z : Int,e = .returned (.int .i64 z) ∧ (0 ≤ z ↔ l.any p = true) ∧ Below w.heap.size w w':=by
 have hl:=hx.len
 have LX:=Lib.hid hl.1
 have HX:=Lib.hid hx
 have RC:=Lib.hid h
 clear hl hx h
 go_enter Tryz.func118,Tryz.ntmps118
 go_wp2_with fail
 go_loopw [8] (fun i wr=>∃ j : Nat,j ≤ n ∧ i = .int .i64 j ∧ Hid ((l.take j).any p = false ∧ Below w.heap.size w wr)) (fun i _=>n - (intOf i).toNat)
 case atStart=>exact ⟨0,Nat.zero_le _,rfl,by simp,Below.refl _ _⟩
 case round =>
  obtain ⟨j,hj,rfl,hb⟩:=hrel
  by_cases hlt : j < n
  ·obtain ⟨T,hT⟩:=aT (l:=l) (j:=j) (by rw [← LX.out];exact hlt)
   obtain ⟨bb,off,rfl,hc⟩:=HX.out.get (aX hT)
   obtain ⟨x0,x1,x2,x3,x4,x5,hx⟩:=hc j _ hT
   have hK:=aA hb.out.2
   have c0:=hK _ _ hx.c0;have c1:=hK _ _ hx.c1;have c2:=hK _ _ hx.c2;have c3:=hK _ _ hx.c3
   have R1 : Hid (Calls Tryz.prog 106 #[.agg #[.int .u8 T.op,str T.name,.slice x0 x1 x2,.slice x3 x4 x5],one cs] wr fun e w'=>e = .returned (.bool (p T)) ∧ Below wr.heap.size wr w'):=RC.out T (List.mem_of_getElem? hT) _ wr hb.out.2 ⟨_,_,_,_,_,_,rfl,hx.at_.keep hK,hx.at'.keep hK⟩
   have HT:=Lib.hid hT
   clear hc hx hT hK
   generalize hq : p T = q at *
   have HQ:=Lib.hid hq
   clear hq
   cases q
   ·go_wp2_with (go_at_call 106;refine R1.out.mono ?_;rintro e w2 ⟨rfl,b2⟩;have B2:=Lib.hid b2;clear b2 R1)
    go_roundw
    case rel =>
     refine ⟨j + 1,by omega,by go_num, ?_,hb.out.2.trans (B2.out.mono hb.out.2.size)⟩
     rw [List.take_add_one,HT.out,List.any_append,hb.out.1]
     show (false || (p T || false)) = false
     rw [HQ.out];rfl
    case measure=>simp [intOf];omega
   ·go_wp2_with (go_at_call 106;refine R1.out.mono ?_;rintro e w2 ⟨rfl,b2⟩;have B2:=Lib.hid b2;clear b2 R1)
    go_ret
    exact ⟨_,rfl,⟨fun _=>List.any_eq_true.2 ⟨T,List.mem_of_getElem? HT.out,HQ.out⟩,fun _=>by omega⟩,hb.out.2.trans (B2.out.mono hb.out.2.size)⟩
  ·have e : l.take j = l:=List.take_of_length_le (by rw [← LX.out];omega)
   have NE:=Lib.hid hb.out.1
   rw [e] at NE
   have BF:=Lib.hid hb.out.2
   clear e hb
   go_wp2_with fail
   go_ret
   exact ⟨_,rfl,⟨fun h=>absurd h (by decide),fun h=>by rw [NE.out] at h;cases h⟩,BF.out⟩
theorem ContainsFunc106_c (l : List Fm) (p : Fm → Bool) (cs : Nat) (v : Value) (w : World) (hx : aN w l v) (hn : l.length ≤ 1000)
  (h : ∀ f ∈ l,∀ x X,Below w.heap.size w X → aV X f x → Calls Tryz.prog 106 #[x,one cs] X fun e w'=>e = .returned (.bool (p f)) ∧ Below X.heap.size X w') :
  Calls Tryz.prog 67 #[v,.func (.func 106) #[] #[one cs]] w fun e w'=>e = .returned (.bool (l.any p)) ∧ Below w.heap.size w w':=by
 obtain ⟨a,c,rfl,-⟩:=At.sl_inv hx
 have IC:=Lib.hid (IndexFunc106_c l p cs a _ c w hx hn h)
 generalize hq : l.any p = q at *
 clear hx hn h hq
 go_enter Tryz.func67,Tryz.ntmps67
 go_wp2_with (go_at_call 118;refine IC.out.mono ?_;rintro e w2 ⟨z,rfl,hz,b2⟩;have B2:=Lib.hid b2;have HZ:=Lib.hid hz;clear b2 hz IC)
 go_ret
 refine ⟨?_,B2.out⟩
 show Ending.returned (.bool (decide (z ≥ 0))) = _
 congr 2
 rw [Bool.eq_iff_iff,decide_eq_true_eq]
 exact HZ.out
end Go.Proofs.YtppfalbnhnpbnaaGreatDoor
namespace Go.Proofs.YtppfalbnhnpbnaaGreatDoor
open Go Go.RowKit Ly
set_option maxRecDepth 10000
set_option maxHeartbeats 4000000 in
theorem hasP_c (hS : pY) (L R : List Fm) (x : Value) (nm : Bs) (ar : Nat) (W : World) (hx0 : cV W L R x) (h1 : okSq L R) :
  Calls Tryz.prog 59 #[x,.agg #[str [80],str nm,.int .i64 ar]] W fun e w'=>e = .returned (.bool ((L ++ R).any (fun f=>decide ((nm,ar) ∈ f.preds)))) ∧ Below W.heap.size W w':=by
 obtain ⟨a,n,c,b,m,d,rfl,hx,hy⟩:=hx0
 obtain ⟨W1,hW1⟩ : ∃ W1,(W.alloc (.cells #[.slice a n c,.slice b m d] 26)).alloc (.cells #[str [80],str nm,.int .i64 ar] 104) = W1:=⟨_,rfl⟩
 have b1 : Below W.heap.size W W1:=by rw [← hW1];exact ((Below.refl _ _).alloc (Nat.le_refl _) _).alloc (by simp) _
 have r0 : W1.heap[W.heap.size]? = some (.cells #[.slice a n c,.slice b m d] 26 (0,0)):=by rw [← hW1];exact aI _ (heap_alloc_new W _)
 have r1 : W1.heap[W.heap.size + 1]? = some (.cells #[str [80],str nm,.int .i64 ar] 104 (0,0)):=by
  rw [← hW1]
  have:=heap_alloc_new (W.alloc (.cells #[.slice a n c,.slice b m d] 26)) (.cells #[str [80],str nm,.int .i64 ar] 104)
  rwa [World.size_alloc] at this
 have FC : Hid (Calls Tryz.prog 56 #[.agg #[.slice a n c,.slice b m d]] W1 fun e w'=>∃ v,e = .returned v ∧ aN w' (L ++ R) v ∧ Below W1.heap.size W1 w'):=xM L R _ W1 ⟨_,_,_,_,_,_,rfl,hx.keep (aA b1),hy.keep (aA b1)⟩ (by have:=h1.2.2.1;omega) (by have:=h1.2.2.2;omega)
 have rA : ∀ f ∈ L ++ R,f.right = true:=fun f hf=>by rcases List.mem_append.1 hf with h | h;exact h1.1 f h;exact h1.2.1 f h
 have CC : Hid (∀ X v,Below W1.heap.size W1 X → aN X (L ++ R) v → Calls Tryz.prog 67 #[v,.func (.func 106) #[] #[one (W.heap.size + 1)]] X fun e w'=>e = .returned (.bool ((L ++ R).any (fun f=>decide ((nm,ar) ∈ f.preds)))) ∧ Below X.heap.size X w'):=fun X v hb hv =>
  ContainsFunc106_c (L ++ R) _ _ v X hv (by have h2:=h1.2.2.1;have h3:=h1.2.2.2;rw [List.length_append];omega) (fun f hf y Y hY hy'=>by
   have fr:=rA f hf
   simp only [Fm.right,Bool.and_eq_true,decide_eq_true_eq] at fr
   exact has1_c hS f y _ nm ar Y ((hY.block _ (by have:=(Array.getElem?_eq_some_iff.1 r1).1;have:=hb.size;omega)).trans ((hb.block _ (Array.getElem?_eq_some_iff.1 r1).1).trans r1)) hy' fr.1.1 (by omega))
 have B1:=Lib.hid b1
 obtain ⟨y0,y1,-,-⟩:=row2 r0
 generalize (L ++ R).any (fun f=>decide ((nm,ar) ∈ f.preds)) = q at *
 clear b1 r0 r1 hx hy h1 hS rA
 go_enter Tryz.func59,Tryz.ntmps59
 go_wp2_with (first
  | (
    go_at_call 56
    refine FC.out.mono ?_
    rintro e w2 ⟨v2,rfl,h2,b2⟩
    obtain ⟨fa,fk,fc,rfl⟩ : ∃ a k c,v2 = .slice a k c:=by obtain ⟨a,c,rfl,-⟩:=At.sl_inv h2;exact ⟨_,_,_,rfl⟩
    have H2:=Lib.hid (And.intro h2 b2)
    clear h2 b2 FC)
  | (
    go_at_call 67
    refine (CC.out _ _ H2.out.2 H2.out.1).mono ?_
    rintro e w3 ⟨rfl,b3⟩
    have B3:=Lib.hid (B1.out.trans ((H2.out.2.trans (b3.mono H2.out.2.size)).mono B1.out.size))
    clear b3 CC))
 go_ret
 exact ⟨rfl,B3.out⟩
end Go.Proofs.YtppfalbnhnpbnaaGreatDoor
namespace Go.Proofs.YtppfalbnhnpbnaaGreatDoor
open Go Go.RowKit Ly
set_option maxRecDepth 10000

set_option maxHeartbeats 8000000 in
theorem change61_c {St : Type} (E : Nat → Prop) (nv : Value) (I : St → World → Prop) (f : St → Fm → Fm × St) (W : World) (L R : List Fm) (s0 : St) (x : Value) (hx0 : cV W L R x) (hL : L.length ≤ 100000) (hR : R.length ≤ 100000) (h0 : I s0 W) (hI : kU W.heap.size I)
  (hmap : ∀ s X,I s X → ∀ k,E k → ∃ es c,X.heap[k]? = some (.map es c)) (hE : ∀ k,E k → k < W.heap.size)
  (hf : ∀ j t,(L ++ R)[j]? = some t → ∀ X x,I (stAt f s0 (L ++ R) j) X → ButE E W X → aV X t x → Calls Tryz.prog 61 #[nv,x] X fun e w'=>∃ v,e = .returned v ∧ aV (hide (lo X) w') (f (stAt f s0 (L ++ R) j) t).1 v ∧ I (f (stAt f s0 (L ++ R) j) t).2 w' ∧ ButE E X w') :
  Calls Tryz.prog 36 #[x,.func (.func 61) #[nv] #[]] W fun e w'=>∃ v,e = .returned v ∧ cV (hide (lo W) w') (aK f s0 L).1 (aK f (aK f s0 L).2 R).1 v ∧ I (aK f (aK f s0 L).2 R).2 w' ∧ ButE E W w':=by
 obtain ⟨a,n,c,b,m,d,rfl,hx,hy⟩:=hx0
 obtain ⟨W0,hW0⟩ : ∃ W0,(W.alloc (.cells #[.slice a n c,.slice b m d] 26)).alloc (.cells #[.slice none 0 0,.slice none 0 0] 26) = W0:=⟨_,rfl⟩
 have bw : Below W.heap.size W W0:=by rw [← hW0];exact ((Below.refl _ _).alloc (Nat.le_refl _) _).alloc (by simp) _
 have r0 : W0.heap[W.heap.size]? = some (.cells #[.slice a n c,.slice b m d] 26 (0,0)):=by rw [← hW0];exact aI _ (heap_alloc_new W _)
 have r1 : W0.heap[W.heap.size + 1]? = some (.cells #[.slice none 0 0,.slice none 0 0] 26 (0,0)):=by
  rw [← hW0]
  have:=heap_alloc_new (W.alloc (.cells #[.slice a n c,.slice b m d] 26)) (.cells #[.slice none 0 0,.slice none 0 0] 26)
  rw [World.size_alloc] at this
  exact this
 have B0 : ButE E W W0:=.of_below bw
 have KW : ∀ X,ButE E W X → bI W X:=fun X hX=>hX.keeps (hmap s0 W h0)
 have C1 : Hid (Calls Tryz.prog 69 #[.slice a n c,.func (.func 61) #[nv] #[]] W0 fun e w'=>∃ v,e = .returned v ∧ aN (hide (lo W0) w') (aK f s0 L).1 v ∧ I (aK f s0 L).2 w' ∧ ButE E W0 w'):=by
  refine qR E nv I f W0 L s0 a n c (hx.keep (KW _ B0)) hL (hI _ _ _ h0 (fun k hk=>bw.block k hk)) (fun s X X' h e=>hI s X X' h (fun k hk=>e k (by have:=bw.size;omega))) hmap (fun k hk=>by have:=hE k hk;have:=bw.size;omega) (fun j t ht X x hI' hX hv=>?_)
  have e : stAt f s0 (L ++ R) j = stAt f s0 L j:=by
   unfold stAt
   rw [List.take_append_of_le_length (Nat.le_of_lt (List.getElem?_eq_some_iff.1 ht).1)]
  have:=hf j t (by rw [List.getElem?_append_left (List.getElem?_eq_some_iff.1 ht).1];exact ht) X x (by rw [e];exact hI') (B0.trans hX) hv
  rwa [e] at this
 have C2 : Hid (∀ X,I (aK f s0 L).2 X → ButE E W X → Calls Tryz.prog 69 #[.slice b m d,.func (.func 61) #[nv] #[]] X fun e w'=>∃ v,e = .returned v ∧ aN (hide (lo X) w') (aK f (aK f s0 L).2 R).1 v ∧ I (aK f (aK f s0 L).2 R).2 w' ∧ ButE E X w'):=by
  intro X hIX hX
  refine qR E nv I f X R _ b m d (hy.keep (KW _ hX)) hR hIX (fun s Y Y' h e=>hI s Y Y' h (fun k hk=>e k (by have:=hX.size;omega))) hmap (fun k hk=>by have:=hE k hk;have:=hX.size;omega) (fun j t ht Y x hI' hY hv=>?_)
  have e : stAt f s0 (L ++ R) (L.length + j) = stAt f (aK f s0 L).2 R j:=by
   unfold stAt
   rw [List.take_append,List.take_of_length_le (by omega),Nat.add_sub_cancel_left,lF]
  have:=hf (L.length + j) t (by rw [List.getElem?_append_right (by omega),Nat.add_sub_cancel_left];exact ht) Y x (by rw [e];exact hI') (hX.trans hY) hv
  rwa [e] at this
 have LE : Hid (∀ k,W.heap.size ≤ k → ¬ E k):=fun k hk e=>by have:=hE k e;omega
 have HB:=Lib.hid B0
 have R0:=Lib.hid r0
 have R1:=Lib.hid r1
 have HI:=Lib.hid hI
 obtain ⟨y0,y1,z0,z1⟩:=row2 r0
 clear hx hy hL hR h0 hI hmap hE hf bw r0 r1 B0 KW
 go_enter Tryz.func36,Tryz.ntmps36
 go_wp2_with (first
  | (
    go_at_call 69
    refine C1.out.mono ?_
    rintro e w3 ⟨v3,rfl,h3,i3,b3⟩
    obtain ⟨fa,fc,rfl,-,-,-,-⟩:=At.sl_inv h3
    have I3:=Lib.hid (And.intro h3 (And.intro i3 b3))
    have B3:=Lib.hid (HB.out.trans b3)
    have Q0:=Lib.hid ((b3.block _ (Array.getElem?_eq_some_iff.1 R0.out).1 (LE.out _ (Nat.le_refl _))).trans R0.out)
    have Q1:=Lib.hid ((b3.block _ (Array.getElem?_eq_some_iff.1 R1.out).1 (LE.out _ (by omega))).trans R1.out)
    clear C1 h3 i3 b3 y0 y1 z0 z1 hW0
    obtain ⟨y0,y1,z0,z1⟩:=row2 Q0.out)
  | (
    go_at_call 69
    refine (C2.out _ I3.out.2.1 B3.out).mono ?_
    rintro e w5 ⟨v5,rfl,h5,i5,b5⟩
    obtain ⟨ga,gc,rfl,-,-,-,-⟩:=At.sl_inv h5
    have I5:=Lib.hid (And.intro h5 (And.intro i5 b5))
    have P1:=Lib.hid ((b5.block _ (Array.getElem?_eq_some_iff.1 Q1.out).1 (LE.out _ (by omega))).trans Q1.out)
    clear h5 i5 b5 y0 y1 z0 z1
    obtain ⟨y0,y1,z0,z1⟩:=row2 P1.out))
 have g:=aC (o:=1) (u:=.slice ga (aK f (aK f s0 L).2 R).1.length gc) (aC (o:=0) (u:=.slice fa (aK f s0 L).1.length fc) P1.out)
 refine bodyPost_ret (results_cell_row rfl _ _ (W.heap.size + 1) 26 _ (0,0) _ rfl g Tryz.underlying26 rfl iSq) rfl ?_
 obtain ⟨h3,i3,b3⟩:=I3.out
 obtain ⟨h5,i5,b5⟩:=I5.out
 have key : ∀ k,k ≠ W.heap.size + 1 → ((w5.setCell ⟨W.heap.size + 1,0,none⟩ (.slice fa (aK f s0 L).1.length fc)).setCell ⟨W.heap.size + 1,1,none⟩ (.slice ga (aK f (aK f s0 L).2 R).1.length gc)).heap[k]? = w5.heap[k]?:=fun k hk=>by rw [Below.heap_setCell _ _ _ _ hk,Below.heap_setCell _ _ _ _ hk]
 have l1:=(Array.getElem?_eq_some_iff.1 R1.out).1
 have l3:=b3.size
 refine ⟨_,rfl,⟨_,_,_,_,_,_,rfl, ?_, ?_⟩, ?_, ?_⟩
 ·refine h3.keep (aH fun k h1 h2=>?_)
  simp only [lo,decide_eq_false_iff_not,Nat.not_lt] at h2 ⊢
  exact ⟨by omega,by rw [key k (by omega),b5.block k h1 (LE.out k (by omega))]⟩
 ·refine h5.keep (aH fun k h1 h2=>?_)
  simp only [lo,decide_eq_false_iff_not,Nat.not_lt] at h2 ⊢
  exact ⟨by omega,key k (by omega)⟩
 ·exact HI.out _ w5 _ i5 (fun k hk=>key k (by omega))
 ·exact ((B3.out.trans b5).set (by omega) _ _).set (by omega) _ _

end Go.Proofs.YtppfalbnhnpbnaaGreatDoor
namespace Go.Proofs.YtppfalbnhnpbnaaGreatDoor
open Go Go.RowKit Ly
set_option maxRecDepth 100000
attribute [local go_sem] Oper.semAt_some
structure Come (D : DataW Value) (left : Lit → Bool) (ss : List (Bs × Nat)) : Prop where
 only : ∀ s ∈ ss,okX s ∧ Maps.has D (litX s) = true
 all : ∀ s,okX s → Maps.has D (litX s) = true → left (litX s) = false → s ∈ ss
theorem Come.start (D : DataW Value) : Come D (Maps.has D) []:=⟨fun s h=>(by cases h),fun s _ h1 h2=>(by rw [h1] at h2;cases h2)⟩
theorem Come.step {D : DataW Value} {left : Lit → Bool} {ss : List (Bs × Nat)} (h : Come D left ss) {s : Bs × Nat} (hs : okX s) (hh : Maps.has D (litX s) = true) : Come D (fun z=>left z && !z.sameKey (litX s)) (ss ++ [s]):=by
 refine ⟨fun t ht=>?_,fun t ht h1 h2=>?_⟩
 ·rcases List.mem_append.1 ht with ht | ht
  ·exact h.only t ht
  ·rw [List.mem_singleton.1 ht];exact ⟨hs,hh⟩
 ·by_cases e : t = s
  ·subst e;simp
  ·have:=keyX.ne hs ht e
   have ne : (litX t).sameKey (litX s) = false:=by simpa [litX,Lit.sameKey] using this
   rw [ne] at h2
   exact List.mem_append.2 (.inl (h.all t ht h1 (by simpa using h2)))
set_option maxHeartbeats 4000000 in
theorem keysX_in (F : Fence) (n : Nat) (hf : F.fn 235) (hro : F.round = none) (hn : 1 ≤ n) (l B M N : Nat) (L : List (Bs × Nat)) (J : List (Bs × Nat) → World → Prop)
  (hY : ∀ pre x W,J pre W → pre.length < N → YieldAt F (n - 1) Tryz.prog l #[encX x] W fun e W'=>e = .returned (.bool true) ∧ J (pre ++ [x]) W' ∧ KeepsWalks W W')
  (W : World) (hJ : AbidesFrom W.heap.size J) (hm : W.cell? ⟨B,0,none⟩ = some (.map (some M))) (hs : gD W M N L) (h0 : J [] W) :
  CallsIn F n Tryz.prog 235 #[.func (.yield l) #[] #[],.pointer (some ⟨B,0,none⟩)] W fun e W'=>(∃ v,e = .returned v) ∧ ∃ ss : List (Bs × Nat),(∀ s,s ∈ ss ↔ okX s ∧ s ∈ L) ∧ J ss W':=by
 obtain ⟨D,hown,hS,-,hOnly⟩:=hs
 have hle:=hown.size_le
 have inj : ∀ (a b : Value) (kl : Lit),keyOf Tryz.prog 51 a = some kl → keyOf Tryz.prog 51 b = some kl → a = b:=fun a b kl h1 h2=>keyX.keyed.inj h1 h2
 refine callsIn_of_wp Tryz.func235 rfl hf ?_ hro
 simp only [Tryz.ntmps235,List.size_toArray,List.length_cons,List.length_nil,Nat.reduceAdd,Nat.reduceSub,Array.replicate_succ,Array.replicate_zero,List.push_toArray,List.append_toArray,List.nil_append,List.cons_append]
 gi_wp2_with (first
  | (gi_at_range;refine wpListIn_range_own _ rfl _ 186 rfl 51 4 keyX.keyed zG _ M N _ rfl hown ?_;intro w0 hrg0 hg0 hs0)
  | gi_in)
 try go_frame
 gi_loopw [3] (fun _ wr=>∃ (left : Lit → Bool) (cnt : Nat) (ss : List (Bs × Nat)),wr.ranges Tryz.prog 51 hR M W.heap.size N D left cnt ∧ ss.length + cnt ≤ Maps.size D ∧ Come D left ss ∧ J ss wr)
  (fun _ wr=>wr.rangeLeft M W.heap.size)
 case atStart =>
  exact ⟨_,_,[],hrg0,by simp,Come.start D,hJ [] W w0 none h0 hg0 (fun r e=>by cases e)⟩
 case round =>
  obtain ⟨left,cnt,ss,hrg,hcs,hC,hJs⟩:=hrel
  gi_wp2_with (first
   | (gi_at_next;refine wpListIn_next_ranges _ rfl _ rfl 51 keyX.keyed hR id id (fun key kl hk=>⟨key,rfl⟩) (fun v _ _=>⟨v,rfl⟩) M W.heap.size N _ _ _ rfl hrg ?_ ?_)
   | gi_in)
  ·intro hc0 hl0
   gi_wp2
   go_end0
   exact ⟨⟨_,rfl⟩,ss,fun s=>⟨fun h=>⟨(hC.only s h).1,by have:=(hC.only s h).2;rw [hS s (hC.only s h).1] at this;simpa using this⟩,fun h=>hC.all s h.1 (by rw [hS s h.1];simpa using h.2) (hl0 _)⟩,hJs⟩
  ·intro key c kl yd yp w2 cnt2 hkey hlk hv hat hrg2 hlt hg2 hs2 hen
   have hh:=Maps.has_true_of_atKey hat
   obtain ⟨x,hx,rfl⟩:=hOnly kl hh
   obtain ⟨nm,ar⟩:=x
   obtain rfl : key = .agg #[str nm,.int .i64 ar]:=inj _ _ _ hkey (keyX.key (nm,ar) hx)
   have hJ2 : J ss w2:=hJ ss wr w2 (some W.heap.size) hJs hg2 (fun r e=>by cases e;exact ⟨Nat.le_refl _,hrg.iter_walk⟩)
   obtain ⟨w4,hw4⟩ : ∃ w4,w2.alloc (.cells #[str nm,.int .i64 ar] 51) = w4:=⟨_,rfl⟩
   have hJ4 : J ss w4:=by rw [← hw4];exact hJ ss w2 _ none hJ2 (World.grownBy_alloc w2 _ none) (fun r e=>by cases e)
   obtain ⟨fn,tmps,assign,body,hy,hR⟩:=hY ss (nm,ar) w4 hJ4 (by omega)
   simp only [encX] at hy
   have hk4 : KeepsWalks w2 w4:=by rw [← hw4];exact KeepsWalks.alloc _ _
   obtain ⟨c0,c1,-,-⟩:=row2 (show w4.heap[w2.heap.size]? = some (.cells #[str nm,.int .i64 ar] 51 (0,0)) by rw [← hw4];exact heap_alloc_new w2 _)
   clear hs2
   gi_wp2
   refine hR.mono ?_
   rintro e W3 ⟨rfl,hJ3,hk3⟩
   gi_wp2
   have hrg3:=hrg2.of_walks (hk4.trans hk3)
   go_roundw
   case rel=>exact ⟨_,cnt2,ss ++ [(nm,ar)],hrg3,by simp;omega,hC.step hx hh,hJ3⟩
   case measure=>rw [hrg3.left_eq,hrg.left_eq];exact hlt
theorem keysX_c (mb : Option Nat) (w : World) :
  Calls Tryz.prog 205 #[.map mb] w fun e w'=>e = .returned (.func (.func 235) #[] #[.pointer (some ⟨w.heap.size,0,none⟩)]) ∧ w' = w.alloc (.cells #[.map mb] 186):=by
 go_enter Tryz.func205,Tryz.ntmps205
 go_wp2
 go_ret
 exact ⟨rfl,rfl⟩
end Go.Proofs.YtppfalbnhnpbnaaGreatDoor
