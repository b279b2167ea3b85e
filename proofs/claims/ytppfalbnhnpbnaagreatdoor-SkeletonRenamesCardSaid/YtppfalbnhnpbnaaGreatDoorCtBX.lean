/- syntax.copyTerm, syntax.copyList at terms: a copy of a term. Conditions: those of each statement. -/
import Derived.Test.YtppfalbnhnpbnaaGreatDoorMtBX
import Derived.Test.YtppfalbnhnpbnaaGreatDoorEaBX
import Derived.Test.YtppfalbnhnpbnaaGreatDoorRegUX
import Derived.Maps.AppendAt
import Derived.OwnWalk
import Derived.Test.YtppfalbnhnpbnaaGreatDoorPdCX
import Derived.Test.YtppfalbnhnpbnaaGreatDoorKyAX
set_option linter.unusedSimpArgs false
set_option linter.unusedVariables false
namespace Go.Proofs.YtppfalbnhnpbnaaGreatDoor
open Go Go.RowKit Ly
set_option maxRecDepth 10000
def CT (t : Tm) : Prop:=∀ (W : World) (x : Value),dR W t x → t.nodes ≤ 100000 → Calls Tryz.prog 167 #[x] W (RetH t W)
set_option maxHeartbeats 8000000 in
theorem AJ (l : List Tm) (ih : ∀ t ∈ l,CT t) (W : World) (a : Option Addr) (n c : Nat) (hx : bE W l (.slice a n c)) (hn : aM l ≤ 100000) :
  Calls Tryz.prog 166 #[.slice a n c,.func (.func 167) #[] #[]] W fun e w'=>∃ fa fc,e = .returned (.slice fa l.length fc) ∧ bE (hide (lo W) w') l (.slice fa l.length fc) ∧ Below W.heap.size W w':=by
 have hl:=hx.len
 have L2:=Lib.hid hl.1
 have N0 : n ≤ 100000:=by rw [hl.1];have:=dQ l;omega
 have HX:=Lib.hid hx
 have HN:=Lib.hid hn
 have IH:=Lib.hid ih
 obtain ⟨i0,hi0,hz0,hs0,hb0⟩:=info_parts lF
 clear hl hx hn ih
 go_enter Tryz.func166,Tryz.ntmps166
 by_cases hn0 : n = 0
 ·subst hn0
  go_wp2
  have e : l = []:=List.eq_nil_of_length_eq_zero L2.out.symm
  go_ret
  subst e
  exact ⟨_,_,rfl,At.sl_nil (by unfold maxLen;omega),Below.refl _ _⟩
 ·have hn1 : ¬ (n : Int) = 0:=by omega
  go_wp2_with (at_make;refine wpList_make_own _ rfl _ _ 36 rfl W.heap.size 38 i0 (.agg #[.bool false,.string ⟨#[]⟩,.slice none 0 0]) 3 Tryz.underlying36 hi0 hz0 hs0 .i64 .i64 _ n rfl rfl (by first | rfl | omega) (by rw [hb0];omega) (by unfold maxLen;omega) (Nat.le_refl _) ?_;intro w1 hown1 hgrow1)
  have A0 : Hid (eJ (lo W) W.heap.size w1 38 3 0 [] (.slice (some ⟨W.heap.size,0,none⟩) 0 n) ∧ Below W.heap.size W w1) :=
   ⟨⟨[],hown1,bM.nil _⟩,⟨hgrow1.os,hgrow1.tape,hgrow1.output,hgrow1.size,fun k hk=>hgrow1.block k hk (by simp)⟩⟩
  generalize Value.slice (some ⟨W.heap.size,0,none⟩) 0 n = u0 at *
  clear hown1 hgrow1 hn0 hn1
  go_loopw [5,16] (fun u i wr=>∃ (j : Nat) (U : Value),j ≤ n ∧ i = .int .i64 j ∧ U = u ∧ Hid (eJ (lo W) W.heap.size wr 38 3 j (bW (l.take j)) U ∧ Below W.heap.size W wr)) (fun _ i _=>n - (intOf i).toNat)
  case atStart=>exact ⟨0,_,Nat.zero_le _,rfl,rfl,A0.out⟩
  case round =>
   obtain ⟨j,U,hj,rfl,rfl,hs⟩:=hrel
   clear A0
   by_cases hlt : j < n
   ·obtain ⟨T,hT⟩:=aX (l:=l) (j:=j) (by rw [← L2.out];exact hlt)
    obtain ⟨bb,off,rfl,hc⟩:=HX.out.get (aZ hT)
    obtain ⟨x0,x1,x2,hx⟩:=hc j _ hT
    have hK:=aA hs.out.2
    have c0:=hK _ _ hx.c0;have c1:=hK _ _ hx.c1;have c2:=hK _ _ hx.c2
    have TE:=Lib.hid (gD l hT)
    have IC : Hid (∀ o,Calls Tryz.prog 167 #[.agg #[.bool T.v,str T.name,.slice x0 x1 x2]] (wr.alloc o) (RetH T (wr.alloc o))):=fun o=>IH.out T (List.mem_of_getElem? hT) _ _ ⟨_,_,_,rfl,(hx.at_.keep hK).keep (aA ((Below.refl _ _).alloc (Nat.le_refl _) _))⟩ (by have:=eD (List.mem_of_getElem? hT);have:=HN.out;omega)
    clear hc hx hT hK
    go_wp2_with (first
     | (
       go_at_call 167
       refine (IC.out _).mono ?_
       rintro e w3 ⟨v3,rfl,⟨fa,fn,fc,rfl,h3⟩,b3⟩
       obtain ⟨xs,ow,fin⟩:=qO (ty:=38) hs.out.1 (fun k hk=>by simp [lo];omega) (aE ((Below.refl _ _).alloc (Nat.le_refl _) _) b3) (jA (w0:=W) (u:=U) (fun g hg=>by have:=(eC hs.out.1 g hg).2;simp;omega) (by have:=hs.out.2.size;simp;omega) (fJ h3))
       have OW:=Lib.hid ow
       have FIN:=Lib.hid fin
       have B3 : Hid (Below W.heap.size W w3):=hs.out.2.trans ((aE ((Below.refl _ wr).alloc (Nat.le_refl _) _) b3).mono hs.out.2.size)
       clear h3 b3 ow fin IC)
     | (at_builtin;refine wpList_append_own_at _ rfl _ _ 36 rfl W.heap.size 38 i0 (.agg #[.bool false,.string ⟨#[]⟩,.slice none 0 0]) 3 48 Tryz.underlying36 hi0 hz0 hs0 hb0 rfl (by decide) U j xs (by rfl) OW.out ⟨w3.heap.size,0,none⟩ 1 1 [.bool T.v,str T.name,.slice fa fn fc] (by rfl) rfl (tU _ _ _ _ _) iE (by unfold maxLen;omega) (by omega) (by have:=B3.out.size;simp;omega) ?_;intro v5 w5 hown5 hg5 _ hat5;have F5:=Lib.hid (FIN.out v5 w5 hown5 hg5 hat5);have B5 : Hid (Below W.heap.size W w5):=((B3.out.alloc B3.out.size _).grown hg5 (by have:=B3.out.size;simp;omega) (fun kk hkk=>by have:=eC hs.out.1 kk hkk;omega));clear hown5 hg5 hat5 FIN OW))
    go_roundw
    case rel=>exact ⟨j + 1,_,by omega,by go_num,rfl,by rw [TE.out];exact F5.out,B5.out⟩
    case measure=>simp [intOf];omega
   ·have e : l.take j = l:=List.take_of_length_le (by rw [← L2.out];omega)
    have EJ : Hid (j = l.length):=by show j = _;rw [← L2.out];omega
    have ha:=hs.out.1
    rw [e] at ha
    have HA:=Lib.hid ha
    have HB:=Lib.hid hs.out.2
    obtain ⟨fa,fc,rfl⟩:=lI ha.choose_spec.1
    clear ha hs e
    go_wp2
    go_ret
    refine ⟨fa,fc,by rw [← EJ.out];rfl, ?_,HB.out⟩
    have:=HA.out.at (fun k hk=>by simp [lo];omega)
    show At _ (.sl 3 l.length (bW l)) (.slice fa l.length fc)
    rw [← EJ.out]
    exact this
set_option maxHeartbeats 8000000 in
theorem ct_step (v : Bool) (nm : Bs) (ts : List Tm) (ih : ∀ t ∈ ts,CT t) : CT (.mk v nm ts):=by
 intro W x hx0 hn
 obtain ⟨a,N,c,rfl,hx⟩ : ∃ a N c,x = .agg #[.bool v,str nm,.slice a N c] ∧ bE W ts (.slice a N c):=hx0
 have nd : (Tm.mk v nm ts).nodes = 1 + aM ts:=by simp [Tm.nodes]
 rw [nd] at hn
 obtain ⟨W1,hW1⟩ : ∃ W1,(W.alloc (.cells #[.bool v,str nm,.slice a N c] 38)).alloc (.cells #[.bool false,str [],.slice none 0 0] 38) = W1:=⟨_,rfl⟩
 have b1 : Below W.heap.size W W1:=by rw [← hW1];exact ((Below.refl _ _).alloc (Nat.le_refl _) _).alloc (by simp) _
 have r0 : W1.heap[W.heap.size]? = some (.cells #[.bool v,str nm,.slice a N c] 38 (0,0)):=by rw [← hW1];exact aI _ (heap_alloc_new W _)
 have r1 : W1.heap[W.heap.size + 1]? = some (.cells #[.bool false,str [],.slice none 0 0] 38 (0,0)):=by
  rw [← hW1]
  have:=heap_alloc_new (W.alloc (.cells #[.bool v,str nm,.slice a N c] 38)) (.cells #[.bool false,str [],.slice none 0 0] 38)
  rwa [World.size_alloc] at this
 have CC : Hid (∀ X,Below W.heap.size W X → Calls Tryz.prog 166 #[.slice a N c,.func (.func 167) #[] #[]] X fun e w'=>∃ fa fc,e = .returned (.slice fa ts.length fc) ∧ bE (hide (lo X) w') ts (.slice fa ts.length fc) ∧ Below X.heap.size X w'):=fun X hb=>AJ ts ih X a N c (hx.keep (aA hb)) (by omega)
 have B1:=Lib.hid b1
 have R0:=Lib.hid r0
 have R1:=Lib.hid r1
 clear b1 r0 r1 hx hn nd ih
 go_enter Tryz.func167,Tryz.ntmps167
 go_upto_region 1 with fail
 refine cH (q:=8) (S:=fun w'=>Below W1.heap.size W1 w') (by kernel_rfl) (Below.refl _ _).drew (fun hHeld=>?_)
 refine aD (i:=0) (v:=?_) rfl (by kernel_rfl) (by kernel_rfl) (by kernel_rfl) (by kernel_rfl) (fun _ _ _ h=>h) (Or.inl ⟨by rfl, ?_⟩) (by assumption) ?_
 rotate_left
 ·(intro w0 hSw;go_simp;(try with_reducible rfl))
 try simp only [Act.put,List.getElem_toArray,List.getElem_cons_succ,List.getElem_cons_zero,List.setIfInBounds_toArray,List.set_cons_zero,List.set_cons_succ]
 refine aD (i:=1) (v:=?_) rfl (by kernel_rfl) (by kernel_rfl) (by kernel_rfl) (by kernel_rfl) (fun _ _ _ h=>h) (Or.inl ⟨by rfl, ?_⟩) (by assumption) ?_
 rotate_left
 ·(intro w0 hSw;obtain ⟨z0,z1,z2,-⟩:=row95' ((hSw.block _ (Array.getElem?_eq_some_iff.1 R0.out).1).trans R0.out);go_simp;(try with_reducible rfl))
 try simp only [Act.put,List.getElem_toArray,List.getElem_cons_succ,List.getElem_cons_zero,List.setIfInBounds_toArray,List.set_cons_zero,List.set_cons_succ]
 refine aD (i:=2) (v:=?_) rfl (by kernel_rfl) (by kernel_rfl) (by kernel_rfl) (by kernel_rfl) (fun _ _ _ h=>h) (Or.inl ⟨by rfl, ?_⟩) (by assumption) ?_
 rotate_left
 ·(intro w0 hSw;go_simp;(try with_reducible rfl))
 try simp only [Act.put,List.getElem_toArray,List.getElem_cons_succ,List.getElem_cons_zero,List.setIfInBounds_toArray,List.set_cons_zero,List.set_cons_succ]
 refine aD (i:=3) (v:=?_) rfl (by kernel_rfl) (by kernel_rfl) (by kernel_rfl) (by kernel_rfl) (fun _ _ _ h=>h) (Or.inl ⟨by rfl, ?_⟩) (by assumption) ?_
 rotate_left
 ·(intro w0 hSw;obtain ⟨z0,z1,z2,-⟩:=row95' ((hSw.block _ (Array.getElem?_eq_some_iff.1 R0.out).1).trans R0.out);go_simp;(try with_reducible rfl))
 try simp only [Act.put,List.getElem_toArray,List.getElem_cons_succ,List.getElem_cons_zero,List.setIfInBounds_toArray,List.set_cons_zero,List.set_cons_succ]
 refine aD (i:=4) (v:=?_) rfl (by kernel_rfl) (by kernel_rfl) (by kernel_rfl) (by kernel_rfl) (fun _ _ _ h=>h) (Or.inl ⟨by rfl, ?_⟩) (by assumption) ?_
 rotate_left
 ·(intro w0 hSw;go_simp;(try with_reducible rfl))
 try simp only [Act.put,List.getElem_toArray,List.getElem_cons_succ,List.getElem_cons_zero,List.setIfInBounds_toArray,List.set_cons_zero,List.set_cons_succ]
 refine aD (i:=5) (v:=?_) rfl (by kernel_rfl) (by kernel_rfl) (by kernel_rfl) (by kernel_rfl) (fun _ _ _ h=>h) (Or.inl ⟨by rfl, ?_⟩) (by assumption) ?_
 rotate_left
 ·(intro w0 hSw;obtain ⟨z0,z1,z2,-⟩:=row95' ((hSw.block _ (Array.getElem?_eq_some_iff.1 R0.out).1).trans R0.out);go_simp;(try with_reducible rfl))
 try simp only [Act.put,List.getElem_toArray,List.getElem_cons_succ,List.getElem_cons_zero,List.setIfInBounds_toArray,List.set_cons_zero,List.set_cons_succ]
 refine aY (j:=6) (by kernel_rfl) (by kernel_rfl) rfl (fun K hK=>?_)
 go_simp
 go_at_call 166
 refine (CC.out _ B1.out.drew).mono ?_
 rintro e w5 ⟨fa,fc,rfl,h5,b5⟩
 have H5:=Lib.hid (And.intro h5 b5)
 have hS5:=hHeld.trans b5
 clear h5 b5 CC hHeld
 go_simp
 refine hK.out _ _ hS5 (fun hHeld=>?_)
 clear hK K hS5
 try simp only [Act.put,List.getElem_toArray,List.getElem_cons_succ,List.getElem_cons_zero,List.setIfInBounds_toArray,List.set_cons_zero,List.set_cons_succ]
 refine aD (i:=7) (v:=?_) rfl (by kernel_rfl) (by kernel_rfl) (by kernel_rfl) (by kernel_rfl) (fun _ _ _ h=>h) (Or.inl ⟨by rfl, ?_⟩) (by assumption) ?_
 rotate_left
 ·(intro w0 hSw;go_simp;(try with_reducible rfl))
 try simp only [Act.put,List.getElem_toArray,List.getElem_cons_succ,List.getElem_cons_zero,List.setIfInBounds_toArray,List.set_cons_zero,List.set_cons_succ]
 refine cG (by kernel_rfl) (by kernel_rfl) rfl (fun K hK=>?_)
 have r5 : w5.heap[W.heap.size + 1]? = some (.cells #[.bool false,str [],.slice none 0 0] 38 (0,0)):=(hHeld.block _ (Array.getElem?_eq_some_iff.1 R1.out).1).trans R1.out
 have BF : Hid (Below W.heap.size W w5):=B1.out.trans (hHeld.mono B1.out.size)
 obtain ⟨p0,p1,p2,z0,z1,z2⟩:=row95' r5
 have R5:=Lib.hid r5
 clear r5
 go_simp
 refine hK.out _ _ ?_
 clear hK K hHeld
 go_wp2_with fail
 obtain ⟨g1,g2,g3⟩:=nT (u:=.bool v) (v:=str nm) (t:=.slice fa ts.length fc) (b:=W.heap.size + 1) (by omega) BF.out R5.out
 refine bodyPost_ret (gL rfl _ _ (W.heap.size + 1) _ _ _ (0,0) rfl g1) rfl ?_
 refine ⟨.agg #[.bool v,str nm,.slice fa ts.length fc],rfl,⟨_,_,_,rfl, ?_⟩,g2⟩
 refine H5.out.1.keep (aF fun k h1 h2=>?_)
 have hs:=(Array.getElem?_eq_some_iff.1 R1.out).1
 simp only [lo,decide_eq_false_iff_not,Nat.not_lt] at h2
 have hk2 : W1.heap.size ≤ k:=h2
 exact ⟨by simp [lo];omega,g3 k (by omega)⟩
mutual
theorem ct_all : ∀ t : Tm,CT t
 | .mk v nm ts=>ct_step v nm ts (uW ts)
theorem uW : ∀ ts : List Tm,∀ t ∈ ts,CT t
 | [],_,h=>by cases h
 | x :: xs,t,h=>by
  rcases List.mem_cons.1 h with e | e
  ·rw [e];exact ct_all x
  ·exact uW xs t e
end
end Go.Proofs.YtppfalbnhnpbnaaGreatDoor
namespace Go.Proofs.YtppfalbnhnpbnaaGreatDoor
open Go Go.RowKit Ly
set_option maxRecDepth 10000
theorem fmsNodes_mem' {T : Fm} : ∀ {fs : List Fm},T ∈ fs → T.nodes ≤ aG fs
 | [],h=>by cases h
 | x :: fs,h=>by
  rcases List.mem_cons.1 h with rfl | h
  ·simp [aG]
  ·have:=fmsNodes_mem' h;simp [aG];omega
def CF (t : Fm) : Prop:=∀ (W : World) (x : Value),bH W t x → t.nodes ≤ 100000 → Calls Tryz.prog 113 #[x] W (wZ t W)
set_option maxHeartbeats 8000000 in
theorem clF_c (l : List Fm) (ih : ∀ t ∈ l,CF t) (W : World) (a : Option Addr) (n c : Nat) (hx : aL W l (.slice a n c)) (hn : aG l ≤ 100000) :
  Calls Tryz.prog 168 #[.slice a n c,.func (.func 113) #[] #[]] W fun e w'=>∃ fa fc,e = .returned (.slice fa l.length fc) ∧ aL (hide (lo W) w') l (.slice fa l.length fc) ∧ Below W.heap.size W w':=by
 have hl:=hx.len
 have L2:=Lib.hid hl.1
 have N0 : n ≤ 100000:=by rw [hl.1];have:=fmsLen_le' l;omega
 have HX:=Lib.hid hx
 have HN:=Lib.hid hn
 have IH:=Lib.hid ih
 obtain ⟨i0,hi0,hz0,hs0,hb0⟩:=info_parts dN
 clear hl hx hn ih
 go_enter Tryz.func168,Tryz.ntmps168
 by_cases hn0 : n = 0
 ·subst hn0
  go_wp2
  have e : l = []:=List.eq_nil_of_length_eq_zero L2.out.symm
  go_ret
  subst e
  exact ⟨_,_,rfl,At.sl_nil (by unfold maxLen;omega),Below.refl _ _⟩
 ·have hn1 : ¬ (n : Int) = 0:=by omega
  go_wp2_with (at_make;refine wpList_make_own _ rfl _ _ 24 rfl W.heap.size 40 i0 (.agg #[.int .u8 0,.string ⟨#[]⟩,.slice none 0 0,.slice none 0 0]) 4 Tryz.underlying24 hi0 hz0 hs0 .i64 .i64 _ n rfl rfl (by first | rfl | omega) (by rw [hb0];omega) (by unfold maxLen;omega) (Nat.le_refl _) ?_;intro w1 hown1 hgrow1)
  have A0 : Hid (eJ (lo W) W.heap.size w1 40 4 0 [] (.slice (some ⟨W.heap.size,0,none⟩) 0 n) ∧ Below W.heap.size W w1) :=
   ⟨⟨[],hown1,bM.nil _⟩,⟨hgrow1.os,hgrow1.tape,hgrow1.output,hgrow1.size,fun k hk=>hgrow1.block k hk (by simp)⟩⟩
  generalize Value.slice (some ⟨W.heap.size,0,none⟩) 0 n = u0 at *
  clear hown1 hgrow1 hn0 hn1
  go_loopw [5,16] (fun u i wr=>∃ (j : Nat) (U : Value),j ≤ n ∧ i = .int .i64 j ∧ U = u ∧ Hid (eJ (lo W) W.heap.size wr 40 4 j (bJ (l.take j)) U ∧ Below W.heap.size W wr)) (fun _ i _=>n - (intOf i).toNat)
  case atStart=>exact ⟨0,_,Nat.zero_le _,rfl,rfl,A0.out⟩
  case round =>
   obtain ⟨j,U,hj,rfl,rfl,hs⟩:=hrel
   clear A0
   by_cases hlt : j < n
   ·obtain ⟨T,hT⟩:=aX (l:=l) (j:=j) (by rw [← L2.out];exact hlt)
    obtain ⟨bb,off,rfl,hc⟩:=HX.out.get (aZ hT)
    obtain ⟨x0,x1,x2,x3,x4,x5,hx⟩:=hc j _ hT
    have hK:=aA hs.out.2
    have c0:=hK _ _ hx.c0;have c1:=hK _ _ hx.c1;have c2:=hK _ _ hx.c2;have c3:=hK _ _ hx.c3
    have TE:=Lib.hid (gV l hT)
    have IC : Hid (∀ o,Calls Tryz.prog 113 #[.agg #[.int .u8 T.op,str T.name,.slice x0 x1 x2,.slice x3 x4 x5]] (wr.alloc o) (wZ T (wr.alloc o))):=fun o=>IH.out T (List.mem_of_getElem? hT) _ _ ⟨_,_,_,_,_,_,rfl,(hx.at_.keep hK).keep (aA ((Below.refl _ _).alloc (Nat.le_refl _) _)),(hx.at'.keep hK).keep (aA ((Below.refl _ _).alloc (Nat.le_refl _) _))⟩ (by have:=fmsNodes_mem' (List.mem_of_getElem? hT);have:=HN.out;omega)
    clear hc hx hT hK
    go_wp2_with (first
     | (
       go_at_call 113
       refine (IC.out _).mono ?_
       rintro e w3 ⟨v3,rfl,⟨fa,fn,fc,ga,gn,gc,rfl,h3⟩,b3⟩
       obtain ⟨xs,ow,fin⟩:=qO (ty:=40) hs.out.1 (fun k hk=>by simp [lo];omega) (aE ((Below.refl _ _).alloc (Nat.le_refl _) _) b3) (jA (w0:=W) (u:=U) (fun g hg=>by have:=(eC hs.out.1 g hg).2;simp;omega) (by have:=hs.out.2.size;simp;omega) (dS h3.1 h3.2))
       have OW:=Lib.hid ow
       have FIN:=Lib.hid fin
       have B3 : Hid (Below W.heap.size W w3):=hs.out.2.trans ((aE ((Below.refl _ wr).alloc (Nat.le_refl _) _) b3).mono hs.out.2.size)
       clear h3 b3 ow fin IC)
     | (at_builtin;refine wpList_append_own_at _ rfl _ _ 24 rfl W.heap.size 40 i0 (.agg #[.int .u8 0,.string ⟨#[]⟩,.slice none 0 0,.slice none 0 0]) 4 72 Tryz.underlying24 hi0 hz0 hs0 hb0 rfl (by decide) U j xs (by rfl) OW.out ⟨w3.heap.size,0,none⟩ 1 1 [.int .u8 T.op,str T.name,.slice fa fn fc,.slice ga gn gc] (by rfl) rfl (eT _ _ _ _ _ _) cJ (by unfold maxLen;omega) (by omega) (by have:=B3.out.size;simp;omega) ?_;intro v5 w5 hown5 hg5 _ hat5;have F5:=Lib.hid (FIN.out v5 w5 hown5 hg5 hat5);have B5 : Hid (Below W.heap.size W w5):=((B3.out.alloc B3.out.size _).grown hg5 (by have:=B3.out.size;simp;omega) (fun kk hkk=>by have:=eC hs.out.1 kk hkk;omega));clear hown5 hg5 hat5 FIN OW))
    go_roundw
    case rel=>exact ⟨j + 1,_,by omega,by go_num,rfl,by rw [TE.out];exact F5.out,B5.out⟩
    case measure=>simp [intOf];omega
   ·have e : l.take j = l:=List.take_of_length_le (by rw [← L2.out];omega)
    have EJ : Hid (j = l.length):=by show j = _;rw [← L2.out];omega
    have ha:=hs.out.1
    rw [e] at ha
    have HA:=Lib.hid ha
    have HB:=Lib.hid hs.out.2
    obtain ⟨fa,fc,rfl⟩:=lI ha.choose_spec.1
    clear ha hs e
    go_wp2
    go_ret
    refine ⟨fa,fc,by rw [← EJ.out];rfl, ?_,HB.out⟩
    have:=HA.out.at (fun k hk=>by simp [lo];omega)
    show At _ (.sl 4 l.length (bJ l)) (.slice fa l.length fc)
    rw [← EJ.out]
    exact this
set_option maxHeartbeats 8000000 in
theorem cf_step (op : Int) (nm : Bs) (ts : List Tm) (fs : List Fm) (ih : ∀ t ∈ fs,CF t) : CF (.mk op nm ts fs):=by
 intro W x hx0 hn
 obtain ⟨a,N,c,b,M,d,rfl,hx,hy⟩ : ∃ a N c b M d,x = .agg #[.int .u8 op,str nm,.slice a N c,.slice b M d] ∧ bE W ts (.slice a N c) ∧ aL W fs (.slice b M d):=hx0
 have nd : (Fm.mk op nm ts fs).nodes = 1 + aM ts + aG fs:=by simp [Fm.nodes]
 rw [nd] at hn
 obtain ⟨W1,hW1⟩ : ∃ W1,(W.alloc (.cells #[.int .u8 op,str nm,.slice a N c,.slice b M d] 40)).alloc (.cells #[.int .u8 0,str [],.slice none 0 0,.slice none 0 0] 40) = W1:=⟨_,rfl⟩
 have b1 : Below W.heap.size W W1:=by rw [← hW1];exact ((Below.refl _ _).alloc (Nat.le_refl _) _).alloc (by simp) _
 have r0 : W1.heap[W.heap.size]? = some (.cells #[.int .u8 op,str nm,.slice a N c,.slice b M d] 40 (0,0)):=by rw [← hW1];exact aI _ (heap_alloc_new W _)
 have r1 : W1.heap[W.heap.size + 1]? = some (.cells #[.int .u8 0,str [],.slice none 0 0,.slice none 0 0] 40 (0,0)):=by
  rw [← hW1]
  have:=heap_alloc_new (W.alloc (.cells #[.int .u8 op,str nm,.slice a N c,.slice b M d] 40)) (.cells #[.int .u8 0,str [],.slice none 0 0,.slice none 0 0] 40)
  rwa [World.size_alloc] at this
 have CC : Hid (∀ X,Below W.heap.size W X → Calls Tryz.prog 166 #[.slice a N c,.func (.func 167) #[] #[]] X fun e w'=>∃ fa fc,e = .returned (.slice fa ts.length fc) ∧ bE (hide (lo X) w') ts (.slice fa ts.length fc) ∧ Below X.heap.size X w'):=fun X hb=>AJ ts (uW ts) X a N c (hx.keep (aA hb)) (by omega)
 have CD : Hid (∀ X,Below W.heap.size W X → Calls Tryz.prog 168 #[.slice b M d,.func (.func 113) #[] #[]] X fun e w'=>∃ fa fc,e = .returned (.slice fa fs.length fc) ∧ aL (hide (lo X) w') fs (.slice fa fs.length fc) ∧ Below X.heap.size X w'):=fun X hb=>clF_c fs ih X b M d (hy.keep (aA hb)) (by omega)
 have B1:=Lib.hid b1
 have R0:=Lib.hid r0
 have R1:=Lib.hid r1
 clear b1 r0 r1 hx hy hn nd ih
 go_enter Tryz.func113,Tryz.ntmps113
 go_upto_region 1 with fail
 refine cH (q:=11) (S:=fun w'=>Below W1.heap.size W1 w') (by kernel_rfl) (Below.refl _ _).drew (fun hHeld=>?_)
 refine aD (i:=0) (v:=?_) rfl (by kernel_rfl) (by kernel_rfl) (by kernel_rfl) (by kernel_rfl) (fun _ _ _ h=>h) (Or.inl ⟨by rfl, ?_⟩) (by assumption) ?_
 rotate_left
 ·(intro w0 hSw;go_simp;(try with_reducible rfl))
 try simp only [Act.put,List.getElem_toArray,List.getElem_cons_succ,List.getElem_cons_zero,List.setIfInBounds_toArray,List.set_cons_zero,List.set_cons_succ]
 refine aD (i:=1) (v:=?_) rfl (by kernel_rfl) (by kernel_rfl) (by kernel_rfl) (by kernel_rfl) (fun _ _ _ h=>h) (Or.inl ⟨by rfl, ?_⟩) (by assumption) ?_
 rotate_left
 ·(intro w0 hSw;obtain ⟨⟨z0,z1,z2,z3⟩,-⟩:=aJ ((hSw.block _ (Array.getElem?_eq_some_iff.1 R0.out).1).trans R0.out);go_simp;(try with_reducible rfl))
 try simp only [Act.put,List.getElem_toArray,List.getElem_cons_succ,List.getElem_cons_zero,List.setIfInBounds_toArray,List.set_cons_zero,List.set_cons_succ]
 refine aD (i:=2) (v:=?_) rfl (by kernel_rfl) (by kernel_rfl) (by kernel_rfl) (by kernel_rfl) (fun _ _ _ h=>h) (Or.inl ⟨by rfl, ?_⟩) (by assumption) ?_
 rotate_left
 ·(intro w0 hSw;go_simp;(try with_reducible rfl))
 try simp only [Act.put,List.getElem_toArray,List.getElem_cons_succ,List.getElem_cons_zero,List.setIfInBounds_toArray,List.set_cons_zero,List.set_cons_succ]
 refine aD (i:=3) (v:=?_) rfl (by kernel_rfl) (by kernel_rfl) (by kernel_rfl) (by kernel_rfl) (fun _ _ _ h=>h) (Or.inl ⟨by rfl, ?_⟩) (by assumption) ?_
 rotate_left
 ·(intro w0 hSw;obtain ⟨⟨z0,z1,z2,z3⟩,-⟩:=aJ ((hSw.block _ (Array.getElem?_eq_some_iff.1 R0.out).1).trans R0.out);go_simp;(try with_reducible rfl))
 try simp only [Act.put,List.getElem_toArray,List.getElem_cons_succ,List.getElem_cons_zero,List.setIfInBounds_toArray,List.set_cons_zero,List.set_cons_succ]
 refine aD (i:=4) (v:=?_) rfl (by kernel_rfl) (by kernel_rfl) (by kernel_rfl) (by kernel_rfl) (fun _ _ _ h=>h) (Or.inl ⟨by rfl, ?_⟩) (by assumption) ?_
 rotate_left
 ·(intro w0 hSw;go_simp;(try with_reducible rfl))
 try simp only [Act.put,List.getElem_toArray,List.getElem_cons_succ,List.getElem_cons_zero,List.setIfInBounds_toArray,List.set_cons_zero,List.set_cons_succ]
 refine aD (i:=5) (v:=?_) rfl (by kernel_rfl) (by kernel_rfl) (by kernel_rfl) (by kernel_rfl) (fun _ _ _ h=>h) (Or.inl ⟨by rfl, ?_⟩) (by assumption) ?_
 rotate_left
 ·(intro w0 hSw;obtain ⟨⟨z0,z1,z2,z3⟩,-⟩:=aJ ((hSw.block _ (Array.getElem?_eq_some_iff.1 R0.out).1).trans R0.out);go_simp;(try with_reducible rfl))
 try simp only [Act.put,List.getElem_toArray,List.getElem_cons_succ,List.getElem_cons_zero,List.setIfInBounds_toArray,List.set_cons_zero,List.set_cons_succ]
 refine aD (i:=7) (v:=?_) rfl (by kernel_rfl) (by kernel_rfl) (by kernel_rfl) (by kernel_rfl) (fun _ _ _ h=>h) (Or.inl ⟨by rfl, ?_⟩) (by assumption) ?_
 rotate_left
 ·(intro w0 hSw;go_simp;(try with_reducible rfl))
 try simp only [Act.put,List.getElem_toArray,List.getElem_cons_succ,List.getElem_cons_zero,List.setIfInBounds_toArray,List.set_cons_zero,List.set_cons_succ]
 refine aD (i:=8) (v:=?_) rfl (by kernel_rfl) (by kernel_rfl) (by kernel_rfl) (by kernel_rfl) (fun _ _ _ h=>h) (Or.inl ⟨by rfl, ?_⟩) (by assumption) ?_
 rotate_left
 ·(intro w0 hSw;obtain ⟨⟨z0,z1,z2,z3⟩,-⟩:=aJ ((hSw.block _ (Array.getElem?_eq_some_iff.1 R0.out).1).trans R0.out);go_simp;(try with_reducible rfl))
 try simp only [Act.put,List.getElem_toArray,List.getElem_cons_succ,List.getElem_cons_zero,List.setIfInBounds_toArray,List.set_cons_zero,List.set_cons_succ]
 refine aY (j:=6) (by kernel_rfl) (by kernel_rfl) rfl (fun K hK=>?_)
 go_simp
 go_at_call 166
 refine (CC.out _ B1.out.drew).mono ?_
 rintro e w5 ⟨fa,fc,rfl,h5,b5⟩
 have H5:=Lib.hid (And.intro h5 b5)
 have hS5:=hHeld.trans b5
 clear h5 b5 CC hHeld
 go_simp
 refine hK.out _ _ hS5 (fun hHeld=>?_)
 clear hK K hS5
 try simp only [Act.put,List.getElem_toArray,List.getElem_cons_succ,List.getElem_cons_zero,List.setIfInBounds_toArray,List.set_cons_zero,List.set_cons_succ]
 refine aY (j:=9) (by kernel_rfl) (by kernel_rfl) rfl (fun K hK=>?_)
 go_simp
 go_at_call 168
 refine (CD.out _ (B1.out.trans (hHeld.mono B1.out.size))).mono ?_
 rintro e w6 ⟨ga,gc,rfl,h5,b5⟩
 have H6:=Lib.hid (And.intro h5 b5)
 have hS5:=hHeld.trans (b5.mono hHeld.size)
 clear h5 b5 CD
 go_simp
 refine hK.out _ _ hS5 (fun hHeld2=>?_)
 clear hK K hS5
 try simp only [Act.put,List.getElem_toArray,List.getElem_cons_succ,List.getElem_cons_zero,List.setIfInBounds_toArray,List.set_cons_zero,List.set_cons_succ]
 refine aD (i:=10) (v:=?_) rfl (by kernel_rfl) (by kernel_rfl) (by kernel_rfl) (by kernel_rfl) (fun _ _ _ h=>h) (Or.inl ⟨by rfl, ?_⟩) (by assumption) ?_
 rotate_left
 ·(intro w0 hSw;go_simp;(try with_reducible rfl))
 try simp only [Act.put,List.getElem_toArray,List.getElem_cons_succ,List.getElem_cons_zero,List.setIfInBounds_toArray,List.set_cons_zero,List.set_cons_succ]
 refine cG (by kernel_rfl) (by kernel_rfl) rfl (fun K hK=>?_)
 have r5 : w6.heap[W.heap.size + 1]? = some (.cells #[.int .u8 0,str [],.slice none 0 0,.slice none 0 0] 40 (0,0)):=(hHeld2.block _ (Array.getElem?_eq_some_iff.1 R1.out).1).trans R1.out
 have BF : Hid (Below W.heap.size W w6):=B1.out.trans (hHeld2.mono B1.out.size)
 have SZ5 : Hid (W1.heap.size ≤ w5.heap.size):=hHeld.size
 obtain ⟨⟨p0,p1,p2,p3⟩,z0,z1,z2,z3⟩:=aJ r5
 have R5:=Lib.hid r5
 clear r5
 go_simp
 refine hK.out _ _ ?_
 clear hK K hHeld hHeld2
 go_wp2_with fail
 obtain ⟨g1,g2,g3⟩:=rG (x':=.int .u8 op) (y':=str nm) (z':=.slice fa ts.length fc) (t':=.slice ga fs.length gc) (b:=W.heap.size + 1) (by omega) BF.out R5.out
 refine bodyPost_ret (fB rfl _ _ (W.heap.size + 1) _ _ _ _ (0,0) rfl g1) rfl ?_
 have hs:=(Array.getElem?_eq_some_iff.1 R1.out).1
 refine ⟨.agg #[.int .u8 op,str nm,.slice fa ts.length fc,.slice ga fs.length gc],rfl,⟨_,_,_,_,_,_,rfl, ?_, ?_⟩,g2⟩
 ·refine H5.out.1.keep (aF fun k h1 h2=>?_)
  simp only [lo,decide_eq_false_iff_not,Nat.not_lt] at h2
  have hk2 : W1.heap.size ≤ k:=h2
  exact ⟨by simp [lo];omega,(g3 k (by omega)).trans (H6.out.2.block k h1)⟩
 ·refine H6.out.1.keep (aF fun k h1 h2=>?_)
  simp only [lo,decide_eq_false_iff_not,Nat.not_lt] at h2
  have:=SZ5.out
  exact ⟨by simp [lo];omega,g3 k (by omega)⟩
mutual
theorem xB : ∀ f : Fm,CF f
 | .mk op nm ts fs=>cf_step op nm ts fs (xQ fs)
theorem xQ : ∀ fs : List Fm,∀ t ∈ fs,CF t
 | [],_,h=>by cases h
 | x :: xs,t,h=>by
  rcases List.mem_cons.1 h with e | e
  ·rw [e];exact xB x
  ·exact xQ xs t e
end
end Go.Proofs.YtppfalbnhnpbnaaGreatDoor
