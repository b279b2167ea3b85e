/- skeleton.each at formulas: a list is made, element by element, by a method value. Conditions: those of each statement. -/
import Derived.Test.YtppfalbnhnpbnaaGreatDoorEaBC
import Derived.Test.YtppfalbnhnpbnaaGreatDoorShelfC
set_option linter.unusedSimpArgs false
set_option linter.unusedVariables false
namespace Go.Proofs.YtppfalbnhnpbnaaGreatDoor
open Go Go.RowKit Ly
set_option maxRecDepth 10000
set_option maxHeartbeats 8000000 in
theorem each73_c {St : Type} (E : Nat → Prop) (nv : Value) (I : St → World → Prop) (f : St → Fm → Fm × St) (W : World) (ts : List Fm) (s0 : St) (a : Option Addr) (n c : Nat) (hx : aN W ts (.slice a n c)) (hn : ts.length ≤ 100000) (h0 : I s0 W) (hI : kU W.heap.size I)
  (hmap : ∀ s X,I s X → ∀ k,E k → ∃ es c,X.heap[k]? = some (.map es c)) (hE : ∀ k,E k → k < W.heap.size)
  (hf : ∀ j t,ts[j]? = some t → ∀ X x,I (stAt f s0 ts j) X → ButE E W X → aV X t x → Calls Tryz.prog 73 #[nv,x] X fun e w'=>∃ v,e = .returned v ∧ aV (hide (lo X) w') (f (stAt f s0 ts j) t).1 v ∧ I (f (stAt f s0 ts j) t).2 w' ∧ ButE E X w') :
  Calls Tryz.prog 69 #[.slice a n c,.func (.func 73) #[nv] #[]] W fun e w'=>∃ v,e = .returned v ∧ aN (hide (lo W) w') (aK f s0 ts).1 v ∧ I (aK f s0 ts).2 w' ∧ ButE E W w':=by
 have hl:=hx.len
 have L2:=Lib.hid hl.1
 have N0 : n ≤ 100000:=by rw [hl.1];exact hn
 have HX:=Lib.hid hx
 have H0:=Lib.hid h0
 have HI:=Lib.hid hI
 have HK : Hid (∀ X,ButE E W X → bI W X):=fun X hX=>hX.keeps (hmap s0 W h0)
 have HE:=Lib.hid hE
 have HF:=Lib.hid hf
 obtain ⟨i0,hi0,hz0,hs0,hb0⟩:=info_parts dV
 clear hl hx hn h0 hI hmap hE hf
 go_enter Tryz.func69,Tryz.ntmps69
 by_cases hn0 : n = 0
 ·subst hn0
  go_wp2
  have e : ts = []:=List.eq_nil_of_length_eq_zero L2.out.symm
  go_ret
  subst e
  exact ⟨_,rfl,At.sl_nil (by unfold maxLen;omega),H0.out,ButE.refl _ _⟩
 ·go_wp2_with (at_make;refine wpList_make_full _ rfl _ _ 24 rfl W.heap.size 40 i0 (.agg #[.int .u8 0,.string ⟨#[]⟩,.slice none 0 0,.slice none 0 0]) 4 Tryz.underlying24 hi0 hz0 hs0 .i64 .i64 _ _ n rfl rfl (by first | rfl | omega) (by first | rfl | omega) (by rw [hb0];omega) (by unfold maxLen;omega) (Nat.le_refl _) ?_;intro w1 hown1 hgrow1)
  obtain ⟨G,hG⟩ : ∃ G,W.heap.size = G:=⟨_,rfl⟩
  have A0 : Hid (cF G n 4 40 (bJ (aK f s0 (ts.take 0)).1) 0 w1 ∧ I (stAt f s0 ts 0) w1 ∧ ButE E W w1):=by
   have B : ButE E W w1:=⟨hgrow1.os,hgrow1.tape,hgrow1.output,hgrow1.size,fun k hk _=>hgrow1.block k hk (by simp)⟩
   refine ⟨?_,HI.out s0 W w1 H0.out (fun k hk=>hgrow1.block k hk (by simp)),B⟩
   rcases hown1.2 with ⟨e,-⟩ | ⟨g,cap,cur,e,-,h3,h4,h5,h6,h7⟩
   ·cases e
   ·simp only [Value.slice.injEq,Option.some.injEq,Addr.mk.injEq,and_true,true_and] at e
    obtain ⟨e1,rfl⟩:=e
    rw [← hG]
    rw [← e1] at h3
    exact ⟨cur.toList,by simpa using h3,by simpa using h6,by simpa [aK,bJ] using aU.nil _⟩
  rw [hG]
  have HG:=Lib.hid hG
  clear hown1 hgrow1 hn0 hG H0
  go_loopw [16] (fun i wr=>∃ j : Nat,j ≤ n ∧ i = .int .i64 j ∧ Hid (cF G n 4 40 (bJ (aK f s0 (ts.take j)).1) j wr ∧ I (stAt f s0 ts j) wr ∧ ButE E W wr)) (fun i _=>n - (intOf i).toNat)
  case atStart=>exact ⟨0,Nat.zero_le _,rfl,A0.out⟩
  case round =>
   obtain ⟨j,hj,rfl,hs⟩:=hrel
   clear A0
   by_cases hlt : j < n
   ·obtain ⟨T,hT⟩:=aT (l:=ts) (j:=j) (by rw [← L2.out];exact hlt)
    obtain ⟨bb,off,rfl,hc⟩:=HX.out.get (aX hT)
    obtain ⟨x0,x1,x2,x3,x4,x5,hx⟩:=hc j _ hT
    have hK:=HK.out _ hs.out.2.2
    have c0:=hK _ _ hx.c0;have c1:=hK _ _ hx.c1;have c2:=hK _ _ hx.c2;have c3:=hK _ _ hx.c3
    have HT:=Lib.hid hT
    have IC : Hid (∀ o,Calls Tryz.prog 73 #[nv,.agg #[.int .u8 T.op,str T.name,.slice x0 x1 x2,.slice x3 x4 x5]] (wr.alloc o) fun e w'=>∃ v,e = .returned v ∧ aV (hide (lo (wr.alloc o)) w') (f (stAt f s0 ts j) T).1 v ∧ I (f (stAt f s0 ts j) T).2 w' ∧ ButE E (wr.alloc o) w'):=fun o =>
     HF.out j T HT.out _ _ (HI.out _ _ _ hs.out.2.1 (fun k hk=>((Below.refl _ wr).alloc (Nat.le_refl _) o).block k (by have:=hs.out.2.2.size;omega))) (hs.out.2.2.alloc o) ⟨_,_,_,_,_,_,rfl,(hx.at_.keep hK).keep (aA ((Below.refl _ _).alloc (Nat.le_refl _) _)),(hx.at'.keep hK).keep (aA ((Below.refl _ _).alloc (Nat.le_refl _) _))⟩
    clear hc hx hT hK
    go_wp2_with (
           go_at_call 73
           refine (IC.out _).mono ?_
           rintro e w3 ⟨v3,rfl,⟨fa,fn,fc,fb,fm,fd,rfl,h3,h4⟩,i3,b3⟩
           have FA:=hs.out.1.keep (W':=w3) (fun k h1 h2=>(b3.block k (by simp;omega) (fun e=>by have:=HE.out k e;have:=HG.out;omega)).trans (((Below.refl _ wr).alloc (Nat.le_refl _) _).block k h2))
           obtain ⟨⟨p0,q0⟩,f0,p1,f1,p2,f2,p3,f3⟩:=FA.cells4 hlt
           obtain ⟨u1,q1⟩:=Classical.axiomOfChoice p1
           obtain ⟨u2,q2⟩ : ∃ u2 : Value → Value → Value,∀ a b,((w3.setCell ⟨G,j * 4,none⟩ a).setCell ⟨G,j * 4 + 1,none⟩ b).cell? ⟨G,j * 4 + 2,none⟩ = some (u2 a b):=⟨fun a b=>(p2 a b).choose,fun a b=>(p2 a b).choose_spec⟩
           obtain ⟨u3,q3⟩ : ∃ u3 : Value → Value → Value → Value,∀ a b c,(((w3.setCell ⟨G,j * 4,none⟩ a).setCell ⟨G,j * 4 + 1,none⟩ b).setCell ⟨G,j * 4 + 2,none⟩ c).cell? ⟨G,j * 4 + 3,none⟩ = some (u3 a b c):=⟨fun a b c=>(p3 a b c).choose,fun a b c=>(p3 a b c).choose_spec⟩
           clear p1 p2 p3
           have H3:=Lib.hid (And.intro FA (And.intro i3 b3))
           have R3:=Lib.hid (And.intro h3 h4)
           clear FA i3 b3 h3 h4)
    go_roundw
    case rel =>
     refine ⟨j + 1,by omega,by go_num, ?_⟩
     obtain ⟨FA,i3,b3⟩:=H3.out
     have e:=gY f s0 HT.out
     have g:=HG.out
     have lg : G < wr.heap.size:=by obtain ⟨cs,h1,-,-⟩:=hs.out.1;exact (Array.getElem?_eq_some_iff.1 h1).1
     have K : ∀ o,bI (hide (lo (wr.alloc o)) w3) (hide (fun k=>decide (k < G + 1)) w3):=fun o=>aH fun k a b=>⟨by simp [lo] at b;simp;omega,rfl⟩
     refine ⟨?_, ?_, ?_⟩
     ·rw [e,iH]
      have:=cF.put4 FA hlt (eV (R3.out.1.keep (K _)) (R3.out.2.keep (K _)))
      simpa [bJ] using this
     ·have : stAt f s0 ts (j + 1) = (f (stAt f s0 ts j) T).2:=by unfold stAt;rw [e];rfl
      rw [this]
      exact HI.out _ w3 _ i3 (fun k hk=>by rw [Below.heap_setCell _ _ _ _ (by show k ≠ G;omega),Below.heap_setCell _ _ _ _ (by show k ≠ G;omega),Below.heap_setCell _ _ _ _ (by show k ≠ G;omega),Below.heap_setCell _ _ _ _ (by show k ≠ G;omega)])
     ·exact (((((hs.out.2.2.alloc _).trans b3).set (by omega) _ _).set (by omega) _ _).set (by omega) _ _).set (by omega) _ _
    case measure=>simp [intOf];omega
   ·have ej : j = n:=by omega
    obtain ⟨FA,i3,b3⟩:=hs.out
    have et : ts.take j = ts:=List.take_of_length_le (by rw [← L2.out];omega)
    rw [et] at FA
    have i4 : I (aK f s0 ts).2 wr:=by have:=i3;unfold stAt at this;rwa [et] at this
    have FE : Hid (aN (hide (lo W) wr) (aK f s0 ts).1 (.slice (some ⟨G,0,none⟩) n n) ∧ I (aK f s0 ts).2 wr ∧ ButE E W wr):=by
     refine ⟨?_,i4,b3⟩
     have le : (aK f s0 ts).1.length = n:=by rw [gO,← L2.out]
     show At _ (.sl 4 (aK f s0 ts).1.length (bJ (aK f s0 ts).1)) _
     rw [le]
     rw [ej] at FA
     have ld : (bJ (aK f s0 ts).1).length = n * 4:=by rw [gN,le]
     exact cF.at FA ld (by unfold maxLen;omega) (by have:=HG.out;omega)
    clear FA i3 b3 i4 et ej hs
    go_wp2_with fail
    go_ret
    exact ⟨_,rfl,FE.out⟩
end Go.Proofs.YtppfalbnhnpbnaaGreatDoor
namespace Go.Proofs.YtppfalbnhnpbnaaGreatDoor
open Go Go.RowKit Ly
set_option maxRecDepth 10000
theorem contains_c {w : World} {l : List Bs} {v : Value} (h : eP w l v) (s : Bs) : Calls Tryz.prog 110 #[v,str s] w fun e w'=>e = .returned (.bool (decide (s ∈ l))) ∧ w' = w:=by
 obtain ⟨a,c,rfl,-,-,-,-⟩:=At.sl_inv h
 by_cases hne : l = []
 ·subst hne
  exact (Tryz.slices_Contains_string_empty a c ⟨s.toArray⟩ w).mono fun e w' h=>⟨h.1,h.2⟩
 ·obtain ⟨bb,off,rfl,hc⟩:=h.get hne
  have hn:=h.len
  have C:=Tryz.slices_Contains_string bb off l.length c (l.map fun x=>⟨x.toArray⟩) ⟨s.toArray⟩ w (by simp) (by have:=hn.2;unfold maxLen at this;omega) (by
   intro j hj
   simp only [List.length_map] at hj
   have:=hc j l[j] (List.getElem?_eq_getElem hj)
   rw [this]
   simp [hj])
  have e : Lib.containsS ((l.map fun x=>(⟨x.toArray⟩ : ByteArray)).take l.length) ⟨s.toArray⟩ = decide (s ∈ l):=by
   rw [List.take_of_length_le (by simp),Bool.eq_iff_iff,Lib.containsS_iff,decide_eq_true_eq,List.mem_map]
   constructor
   ·rintro ⟨x,hx,he⟩
    have : x = s:=by have:=congrArg (fun b : ByteArray=>b.data.toList) he;simpa using this
    rw [this] at hx;exact hx
   ·intro hx;exact ⟨s,hx,rfl⟩
  rw [e] at C
  exact C
def gI (g1 c1 : Nat) (vb : Value) : Value:=.agg #[.func (.func 70) #[] #[one g1,one c1],vb]
def EN (gm cm : Nat) (k : Nat) : Prop:=k = gm ∨ k = cm
theorem But2.toE {gm cm : Nat} {A X : World} (h : But2 gm cm A X) : ButE (EN gm cm) A X:=⟨h.os,h.tape,h.output,h.size,fun k hk hn=>h.block k hk (fun e=>hn (.inl e)) (fun e=>hn (.inr e))⟩
theorem ButE.to2 {gm cm : Nat} {A X : World} (h : ButE (EN gm cm) A X) : But2 gm cm A X:=⟨h.os,h.tape,h.output,h.size,fun k hk h1 h2=>h.block k hk (fun e=>e.elim h1 h2)⟩
theorem aY.lt {g1 c1 gm cm : Nat} {σ : List Sy} {W : World} (h : aY g1 c1 gm cm σ W) : g1 < W.heap.size ∧ c1 < W.heap.size ∧ gm < W.heap.size ∧ cm < W.heap.size:=by
 obtain ⟨S,hS⟩:=h.counts
 exact ⟨(Array.getElem?_eq_some_iff.1 h.hg).1,(Array.getElem?_eq_some_iff.1 h.hc).1,h.given.lt,hS.lt⟩
theorem aY.heap {g1 c1 gm cm : Nat} {σ : List Sy} {W W' : World} (h : aY g1 c1 gm cm σ W) {n : Nat} (hn : g1 < n ∧ c1 < n ∧ gm < n ∧ cm < n) (e : ∀ k,k < n → W'.heap[k]? = W.heap[k]?) : aY g1 c1 gm cm σ W':=by
 obtain ⟨S,hS⟩:=h.counts
 exact ⟨(e _ hn.1).trans h.hg,(e _ hn.2.1).trans h.hc,h.given.heap (e _ hn.2.2.1),⟨S,hS.heap (e _ hn.2.2.2)⟩,h.ne⟩
theorem mP (b : List Bs) : ∀ (σ : List Sy) (ts : List Tm),aK (fun σ t=>Tm.told b σ t) σ ts = aM b σ ts
 | _,[]=>by simp [aK,aM]
 | σ,t :: ts=>by simp [aK,aM,mP b _ ts]
theorem mO (b : List Bs) : ∀ (σ : List Sy) (fs : List Fm),aK (fun σ f=>Fm.told b σ f) σ fs = bM b σ fs
 | _,[]=>by simp [aK,bM]
 | σ,t :: ts=>by simp [aK,bM,mO b _ ts]
theorem nC (σ : List Sy) (s : Sy) : (Sy.add σ s).length ≤ σ.length + 1:=by unfold Sy.add;split <;> simp
theorem nameT_len (b : List Bs) (σ : List Sy) (v : Bool) (n : Bs) (k : Nat) : (eB b σ v n k).2.length ≤ σ.length + 1:=by
 unfold eB
 repeat' split
 all_goals first | exact nC _ _ | simp
theorem nameF_len (σ : List Sy) (op : Int) (n : Bs) (k : Nat) : (dT σ op n k).2.length ≤ σ.length + 1:=by
 unfold dT
 split
 ·exact nC _ _
 ·simp
mutual
theorem told_len (b : List Bs) : ∀ (σ : List Sy) (t : Tm),(t.told b σ).2.length ≤ σ.length + t.nodes
 | σ,.mk v n ts=>by
  have h1:=nameT_len b σ v n ts.length
  have h2:=fA b (eB b σ v n ts.length).2 ts
  simp only [Tm.told,Tm.nodes]
  omega
theorem fA (b : List Bs) : ∀ (σ : List Sy) (ts : List Tm),(aM b σ ts).2.length ≤ σ.length + aF ts
 | σ,[]=>by simp [aM]
 | σ,t :: ts=>by
  have h1:=told_len b σ t
  have h2:=fA b (t.told b σ).2 ts
  simp only [aM,aF]
  omega
end
mutual
theorem ftold_len (b : List Bs) : ∀ (σ : List Sy) (f : Fm),(f.told b σ).2.length ≤ σ.length + f.nodes
 | σ,.mk op n ts fs=>by
  have h1:=nameF_len σ op n ts.length
  have h2:=fA b (dT σ op n ts.length).2 ts
  have h3:=kZ b (aM b (dT σ op n ts.length).2 ts).2 fs
  simp only [Fm.told,Fm.nodes]
  omega
theorem kZ (b : List Bs) : ∀ (σ : List Sy) (fs : List Fm),(bM b σ fs).2.length ≤ σ.length + aD fs
 | σ,[]=>by simp [bM]
 | σ,t :: ts=>by
  have h1:=ftold_len b σ t
  have h2:=kZ b (t.told b σ).2 ts
  simp only [bM,aD]
  omega
end
theorem mG : ∀ (ts : List Tm) (j : Nat) {t : Tm},ts[j]? = some t → aF (ts.take j) + t.nodes ≤ aF ts
 | [],j,t,h=>by simp at h
 | x :: ts,0,t,h=>by simp at h;subst h;simp [aF]
 | x :: ts,j + 1,t,h=>by
  have:=mG ts j (t:=t) (by simpa using h)
  simp [aF];omega
theorem jH : ∀ (ts : List Fm) (j : Nat) {t : Fm},ts[j]? = some t → aD (ts.take j) + t.nodes ≤ aD ts
 | [],j,t,h=>by simp at h
 | x :: ts,0,t,h=>by simp at h;subst h;simp [aD]
 | x :: ts,j + 1,t,h=>by
  have:=jH ts j (t:=t) (by simpa using h)
  simp [aD];omega
theorem row2 {w : World} {b : Nat} {x y : Value} {t : TypeId} (h : w.heap[b]? = some (.cells #[x,y] t (0,0))) : w.cell? ⟨b,0,none⟩ = some x ∧ w.cell? ⟨b,1,none⟩ = some y ∧ w.frozen? ⟨b,0,none⟩ = false ∧ w.frozen? ⟨b,1,none⟩ = false :=
 ⟨(bE h 0).trans rfl,(bE h 1).trans rfl,by simp [World.frozen?,h],by simp [World.frozen?,h]⟩
theorem u80 : ∃ fs,Tryz.prog.underlying 80 = some (.struct fs):=⟨_,Tryz.underlying80⟩
theorem i80 : (Tryz.prog.info? 80).map (·.size) = some 2:=by kernel_rfl
set_option maxHeartbeats 4000000 in
theorem newNames_c (W : World) : Calls Tryz.prog 37 #[] W fun e w'=>∃ g1 c1 gm cm,e = .returned (gI g1 c1 (.slice none 0 0)) ∧ aY g1 c1 gm cm [] w' ∧ Below W.heap.size W w' ∧ W.heap.size ≤ gm ∧ W.heap.size ≤ cm:=by
 have hmm:=@run_makeMap Tryz.prog
 go_enter Tryz.func37,Tryz.ntmps37
 go_wp2
 obtain ⟨A,hA⟩ : ∃ A,W.alloc (.cells #[.func (.func 70) #[] #[one (W.heap.size + 1 + 1),one (W.heap.size + 1 + 1 + 1 + 1)],.slice none 0 0] 80) = A:=⟨_,rfl⟩
 have sA : A.heap.size = W.heap.size + 1:=by rw [← hA];simp
 have rA : A.heap[W.heap.size]? = some (.cells #[.func (.func 70) #[] #[one (W.heap.size + 1 + 1),one (W.heap.size + 1 + 1 + 1 + 1)],.slice none 0 0] 80 (0,0)):=by rw [← hA];exact heap_alloc_new W _
 have bA : Below W.heap.size W A:=by rw [← hA];exact (Below.refl _ _).alloc (Nat.le_refl _) _
 obtain ⟨B,hB⟩ : ∃ B,A.alloc (.map #[] 0) = B:=⟨_,rfl⟩
 have sB : B.heap.size = W.heap.size + 1 + 1:=by rw [← hB];simp [sA]
 obtain ⟨C,hC⟩ : ∃ C,B.alloc (.cells #[.map (some (W.heap.size + 1))] 117) = C:=⟨_,rfl⟩
 have sC : C.heap.size = W.heap.size + 1 + 1 + 1:=by rw [← hC];simp [sB]
 obtain ⟨D,hD⟩ : ∃ D,C.alloc (.map #[] 0) = D:=⟨_,rfl⟩
 have sD : D.heap.size = W.heap.size + 1 + 1 + 1 + 1:=by rw [← hD];simp [sC]
 obtain ⟨F,hF⟩ : ∃ F,D.alloc (.cells #[.map (some (W.heap.size + 1 + 1 + 1))] 111) = F:=⟨_,rfl⟩
 have bF : Below D.heap.size D F:=by rw [← hF];exact (Below.refl _ _).alloc (Nat.le_refl _) _
 have bD : Below C.heap.size C F:=by refine Below.trans ?_ (bF.mono (by omega));rw [← hD];exact (Below.refl _ _).alloc (Nat.le_refl _) _
 have bC : Below B.heap.size B F:=by refine Below.trans ?_ (bD.mono (by omega));rw [← hC];exact (Below.refl _ _).alloc (Nat.le_refl _) _
 have bB : Below A.heap.size A F:=by refine Below.trans ?_ (bC.mono (by omega));rw [← hB];exact (Below.refl _ _).alloc (Nat.le_refl _) _
 rw [hA,hB,hC,hD,hF]
 have g1 : F.heap[W.heap.size + 1 + 1]? = some (.cells #[.map (some (W.heap.size + 1))] 117 (0,0)):=by
  rw [bD.block _ (by omega),← hC,← sB];exact heap_alloc_new B _
 have g2 : F.heap[W.heap.size + 1 + 1 + 1 + 1]? = some (.cells #[.map (some (W.heap.size + 1 + 1 + 1))] 111 (0,0)):=by
  rw [← hF,← sD];exact heap_alloc_new D _
 have m1 : MapG Tryz.prog 104 okY litY (str []) F (W.heap.size + 1) 0 (fun s=>decide (s ∈ ([] : List Sy))) (fun s=>if s ∈ ([] : List Sy) then str (Sy.told [] s) else str []):=by
  have:=(MapG.made (P:=Tryz.prog) (k:=104) (ok:=okY) (lit:=litY) (z:=str []) A)
  rw [hB,sA] at this
  exact (this.below bC).cong (fun _ _=>by simp) (fun _ _=>by simp)
 have m2 : MapG Tryz.prog 9 okS litS (.int .i64 0) F (W.heap.size + 1 + 1 + 1) 0 (fun _=>false) (fun k=>.int .i64 ((([] : List Sy).countP (fun t=>decide (t.kind = k)) : Nat) : Int)):=by
  have:=(MapG.made (P:=Tryz.prog) (k:=9) (ok:=okS) (lit:=litS) (z:=.int .i64 0) C)
  rw [hD,sC] at this
  exact (this.below bF).cong (fun _ _=>by simp) (fun _ _=>by simp)
 refine bodyPost_ret (results_cell_row rfl _ _ W.heap.size 80 _ (0,0) _ rfl ((bB.block _ (by omega)).trans rA) u80.choose_spec rfl i80) rfl ⟨_,_,_,_,rfl,⟨g1,g2,m1,⟨_,m2⟩,by omega⟩,bA.trans (bB.mono (by omega)),by omega,by omega⟩
end Go.Proofs.YtppfalbnhnpbnaaGreatDoor
namespace Go.Proofs.YtppfalbnhnpbnaaGreatDoor
open Go Go.RowKit Ly
set_option maxRecDepth 10000
def RetT (g1 c1 gm cm : Nat) (b : List Bs) (σ : List Sy) (t : Tm) (W : World) (e : Ending) (w' : World) : Prop :=
 ∃ v,e = .returned v ∧ dC (hide (lo W) w') (t.told b σ).1 v ∧ aY g1 c1 gm cm (t.told b σ).2 w' ∧ ButE (EN gm cm) W w'
def yO (g1 c1 gm cm : Nat) (b : List Bs) (σ : List Sy) (ts : List Tm) (W : World) (e : Ending) (w' : World) : Prop :=
 ∃ v,e = .returned v ∧ bG (hide (lo W) w') (aM b σ ts).1 v ∧ aY g1 c1 gm cm (aM b σ ts).2 w' ∧ ButE (EN gm cm) W w'
def NT (t : Tm) : Prop:=∀ (g1 c1 gm cm : Nat) (b : List Bs) (σ : List Sy) (vb : Value) (W : World) (x : Value),aY g1 c1 gm cm σ W → eP W b vb → cK W → dC W t x → t.ok = true → t.nodes ≤ 1000 → σ.length + t.nodes ≤ 900000 →
 Calls Tryz.prog 123 #[gI g1 c1 vb,x] W (RetT g1 c1 gm cm b σ t W)
theorem wN {t : Tm} : ∀ {ts : List Tm},cE ts = true → t ∈ ts → t.ok = true
 | [],_,h=>by cases h
 | x :: ts,ho,h=>by
  rw [cE,Bool.and_eq_true] at ho
  rcases List.mem_cons.1 h with rfl | h
  ·exact ho.1
  ·exact wN ho.2 h
theorem aY.keepE {g1 c1 gm cm : Nat} {σ : List Sy} {W X : World} (h : aY g1 c1 gm cm σ W) (b : ButE (EN gm cm) W X) : bI W X:=h.keeps b.to2
theorem aY.maps {g1 c1 gm cm : Nat} {σ : List Sy} {W : World} (h : aY g1 c1 gm cm σ W) {k : Nat} (hk : EN gm cm k) : ∃ es c,W.heap[k]? = some (.map es c):=by
 obtain ⟨S,hS⟩:=h.counts
 rcases hk with rfl | rfl
 ·exact h.given.isMap
 ·exact hS.isMap
theorem aY.powE {g1 c1 gm cm : Nat} {σ : List Sy} {W X : World} (h : aY g1 c1 gm cm σ W) (b : ButE (EN gm cm) W X) (hp : cK W) : cK X:=h.pow b.to2 hp
theorem aY.steady (g1 c1 gm cm : Nat) {n : Nat} (hn : g1 < n ∧ c1 < n ∧ gm < n ∧ cm < n) : kU n (fun σ W=>aY g1 c1 gm cm σ W):=fun _ _ _ h e=>h.heap hn e
theorem rW (ts : List Tm) (ih : ∀ t ∈ ts,NT t) (g1 c1 gm cm : Nat) (b : List Bs) (σ : List Sy) (vb : Value) (W : World) (a : Option Addr) (n c : Nat) (h : aY g1 c1 gm cm σ W) (hb : eP W b vb) (hp : cK W) (hx : bG W ts (.slice a n c)) (ho : cE ts = true) (hn : aF ts ≤ 1000) (hl : σ.length + aF ts ≤ 900000) :
  Calls Tryz.prog 114 #[.slice a n c,.func (.func 123) #[gI g1 c1 vb] #[]] W (yO g1 c1 gm cm b σ ts W):=by
 have lt:=h.lt
 refine (each123_c (EN gm cm) (gI g1 c1 vb) (fun σ W=>aY g1 c1 gm cm σ W) (fun σ t=>Tm.told b σ t) W ts σ a n c hx (by have:=eO ts;omega) h (aY.steady g1 c1 gm cm lt) (fun s X hX k hk=>hX.maps hk) (fun k hk=>by rcases hk with rfl | rfl <;> omega) (fun j t ht X x hI hX hv=>?_)).mono ?_
 ·have e : stAt (fun σ t=>Tm.told b σ t) σ ts j = (aM b σ (ts.take j)).2:=by unfold stAt;rw [mP]
  rw [e] at hI ⊢
  have hm:=List.mem_of_getElem? ht
  have h1:=fA b σ (ts.take j)
  have h2:=mG ts j ht
  exact ih t hm g1 c1 gm cm b _ vb X x hI (hb.keep (h.keepE hX)) (h.powE hX hp) hv (wN ho hm) (by omega) (by omega)
 ·rintro e w' ⟨v,rfl,h1,h2,h3⟩
  rw [mP] at h1 h2
  exact ⟨v,rfl,h1,h2,h3⟩
structure MidT (g1 c1 gm cm : Nat) (σ : List Sy) (W : World) (f : Value) (vb : Value) (v : Bool) (nm : Bs) (sl : Value) (X : World) : Prop where
 na : aY g1 c1 gm cm σ X
 bt : ButE (EN gm cm) W X
 r0 : X.heap[W.heap.size]? = some (.cells #[f,vb] 80 (0,0))
 r1 : X.heap[W.heap.size + 1]? = some (.cells #[.bool v,str nm,sl] 38 (0,0))
 r2 : X.heap[W.heap.size + 1 + 1]? = some (.cells #[.bool false,str [],.slice none 0 0] 38 (0,0))
theorem MidT.next {g1 c1 gm cm : Nat} {σ σ' : List Sy} {W : World} {f vb : Value} {v : Bool} {nm : Bs} {sl : Value} {X Y : World} (h : MidT g1 c1 gm cm σ W f vb v nm sl X) (hE : ∀ k,EN gm cm k → k < W.heap.size) (n' : aY g1 c1 gm cm σ' Y) (b : ButE (EN gm cm) X Y) : MidT g1 c1 gm cm σ' W f vb v nm sl Y:=by
 have key : ∀ k o,W.heap.size ≤ k → X.heap[k]? = some o → Y.heap[k]? = some o:=fun k o hk e=>(b.block k (Array.getElem?_eq_some_iff.1 e).1 (fun he=>by have:=hE k he;omega)).trans e
 exact ⟨n',h.bt.trans b,key _ _ (Nat.le_refl _) h.r0,key _ _ (by omega) h.r1,key _ _ (by omega) h.r2⟩
theorem MidT.name {g1 c1 gm cm : Nat} {σ : List Sy} {W : World} {f vb : Value} {v : Bool} {nm : Bs} {sl : Value} {X : World} (h : MidT g1 c1 gm cm σ W f vb v nm sl X) (hlt : g1 < W.heap.size ∧ c1 < W.heap.size ∧ gm < W.heap.size ∧ cm < W.heap.size) (nm' : Bs) : MidT g1 c1 gm cm σ W f vb v nm' sl (X.setCell ⟨W.heap.size + 1,1,none⟩ (str nm')):=by
 have key : ∀ k,k ≠ W.heap.size + 1 → (X.setCell ⟨W.heap.size + 1,1,none⟩ (str nm')).heap[k]? = X.heap[k]?:=fun k hk=>Below.heap_setCell _ _ _ _ hk
 refine ⟨h.na.heap hlt (fun k hk=>key k (by omega)),h.bt.set (by omega) _ _,(key _ (by omega)).trans h.r0, ?_,(key _ (by omega)).trans h.r2⟩
 exact aC (o:=1) (u:=str nm') h.r1
theorem MidT.args {g1 c1 gm cm : Nat} {σ : List Sy} {W : World} {f vb : Value} {v : Bool} {nm : Bs} {sl : Value} {X : World} (h : MidT g1 c1 gm cm σ W f vb v nm sl X) (hlt : g1 < W.heap.size ∧ c1 < W.heap.size ∧ gm < W.heap.size ∧ cm < W.heap.size) (s' : Value) : MidT g1 c1 gm cm σ W f vb v nm s' (X.setCell ⟨W.heap.size + 1,2,none⟩ s'):=by
 have key : ∀ k,k ≠ W.heap.size + 1 → (X.setCell ⟨W.heap.size + 1,2,none⟩ s').heap[k]? = X.heap[k]?:=fun k hk=>Below.heap_setCell _ _ _ _ hk
 refine ⟨h.na.heap hlt (fun k hk=>key k (by omega)),h.bt.set (by omega) _ _,(key _ (by omega)).trans h.r0, ?_,(key _ (by omega)).trans h.r2⟩
 exact aC (o:=2) (u:=s') h.r1
set_option maxHeartbeats 8000000 in
theorem nt_step (v : Bool) (nm : Bs) (ts : List Tm) (ih : ∀ t ∈ ts,NT t) : NT (.mk v nm ts):=by
 intro g1 c1 gm cm b σ vb W x h hb hp hx0 hok hn hl
 obtain ⟨a,N,c,rfl,hx⟩ : ∃ a N c,x = .agg #[.bool v,str nm,.slice a N c] ∧ bG W ts (.slice a N c):=hx0
 obtain ⟨va,vn,vc,rfl⟩ : ∃ va vn vc,vb = .slice va vn vc:=by obtain ⟨a,c,rfl,-⟩:=At.sl_inv hb;exact ⟨_,_,_,rfl⟩
 have hlen:=hx.len
 have nd : (Tm.mk v nm ts).nodes = 1 + aF ts:=by simp [Tm.nodes]
 rw [nd] at hn hl
 have N0 : N ≤ 1000:=by rw [hlen.1];have:=eO ts;omega
 have okk : cE ts = true ∧ nm.length ≤ 16:=by
  unfold Tm.ok at hok
  cases v
  ·simp only [Bool.false_eq_true,if_false,Bool.and_eq_true] at hok;exact ⟨hok.2,dE hok.1.2⟩
  ·simp only [if_true,Bool.and_eq_true] at hok
   have : ts = []:=by simpa using hok.1
   subst this
   exact ⟨rfl,dE hok.2⟩
 obtain ⟨W0,hW0⟩ : ∃ W0,((W.alloc (.cells #[.func (.func 70) #[] #[one g1,one c1],.slice va vn vc] 80)).alloc (.cells #[.bool v,str nm,.slice a N c] 38)).alloc (.cells #[.bool false,str [],.slice none 0 0] 38) = W0:=⟨_,rfl⟩
 have lt:=h.lt
 have M0 : MidT g1 c1 gm cm σ W (.func (.func 70) #[] #[one g1,one c1]) (.slice va vn vc) v nm (.slice a N c) W0:=by
  have bw : Below W.heap.size W W0:=by rw [← hW0];exact (((Below.refl _ _).alloc (Nat.le_refl _) _).alloc (by simp) _).alloc (by simp;omega) _
  refine ⟨h.below bw,.of_below bw, ?_, ?_, ?_⟩
  ·rw [← hW0];exact aI _ (aI _ (heap_alloc_new W _))
  ·rw [← hW0]
   have:=heap_alloc_new (W.alloc (.cells #[.func (.func 70) #[] #[one g1,one c1],.slice va vn vc] 80)) (.cells #[.bool v,str nm,.slice a N c] 38)
   rw [World.size_alloc] at this
   exact aI _ this
  ·rw [← hW0]
   have:=heap_alloc_new ((W.alloc (.cells #[.func (.func 70) #[] #[one g1,one c1],.slice va vn vc] 80)).alloc (.cells #[.bool v,str nm,.slice a N c] 38)) (.cells #[.bool false,str [],.slice none 0 0] 38)
   rw [World.size_alloc,World.size_alloc] at this
   exact this
 have HM:=Lib.hid M0
 have H:=Lib.hid h
 have HB:=Lib.hid hb
 have HP:=Lib.hid hp
 have HX:=Lib.hid hx
 have LT:=Lib.hid lt
 have L2:=Lib.hid hlen.1
 have LN : Hid (∀ k,EN gm cm k → k < W.heap.size):=fun k hk=>by rcases hk with rfl | rfl <;> omega
 have OKK:=Lib.hid okk
 have HL:=Lib.hid (And.intro hn hl)
 have EC : Hid (∀ σ' nm' X,σ'.length ≤ σ.length + 1 → MidT g1 c1 gm cm σ' W (.func (.func 70) #[] #[one g1,one c1]) (.slice va vn vc) v nm' (.slice a N c) X → Calls Tryz.prog 114 #[.slice a N c,.func (.func 123) #[.agg #[.func (.func 70) #[] #[one g1,one c1],.slice va vn vc]] #[]] X (yO g1 c1 gm cm b σ' ts X)):=fun σ' nm' X hs hX =>
  rW ts ih g1 c1 gm cm b σ' (.slice va vn vc) X a N c hX.na (hb.keep (h.keepE hX.bt)) (h.powE hX.bt hp) (hx.keep (h.keepE hX.bt)) okk.1 (by omega) (by omega)
 have NC : Hid (∀ s,okY s → Calls Tryz.prog 70 #[.agg #[str [s.sort],str s.name,.int .i64 s.ar],one g1,one c1] W0 fun e w'=>e = .returned (str (Sy.told σ s)) ∧ aY g1 c1 gm cm (Sy.add σ s) w' ∧ But2 gm cm W0 w'):=fun s hs=>tK g1 c1 gm cm σ s W0 M0.na hs (h.powE M0.bt hp) (by omega)
 have CC : Hid (Calls Tryz.prog 110 #[.slice va vn vc,str nm] W0 fun e w'=>e = .returned (.bool (decide (nm ∈ b))) ∧ w' = W0):=contains_c (hb.keep (h.keepE M0.bt)) nm
 obtain ⟨d0,d1,-,-⟩:=row2 M0.r0
 obtain ⟨y0,y1,y2,z0,z1,z2⟩:=row95' M0.r1
 clear M0 h hb hp hx lt hlen okk hn hl nd hok ih
 unfold gI
 go_enter Tryz.func123,Tryz.ntmps123
 cases v
 ·obtain ⟨nw,hnw⟩ : ∃ nw,Sy.told σ ⟨97,nm,ts.length⟩ = nw:=⟨_,rfl⟩
  obtain ⟨σ1,hσ⟩ : ∃ σ1,Sy.add σ ⟨97,nm,ts.length⟩ = σ1:=⟨_,rfl⟩
  have NC2 : Hid (Calls Tryz.prog 70 #[.agg #[.string ⟨#[97]⟩,str nm,.int .i64 N],one g1,one c1] W0 fun e w'=>e = .returned (str nw) ∧ aY g1 c1 gm cm σ1 w' ∧ But2 gm cm W0 w'):=by
   have:=NC.out ⟨97,nm,ts.length⟩ ⟨by have:=OKK.out.2;show nm.length ≤ maxLen;unfold maxLen;omega,by show ts.length ≤ _;rw [← L2.out];omega⟩
   rw [L2.out,← hnw,← hσ]
   exact this
  have TE : Hid ((Tm.mk false nm ts).told b σ = (.mk false nw (aM b σ1 ts).1,(aM b σ1 ts).2)):=by show _ = _;simp [Tm.told,eB,hnw,hσ]
  have SL : Hid (σ1.length ≤ σ.length + 1):=by rw [← hσ];exact nC _ _
  clear NC CC hnw hσ
  go_wp2_with (first
   | (
     go_at_call 70
     refine NC2.out.mono ?_
     rintro e w1 ⟨rfl,n1,b1⟩
     have M1:=Lib.hid (HM.out.next LN.out n1 b1.toE)
     clear n1 b1 NC2 d0 d1 y0 y1 y2 z0 z1 z2 hW0
     obtain ⟨y0,y1,y2,z0,z1,z2⟩:=row95' M1.out.r1
     have M2:=Lib.hid (M1.out.name LT.out nw)
     obtain ⟨t0,t1,-,-⟩:=row2 M2.out.r0
     obtain ⟨u0,u1,u2,-,-,-⟩:=row95' M2.out.r1)
   | (
     go_at_call 114
     refine (EC.out _ _ _ SL.out M2.out).mono ?_
     rintro e w3 ⟨v3,rfl,h3,n3,b3⟩
     obtain ⟨fa,fc,rfl,-,-,-,-⟩:=At.sl_inv h3
     have M3:=Lib.hid (M2.out.next LN.out n3 b3)
     have H3:=Lib.hid h3
     clear h3 n3 b3 y0 y1 y2 z0 z1 z2 t0 t1 u0 u1 u2
     obtain ⟨y0,y1,y2,z0,z1,z2⟩:=row95' M3.out.r1
     have M4:=Lib.hid (M3.out.args LT.out (.slice fa (aM b σ1 ts).1.length fc))
     obtain ⟨q0,q1,q2,-,-,-⟩:=row95' M4.out.r1
     obtain ⟨s0,s1,s2,x0,x1,x2⟩:=row95' M4.out.r2))
  have g:=aC (o:=2) (u:=.slice fa (aM b σ1 ts).1.length fc) (aC (o:=1) (u:=str nw) (aC (o:=0) (u:=.bool false) M4.out.r2))
  have key : ∀ k,k ≠ W.heap.size + 1 + 1 → (((((w3.setCell ⟨W.heap.size + 1,2,none⟩ (.slice fa (aM b σ1 ts).1.length fc)).setCell ⟨W.heap.size + 1 + 1,0,none⟩ (.bool false)).setCell ⟨W.heap.size + 1 + 1,1,none⟩ (str nw)).setCell ⟨W.heap.size + 1 + 1,2,none⟩ (.slice fa (aM b σ1 ts).1.length fc)).heap[k]?) = (w3.setCell ⟨W.heap.size + 1,2,none⟩ (.slice fa (aM b σ1 ts).1.length fc)).heap[k]?:=fun k hk=>by rw [Below.heap_setCell _ _ _ _ hk,Below.heap_setCell _ _ _ _ hk,Below.heap_setCell _ _ _ _ hk]
  refine bodyPost_ret (gJ rfl _ _ (W.heap.size + 1 + 1) _ _ _ (0,0) rfl g) rfl ?_
  refine ⟨.agg #[.bool false,str nw,.slice fa (aM b σ1 ts).1.length fc],rfl, ?_, ?_,(((M4.out.bt.set (by omega) _ _).set (by omega) _ _).set (by omega) _ _)⟩
  ·rw [TE.out]
   refine ⟨_,_,_,rfl, ?_⟩
   refine H3.out.keep (aH fun k h1 h2=>?_)
   have lw:=(Array.getElem?_eq_some_iff.1 M2.out.r2).1
   simp only [lo,decide_eq_false_iff_not,Nat.not_lt] at h2 ⊢
   exact ⟨by omega,by rw [key k (by omega),Below.heap_setCell _ _ _ _ (by show k ≠ W.heap.size + 1;omega)]⟩
  ·rw [TE.out]
   exact M4.out.na.heap LT.out (fun k hk=>key k (by omega))
 ·by_cases hin : nm ∈ b
  ·have CC2 : Hid (Calls Tryz.prog 110 #[.slice va vn vc,str nm] W0 fun e w'=>e = .returned (.bool true) ∧ w' = W0):=by have:=CC.out;simp only [hin,decide_true,decide_false] at this;exact this
   obtain ⟨σ1,hσ⟩ : ∃ σ1,σ = σ1:=⟨_,rfl⟩
   have TE : Hid ((Tm.mk true nm ts).told b σ = (.mk true nm (aM b σ1 ts).1,(aM b σ1 ts).2)):=by rw [← hσ];show _ = _;simp [Tm.told,eB,hin]
   have SL : Hid (σ1.length ≤ σ.length + 1):=by rw [← hσ];exact Nat.le_succ _
   have M2 : Hid (MidT g1 c1 gm cm σ1 W (.func (.func 70) #[] #[one g1,one c1]) (.slice va vn vc) true nm (.slice a N c) W0):=by rw [← hσ];exact HM.out
   clear NC CC hσ hin
   go_wp2_with (first
    | (go_at_call 110;refine CC2.out.mono ?_;rintro e w1 ⟨rfl,rfl⟩;clear CC2)
    | (
      go_at_call 114
      refine (EC.out _ _ _ SL.out M2.out).mono ?_
      rintro e w3 ⟨v3,rfl,h3,n3,b3⟩
      obtain ⟨fa,fc,rfl,-,-,-,-⟩:=At.sl_inv h3
      have M3:=Lib.hid (M2.out.next LN.out n3 b3)
      have H3:=Lib.hid h3
      clear h3 n3 b3 y0 y1 y2 z0 z1 z2 d0 d1 hW0
      obtain ⟨y0,y1,y2,z0,z1,z2⟩:=row95' M3.out.r1
      have M4:=Lib.hid (M3.out.args LT.out (.slice fa (aM b σ1 ts).1.length fc))
      obtain ⟨q0,q1,q2,-,-,-⟩:=row95' M4.out.r1
      obtain ⟨s0,s1,s2,x0,x1,x2⟩:=row95' M4.out.r2))
   have g:=aC (o:=2) (u:=.slice fa (aM b σ1 ts).1.length fc) (aC (o:=1) (u:=str nm) (aC (o:=0) (u:=.bool true) M4.out.r2))
   have key : ∀ k,k ≠ W.heap.size + 1 + 1 → (((((w3.setCell ⟨W.heap.size + 1,2,none⟩ (.slice fa (aM b σ1 ts).1.length fc)).setCell ⟨W.heap.size + 1 + 1,0,none⟩ (.bool true)).setCell ⟨W.heap.size + 1 + 1,1,none⟩ (str nm)).setCell ⟨W.heap.size + 1 + 1,2,none⟩ (.slice fa (aM b σ1 ts).1.length fc)).heap[k]?) = (w3.setCell ⟨W.heap.size + 1,2,none⟩ (.slice fa (aM b σ1 ts).1.length fc)).heap[k]?:=fun k hk=>by rw [Below.heap_setCell _ _ _ _ hk,Below.heap_setCell _ _ _ _ hk,Below.heap_setCell _ _ _ _ hk]
   refine bodyPost_ret (gJ rfl _ _ (W.heap.size + 1 + 1) _ _ _ (0,0) rfl g) rfl ?_
   refine ⟨.agg #[.bool true,str nm,.slice fa (aM b σ1 ts).1.length fc],rfl, ?_, ?_,(((M4.out.bt.set (by omega) _ _).set (by omega) _ _).set (by omega) _ _)⟩
   ·rw [TE.out]
    refine ⟨_,_,_,rfl, ?_⟩
    refine H3.out.keep (aH fun k h1 h2=>?_)
    have lw:=(Array.getElem?_eq_some_iff.1 M2.out.r2).1
    simp only [lo,decide_eq_false_iff_not,Nat.not_lt] at h2 ⊢
    exact ⟨by omega,by rw [key k (by omega),Below.heap_setCell _ _ _ _ (by show k ≠ W.heap.size + 1;omega)]⟩
   ·rw [TE.out]
    exact M4.out.na.heap LT.out (fun k hk=>key k (by omega))
  ·have CC2 : Hid (Calls Tryz.prog 110 #[.slice va vn vc,str nm] W0 fun e w'=>e = .returned (.bool false) ∧ w' = W0):=by have:=CC.out;simp only [hin,decide_true,decide_false] at this;exact this
   obtain ⟨nw,hnw⟩ : ∃ nw,Sy.told σ ⟨117,nm,0⟩ = nw:=⟨_,rfl⟩
   obtain ⟨σ1,hσ⟩ : ∃ σ1,Sy.add σ ⟨117,nm,0⟩ = σ1:=⟨_,rfl⟩
   have NC2 : Hid (Calls Tryz.prog 70 #[.agg #[.string ⟨#[117]⟩,str nm,.int .i64 0],one g1,one c1] W0 fun e w'=>e = .returned (str nw) ∧ aY g1 c1 gm cm σ1 w' ∧ But2 gm cm W0 w'):=by
    have:=NC.out ⟨117,nm,0⟩ ⟨by have:=OKK.out.2;show nm.length ≤ maxLen;unfold maxLen;omega,by show 0 ≤ _;omega⟩
    rw [← hnw,← hσ]
    exact this
   have TE : Hid ((Tm.mk true nm ts).told b σ = (.mk true nw (aM b σ1 ts).1,(aM b σ1 ts).2)):=by show _ = _;simp [Tm.told,eB,hin,hnw,hσ]
   have SL : Hid (σ1.length ≤ σ.length + 1):=by rw [← hσ];exact nC _ _
   clear NC CC hnw hσ hin
   go_wp2_with (first
    | (go_at_call 110;refine CC2.out.mono ?_;rintro e w1 ⟨rfl,rfl⟩;clear CC2)
    | (
      go_at_call 70
      refine NC2.out.mono ?_
      rintro e w1 ⟨rfl,n1,b1⟩
      have M1:=Lib.hid (HM.out.next LN.out n1 b1.toE)
      clear n1 b1 NC2 d0 d1 y0 y1 y2 z0 z1 z2 hW0
      obtain ⟨y0,y1,y2,z0,z1,z2⟩:=row95' M1.out.r1
      have M2:=Lib.hid (M1.out.name LT.out nw)
      obtain ⟨t0,t1,-,-⟩:=row2 M2.out.r0
      obtain ⟨u0,u1,u2,-,-,-⟩:=row95' M2.out.r1)
    | (
      go_at_call 114
      refine (EC.out _ _ _ SL.out M2.out).mono ?_
      rintro e w3 ⟨v3,rfl,h3,n3,b3⟩
      obtain ⟨fa,fc,rfl,-,-,-,-⟩:=At.sl_inv h3
      have M3:=Lib.hid (M2.out.next LN.out n3 b3)
      have H3:=Lib.hid h3
      clear h3 n3 b3 y0 y1 y2 z0 z1 z2 t0 t1 u0 u1 u2
      obtain ⟨y0,y1,y2,z0,z1,z2⟩:=row95' M3.out.r1
      have M4:=Lib.hid (M3.out.args LT.out (.slice fa (aM b σ1 ts).1.length fc))
      obtain ⟨q0,q1,q2,-,-,-⟩:=row95' M4.out.r1
      obtain ⟨s0,s1,s2,x0,x1,x2⟩:=row95' M4.out.r2))
   have g:=aC (o:=2) (u:=.slice fa (aM b σ1 ts).1.length fc) (aC (o:=1) (u:=str nw) (aC (o:=0) (u:=.bool true) M4.out.r2))
   have key : ∀ k,k ≠ W.heap.size + 1 + 1 → (((((w3.setCell ⟨W.heap.size + 1,2,none⟩ (.slice fa (aM b σ1 ts).1.length fc)).setCell ⟨W.heap.size + 1 + 1,0,none⟩ (.bool true)).setCell ⟨W.heap.size + 1 + 1,1,none⟩ (str nw)).setCell ⟨W.heap.size + 1 + 1,2,none⟩ (.slice fa (aM b σ1 ts).1.length fc)).heap[k]?) = (w3.setCell ⟨W.heap.size + 1,2,none⟩ (.slice fa (aM b σ1 ts).1.length fc)).heap[k]?:=fun k hk=>by rw [Below.heap_setCell _ _ _ _ hk,Below.heap_setCell _ _ _ _ hk,Below.heap_setCell _ _ _ _ hk]
   refine bodyPost_ret (gJ rfl _ _ (W.heap.size + 1 + 1) _ _ _ (0,0) rfl g) rfl ?_
   refine ⟨.agg #[.bool true,str nw,.slice fa (aM b σ1 ts).1.length fc],rfl, ?_, ?_,(((M4.out.bt.set (by omega) _ _).set (by omega) _ _).set (by omega) _ _)⟩
   ·rw [TE.out]
    refine ⟨_,_,_,rfl, ?_⟩
    refine H3.out.keep (aH fun k h1 h2=>?_)
    have lw:=(Array.getElem?_eq_some_iff.1 M2.out.r2).1
    simp only [lo,decide_eq_false_iff_not,Nat.not_lt] at h2 ⊢
    exact ⟨by omega,by rw [key k (by omega),Below.heap_setCell _ _ _ _ (by show k ≠ W.heap.size + 1;omega)]⟩
   ·rw [TE.out]
    exact M4.out.na.heap LT.out (fun k hk=>key k (by omega))
mutual
theorem zK : ∀ t : Tm,NT t
 | .mk v nm ts=>nt_step v nm ts (xY ts)
theorem xY : ∀ ts : List Tm,∀ t ∈ ts,NT t
 | [],_,h=>by cases h
 | x :: xs,t,h=>by
  rcases List.mem_cons.1 h with e | e
  ·rw [e];exact zK x
  ·exact xY xs t e
end
end Go.Proofs.YtppfalbnhnpbnaaGreatDoor
