/- skeleton.each at terms: a list is made, element by element, by a method value. Conditions: those of each statement. -/
import Derived.Test.YtppfalbnhnpbnaaGreatDoorEaBX
import Derived.Test.YtppfalbnhnpbnaaGreatDoorNtDX
import Derived.Test.YtppfalbnhnpbnaaGreatDoorNtBX
set_option linter.unusedSimpArgs false
set_option linter.unusedVariables false
namespace Go.Proofs.YtppfalbnhnpbnaaGreatDoor
open Go Go.RowKit Ly
set_option maxRecDepth 10000
set_option maxHeartbeats 8000000 in
theorem each115_c {St : Type} (E : Nat → Prop) (nv : Value) (I : St → World → Prop) (f : St → Tm → Tm × St) (W : World) (ts : List Tm) (s0 : St) (a : Option Addr) (n c : Nat) (hx : bE W ts (.slice a n c)) (hn : ts.length ≤ 100000) (h0 : I s0 W) (hI : kR W.heap.size I)
  (hmap : ∀ s X,I s X → ∀ k,E k → ∃ es c,X.heap[k]? = some (.map es c)) (hE : ∀ k,E k → k < W.heap.size)
  (hf : ∀ j t,ts[j]? = some t → ∀ X x,I (stAt f s0 ts j) X → ButE E W X → dR X t x → Calls Tryz.prog 115 #[nv,x] X fun e w'=>∃ v,e = .returned v ∧ dR (hide (lo X) w') (f (stAt f s0 ts j) t).1 v ∧ I (f (stAt f s0 ts j) t).2 w' ∧ ButE E X w') :
  Calls Tryz.prog 114 #[.slice a n c,.func (.func 115) #[nv] #[]] W fun e w'=>∃ v,e = .returned v ∧ bE (hide (lo W) w') (aK f s0 ts).1 v ∧ I (aK f s0 ts).2 w' ∧ ButE E W w':=by
 have hl:=hx.len
 have L2:=Lib.hid hl.1
 have N0 : n ≤ 100000:=by rw [hl.1];exact hn
 have HX:=Lib.hid hx
 have H0:=Lib.hid h0
 have HI:=Lib.hid hI
 have HK : Hid (∀ X,ButE E W X → bR W X):=fun X hX=>hX.keeps (hmap s0 W h0)
 have HE:=Lib.hid hE
 have HF:=Lib.hid hf
 obtain ⟨i0,hi0,hz0,hs0,hb0⟩:=info_parts lF
 clear hl hx hn h0 hI hmap hE hf
 go_enter Tryz.func114,Tryz.ntmps114
 by_cases hn0 : n = 0
 ·subst hn0
  go_wp2
  have e : ts = []:=List.eq_nil_of_length_eq_zero L2.out.symm
  go_ret
  subst e
  exact ⟨_,rfl,At.sl_nil (by unfold maxLen;omega),H0.out,ButE.refl _ _⟩
 ·go_wp2_with (at_make;refine wpList_make_full _ rfl _ _ 36 rfl W.heap.size 38 i0 (.agg #[.bool false,.string ⟨#[]⟩,.slice none 0 0]) 3 Tryz.underlying36 hi0 hz0 hs0 .i64 .i64 _ _ n rfl rfl (by first | rfl | omega) (by first | rfl | omega) (by rw [hb0];omega) (by unfold maxLen;omega) (Nat.le_refl _) ?_;intro w1 hown1 hgrow1)
  obtain ⟨G,hG⟩ : ∃ G,W.heap.size = G:=⟨_,rfl⟩
  have A0 : Hid (cK G n 3 38 (bW (aK f s0 (ts.take 0)).1) 0 w1 ∧ I (stAt f s0 ts 0) w1 ∧ ButE E W w1):=by
   have B : ButE E W w1:=⟨hgrow1.os,hgrow1.tape,hgrow1.output,hgrow1.size,fun k hk _=>hgrow1.block k hk (by simp)⟩
   refine ⟨?_,HI.out s0 W w1 H0.out (fun k hk=>hgrow1.block k hk (by simp)),B⟩
   rcases hown1.2 with ⟨e,-⟩ | ⟨g,cap,cur,e,-,h3,h4,h5,h6,h7⟩
   ·cases e
   ·simp only [Value.slice.injEq,Option.some.injEq,Addr.mk.injEq,and_true,true_and] at e
    obtain ⟨e1,rfl⟩:=e
    rw [← hG]
    rw [← e1] at h3
    exact ⟨cur.toList,by simpa using h3,by simpa using h6,by simpa [aK,bW] using bM.nil _⟩
  rw [hG]
  have HG:=Lib.hid hG
  clear hown1 hgrow1 hn0 hG H0
  go_loopw [16] (fun i wr=>∃ j : Nat,j ≤ n ∧ i = .int .i64 j ∧ Hid (cK G n 3 38 (bW (aK f s0 (ts.take j)).1) j wr ∧ I (stAt f s0 ts j) wr ∧ ButE E W wr)) (fun i _=>n - (intOf i).toNat)
  case atStart=>exact ⟨0,Nat.zero_le _,rfl,A0.out⟩
  case round =>
   obtain ⟨j,hj,rfl,hs⟩:=hrel
   clear A0
   by_cases hlt : j < n
   ·obtain ⟨T,hT⟩:=aX (l:=ts) (j:=j) (by rw [← L2.out];exact hlt)
    obtain ⟨bb,off,rfl,hc⟩:=HX.out.get (aZ hT)
    obtain ⟨x0,x1,x2,hx⟩:=hc j _ hT
    have hK:=HK.out _ hs.out.2.2
    have c0:=hK _ _ hx.c0;have c1:=hK _ _ hx.c1;have c2:=hK _ _ hx.c2
    have HT:=Lib.hid hT
    have IC : Hid (∀ o,Calls Tryz.prog 115 #[nv,.agg #[.bool T.v,str T.name,.slice x0 x1 x2]] (wr.alloc o) fun e w'=>∃ v,e = .returned v ∧ dR (hide (lo (wr.alloc o)) w') (f (stAt f s0 ts j) T).1 v ∧ I (f (stAt f s0 ts j) T).2 w' ∧ ButE E (wr.alloc o) w'):=fun o =>
     HF.out j T HT.out _ _ (HI.out _ _ _ hs.out.2.1 (fun k hk=>((Below.refl _ wr).alloc (Nat.le_refl _) o).block k (by have:=hs.out.2.2.size;omega))) (hs.out.2.2.alloc o) ⟨_,_,_,rfl,(hx.at_.keep hK).keep (aA ((Below.refl _ _).alloc (Nat.le_refl _) _))⟩
    clear hc hx hT hK
    go_wp2_with (
           go_at_call 115
           refine (IC.out _).mono ?_
           rintro e w3 ⟨v3,rfl,⟨fa,fn,fc,rfl,h3⟩,i3,b3⟩
           have FA:=hs.out.1.keep (W':=w3) (fun k h1 h2=>(b3.block k (by simp;omega) (fun e=>by have:=HE.out k e;have:=HG.out;omega)).trans (((Below.refl _ wr).alloc (Nat.le_refl _) _).block k h2))
           obtain ⟨⟨p0,q0⟩,f0,p1,f1,p2,f2⟩:=FA.cells3 hlt
           obtain ⟨u1,q1⟩:=Classical.axiomOfChoice p1
           obtain ⟨u2,q2⟩ : ∃ u2 : Value → Value → Value,∀ a b,((w3.setCell ⟨G,j * 3,none⟩ a).setCell ⟨G,j * 3 + 1,none⟩ b).cell? ⟨G,j * 3 + 2,none⟩ = some (u2 a b):=⟨fun a b=>(p2 a b).choose,fun a b=>(p2 a b).choose_spec⟩
           clear p1 p2
           have H3:=Lib.hid (And.intro FA (And.intro i3 b3))
           have R3:=Lib.hid h3
           clear FA i3 b3 h3)
    go_roundw
    case rel =>
     refine ⟨j + 1,by omega,by go_num, ?_⟩
     obtain ⟨FA,i3,b3⟩:=H3.out
     have e:=gW f s0 HT.out
     have g:=HG.out
     have lg : G < wr.heap.size:=by obtain ⟨cs,h1,-,-⟩:=hs.out.1;exact (Array.getElem?_eq_some_iff.1 h1).1
     have K : ∀ o,bR (hide (lo (wr.alloc o)) w3) (hide (fun k=>decide (k < G + 1)) w3):=fun o=>aF fun k a b=>⟨by simp [lo] at b;simp;omega,rfl⟩
     refine ⟨?_, ?_, ?_⟩
     ·rw [e,pH]
      have:=cK.put3 FA hlt (fJ (R3.out.keep (K _)))
      simpa [bW] using this
     ·have : stAt f s0 ts (j + 1) = (f (stAt f s0 ts j) T).2:=by unfold stAt;rw [e];rfl
      rw [this]
      exact HI.out _ w3 _ i3 (fun k hk=>by rw [Below.heap_setCell _ _ _ _ (by show k ≠ G;omega),Below.heap_setCell _ _ _ _ (by show k ≠ G;omega),Below.heap_setCell _ _ _ _ (by show k ≠ G;omega)])
     ·exact ((((hs.out.2.2.alloc _).trans b3).set (by omega) _ _).set (by omega) _ _).set (by omega) _ _
    case measure=>simp [intOf];omega
   ·have ej : j = n:=by omega
    obtain ⟨FA,i3,b3⟩:=hs.out
    have et : ts.take j = ts:=List.take_of_length_le (by rw [← L2.out];omega)
    rw [et] at FA
    have i4 : I (aK f s0 ts).2 wr:=by have:=i3;unfold stAt at this;rwa [et] at this
    have FE : Hid (bE (hide (lo W) wr) (aK f s0 ts).1 (.slice (some ⟨G,0,none⟩) n n) ∧ I (aK f s0 ts).2 wr ∧ ButE E W wr):=by
     refine ⟨?_,i4,b3⟩
     have le : (aK f s0 ts).1.length = n:=by rw [gQ,← L2.out]
     show At _ (.sl 3 (aK f s0 ts).1.length (bW (aK f s0 ts).1)) _
     rw [le]
     rw [ej] at FA
     have ld : (bW (aK f s0 ts).1).length = n * 3:=by rw [lM,le]
     exact cK.at FA ld (by unfold maxLen;omega) (by have:=HG.out;omega)
    clear FA i3 b3 i4 et ej hs
    go_wp2_with fail
    go_ret
    exact ⟨_,rfl,FE.out⟩
end Go.Proofs.YtppfalbnhnpbnaaGreatDoor
namespace Ly
open Go.Lib (itoa decDigits)
theorem oD {A B : List Bs} (h : ∀ x,x ∈ A → x ∈ B) : dW A ≤ dW B:=by
 rcases Nat.lt_or_ge (dW B) (dW A) with h1 | h1
 ·exact absurd (h _ (oC A _ (rX B) h1)) (gR B)
 ·exact h1
theorem jC {A B : List Bs} (h : ∀ x,x ∈ A ↔ x ∈ B) : least A = least B:=by
 unfold least
 rw [Nat.le_antisymm (oD fun x=>(h x).1) (oD fun x=>(h x).2)]
def mQ (ar : List (Bs × Bs)) : List (Bs × Bs):=ar.map fun p=>(p.2,p.2)
theorem selfs_snd (ar : List (Bs × Bs)) : (mQ ar).map (·.2) = ar.map (·.2):=by simp [mQ]
theorem qW (ar : List (Bs × Bs)) (x : Bs) : arOf (mQ ar) x = none ∨ arOf (mQ ar) x = some x:=by
 unfold arOf mQ
 induction ar with
 | nil=>exact .inl rfl
 | cons p r ih =>
  simp only [List.map_cons,List.find?_cons]
  by_cases h : p.2 = x
  ·right;simp [h]
  ·have : (p.2 == x) = false:=by simpa using h
   rw [this];exact ih
mutual
theorem Tm.swap_self {g : Bs → Option Bs} (hg : ∀ x,g x = none ∨ g x = some x) : ∀ t : Tm,t.ok = true → t.swap g = t
 | .mk v n ts,h=>by
  rw [Tm.ok] at h
  cases v with
  | true =>
   simp only [if_true,Bool.and_eq_true,List.isEmpty_iff] at h
   obtain ⟨rfl,-⟩:=h
   rw [Tm.swap]
   simp only [if_true]
   rcases hg n with e | e <;> rw [e] <;> rfl
  | false =>
   simp only [Bool.false_eq_true,if_false,Bool.and_eq_true] at h
   rw [Tm.swap]
   simp only [Bool.false_eq_true,if_false]
   rw [iB hg ts h.2]
theorem iB {g : Bs → Option Bs} (hg : ∀ x,g x = none ∨ g x = some x) : ∀ l : List Tm,bX l = true → aU g l = l
 | [],_=>rfl
 | t :: ts,h=>by
  simp only [bX,Bool.and_eq_true] at h
  rw [aU,Tm.swap_self hg t h.1,iB hg ts h.2]
end
mutual
theorem Fm.norm_idem {fr fr2 : List Bs} (hf : ∀ x,x ∈ fr2 ↔ x ∈ fr) : ∀ (ar : List (Bs × Bs)) (f : Fm),f.ok = true → (∀ p ∈ ar,bY p.2 = true) → fr.length + ar.length + f.depth ≤ 1000000 → (f.norm fr ar).norm fr2 (mQ ar) = f.norm fr ar
 | ar,.mk op n ts fs,h,ha,hd=>by
  simp only [Fm.ok,Bool.and_eq_true,decide_eq_true_eq] at h
  rw [Fm.depth] at hd
  have hg : ∀ n m,arOf ar n = some m → bY m = true:=fun n m e=>by
   obtain ⟨p,hp,rfl⟩:=nP e;exact ha p hp
  have t1:=(kD hg ts h.1.2).1
  have hv : bY (least (fr ++ ar.map (·.2))) = true:=uM (by simp;omega)
  have hl : least (fr2 ++ (mQ ar).map (·.2)) = least (fr ++ ar.map (·.2)):=by
   rw [selfs_snd];exact jC fun x=>by simp [hf x]
  by_cases hq : bV op = true
  ·rw [Fm.norm,if_pos hq,Fm.norm,if_pos hq,hl,iB (qW ar) _ t1]
   have:=jU hf ((n,least (fr ++ ar.map (·.2))) :: ar) fs h.2 (fun p hp=>by
    rcases List.mem_cons.1 hp with rfl | hp
    ·exact hv
    ·exact ha p hp) (by simp;omega)
   rw [show mQ ((n,least (fr ++ ar.map (·.2))) :: ar) = (least (fr ++ ar.map (·.2)),least (fr ++ ar.map (·.2))) :: mQ ar from rfl] at this
   rw [this]
  ·rw [Fm.norm,if_neg hq,Fm.norm,if_neg hq,iB (qW ar) _ t1,jU hf ar fs h.2 ha (by omega)]
theorem jU {fr fr2 : List Bs} (hf : ∀ x,x ∈ fr2 ↔ x ∈ fr) : ∀ (ar : List (Bs × Bs)) (l : List Fm),bU l = true → (∀ p ∈ ar,bY p.2 = true) → fr.length + ar.length + cN l ≤ 1000000 → bG fr2 (mQ ar) (bG fr ar l) = bG fr ar l
 | ar,[],_,_,_=>rfl
 | ar,f :: fs,h,ha,hd=>by
  simp only [bU,Bool.and_eq_true] at h
  rw [cN] at hd
  rw [bG,bG,Fm.norm_idem hf ar f h.1 ha (by omega),jU hf ar fs h.2 ha (by omega)]
end
/- The free variables stay. -/
theorem fM {ar : List (Bs × Bs)} {x : Bs} : arOf ar x = none ↔ x ∉ ar.map (·.1):=by
 unfold arOf
 rw [Option.map_eq_none_iff,List.find?_eq_none]
 simp only [List.mem_map,beq_iff_eq]
 constructor
 ·rintro h ⟨p,hp,rfl⟩;exact h p hp rfl
 ·intro h p hp e;exact h ⟨p,hp,e⟩
mutual
theorem Tm.swap_vars {fr : List Bs} {ar : List (Bs × Bs)} (h2 : ∀ p ∈ ar,p.2 ∉ fr) : ∀ t : Tm,t.ok = true → (∀ x ∈ t.vars,x ∉ ar.map (·.1) → x ∈ fr) → ∀ x,(x ∈ (t.swap (arOf ar)).vars ∧ x ∉ ar.map (·.2)) ↔ (x ∈ t.vars ∧ x ∉ ar.map (·.1))
 | .mk v n ts,h,hx,x=>by
  rw [Tm.ok] at h
  cases v with
  | true =>
   simp only [if_true,Bool.and_eq_true,List.isEmpty_iff] at h
   obtain ⟨rfl,-⟩:=h
   rw [Tm.swap]
   simp only [if_true]
   simp only [Tm.vars,if_true,aO,List.append_nil,List.mem_singleton] at hx ⊢
   cases e : arOf ar n with
   | none =>
    have hn:=fM.1 e
    simp only [Tm.vars,if_true,aU,aO,List.append_nil,List.mem_singleton]
    constructor
    ·rintro ⟨rfl,-⟩;exact ⟨rfl,hn⟩
    ·rintro ⟨rfl,-⟩
     refine ⟨rfl,fun hm=>?_⟩
     obtain ⟨p,hp,e2⟩:=List.mem_map.1 hm
     exact h2 p hp (by rw [e2];exact hx _ rfl hn)
   | some m =>
    obtain ⟨p,hp,rfl⟩:=nP e
    simp only [Tm.vars,if_true,aO,List.append_nil,List.mem_singleton]
    constructor
    ·rintro ⟨rfl,h3⟩;exact absurd (List.mem_map.2 ⟨p,hp,rfl⟩) h3
    ·rintro ⟨rfl,h3⟩
     rw [fM.2 h3] at e;cases e
  | false =>
   simp only [Bool.false_eq_true,if_false,Bool.and_eq_true] at h
   rw [Tm.swap]
   simp only [Bool.false_eq_true,if_false]
   simp only [Tm.vars,Bool.false_eq_true,if_false,List.nil_append] at hx ⊢
   exact kE h2 ts h.2 hx x
theorem kE {fr : List Bs} {ar : List (Bs × Bs)} (h2 : ∀ p ∈ ar,p.2 ∉ fr) : ∀ l : List Tm,bX l = true → (∀ x ∈ aO l,x ∉ ar.map (·.1) → x ∈ fr) → ∀ x,(x ∈ aO (aU (arOf ar) l) ∧ x ∉ ar.map (·.2)) ↔ (x ∈ aO l ∧ x ∉ ar.map (·.1))
 | [],_,_,x=>by simp [aU,aO]
 | t :: ts,h,hx,x=>by
  simp only [bX,Bool.and_eq_true] at h
  have a:=Tm.swap_vars h2 t h.1 (fun y hy=>hx y (by simp [aO,hy])) x
  have b:=kE h2 ts h.2 (fun y hy=>hx y (by simp [aO,hy])) x
  simp only [aU,aO,List.mem_append,or_and_right]
  rw [a,b]
end
mutual
theorem Fm.norm_free {fr : List Bs} : ∀ (ar : List (Bs × Bs)) (f : Fm),f.ok = true → (∀ p ∈ ar,p.2 ∉ fr) → (∀ x ∈ f.free (ar.map (·.1)),x ∈ fr) → ∀ x,x ∈ (f.norm fr ar).free (ar.map (·.2)) ↔ x ∈ f.free (ar.map (·.1))
 | ar,.mk op n ts fs,h,h2,hx,x=>by
  simp only [Fm.ok,Bool.and_eq_true,decide_eq_true_eq] at h
  simp only [Fm.free,List.mem_append,List.mem_filter,decide_eq_true_eq] at hx
  have a:=kE (fr:=fr) h2 ts h.1.2 (fun y hy hn=>hx y (.inl ⟨hy,hn⟩)) x
  rw [Fm.norm]
  by_cases hq : bV op = true
  ·rw [if_pos hq]
   rw [if_pos hq] at hx
   have b:=jT (fr:=fr) ((n,least (fr ++ ar.map (·.2))) :: ar) fs h.2 (fun p hp=>by
    rcases List.mem_cons.1 hp with rfl | hp
    ·exact fun hm=>gR (fr ++ ar.map (·.2)) (List.mem_append_left _ hm)
    ·exact h2 p hp) (fun y hy=>hx y (.inr hy)) x
   simp only [List.map_cons] at b
   simp only [Fm.free,hq,if_true,List.mem_append,List.mem_filter,decide_eq_true_eq]
   rw [a,b]
  ·rw [if_neg hq]
   rw [if_neg hq] at hx
   have b:=jT (fr:=fr) ar fs h.2 h2 (fun y hy=>hx y (.inr hy)) x
   simp only [Fm.free,if_neg hq,List.mem_append,List.mem_filter,decide_eq_true_eq]
   rw [a,b]
theorem jT {fr : List Bs} : ∀ (ar : List (Bs × Bs)) (l : List Fm),bU l = true → (∀ p ∈ ar,p.2 ∉ fr) → (∀ x ∈ aV (ar.map (·.1)) l,x ∈ fr) → ∀ x,x ∈ aV (ar.map (·.2)) (bG fr ar l) ↔ x ∈ aV (ar.map (·.1)) l
 | ar,[],_,_,_,x=>by simp [bG,aV]
 | ar,f :: fs,h,h2,hx,x=>by
  simp only [bU,Bool.and_eq_true] at h
  simp only [aV,List.mem_append] at hx
  have a:=Fm.norm_free (fr:=fr) ar f h.1 h2 (fun y hy=>hx y (.inl hy)) x
  have b:=jT (fr:=fr) ar fs h.2 h2 (fun y hy=>hx y (.inr hy)) x
  simp only [bG,aV,List.mem_append]
  rw [a,b]
end
theorem Fm.normal_free {f : Fm} (h : f.ok = true) (x : Bs) : x ∈ f.normal.free [] ↔ x ∈ f.free [] :=
 Fm.norm_free [] f h (fun p hp=>by cases hp) (fun x hx=>hx) x
theorem Fm.normal_idem {f : Fm} (h : f.right = true) : f.normal.normal = f.normal:=by
 simp only [Fm.right,Bool.and_eq_true,decide_eq_true_eq] at h
 have hl:=Fm.free_le [] f
 have:=Fm.norm_idem (fr:=f.free []) (fr2:=f.normal.free []) (fun x=>Fm.normal_free h.1.1 x) [] f h.1.1 (fun p hp=>by cases hp) (by simp;omega)
 exact this
end Ly
namespace Ly
open Go.Lib (itoa decDigits)
/- The places of symbols. -/
def cnt : List Sy → Sy → Nat
 | [],_=>0
 | x :: σ,s=>if x = s then 0 else (if x.kind = s.kind then 1 else 0) + cnt σ s
theorem uB (σ : List Sy) (s : Sy) : Sy.place σ s = cnt σ s + 1:=by
 unfold Sy.place
 congr 1
 induction σ with
 | nil=>rfl
 | cons x σ ih =>
  rw [cnt,List.takeWhile_cons]
  by_cases h : x = s
  ·simp [h]
  ·simp only [h,ne_eq,not_false_eq_true,decide_true,if_true,if_false,List.countP_cons,ih]
   by_cases hk : x.kind = s.kind <;> simp [hk] <;> omega
theorem xT {h : Sy → Sy} (hk : ∀ x,(h x).kind = x.kind) (s : Sy) : ∀ (τ : List Sy),(∀ x ∈ τ,h x = h s → x = s) → cnt (τ.map h) (h s) = cnt τ s
 | [],_=>rfl
 | x :: τ,hi=>by
  rw [List.map_cons,cnt,cnt,hk,hk,xT hk s τ fun y hy=>hi y (by simp [hy])]
  by_cases e : x = s
  ·subst e;simp
  ·rw [if_neg e,if_neg (fun h2=>e (hi x (by simp) h2))]
/- What begins with x. -/
def hx (n : Bs) : Prop:=n.head? = some 120
theorem hx_xN (k : Nat) : hx (xN k):=rfl
theorem zN (σ : List Sy) (n : Bs) : ¬ hx (Sy.told σ ⟨117,n,0⟩):=by
 unfold Sy.told Sy.kind hx
 rw [if_pos rfl]
 simp
theorem cT (g : Bs → Option Bs) : ∀ l : List Tm,(aU g l).length = l.length
 | []=>rfl
 | t :: ts=>by simp [aU,cT g ts]
theorem eE (b : List Bs) : ∀ (l : List Tm) (σ : List Sy),(aN b σ l).1.length = l.length
 | [],_=>rfl
 | t :: ts,σ=>by simp [aN,eE b ts]
theorem tB {ar : List (Bs × Bs)} {x : Bs} (h : x ∈ ar.map (·.1)) : ∃ p ∈ ar,arOf ar x = some p.2:=by
 cases e : arOf ar x with
 | none=>exact absurd h (fM.1 e)
 | some m =>
  obtain ⟨p,hp,rfl⟩:=nP e
  exact ⟨p,hp,rfl⟩
mutual
theorem Fm.norm_binds {fr : List Bs} : ∀ (ar : List (Bs × Bs)) (f : Fm),∀ x ∈ (f.norm fr ar).binds,hx x ∧ x ∉ fr
 | ar,.mk op n ts fs,x,h=>by
  rw [Fm.norm] at h
  by_cases hq : bV op = true
  ·rw [if_pos hq,Fm.binds,if_pos hq] at h
   rcases List.mem_append.1 h with h | h
   ·rw [List.mem_singleton] at h
    subst h
    exact ⟨hx_xN _,fun hm=>gR (fr ++ ar.map (·.2)) (List.mem_append_left _ hm)⟩
   ·exact jK _ fs x h
  ·rw [if_neg hq,Fm.binds,if_neg hq,List.nil_append] at h
   exact jK _ fs x h
theorem jK {fr : List Bs} : ∀ (ar : List (Bs × Bs)) (l : List Fm),∀ x ∈ bK (bG fr ar l),hx x ∧ x ∉ fr
 | ar,[],x,h=>by simp [bG,bK] at h
 | ar,f :: fs,x,h=>by
  rw [bG,bK] at h
  rcases List.mem_append.1 h with h | h
  ·exact Fm.norm_binds ar f x h
  ·exact jK ar fs x h
end
theorem mD : ∀ (l : List Fm) (σ : List Sy),(dP σ l).1.length = l.length
 | [],_=>rfl
 | f :: fs,σ=>by simp [dP,mD fs]
theorem wA : ∀ (l : List Fm) (σ : List Sy),(∀ f ∈ l,f.right = true) → σ.length + l.length * 400 ≤ 900000 → (dP σ l).2.length ≤ σ.length + l.length * 400
 | [],σ,_,_=>by simp [dP]
 | f :: fs,σ,h,hs=>by
  simp only [List.length_cons] at hs ⊢
  obtain ⟨-,-,-,hl⟩:=Fm.mid_right (σ:=σ) (h f (by simp)) (by omega)
  have:=wA fs (f.sk σ).2 (fun g hg=>h g (by simp [hg])) (by omega)
  simp only [dP];omega
end Ly
namespace Ly
open Go.Lib (itoa decDigits)
def pF (n : Bs) : UInt8:=if dB n then 80 else if eU n then 97 else if bY n then 117 else 0
mutual
def Tm.funs : Tm → List (Bs × Nat)
 | .mk v n ts=>(if v then [] else [(n,ts.length)]) ++ bQ ts
def bQ : List Tm → List (Bs × Nat)
 | []=>[]
 | t :: ts=>t.funs ++ bQ ts
end
mutual
def Fm.funs : Fm → List (Bs × Nat)
 | .mk op n ts fs=>bQ ts ++ cY fs
def cY : List Fm → List (Bs × Nat)
 | []=>[]
 | f :: fs=>f.funs ++ cY fs
end
mutual
def Fm.preds : Fm → List (Bs × Nat)
 | .mk op n ts fs=>(if op = 1 then [(n,ts.length)] else []) ++ cD fs
def cD : List Fm → List (Bs × Nat)
 | []=>[]
 | f :: fs=>f.preds ++ cD fs
end
def Fm.hasSy (s : Sy) (f : Fm) : Bool :=
 if s.sort = 80 then decide ((s.name,s.ar) ∈ f.preds) else if s.sort = 97 then decide ((s.name,s.ar) ∈ f.funs) else decide (s.name ∈ f.free [])
mutual
def Tm.ren (s : Sy) (tz : Bs) : Tm → Tm
 | .mk v n ts=>.mk v (if (if v then (⟨117,n,0⟩ : Sy) else ⟨97,n,ts.length⟩) = s then tz else n) (cQ s tz ts)
def cQ (s : Sy) (tz : Bs) : List Tm → List Tm
 | []=>[]
 | t :: ts=>t.ren s tz :: cQ s tz ts
end
mutual
def Fm.ren (s : Sy) (tz : Bs) : Fm → Fm
 | .mk op n ts fs =>
  if op = 1 ∧ s = ⟨80,n,ts.length⟩ then .mk op tz (cQ s tz ts) (bN s tz fs)
  else if bV op = true ∧ s = ⟨117,n,0⟩ then .mk op n ts fs
  else .mk op n (cQ s tz ts) (bN s tz fs)
def bN (s : Sy) (tz : Bs) : List Fm → List Fm
 | []=>[]
 | f :: fs=>f.ren s tz :: bN s tz fs
end
/- What awake asks. -/
def aP : Fm:=.mk 1 [80] [] []
def aQ : Fm:=.mk 1 [81] [] []
def aR : Fm:=.mk 1 [82] [] []
theorem xC {n : Nat} (h : n < 10) : itoa (n : Int) = [UInt8.ofNat (48 + n)]:=by rw [jN,Go.Lib.decDigits_one h]
theorem yB : itoa 0 = [48]:=xC (n:=0) (by decide)
theorem yC : itoa 1 = [49]:=xC (n:=1) (by decide)
theorem yD : itoa 2 = [50]:=xC (n:=2) (by decide)
theorem aw2 : skOf [] [.mk 4 [] [] [aP,aQ]] = skOf [] [.mk 4 [] [] [aQ,aP]]:=by
 simp [skOf,dP,Fm.sk,Fm.normal,aP,aQ,Fm.norm,bG,bV,aU,Fm.told,bO,aN,eS,Sy.told,Sy.add,Sy.kind,Sy.place,yB,yC,yD]
theorem aw3 : skOf [] [.mk 4 [] [] [aP,aQ]] ≠ skOf [] [.mk 4 [] [] [aP,aP]]:=by
 simp [skOf,dP,Fm.sk,Fm.normal,aP,aQ,Fm.norm,bG,bV,aU,Fm.told,bO,aN,eS,Sy.told,Sy.add,Sy.kind,Sy.place,yB,yC,yD]
theorem aw4 : skOf [.mk 6 [] [] [aP,aQ],aP] [aQ] ≠ skOf [aP,.mk 6 [] [] [aP,aQ]] [aQ]:=by
 simp [skOf,dP,Fm.sk,Fm.normal,aP,aQ,Fm.norm,bG,bV,aU,Fm.told,bO,aN,eS,Sy.told,Sy.add,Sy.kind,Sy.place,yB,yC,yD]
def aS : Fm:=.mk 9 [121] [] [.mk 1 [83] [.mk true [121] [],.mk false [102] [.mk true [122] []]] []]
def aW : Fm:=.mk 9 [120,49] [] [.mk 1 [80,50,49] [.mk true [120,49] [],.mk false [97,49,49] [.mk true [117,49] []]] []]
theorem aw1 : skOf [.mk 6 [] [] [aQ,aR]] [aS] = ([.mk 6 [] [] [.mk 1 [80,48,49] [] [],.mk 1 [80,48,50] [] []]],[aW]):=by
 simp [skOf,dP,Fm.sk,Fm.normal,aQ,aR,aS,aW,Fm.norm,bG,Fm.free,aV,Tm.vars,aO,bV,Tm.swap,aU,arOf,Fm.binds,bK,least,dW,dH,xN,Fm.told,bO,Tm.told,aN,eS,fF,Sy.told,Sy.add,Sy.kind,Sy.place,yB,yC,yD]
end Ly
namespace Go.Proofs.YtppfalbnhnpbnaaGreatDoor
open Go Go.RowKit Ly
set_option maxRecDepth 10000
def renV (s : Sy) (tn : Bs) : Value:=.agg #[str [s.sort],str s.name,.int .i64 s.ar,str tn]
theorem ButE.toBelow {A X : World} (h : ButE (fun _=>False) A X) : Below A.heap.size A X:=⟨h.os,h.tape,h.output,h.size,fun k hk=>h.block k hk (fun e=>e)⟩
theorem rV (s : Sy) (tn : Bs) : ∀ ts : List Tm,(aK (fun (_ : Unit) t=>(Tm.ren s tn t,())) () ts).1 = cQ s tn ts
 | []=>rfl
 | t :: ts=>by simp [aK,cQ,rV s tn ts]
theorem eP (s : Sy) (tn : Bs) : ∀ fs : List Fm,(aK (fun (_ : Unit) f=>(Fm.ren s tn f,())) () fs).1 = bN s tn fs
 | []=>rfl
 | t :: ts=>by simp [aK,bN,eP s tn ts]
def RT (s : Sy) (tn : Bs) (t : Tm) : Prop:=∀ (W : World) (x : Value),dR W t x → t.nodes ≤ 1000 → Calls Tryz.prog 115 #[renV s tn,x] W (RetH (t.ren s tn) W)
theorem mK (s : Sy) (tn : Bs) (ts : List Tm) (ih : ∀ t ∈ ts,RT s tn t) (W : World) (a : Option Addr) (n c : Nat) (hx : bE W ts (.slice a n c)) (hn : aM ts ≤ 1000) :
  Calls Tryz.prog 114 #[.slice a n c,.func (.func 115) #[renV s tn] #[]] W fun e w'=>∃ v,e = .returned v ∧ bE (hide (lo W) w') (cQ s tn ts) v ∧ Below W.heap.size W w':=by
 refine (each115_c (fun _=>False) (renV s tn) (fun (_ : Unit) _=>True) (fun _ t=>(Tm.ren s tn t,())) W ts () a n c hx (by have:=dQ ts;omega) trivial (fun _ _ _ _ _=>trivial) (fun _ _ _ k hk=>absurd hk (fun e=>e)) (fun k hk=>absurd hk (fun e=>e)) (fun j t ht X x hI hX hv=>?_)).mono ?_
 ·have hm:=List.mem_of_getElem? ht
  refine (ih t hm X x hv (by have:=eD hm;omega)).mono ?_
  rintro e w' ⟨v,rfl,h1,h2⟩
  exact ⟨v,rfl,h1,trivial,.of_below h2⟩
 ·rintro e w' ⟨v,rfl,h1,-,h3⟩
  rw [rV] at h1
  exact ⟨v,rfl,h1,h3.toBelow⟩
end Go.Proofs.YtppfalbnhnpbnaaGreatDoor
namespace Go.Proofs.YtppfalbnhnpbnaaGreatDoor
open Go Go.RowKit Ly
set_option maxRecDepth 10000
structure MidN (W : World) (rv : Array Value) (v : Bool) (nm : Bs) (sl : Value) (X : World) : Prop where
 bt : Below W.heap.size W X
 r0 : X.heap[W.heap.size]? = some (.cells rv 107 (0,0))
 r1 : X.heap[W.heap.size + 1]? = some (.cells #[.bool v,str nm,sl] 38 (0,0))
 r2 : X.heap[W.heap.size + 1 + 1]? = some (.cells #[.bool false,str [],.slice none 0 0] 38 (0,0))
section
variable {W : World} {rv : Array Value} {v : Bool} {nm : Bs} {sl : Value} {X Y : World}
theorem MidN.next (h : MidN W rv v nm sl X) (b : Below X.heap.size X Y) : MidN W rv v nm sl Y :=
 ⟨h.bt.trans (b.mono h.bt.size),(b.block _ (Array.getElem?_eq_some_iff.1 h.r0).1).trans h.r0,(b.block _ (Array.getElem?_eq_some_iff.1 h.r1).1).trans h.r1,(b.block _ (Array.getElem?_eq_some_iff.1 h.r2).1).trans h.r2⟩
theorem MidN.set (h : MidN W rv v nm sl X) (o : Nat) (u : Value) (nm' : Bs) (sl' : Value) (e : (#[.bool v,str nm,sl] : Array Value).setIfInBounds o u = #[.bool v,str nm',sl']) : MidN W rv v nm' sl' (X.setCell ⟨W.heap.size + 1,o,none⟩ u) :=
 ⟨h.bt.setCell (by simp) _,(Below.heap_setCell _ _ _ _ (by show W.heap.size ≠ W.heap.size + 1;omega)).trans h.r0,by rw [aC h.r1,e],(Below.heap_setCell _ _ _ _ (by show W.heap.size + 1 + 1 ≠ W.heap.size + 1;omega)).trans h.r2⟩
end
theorem midN_new (W : World) (rv : Array Value) (v : Bool) (nm : Bs) (sl : Value) (o : Obj) : MidN W rv v nm sl ((((W.alloc (.cells rv 107)).alloc (.cells #[.bool v,str nm,sl] 38)).alloc (.cells #[.bool false,str [],.slice none 0 0] 38)).alloc o):=by
 refine ⟨((((Below.refl _ _).alloc (Nat.le_refl _) _).alloc (by simp) _).alloc (by simp;omega) _).alloc (by simp;omega) _, ?_, ?_, ?_⟩
 ·exact aI _ (aI _ (aI _ (heap_alloc_new W _)))
 ·have:=heap_alloc_new (W.alloc (.cells rv 107)) (.cells #[.bool v,str nm,sl] 38)
  rw [World.size_alloc] at this
  exact aI _ (aI _ this)
 ·have:=heap_alloc_new ((W.alloc (.cells rv 107)).alloc (.cells #[.bool v,str nm,sl] 38)) (.cells #[.bool false,str [],.slice none 0 0] 38)
  rw [World.size_alloc,World.size_alloc] at this
  exact aI _ this
set_option maxHeartbeats 4000000 in
theorem rt_step (s : Sy) (tn : Bs) (v : Bool) (nm : Bs) (ts : List Tm) (ih : ∀ t ∈ ts,RT s tn t) : RT s tn (.mk v nm ts):=by
 intro W x hx0 hn
 obtain ⟨a,N,c,rfl,hx⟩ : ∃ a N c,x = .agg #[.bool v,str nm,.slice a N c] ∧ bE W ts (.slice a N c):=hx0
 have hlen:=hx.len
 have nd : (Tm.mk v nm ts).nodes = 1 + aM ts:=by simp [Tm.nodes]
 rw [nd] at hn
 have N0 : N ≤ 1000:=by rw [hlen.1];have:=dQ ts;omega
 obtain ⟨ss,sn,sa⟩:=s
 obtain ⟨LS,hLS⟩ : ∃ LS,cQ ⟨ss,sn,sa⟩ tn ts = LS:=⟨_,rfl⟩
 have EC : Hid (∀ X rv' v' nm' sl',MidN W rv' v' nm' sl' X → W.heap.size + 1 + 1 < X.heap.size → Calls Tryz.prog 114 #[.slice a N c,.func (.func 115) #[.agg #[str [ss],str sn,.int .i64 sa,str tn]] #[]] X fun e w'=>∃ fa fc,e = .returned (.slice fa LS.length fc) ∧ (bE (hide (lo X) w') LS (.slice fa LS.length fc) ∧ W.heap.size + 1 + 1 < X.heap.size) ∧ MidN W rv' v' nm' sl' w'):=fun X rv' v' nm' sl' hM hlx=>by
  rw [← hLS]
  refine (mK ⟨ss,sn,sa⟩ tn ts ih X a N c (hx.keep (aA hM.bt)) (by omega)).mono ?_
  rintro e w' ⟨v3,rfl,h3,b3⟩
  obtain ⟨fa,fc,rfl,-,-,-,-⟩:=At.sl_inv h3
  exact ⟨fa,fc,rfl,⟨h3,hlx⟩,hM.next b3⟩
 have L2:=Lib.hid hlen.1
 have HLS:=Lib.hid hLS
 clear ih hx hlen hn nd hLS
 unfold renV
 go_enter Tryz.func115,Tryz.ntmps115
 cases v
 all_goals
  go_wp2_with (
         go_at_call 114
         refine (EC.out _ _ _ _ _ (midN_new _ _ _ _ _ _) (by simp)).mono ?_
         rintro e w3 ⟨fa,fc,rfl,h3,m3⟩
         have H3:=Lib.hid h3
         have M3:=Lib.hid m3
         have M4:=Lib.hid (m3.set 2 (.slice fa LS.length fc) _ _ rfl)
         obtain ⟨y0,y1,y2,z0,z1,z2⟩:=row95' m3.r1
         clear h3 m3 EC
         obtain ⟨q0,q1,q2,-,-,-⟩:=row95' M4.out.r1
         obtain ⟨s0,s1,s2,x0,x1,x2⟩:=row95' M4.out.r2)
 ·clear y0 y1 y2 z0 z1 z2 q0 q1 q2 s0 s1 s2 x0 x1 x2
  refine bodyPost_ret (gL rfl _ _ (W.heap.size + 1 + 1) _ _ _ (0,0) rfl (aC (o:=2) (u:=.slice fa LS.length fc) (aC (o:=1) (u:=str tn) (aC (o:=0) (u:=.bool false) M4.out.r2)))) rfl ?_
  refine ⟨.agg #[.bool false,str tn,.slice fa LS.length fc],rfl, ?_,((M4.out.bt.setCell (by simp;omega) _).setCell (by simp;omega) _).setCell (by simp;omega) _⟩
  have lN:=L2.out
  have lS:=HLS.out
  rename_i e2 e1 e0
  have te : (Tm.mk false nm ts).ren ⟨ss,sn,sa⟩ tn = .mk false tn LS:=by
   have hy : (⟨97,nm,ts.length⟩ : Sy) = ⟨ss,sn,sa⟩:=by rw [Sy.mk.injEq];exact ⟨e2,e1,by omega⟩
   simp only [Tm.ren,Bool.false_eq_true,if_false,if_true,hy,lS]
  rw [te]
  refine ⟨_,_,_,rfl,H3.out.1.keep (aF fun k h1 h2=>?_)⟩
  have lx:=H3.out.2
  simp only [lo,decide_eq_false_iff_not,Nat.not_lt] at h2 ⊢
  exact ⟨by omega,by rw [Below.heap_setCell _ _ _ _ (by show k ≠ W.heap.size + 1 + 1;omega),Below.heap_setCell _ _ _ _ (by show k ≠ W.heap.size + 1 + 1;omega),Below.heap_setCell _ _ _ _ (by show k ≠ W.heap.size + 1 + 1;omega),Below.heap_setCell _ _ _ _ (by show k ≠ W.heap.size + 1;omega)]⟩
 ·clear y0 y1 y2 z0 z1 z2 q0 q1 q2 s0 s1 s2 x0 x1 x2
  refine bodyPost_ret (gL rfl _ _ (W.heap.size + 1 + 1) _ _ _ (0,0) rfl (aC (o:=2) (u:=.slice fa LS.length fc) (aC (o:=1) (u:=str sn) (aC (o:=0) (u:=.bool false) M4.out.r2)))) rfl ?_
  refine ⟨.agg #[.bool false,str sn,.slice fa LS.length fc],rfl, ?_,((M4.out.bt.setCell (by simp;omega) _).setCell (by simp;omega) _).setCell (by simp;omega) _⟩
  have lN:=L2.out
  have lS:=HLS.out
  rename_i e2 e1 e0
  have te : (Tm.mk false nm ts).ren ⟨ss,sn,sa⟩ tn = .mk false sn LS:=by
   have hy : ¬ (⟨97,nm,ts.length⟩ : Sy) = ⟨ss,sn,sa⟩:=by
    rw [Sy.mk.injEq]
    rintro ⟨q0,q1,q2⟩
    exact e0 (by omega)
   simp only [Tm.ren,Bool.false_eq_true,if_false,if_true,hy,lS]
   rw [e1]
  rw [te]
  refine ⟨_,_,_,rfl,H3.out.1.keep (aF fun k h1 h2=>?_)⟩
  have lx:=H3.out.2
  simp only [lo,decide_eq_false_iff_not,Nat.not_lt] at h2 ⊢
  exact ⟨by omega,by rw [Below.heap_setCell _ _ _ _ (by show k ≠ W.heap.size + 1 + 1;omega),Below.heap_setCell _ _ _ _ (by show k ≠ W.heap.size + 1 + 1;omega),Below.heap_setCell _ _ _ _ (by show k ≠ W.heap.size + 1 + 1;omega),Below.heap_setCell _ _ _ _ (by show k ≠ W.heap.size + 1;omega)]⟩
 ·clear y0 y1 y2 z0 z1 z2 q0 q1 q2 s0 s1 s2 x0 x1 x2
  refine bodyPost_ret (gL rfl _ _ (W.heap.size + 1 + 1) _ _ _ (0,0) rfl (aC (o:=2) (u:=.slice fa LS.length fc) (aC (o:=1) (u:=str nm) (aC (o:=0) (u:=.bool false) M4.out.r2)))) rfl ?_
  refine ⟨.agg #[.bool false,str nm,.slice fa LS.length fc],rfl, ?_,((M4.out.bt.setCell (by simp;omega) _).setCell (by simp;omega) _).setCell (by simp;omega) _⟩
  have lN:=L2.out
  have lS:=HLS.out
  rename_i e2 e0
  have te : (Tm.mk false nm ts).ren ⟨ss,sn,sa⟩ tn = .mk false nm LS:=by
   have hy : ¬ (⟨97,nm,ts.length⟩ : Sy) = ⟨ss,sn,sa⟩:=by
    rw [Sy.mk.injEq]
    rintro ⟨q0,q1,q2⟩
    exact e0 q1
   simp only [Tm.ren,Bool.false_eq_true,if_false,if_true,hy,lS]
  rw [te]
  refine ⟨_,_,_,rfl,H3.out.1.keep (aF fun k h1 h2=>?_)⟩
  have lx:=H3.out.2
  simp only [lo,decide_eq_false_iff_not,Nat.not_lt] at h2 ⊢
  exact ⟨by omega,by rw [Below.heap_setCell _ _ _ _ (by show k ≠ W.heap.size + 1 + 1;omega),Below.heap_setCell _ _ _ _ (by show k ≠ W.heap.size + 1 + 1;omega),Below.heap_setCell _ _ _ _ (by show k ≠ W.heap.size + 1 + 1;omega),Below.heap_setCell _ _ _ _ (by show k ≠ W.heap.size + 1;omega)]⟩
 ·clear y0 y1 y2 z0 z1 z2 q0 q1 q2 s0 s1 s2 x0 x1 x2
  refine bodyPost_ret (gL rfl _ _ (W.heap.size + 1 + 1) _ _ _ (0,0) rfl (aC (o:=2) (u:=.slice fa LS.length fc) (aC (o:=1) (u:=str nm) (aC (o:=0) (u:=.bool false) M4.out.r2)))) rfl ?_
  refine ⟨.agg #[.bool false,str nm,.slice fa LS.length fc],rfl, ?_,((M4.out.bt.setCell (by simp;omega) _).setCell (by simp;omega) _).setCell (by simp;omega) _⟩
  have lN:=L2.out
  have lS:=HLS.out
  rename_i e0
  have te : (Tm.mk false nm ts).ren ⟨ss,sn,sa⟩ tn = .mk false nm LS:=by
   have hy : ¬ (⟨97,nm,ts.length⟩ : Sy) = ⟨ss,sn,sa⟩:=by
    rw [Sy.mk.injEq]
    rintro ⟨q0,q1,q2⟩
    exact e0 q0
   simp only [Tm.ren,Bool.false_eq_true,if_false,if_true,hy,lS]
  rw [te]
  refine ⟨_,_,_,rfl,H3.out.1.keep (aF fun k h1 h2=>?_)⟩
  have lx:=H3.out.2
  simp only [lo,decide_eq_false_iff_not,Nat.not_lt] at h2 ⊢
  exact ⟨by omega,by rw [Below.heap_setCell _ _ _ _ (by show k ≠ W.heap.size + 1 + 1;omega),Below.heap_setCell _ _ _ _ (by show k ≠ W.heap.size + 1 + 1;omega),Below.heap_setCell _ _ _ _ (by show k ≠ W.heap.size + 1 + 1;omega),Below.heap_setCell _ _ _ _ (by show k ≠ W.heap.size + 1;omega)]⟩
 ·clear y0 y1 y2 z0 z1 z2 q0 q1 q2 s0 s1 s2 x0 x1 x2
  refine bodyPost_ret (gL rfl _ _ (W.heap.size + 1 + 1) _ _ _ (0,0) rfl (aC (o:=2) (u:=.slice fa LS.length fc) (aC (o:=1) (u:=str tn) (aC (o:=0) (u:=.bool true) M4.out.r2)))) rfl ?_
  refine ⟨.agg #[.bool true,str tn,.slice fa LS.length fc],rfl, ?_,((M4.out.bt.setCell (by simp;omega) _).setCell (by simp;omega) _).setCell (by simp;omega) _⟩
  have lN:=L2.out
  have lS:=HLS.out
  rename_i e2 e1 e0
  have te : (Tm.mk true nm ts).ren ⟨ss,sn,sa⟩ tn = .mk true tn LS:=by
   have hy : (⟨117,nm,0⟩ : Sy) = ⟨ss,sn,sa⟩:=by rw [Sy.mk.injEq];exact ⟨e2,e1,by omega⟩
   simp only [Tm.ren,Bool.false_eq_true,if_false,if_true,hy,lS]
  rw [te]
  refine ⟨_,_,_,rfl,H3.out.1.keep (aF fun k h1 h2=>?_)⟩
  have lx:=H3.out.2
  simp only [lo,decide_eq_false_iff_not,Nat.not_lt] at h2 ⊢
  exact ⟨by omega,by rw [Below.heap_setCell _ _ _ _ (by show k ≠ W.heap.size + 1 + 1;omega),Below.heap_setCell _ _ _ _ (by show k ≠ W.heap.size + 1 + 1;omega),Below.heap_setCell _ _ _ _ (by show k ≠ W.heap.size + 1 + 1;omega),Below.heap_setCell _ _ _ _ (by show k ≠ W.heap.size + 1;omega)]⟩
 ·clear y0 y1 y2 z0 z1 z2 q0 q1 q2 s0 s1 s2 x0 x1 x2
  refine bodyPost_ret (gL rfl _ _ (W.heap.size + 1 + 1) _ _ _ (0,0) rfl (aC (o:=2) (u:=.slice fa LS.length fc) (aC (o:=1) (u:=str sn) (aC (o:=0) (u:=.bool true) M4.out.r2)))) rfl ?_
  refine ⟨.agg #[.bool true,str sn,.slice fa LS.length fc],rfl, ?_,((M4.out.bt.setCell (by simp;omega) _).setCell (by simp;omega) _).setCell (by simp;omega) _⟩
  have lN:=L2.out
  have lS:=HLS.out
  rename_i e2 e1 e0
  have te : (Tm.mk true nm ts).ren ⟨ss,sn,sa⟩ tn = .mk true sn LS:=by
   have hy : ¬ (⟨117,nm,0⟩ : Sy) = ⟨ss,sn,sa⟩:=by
    rw [Sy.mk.injEq]
    rintro ⟨q0,q1,q2⟩
    exact e0 (by omega)
   simp only [Tm.ren,Bool.false_eq_true,if_false,if_true,hy,lS]
   rw [e1]
  rw [te]
  refine ⟨_,_,_,rfl,H3.out.1.keep (aF fun k h1 h2=>?_)⟩
  have lx:=H3.out.2
  simp only [lo,decide_eq_false_iff_not,Nat.not_lt] at h2 ⊢
  exact ⟨by omega,by rw [Below.heap_setCell _ _ _ _ (by show k ≠ W.heap.size + 1 + 1;omega),Below.heap_setCell _ _ _ _ (by show k ≠ W.heap.size + 1 + 1;omega),Below.heap_setCell _ _ _ _ (by show k ≠ W.heap.size + 1 + 1;omega),Below.heap_setCell _ _ _ _ (by show k ≠ W.heap.size + 1;omega)]⟩
 ·clear y0 y1 y2 z0 z1 z2 q0 q1 q2 s0 s1 s2 x0 x1 x2
  refine bodyPost_ret (gL rfl _ _ (W.heap.size + 1 + 1) _ _ _ (0,0) rfl (aC (o:=2) (u:=.slice fa LS.length fc) (aC (o:=1) (u:=str nm) (aC (o:=0) (u:=.bool true) M4.out.r2)))) rfl ?_
  refine ⟨.agg #[.bool true,str nm,.slice fa LS.length fc],rfl, ?_,((M4.out.bt.setCell (by simp;omega) _).setCell (by simp;omega) _).setCell (by simp;omega) _⟩
  have lN:=L2.out
  have lS:=HLS.out
  rename_i e2 e0
  have te : (Tm.mk true nm ts).ren ⟨ss,sn,sa⟩ tn = .mk true nm LS:=by
   have hy : ¬ (⟨117,nm,0⟩ : Sy) = ⟨ss,sn,sa⟩:=by
    rw [Sy.mk.injEq]
    rintro ⟨q0,q1,q2⟩
    exact e0 q1
   simp only [Tm.ren,Bool.false_eq_true,if_false,if_true,hy,lS]
  rw [te]
  refine ⟨_,_,_,rfl,H3.out.1.keep (aF fun k h1 h2=>?_)⟩
  have lx:=H3.out.2
  simp only [lo,decide_eq_false_iff_not,Nat.not_lt] at h2 ⊢
  exact ⟨by omega,by rw [Below.heap_setCell _ _ _ _ (by show k ≠ W.heap.size + 1 + 1;omega),Below.heap_setCell _ _ _ _ (by show k ≠ W.heap.size + 1 + 1;omega),Below.heap_setCell _ _ _ _ (by show k ≠ W.heap.size + 1 + 1;omega),Below.heap_setCell _ _ _ _ (by show k ≠ W.heap.size + 1;omega)]⟩
 ·clear y0 y1 y2 z0 z1 z2 q0 q1 q2 s0 s1 s2 x0 x1 x2
  refine bodyPost_ret (gL rfl _ _ (W.heap.size + 1 + 1) _ _ _ (0,0) rfl (aC (o:=2) (u:=.slice fa LS.length fc) (aC (o:=1) (u:=str nm) (aC (o:=0) (u:=.bool true) M4.out.r2)))) rfl ?_
  refine ⟨.agg #[.bool true,str nm,.slice fa LS.length fc],rfl, ?_,((M4.out.bt.setCell (by simp;omega) _).setCell (by simp;omega) _).setCell (by simp;omega) _⟩
  have lN:=L2.out
  have lS:=HLS.out
  rename_i e0
  have te : (Tm.mk true nm ts).ren ⟨ss,sn,sa⟩ tn = .mk true nm LS:=by
   have hy : ¬ (⟨117,nm,0⟩ : Sy) = ⟨ss,sn,sa⟩:=by
    rw [Sy.mk.injEq]
    rintro ⟨q0,q1,q2⟩
    exact e0 q0
   simp only [Tm.ren,Bool.false_eq_true,if_false,if_true,hy,lS]
  rw [te]
  refine ⟨_,_,_,rfl,H3.out.1.keep (aF fun k h1 h2=>?_)⟩
  have lx:=H3.out.2
  simp only [lo,decide_eq_false_iff_not,Nat.not_lt] at h2 ⊢
  exact ⟨by omega,by rw [Below.heap_setCell _ _ _ _ (by show k ≠ W.heap.size + 1 + 1;omega),Below.heap_setCell _ _ _ _ (by show k ≠ W.heap.size + 1 + 1;omega),Below.heap_setCell _ _ _ _ (by show k ≠ W.heap.size + 1 + 1;omega),Below.heap_setCell _ _ _ _ (by show k ≠ W.heap.size + 1;omega)]⟩
mutual
theorem vG (s : Sy) (tn : Bs) : ∀ t : Tm,RT s tn t
 | .mk v nm ts=>rt_step s tn v nm ts (yS s tn ts)
theorem yS (s : Sy) (tn : Bs) : ∀ ts : List Tm,∀ t ∈ ts,RT s tn t
 | [],_,h=>by cases h
 | x :: xs,t,h=>by
  rcases List.mem_cons.1 h with e | e
  ·rw [e];exact vG s tn x
  ·exact yS s tn xs t e
end
end Go.Proofs.YtppfalbnhnpbnaaGreatDoor
namespace Go.Proofs.YtppfalbnhnpbnaaGreatDoor
open Go Go.RowKit Ly
set_option maxRecDepth 10000
set_option maxHeartbeats 8000000 in
theorem rE {St : Type} (E : Nat → Prop) (nv : Value) (I : St → World → Prop) (f : St → Fm → Fm × St) (W : World) (ts : List Fm) (s0 : St) (a : Option Addr) (n c : Nat) (hx : aL W ts (.slice a n c)) (hn : ts.length ≤ 100000) (h0 : I s0 W) (hI : kR W.heap.size I)
  (hmap : ∀ s X,I s X → ∀ k,E k → ∃ es c,X.heap[k]? = some (.map es c)) (hE : ∀ k,E k → k < W.heap.size)
  (hf : ∀ j t,ts[j]? = some t → ∀ X x,I (stAt f s0 ts j) X → ButE E W X → bH X t x → Calls Tryz.prog 61 #[nv,x] X fun e w'=>∃ v,e = .returned v ∧ bH (hide (lo X) w') (f (stAt f s0 ts j) t).1 v ∧ I (f (stAt f s0 ts j) t).2 w' ∧ ButE E X w') :
  Calls Tryz.prog 69 #[.slice a n c,.func (.func 61) #[nv] #[]] W fun e w'=>∃ v,e = .returned v ∧ aL (hide (lo W) w') (aK f s0 ts).1 v ∧ I (aK f s0 ts).2 w' ∧ ButE E W w':=by
 have hl:=hx.len
 have L2:=Lib.hid hl.1
 have N0 : n ≤ 100000:=by rw [hl.1];exact hn
 have HX:=Lib.hid hx
 have H0:=Lib.hid h0
 have HI:=Lib.hid hI
 have HK : Hid (∀ X,ButE E W X → bR W X):=fun X hX=>hX.keeps (hmap s0 W h0)
 have HE:=Lib.hid hE
 have HF:=Lib.hid hf
 obtain ⟨i0,hi0,hz0,hs0,hb0⟩:=info_parts dN
 clear hl hx hn h0 hI hmap hE hf
 go_enter Tryz.func69,Tryz.ntmps69
 by_cases hn0 : n = 0
 ·subst hn0
  go_wp2
  have e : ts = []:=List.eq_nil_of_length_eq_zero L2.out.symm
  go_ret
  subst e
  exact ⟨_,rfl,At.sl_nil (by unfold maxLen;omega),H0.out,ButE.refl _ _⟩
 ·go_wp2_with (at_make;refine wpList_make_full _ rfl _ _ 24 rfl W.heap.size 40 i0 (.agg #[.int .u8 0,.string ⟨#[]⟩,.slice none 0 0,.slice none 0 0]) 4 Tryz.underlying24 hi0 hz0 hs0 .i64 .i64 _ _ n rfl rfl (by first | rfl | omega) (by first | rfl | omega) (by rw [hb0];omega) (by unfold maxLen;omega) (Nat.le_refl _) ?_;intro w1 hown1 hgrow1)
  obtain ⟨G,hG⟩ : ∃ G,W.heap.size = G:=⟨_,rfl⟩
  have A0 : Hid (cK G n 4 40 (bJ (aK f s0 (ts.take 0)).1) 0 w1 ∧ I (stAt f s0 ts 0) w1 ∧ ButE E W w1):=by
   have B : ButE E W w1:=⟨hgrow1.os,hgrow1.tape,hgrow1.output,hgrow1.size,fun k hk _=>hgrow1.block k hk (by simp)⟩
   refine ⟨?_,HI.out s0 W w1 H0.out (fun k hk=>hgrow1.block k hk (by simp)),B⟩
   rcases hown1.2 with ⟨e,-⟩ | ⟨g,cap,cur,e,-,h3,h4,h5,h6,h7⟩
   ·cases e
   ·simp only [Value.slice.injEq,Option.some.injEq,Addr.mk.injEq,and_true,true_and] at e
    obtain ⟨e1,rfl⟩:=e
    rw [← hG]
    rw [← e1] at h3
    exact ⟨cur.toList,by simpa using h3,by simpa using h6,by simpa [aK,bJ] using bM.nil _⟩
  rw [hG]
  have HG:=Lib.hid hG
  clear hown1 hgrow1 hn0 hG H0
  go_loopw [16] (fun i wr=>∃ j : Nat,j ≤ n ∧ i = .int .i64 j ∧ Hid (cK G n 4 40 (bJ (aK f s0 (ts.take j)).1) j wr ∧ I (stAt f s0 ts j) wr ∧ ButE E W wr)) (fun i _=>n - (intOf i).toNat)
  case atStart=>exact ⟨0,Nat.zero_le _,rfl,A0.out⟩
  case round =>
   obtain ⟨j,hj,rfl,hs⟩:=hrel
   clear A0
   by_cases hlt : j < n
   ·obtain ⟨T,hT⟩:=aX (l:=ts) (j:=j) (by rw [← L2.out];exact hlt)
    obtain ⟨bb,off,rfl,hc⟩:=HX.out.get (aZ hT)
    obtain ⟨x0,x1,x2,x3,x4,x5,hx⟩:=hc j _ hT
    have hK:=HK.out _ hs.out.2.2
    have c0:=hK _ _ hx.c0;have c1:=hK _ _ hx.c1;have c2:=hK _ _ hx.c2;have c3:=hK _ _ hx.c3
    have HT:=Lib.hid hT
    have IC : Hid (∀ o,Calls Tryz.prog 61 #[nv,.agg #[.int .u8 T.op,str T.name,.slice x0 x1 x2,.slice x3 x4 x5]] (wr.alloc o) fun e w'=>∃ v,e = .returned v ∧ bH (hide (lo (wr.alloc o)) w') (f (stAt f s0 ts j) T).1 v ∧ I (f (stAt f s0 ts j) T).2 w' ∧ ButE E (wr.alloc o) w'):=fun o =>
     HF.out j T HT.out _ _ (HI.out _ _ _ hs.out.2.1 (fun k hk=>((Below.refl _ wr).alloc (Nat.le_refl _) o).block k (by have:=hs.out.2.2.size;omega))) (hs.out.2.2.alloc o) ⟨_,_,_,_,_,_,rfl,(hx.at_.keep hK).keep (aA ((Below.refl _ _).alloc (Nat.le_refl _) _)),(hx.at'.keep hK).keep (aA ((Below.refl _ _).alloc (Nat.le_refl _) _))⟩
    clear hc hx hT hK
    go_wp2_with (
           go_at_call 61
           refine (IC.out _).mono ?_
           rintro e w3 ⟨v3,rfl,⟨fa,fn,fc,fb,fm,fd,rfl,h3,h4⟩,i3,b3⟩
           have FA:=hs.out.1.keep (W':=w3) (fun k h1 h2=>(b3.block k (by simp;omega) (fun e=>by have:=HE.out k e;have:=HG.out;omega)).trans (((Below.refl _ wr).alloc (Nat.le_refl _) _).block k h2))
           obtain ⟨⟨p0,q0⟩,f0,p1,f1,p2,f2,p3,f3⟩:=FA.cells4 hlt
           obtain ⟨u1,q1⟩:=Classical.axiomOfChoice p1
           obtain ⟨u2,q2⟩ : ∃ u2 : Value → Value → Value,∀ a b,((w3.setCell ⟨G,j * 4,none⟩ a).setCell ⟨G,j * 4 + 1,none⟩ b).cell? ⟨G,j * 4 + 2,none⟩ = some (u2 a b):=⟨fun a b=>(p2 a b).choose,fun a b=>(p2 a b).choose_spec⟩
           obtain ⟨u3,q3⟩ : ∃ u3 : Value → Value → Value → Value,∀ a b c,(((w3.setCell ⟨G,j * 4,none⟩ a).setCell ⟨G,j * 4 + 1,none⟩ b).setCell ⟨G,j * 4 + 2,none⟩ c).cell? ⟨G,j * 4 + 3,none⟩ = some (u3 a b c):=⟨fun a b c=>(p3 a b c).choose,fun a b c=>(p3 a b c).choose_spec⟩
           clear p1 p2 p3
           have H3:=Lib.hid (And.intro FA (And.intro i3 b3))
           have R3:=Lib.hid (And.intro h3 h4)
           clear FA i3 b3 h3 h4)
    go_roundw
    case rel =>
     refine ⟨j + 1,by omega,by go_num, ?_⟩
     obtain ⟨FA,i3,b3⟩:=H3.out
     have e:=gW f s0 HT.out
     have g:=HG.out
     have lg : G < wr.heap.size:=by obtain ⟨cs,h1,-,-⟩:=hs.out.1;exact (Array.getElem?_eq_some_iff.1 h1).1
     have K : ∀ o,bR (hide (lo (wr.alloc o)) w3) (hide (fun k=>decide (k < G + 1)) w3):=fun o=>aF fun k a b=>⟨by simp [lo] at b;simp;omega,rfl⟩
     refine ⟨?_, ?_, ?_⟩
     ·rw [e,gO]
      have:=cK.put4 FA hlt (dS (R3.out.1.keep (K _)) (R3.out.2.keep (K _)))
      simpa [bJ] using this
     ·have : stAt f s0 ts (j + 1) = (f (stAt f s0 ts j) T).2:=by unfold stAt;rw [e];rfl
      rw [this]
      exact HI.out _ w3 _ i3 (fun k hk=>by rw [Below.heap_setCell _ _ _ _ (by show k ≠ G;omega),Below.heap_setCell _ _ _ _ (by show k ≠ G;omega),Below.heap_setCell _ _ _ _ (by show k ≠ G;omega),Below.heap_setCell _ _ _ _ (by show k ≠ G;omega)])
     ·exact (((((hs.out.2.2.alloc _).trans b3).set (by omega) _ _).set (by omega) _ _).set (by omega) _ _).set (by omega) _ _
    case measure=>simp [intOf];omega
   ·have ej : j = n:=by omega
    obtain ⟨FA,i3,b3⟩:=hs.out
    have et : ts.take j = ts:=List.take_of_length_le (by rw [← L2.out];omega)
    rw [et] at FA
    have i4 : I (aK f s0 ts).2 wr:=by have:=i3;unfold stAt at this;rwa [et] at this
    have FE : Hid (aL (hide (lo W) wr) (aK f s0 ts).1 (.slice (some ⟨G,0,none⟩) n n) ∧ I (aK f s0 ts).2 wr ∧ ButE E W wr):=by
     refine ⟨?_,i4,b3⟩
     have le : (aK f s0 ts).1.length = n:=by rw [gQ,← L2.out]
     show At _ (.sl 4 (aK f s0 ts).1.length (bJ (aK f s0 ts).1)) _
     rw [le]
     rw [ej] at FA
     have ld : (bJ (aK f s0 ts).1).length = n * 4:=by rw [gP,le]
     exact cK.at FA ld (by unfold maxLen;omega) (by have:=HG.out;omega)
    clear FA i3 b3 i4 et ej hs
    go_wp2_with fail
    go_ret
    exact ⟨_,rfl,FE.out⟩
end Go.Proofs.YtppfalbnhnpbnaaGreatDoor
