/- Plain law: formulas of the same shape have the same skeleton, second part. Nothing of the program is imported. -/
import Derived.Test.YtppfalbnhnpbnaaGreatDoorSkHX
import Derived.Test.YtppfalbnhnpbnaaGreatDoorEaEX
set_option linter.unusedSimpArgs false
set_option linter.unusedVariables false
namespace Ly
open Go.Lib (itoa decDigits)
structure Ren (r : Sy → Sy) : Prop where
 inj : ∀ s t,r s = r t → s = t
 sort : ∀ s,(r s).sort = s.sort
 ar : ∀ s,(r s).ar = s.ar
theorem Ren.kind {r : Sy → Sy} (h : Ren r) (s : Sy) : (r s).kind = s.kind:=by unfold Sy.kind;rw [h.sort,h.ar]
theorem Ren.told {r : Sy → Sy} (h : Ren r) (σ : List Sy) (s : Sy) : Sy.told (σ.map r) (r s) = Sy.told σ s:=by
 unfold Sy.told
 rw [h.kind,uB,uB,xT h.kind s σ fun x _ e=>h.inj _ _ e]
theorem Ren.add {r : Sy → Sy} (h : Ren r) (σ : List Sy) (s : Sy) : Sy.add (σ.map r) (r s) = (Sy.add σ s).map r:=by
 unfold Sy.add
 by_cases hs : s ∈ σ
 ·have hm : r s ∈ σ.map r:=List.mem_map.2 ⟨s,hs,rfl⟩
  rw [if_pos hs,if_pos hm]
 ·have hm : r s ∉ σ.map r:=fun hm=>by
   obtain ⟨t,ht,e⟩:=List.mem_map.1 hm
   exact hs (h.inj _ _ e ▸ ht)
  rw [if_neg hs,if_neg hm];simp
def uP (E : List (Bs × Bs)) (b b' : List Bs) : Prop:=∀ p ∈ E,(p.1 ∈ b ∧ hx p.1) ∧ p.2 ∈ b' ∧ hx p.2
mutual
theorem Tm.told_rel {r : Sy → Sy} (hr : Ren r) {E : List (Bs × Bs)} {b b' : List Bs} (hE : uP E b b') : ∀ (t u : Tm) (σ : List Sy),t.ok = true → u.ok = true → t.rel r E u → (∀ x ∈ t.vars,x ∉ E.map (·.1) → x ∉ b) → (∀ x ∈ u.vars,x ∉ E.map (·.2) → x ∉ b') →
  (t.told b σ).1.rel id E (u.told b' (σ.map r)).1 ∧ (u.told b' (σ.map r)).2 = (t.told b σ).2.map r
 | .mk v n ts,.mk v' n' ts',σ,ht,hu,h,x1,x2=>by
  obtain ⟨rfl,h,hs⟩:=h
  rw [Tm.ok] at ht hu
  cases v with
  | true =>
   simp only [if_true,Bool.and_eq_true,List.isEmpty_iff] at h ht hu
   obtain ⟨rfl,-⟩:=ht
   obtain ⟨rfl,-⟩:=hu
   rcases h with h | ⟨h,he⟩
   ·have hp:=hE _ (tZ h)
    simp only [Tm.told,fF,if_true,hp.1.1,hp.2.1,aN,List.length_nil]
    exact ⟨⟨rfl,.inl h,trivial⟩,by first | rfl | trivial⟩
   ·obtain ⟨p1,p2⟩:=mG h
    have f1:=x1 n (by simp [Tm.vars]) p1
    have f2:=x2 n' (by simp [Tm.vars]) p2
    simp only [Tm.told,fF,if_true,f1,f2,if_false,aN,List.length_nil]
    rw [← he,hr.told,hr.add]
    refine ⟨⟨rfl,.inr ⟨gK (fun hm=>?_) (fun hm=>?_),rfl⟩,trivial⟩,rfl⟩
    ·obtain ⟨p,hp,e⟩:=List.mem_map.1 hm
     exact zN σ n (e ▸ (hE p hp).1.2)
    ·obtain ⟨p,hp,e⟩:=List.mem_map.1 hm
     exact zN σ n (e ▸ (hE p hp).2.2)
  | false =>
   simp only [Bool.false_eq_true,if_false,Bool.and_eq_true] at h ht hu
   have hl : ts'.length = ts.length:=by have:=hr.ar ⟨97,n,ts.length⟩;rw [h] at this;exact this
   obtain ⟨i1,i2⟩:=jH hr hE ts ts' (Sy.add σ ⟨97,n,ts.length⟩) ht.2 hu.2 hs (fun x hx'=>x1 x (by simp [Tm.vars,hx'])) (fun x hx'=>x2 x (by simp [Tm.vars,hx']))
   simp only [Tm.told,fF,Bool.false_eq_true,if_false]
   rw [← h,hr.told,hr.add]
   refine ⟨⟨rfl, ?_,i1⟩,i2⟩
   simp only [Bool.false_eq_true,if_false,eE,id,hl]
theorem jH {r : Sy → Sy} (hr : Ren r) {E : List (Bs × Bs)} {b b' : List Bs} (hE : uP E b b') : ∀ (l k : List Tm) (σ : List Sy),bX l = true → bX k = true → iO r E l k → (∀ x ∈ aO l,x ∉ E.map (·.1) → x ∉ b) → (∀ x ∈ aO k,x ∉ E.map (·.2) → x ∉ b') →
  iO id E (aN b σ l).1 (aN b' (σ.map r) k).1 ∧ (aN b' (σ.map r) k).2 = (aN b σ l).2.map r
 | [],[],σ,_,_,_,_,_=>⟨trivial,rfl⟩
 | t :: ts,u :: us,σ,ht,hu,h,x1,x2=>by
  simp only [bX,Bool.and_eq_true] at ht hu
  obtain ⟨a1,a2⟩:=Tm.told_rel hr hE t u σ ht.1 hu.1 h.1 (fun x hx'=>x1 x (by simp [aO,hx'])) (fun x hx'=>x2 x (by simp [aO,hx']))
  obtain ⟨c1,c2⟩:=jH hr hE ts us (t.told b σ).2 ht.2 hu.2 h.2 (fun x hx'=>x1 x (by simp [aO,hx'])) (fun x hx'=>x2 x (by simp [aO,hx']))
  simp only [aN]
  rw [a2]
  exact ⟨⟨a1,c1⟩,c2⟩
 | [],_ :: _,_,_,_,h,_,_=>by cases h
 | _ :: _,[],_,_,_,h,_,_=>by cases h
end
mutual
theorem Fm.told_rel {r : Sy → Sy} (hr : Ren r) {b b' : List Bs} : ∀ (f g : Fm) (E : List (Bs × Bs)) (σ : List Sy),uP E b b' → f.ok = true → g.ok = true → f.rel r E g → (∀ x ∈ f.free (E.map (·.1)),x ∉ b) → (∀ x ∈ g.free (E.map (·.2)),x ∉ b') → (∀ x ∈ f.binds,x ∈ b ∧ hx x) → (∀ x ∈ g.binds,x ∈ b' ∧ hx x) →
  (f.told b σ).1.rel id E (g.told b' (σ.map r)).1 ∧ (g.told b' (σ.map r)).2 = (f.told b σ).2.map r
 | .mk op n ts fs,.mk op' n' ts' fs',E,σ,hE,hf,hg,h,x1,x2,b1,b2=>by
  obtain ⟨rfl,hn,ht,hs⟩:=h
  simp only [Fm.ok,Bool.and_eq_true,decide_eq_true_eq] at hf hg
  simp only [Fm.free,List.mem_append,List.mem_filter,decide_eq_true_eq] at x1 x2
  have v1 : ∀ x ∈ aO ts,x ∉ E.map (·.1) → x ∉ b:=fun x hx' hn=>x1 x (.inl ⟨hx',hn⟩)
  have v2 : ∀ x ∈ aO ts',x ∉ E.map (·.2) → x ∉ b':=fun x hx' hn=>x2 x (.inl ⟨hx',hn⟩)
  by_cases ho : op = 1
  ·subst ho
   have hq : ¬ bV 1 = true:=by simp [bV]
   rw [if_pos rfl] at hn
   rw [if_neg hq] at hs x1 x2
   have hl : ts'.length = ts.length:=by have:=hr.ar ⟨80,n,ts.length⟩;rw [hn] at this;exact this
   obtain ⟨a1,a2⟩:=jH hr hE ts ts' (Sy.add σ ⟨80,n,ts.length⟩) hf.1.2 hg.1.2 ht v1 v2
   obtain ⟨c1,c2⟩:=iZ hr fs fs' E (aN b (Sy.add σ ⟨80,n,ts.length⟩) ts).2 hE hf.2 hg.2 hs (fun x hx'=>x1 x (.inr hx')) (fun x hx'=>x2 x (.inr hx')) (fun x hx'=>b1 x (by simp [Fm.binds,hx'])) (fun x hx'=>b2 x (by simp [Fm.binds,hx']))
   simp only [Fm.told,eS,if_true]
   rw [← hn,hr.told,hr.add,a2]
   refine ⟨⟨rfl, ?_,a1, ?_⟩,c2⟩
   ·simp only [if_true,eE,id,hl]
   ·rw [if_neg hq];exact c1
  ·rw [if_neg ho] at hn
   obtain ⟨a1,a2⟩:=jH hr hE ts ts' σ hf.1.2 hg.1.2 ht v1 v2
   simp only [Fm.told,eS,if_neg ho]
   rw [a2]
   by_cases hq : bV op = true
   ·rw [if_pos hq] at hs x1 x2
    obtain ⟨c1,c2⟩:=iZ hr fs fs' ((n,n') :: E) (aN b σ ts).2 (fun p hp=>by
     rcases List.mem_cons.1 hp with rfl | hp
     ·exact ⟨b1 _ (by simp [Fm.binds,hq]),b2 _ (by simp [Fm.binds,hq])⟩
     ·exact hE p hp) hf.2 hg.2 hs (fun x hx'=>x1 x (.inr hx')) (fun x hx'=>x2 x (.inr hx')) (fun x hx'=>b1 x (by simp [Fm.binds,hx'])) (fun x hx'=>b2 x (by simp [Fm.binds,hx']))
    refine ⟨⟨rfl, ?_,a1, ?_⟩,c2⟩
    ·rw [if_neg ho,if_pos hq];trivial
    ·rw [if_pos hq];exact c1
   ·rw [if_neg hq] at hs x1 x2 hn
    obtain ⟨c1,c2⟩:=iZ hr fs fs' E (aN b σ ts).2 hE hf.2 hg.2 hs (fun x hx'=>x1 x (.inr hx')) (fun x hx'=>x2 x (.inr hx')) (fun x hx'=>b1 x (by simp [Fm.binds,hx'])) (fun x hx'=>b2 x (by simp [Fm.binds,hx']))
    refine ⟨⟨rfl, ?_,a1, ?_⟩,c2⟩
    ·rw [if_neg ho,if_neg hq];exact hn
    ·rw [if_neg hq];exact c1
theorem iZ {r : Sy → Sy} (hr : Ren r) {b b' : List Bs} : ∀ (l k : List Fm) (E : List (Bs × Bs)) (σ : List Sy),uP E b b' → bU l = true → bU k = true → gH r E l k → (∀ x ∈ aV (E.map (·.1)) l,x ∉ b) → (∀ x ∈ aV (E.map (·.2)) k,x ∉ b') → (∀ x ∈ bK l,x ∈ b ∧ hx x) → (∀ x ∈ bK k,x ∈ b' ∧ hx x) →
  gH id E (bO b σ l).1 (bO b' (σ.map r) k).1 ∧ (bO b' (σ.map r) k).2 = (bO b σ l).2.map r
 | [],[],E,σ,_,_,_,_,_,_,_,_=>⟨trivial,rfl⟩
 | f :: fs,g :: gs,E,σ,hE,hf,hg,h,x1,x2,b1,b2=>by
  simp only [bU,Bool.and_eq_true] at hf hg
  simp only [aV,bK,List.mem_append] at x1 x2 b1 b2
  obtain ⟨a1,a2⟩:=Fm.told_rel hr f g E σ hE hf.1 hg.1 h.1 (fun x hx'=>x1 x (.inl hx')) (fun x hx'=>x2 x (.inl hx')) (fun x hx'=>b1 x (.inl hx')) (fun x hx'=>b2 x (.inl hx'))
  obtain ⟨c1,c2⟩:=iZ hr fs gs E (f.told b σ).2 hE hf.2 hg.2 h.2 (fun x hx'=>x1 x (.inr hx')) (fun x hx'=>x2 x (.inr hx')) (fun x hx'=>b1 x (.inr hx')) (fun x hx'=>b2 x (.inr hx'))
  simp only [bO]
  rw [a2]
  exact ⟨⟨a1,c1⟩,c2⟩
 | [],_ :: _,_,_,_,_,_,h,_,_,_,_=>by cases h
 | _ :: _,[],_,_,_,_,_,h,_,_,_,_=>by cases h
end
/- Equal up to bound names: the same free variables, the same normal form. -/
mutual
theorem Tm.rel_vars {E : List (Bs × Bs)} : ∀ t u : Tm,t.ok = true → u.ok = true → t.rel id E u → ∀ x,(x ∈ t.vars ∧ x ∉ E.map (·.1)) ↔ (x ∈ u.vars ∧ x ∉ E.map (·.2))
 | .mk v n ts,.mk v' n' ts',ht,hu,h,x=>by
  obtain ⟨rfl,h,hs⟩:=h
  rw [Tm.ok] at ht hu
  cases v with
  | true =>
   simp only [if_true,Bool.and_eq_true,List.isEmpty_iff] at h ht hu
   obtain ⟨rfl,-⟩:=ht
   obtain ⟨rfl,-⟩:=hu
   simp only [Tm.vars,if_true,aO,List.append_nil,List.mem_singleton]
   rcases h with h | ⟨h,he⟩
   ·have hp:=tZ h
    constructor
    ·rintro ⟨rfl,hm⟩;exact absurd (List.mem_map.2 ⟨_,hp,rfl⟩) hm
    ·rintro ⟨rfl,hm⟩;exact absurd (List.mem_map.2 ⟨_,hp,rfl⟩) hm
   ·obtain ⟨p1,p2⟩:=mG h
    have e : n = n':=congrArg Sy.name he
    subst e
    constructor
    ·rintro ⟨rfl,-⟩;exact ⟨rfl,p2⟩
    ·rintro ⟨rfl,-⟩;exact ⟨rfl,p1⟩
  | false =>
   simp only [Bool.false_eq_true,if_false,Bool.and_eq_true] at ht hu
   simp only [Tm.vars,Bool.false_eq_true,if_false,List.nil_append]
   exact lT ts ts' ht.2 hu.2 hs x
theorem lT {E : List (Bs × Bs)} : ∀ l k : List Tm,bX l = true → bX k = true → iO id E l k → ∀ x,(x ∈ aO l ∧ x ∉ E.map (·.1)) ↔ (x ∈ aO k ∧ x ∉ E.map (·.2))
 | [],[],_,_,_,x=>by simp [aO]
 | t :: ts,u :: us,ht,hu,h,x=>by
  simp only [bX,Bool.and_eq_true] at ht hu
  have a:=Tm.rel_vars t u ht.1 hu.1 h.1 x
  have c:=lT ts us ht.2 hu.2 h.2 x
  simp only [aO,List.mem_append,or_and_right]
  rw [a,c]
 | [],_ :: _,_,_,h,_=>by cases h
 | _ :: _,[],_,_,h,_=>by cases h
end
mutual
theorem Fm.rel_free : ∀ (f g : Fm) (E : List (Bs × Bs)),f.ok = true → g.ok = true → f.rel id E g → ∀ x,x ∈ f.free (E.map (·.1)) ↔ x ∈ g.free (E.map (·.2))
 | .mk op n ts fs,.mk op' n' ts' fs',E,hf,hg,h,x=>by
  obtain ⟨rfl,hn,ht,hs⟩:=h
  simp only [Fm.ok,Bool.and_eq_true,decide_eq_true_eq] at hf hg
  have a:=lT ts ts' hf.1.2 hg.1.2 ht x
  simp only [Fm.free,List.mem_append,List.mem_filter,decide_eq_true_eq]
  by_cases hq : bV op = true
  ·rw [if_pos hq] at hs
   have c:=kW fs fs' ((n,n') :: E) hf.2 hg.2 hs x
   rw [if_pos hq,if_pos hq,a]
   simp only [List.map_cons] at c
   rw [c]
  ·rw [if_neg hq] at hs
   have c:=kW fs fs' E hf.2 hg.2 hs x
   rw [if_neg hq,if_neg hq,a,c]
theorem kW : ∀ (l k : List Fm) (E : List (Bs × Bs)),bU l = true → bU k = true → gH id E l k → ∀ x,x ∈ aV (E.map (·.1)) l ↔ x ∈ aV (E.map (·.2)) k
 | [],[],E,_,_,_,x=>by simp [aV]
 | f :: fs,g :: gs,E,hf,hg,h,x=>by
  simp only [bU,Bool.and_eq_true] at hf hg
  simp only [aV,List.mem_append]
  rw [Fm.rel_free f g E hf.1 hg.1 h.1 x,kW fs gs E hf.2 hg.2 h.2 x]
 | [],_ :: _,_,_,_,h,_=>by cases h
 | _ :: _,[],_,_,_,h,_=>by cases h
end
mutual
theorem Tm.rel_eq {Q : List Q4} (hQ : ∀ q ∈ Q,q.m = q.m') : ∀ t u : Tm,t.ok = true → u.ok = true → t.rel id (qE Q) u → t.swap (arOf (qF Q)) = u.swap (arOf (qG Q))
 | .mk v n ts,.mk v' n' ts',ht,hu,h=>by
  obtain ⟨rfl,h,hs⟩:=h
  rw [Tm.ok] at ht hu
  cases v with
  | true =>
   simp only [if_true,Bool.and_eq_true,List.isEmpty_iff] at h ht hu
   obtain ⟨rfl,-⟩:=ht
   obtain ⟨rfl,-⟩:=hu
   rcases h with h | ⟨h,he⟩
   ·obtain ⟨q,hq,rfl,rfl,e1,e2⟩:=vF Q n n' h
    simp only [Tm.swap,if_true,e1,e2,hQ q hq]
   ·obtain ⟨p1,p2⟩:=mG h
    rw [(pB Q).1] at p1
    rw [(pB Q).2.1] at p2
    have e : n = n':=congrArg Sy.name he
    subst e
    simp only [Tm.swap,if_true,fM.2 p1,fM.2 p2,aU]
  | false =>
   simp only [Bool.false_eq_true,if_false,Bool.and_eq_true] at h ht hu
   have e : n = n':=congrArg Sy.name h
   subst e
   simp only [Tm.swap,Bool.false_eq_true,if_false]
   rw [pK hQ ts ts' ht.2 hu.2 hs]
theorem pK {Q : List Q4} (hQ : ∀ q ∈ Q,q.m = q.m') : ∀ l k : List Tm,bX l = true → bX k = true → iO id (qE Q) l k → aU (arOf (qF Q)) l = aU (arOf (qG Q)) k
 | [],[],_,_,_=>rfl
 | t :: ts,u :: us,ht,hu,h=>by
  simp only [bX,Bool.and_eq_true] at ht hu
  rw [aU,aU,Tm.rel_eq hQ t u ht.1 hu.1 h.1,pK hQ ts us ht.2 hu.2 h.2]
 | [],_ :: _,_,_,h=>by cases h
 | _ :: _,[],_,_,h=>by cases h
end
theorem q_same {Q : List Q4} (hQ : ∀ q ∈ Q,q.m = q.m') : (qF Q).map (·.2) = (qG Q).map (·.2):=by
 simp only [qF,qG,List.map_map]
 exact List.map_congr_left fun q hq=>hQ q hq
mutual
theorem Fm.rel_eq {fr fr' : List Bs} (hf : ∀ x,x ∈ fr ↔ x ∈ fr') : ∀ (f g : Fm) (Q : List Q4),(∀ q ∈ Q,q.m = q.m') → f.ok = true → g.ok = true → f.rel id (qE Q) g → f.norm fr (qF Q) = g.norm fr' (qG Q)
 | .mk op n ts fs,.mk op' n' ts' fs',Q,hQ,h1,h2,h=>by
  obtain ⟨rfl,hn,ht,hs⟩:=h
  simp only [Fm.ok,Bool.and_eq_true,decide_eq_true_eq] at h1 h2
  have a:=pK hQ ts ts' h1.1.2 h2.1.2 ht
  by_cases hq : bV op = true
  ·rw [if_pos hq] at hs
   have e : least (fr ++ (qF Q).map (·.2)) = least (fr' ++ (qG Q).map (·.2)):=by
    rw [q_same hQ];exact jC fun x=>by simp [hf x]
   have c:=oR hf fs fs' (⟨n,least (fr ++ (qF Q).map (·.2)),n',least (fr' ++ (qG Q).map (·.2))⟩ :: Q) (fun q hq'=>by
    rcases List.mem_cons.1 hq' with rfl | hq'
    ·exact e
    ·exact hQ q hq') h1.2 h2.2 hs
   rw [Fm.norm,if_pos hq,Fm.norm,if_pos hq,a,e]
   have c' : bG fr ((n,least (fr ++ (qF Q).map (·.2))) :: qF Q) fs = bG fr' ((n',least (fr' ++ (qG Q).map (·.2))) :: qG Q) fs':=c
   rw [e] at c'
   rw [c']
  ·rw [if_neg hq] at hs
   have c:=oR hf fs fs' Q hQ h1.2 h2.2 hs
   have e : n = n':=by
    by_cases ho : op = 1
    ·rw [if_pos ho] at hn;exact congrArg Sy.name hn
    ·rw [if_neg ho,if_neg hq] at hn;exact hn
   rw [Fm.norm,if_neg hq,Fm.norm,if_neg hq,a,c,e]
theorem oR {fr fr' : List Bs} (hf : ∀ x,x ∈ fr ↔ x ∈ fr') : ∀ (l k : List Fm) (Q : List Q4),(∀ q ∈ Q,q.m = q.m') → bU l = true → bU k = true → gH id (qE Q) l k → bG fr (qF Q) l = bG fr' (qG Q) k
 | [],[],Q,_,_,_,_=>rfl
 | f :: fs,g :: gs,Q,hQ,h1,h2,h=>by
  simp only [bU,Bool.and_eq_true] at h1 h2
  rw [bG,bG,Fm.rel_eq hf f g Q hQ h1.1 h2.1 h.1,oR hf fs gs Q hQ h1.2 h2.2 h.2]
 | [],_ :: _,_,_,_,_,h=>by cases h
 | _ :: _,[],_,_,_,_,h=>by cases h
end
theorem Fm.sk_rel {r : Sy → Sy} (hr : Ren r) {f g : Fm} {σ : List Sy} (hf : f.right = true) (hg : g.right = true) (h : f.rel r [] g) (hs : σ.length ≤ 900000) : g.sk (σ.map r) = ((f.sk σ).1,(f.sk σ).2.map r):=by
 have f0:=hf
 have g0:=hg
 simp only [Fm.right,Bool.and_eq_true,decide_eq_true_eq] at f0 g0
 have f1:=(Fm.normal_right hf).1
 have g1:=(Fm.normal_right hg).1
 simp only [Fm.right,Bool.and_eq_true,decide_eq_true_eq] at f1 g1
 have n : f.normal.rel r [] g.normal:=Fm.rel_norm (r:=r) (fr:=f.free []) (fr':=g.free []) f g [] f0.1.1 g0.1.1 h (by simp [qN]) (by simp [qN]) (fun q hq=>by cases hq) (fun q hq=>by cases hq) (fun x hx'=>hx') (fun x hx'=>hx')
 have fb : ∀ x ∈ f.normal.binds,hx x ∧ x ∉ f.free []:=Fm.norm_binds [] f
 have gb : ∀ x ∈ g.normal.binds,hx x ∧ x ∉ g.free []:=Fm.norm_binds [] g
 obtain ⟨t1,t2⟩:=Fm.told_rel hr (b:=f.normal.binds) (b':=g.normal.binds) f.normal g.normal [] σ (fun p hp=>by cases hp) f1.1.1 g1.1.1 n
  (fun x hx' hb=>(fb x hb).2 ((Fm.normal_free f0.1.1 x).1 hx')) (fun x hx' hb=>(gb x hb).2 ((Fm.normal_free g0.1.1 x).1 hx')) (fun x hx'=>⟨hx',(fb x hx').1⟩) (fun x hx'=>⟨hx',(gb x hx').1⟩)
 obtain ⟨m1,-,-,-⟩:=Fm.mid_right (σ:=σ) hf hs
 obtain ⟨m2,-,-,-⟩:=Fm.mid_right (σ:=σ.map r) hg (by simpa using hs)
 simp only [Fm.right,Bool.and_eq_true,decide_eq_true_eq] at m1 m2
 have e : (f.normal.told f.normal.binds σ).1.normal = (g.normal.told g.normal.binds (σ.map r)).1.normal :=
  Fm.rel_eq (fun x=>Fm.rel_free _ _ [] m1.1.1 m2.1.1 t1 x) _ _ [] (fun q hq=>by cases hq) m1.1.1 m2.1.1 t1
 unfold Fm.sk
 rw [← e,t2]
theorem oS {r : Sy → Sy} (hr : Ren r) : ∀ (l k : List Fm) (σ : List Sy),(∀ f ∈ l,f.right = true) → (∀ f ∈ k,f.right = true) → gH r [] l k → σ.length + l.length * 400 ≤ 900000 → dP (σ.map r) k = ((dP σ l).1,(dP σ l).2.map r)
 | [],[],σ,_,_,_,_=>rfl
 | f :: fs,g :: gs,σ,hf,hg,h,hs=>by
  simp only [List.length_cons] at hs
  have a:=Fm.sk_rel hr (σ:=σ) (hf f (by simp)) (hg g (by simp)) h.1 (by omega)
  obtain ⟨-,-,-,hl⟩:=Fm.mid_right (σ:=σ) (hf f (by simp)) (by omega)
  have c:=oS hr fs gs (f.sk σ).2 (fun x hx'=>hf x (by simp [hx'])) (fun x hx'=>hg x (by simp [hx'])) h.2 (by omega)
  simp only [dP]
  rw [a]
  simp only []
  rw [c]
 | [],_ :: _,_,_,_,h,_=>by cases h
 | _ :: _,[],_,_,_,h,_=>by cases h
theorem skOf_rel {r : Sy → Sy} (hr : Ren r) {L R L' R' : List Fm} (hL : ∀ f ∈ L,f.right = true) (hR : ∀ f ∈ R,f.right = true) (hL' : ∀ f ∈ L',f.right = true) (hR' : ∀ f ∈ R',f.right = true) (h1 : gH r [] L L') (h2 : gH r [] R R') (h : L.length + R.length ≤ 200) : skOf L' R' = skOf L R:=by
 have a:=oS hr L L' [] hL hL' h1 (by simp;omega)
 have b:=wA L [] hL (by simp;omega)
 have c:=oS hr R R' (dP [] L).2 hR hR' h2 (by simp at b;omega)
 simp only [List.map_nil] at a
 unfold skOf
 rw [a]
 simp only []
 rw [c]
end Ly
namespace Ly
open Go.Lib (itoa decDigits)
def fI (s t : Sy) (x : Sy) : Sy:=if x = s then t else if x = t then s else x
theorem swap_ren {s t : Sy} (h1 : s.sort = t.sort) (h2 : s.ar = t.ar) : Ren (fI s t):=by
 refine ⟨fun x y e=>?_,fun x=>?_,fun x=>?_⟩
 ·unfold fI at e
  by_cases a : x = s <;> by_cases b : y = s <;> by_cases c : x = t <;> by_cases d : y = t <;> simp_all
 ·unfold fI
  split
  ·rename_i e;rw [e];exact h1.symm
  ·split
   ·rename_i e;rw [e];exact h1
   ·rfl
 ·unfold fI
  split
  ·rename_i e;rw [e];exact h2.symm
  ·split
   ·rename_i e;rw [e];exact h2
   ·rfl
theorem gS {s t x : Sy} (h1 : x ≠ s) (h2 : x ≠ t) : fI s t x = x:=by unfold fI;rw [if_neg h1,if_neg h2]
theorem vH (s t : Sy) : fI s t s = t:=by unfold fI;rw [if_pos rfl]
def iN (D : List Bs) : List (Bs × Bs):=D.map fun n=>(n,n)
theorem pC (D : List Bs) : (iN D).map (·.1) = D:=by simp [iN,Function.comp_def]
theorem pD (D : List Bs) : (iN D).map (·.2) = D:=by simp [iN,Function.comp_def]
theorem sM : ∀ (D : List Bs) (n : Bs),n ∈ D → fS (iN D) n n = some (n,n)
 | d :: D,n,h=>by
  by_cases e : d = n
  ·subst e;simp [fS,iN]
  ·have ih:=sM D n ((List.mem_cons.1 h).resolve_left (Ne.symm e))
   simp only [fS,iN,List.map_cons,List.find?_cons] at ih ⊢
   have : (d == n || d == n) = false:=by simp [e]
   rw [this];exact ih
mutual
theorem Fm.free_not : ∀ (f : Fm) (D : List Bs) (x : Bs),x ∈ D → x ∉ f.free D
 | .mk op n ts fs,D,x,h=>by
  simp only [Fm.free,List.mem_append,List.mem_filter,decide_eq_true_eq,not_or]
  refine ⟨fun hm=>hm.2 h,iU fs _ x ?_⟩
  split
  ·exact List.mem_cons_of_mem _ h
  ·exact h
theorem iU : ∀ (l : List Fm) (D : List Bs) (x : Bs),x ∈ D → x ∉ aV D l
 | [],D,x,_=>by simp [aV]
 | f :: fs,D,x,h=>by
  simp only [aV,List.mem_append,not_or]
  exact ⟨Fm.free_not f D x h,iU fs D x h⟩
end
mutual
theorem Tm.rel_self {s t : Sy} {D : List Bs} : ∀ u : Tm,u.ok = true → (∀ x ∈ u.vars,x ∉ D → (⟨117,x,0⟩ : Sy) ≠ s ∧ (⟨117,x,0⟩ : Sy) ≠ t) → (∀ p ∈ u.funs,(⟨97,p.1,p.2⟩ : Sy) ≠ s ∧ (⟨97,p.1,p.2⟩ : Sy) ≠ t) → u.rel (fI s t) (iN D) u
 | .mk v n ts,h,x1,x2=>by
  rw [Tm.ok] at h
  cases v with
  | true =>
   simp only [if_true,Bool.and_eq_true,List.isEmpty_iff] at h
   obtain ⟨rfl,-⟩:=h
   refine ⟨rfl, ?_,trivial⟩
   rw [if_pos rfl]
   by_cases hn : n ∈ D
   ·exact .inl (sM D n hn)
   ·have:=x1 n (by simp [Tm.vars]) hn
    exact .inr ⟨gK (by rw [pC];exact hn) (by rw [pD];exact hn),gS this.1 this.2⟩
  | false =>
   simp only [Bool.false_eq_true,if_false,Bool.and_eq_true] at h
   have:=x2 (n,ts.length) (by simp [Tm.funs])
   refine ⟨rfl, ?_,lP ts h.2 (fun x hx'=>x1 x (by simp [Tm.vars,hx'])) (fun p hp=>x2 p (by simp [Tm.funs,hp]))⟩
   simp only [Bool.false_eq_true,if_false]
   exact gS this.1 this.2
theorem lP {s t : Sy} {D : List Bs} : ∀ l : List Tm,bX l = true → (∀ x ∈ aO l,x ∉ D → (⟨117,x,0⟩ : Sy) ≠ s ∧ (⟨117,x,0⟩ : Sy) ≠ t) → (∀ p ∈ bQ l,(⟨97,p.1,p.2⟩ : Sy) ≠ s ∧ (⟨97,p.1,p.2⟩ : Sy) ≠ t) → iO (fI s t) (iN D) l l
 | [],_,_,_=>trivial
 | u :: us,h,x1,x2=>by
  simp only [bX,Bool.and_eq_true] at h
  exact ⟨Tm.rel_self u h.1 (fun x hx'=>x1 x (by simp [aO,hx'])) (fun p hp=>x2 p (by simp [bQ,hp])),lP us h.2 (fun x hx'=>x1 x (by simp [aO,hx'])) (fun p hp=>x2 p (by simp [bQ,hp]))⟩
end
mutual
theorem Fm.rel_self {s t : Sy} : ∀ (f : Fm) (D : List Bs),f.ok = true → (∀ x ∈ f.free D,(⟨117,x,0⟩ : Sy) ≠ s ∧ (⟨117,x,0⟩ : Sy) ≠ t) → (∀ p ∈ f.funs,(⟨97,p.1,p.2⟩ : Sy) ≠ s ∧ (⟨97,p.1,p.2⟩ : Sy) ≠ t) → (∀ p ∈ f.preds,(⟨80,p.1,p.2⟩ : Sy) ≠ s ∧ (⟨80,p.1,p.2⟩ : Sy) ≠ t) → f.rel (fI s t) (iN D) f
 | .mk op n ts fs,D,h,x1,x2,x3=>by
  simp only [Fm.ok,Bool.and_eq_true,decide_eq_true_eq] at h
  simp only [Fm.free,List.mem_append,List.mem_filter,decide_eq_true_eq] at x1
  have a:=lP (s:=s) (t:=t) (D:=D) ts h.1.2 (fun x hx' hn=>x1 x (.inl ⟨hx',hn⟩)) (fun p hp=>x2 p (by simp [Fm.funs,hp]))
  have b:=kY (s:=s) (t:=t) fs (if bV op then n :: D else D) h.2 (fun x hx'=>x1 x (.inr hx')) (fun p hp=>x2 p (by simp [Fm.funs,hp])) (fun p hp=>x3 p (by simp [Fm.preds,hp]))
  refine ⟨rfl, ?_,a, ?_⟩
  ·by_cases ho : op = 1
   ·rw [if_pos ho]
    have:=x3 (n,ts.length) (by simp [Fm.preds,ho])
    exact gS this.1 this.2
   ·rw [if_neg ho];split <;> trivial
  ·by_cases hq : bV op = true
   ·rw [if_pos hq] at b ⊢;exact b
   ·rw [if_neg hq] at b ⊢;exact b
theorem kY {s t : Sy} : ∀ (l : List Fm) (D : List Bs),bU l = true → (∀ x ∈ aV D l,(⟨117,x,0⟩ : Sy) ≠ s ∧ (⟨117,x,0⟩ : Sy) ≠ t) → (∀ p ∈ cY l,(⟨97,p.1,p.2⟩ : Sy) ≠ s ∧ (⟨97,p.1,p.2⟩ : Sy) ≠ t) → (∀ p ∈ cD l,(⟨80,p.1,p.2⟩ : Sy) ≠ s ∧ (⟨80,p.1,p.2⟩ : Sy) ≠ t) → gH (fI s t) (iN D) l l
 | [],D,_,_,_,_=>trivial
 | f :: fs,D,h,x1,x2,x3=>by
  simp only [bU,Bool.and_eq_true] at h
  simp only [aV,cY,cD,List.mem_append] at x1 x2 x3
  exact ⟨Fm.rel_self f D h.1 (fun x hx'=>x1 x (.inl hx')) (fun p hp=>x2 p (.inl hp)) (fun p hp=>x3 p (.inl hp)),kY fs D h.2 (fun x hx'=>x1 x (.inr hx')) (fun p hp=>x2 p (.inr hp)) (fun p hp=>x3 p (.inr hp))⟩
end
mutual
theorem Tm.rel_ren {s : Sy} {b : Bs} {D : List Bs} (h0 : s.sort = 117 → s.ar = 0) (hD : s.sort = 117 → s.name ∉ D ∧ b ∉ D) : ∀ u : Tm,u.ok = true → (s.sort = 117 → ∀ x ∈ u.vars,x ∉ D → x ≠ b) → (s.sort = 97 → ∀ p ∈ u.funs,p ≠ (b,s.ar)) → u.rel (fI s ⟨s.sort,b,s.ar⟩) (iN D) (u.ren s b)
 | .mk v n ts,h,x1,x2=>by
  rw [Tm.ok] at h
  cases v with
  | true =>
   simp only [if_true,Bool.and_eq_true,List.isEmpty_iff] at h
   obtain ⟨rfl,-⟩:=h
   rw [Tm.ren]
   refine ⟨rfl, ?_,trivial⟩
   simp only [if_true]
   by_cases e : (⟨117,n,0⟩ : Sy) = s
   ·rw [if_pos e]
    have hs : s.sort = 117:=by rw [← e]
    have hn : s.name = n:=by rw [← e]
    refine .inr ⟨gK (by rw [pC,← hn];exact (hD hs).1) (by rw [pD];exact (hD hs).2), ?_⟩
    rw [e,vH,← e]
   ·rw [if_neg e]
    by_cases hn : n ∈ D
    ·exact .inl (sM D n hn)
    ·refine .inr ⟨gK (by rw [pC];exact hn) (by rw [pD];exact hn),gS e fun e2=>?_⟩
     have hs : s.sort = 117:=(congrArg Sy.sort e2).symm
     exact x1 hs n (by simp [Tm.vars]) hn (congrArg Sy.name e2)
  | false =>
   simp only [Bool.false_eq_true,if_false,Bool.and_eq_true] at h
   have ih:=nJ (s:=s) (b:=b) (D:=D) h0 hD ts h.2 (fun hs x hx'=>x1 hs x (by simp [Tm.vars,hx'])) (fun hs p hp=>x2 hs p (by simp [Tm.funs,hp]))
   rw [Tm.ren]
   refine ⟨rfl, ?_,ih⟩
   simp only [Bool.false_eq_true,if_false]
   have hl : (cQ s b ts).length = ts.length:=eI ts
   rw [hl]
   by_cases e : (⟨97,n,ts.length⟩ : Sy) = s
   ·rw [if_pos e,e,vH,← e]
   ·rw [if_neg e]
    refine gS e fun e2=>?_
    have hs : s.sort = 97:=(congrArg Sy.sort e2).symm
    have:=x2 hs (n,ts.length) (by simp [Tm.funs])
    exact this (Prod.ext (congrArg Sy.name e2) (congrArg Sy.ar e2))
theorem eI {s : Sy} {b : Bs} : ∀ l : List Tm,(cQ s b l).length = l.length
 | []=>rfl
 | u :: us=>by simp [cQ,eI us]
theorem nJ {s : Sy} {b : Bs} {D : List Bs} (h0 : s.sort = 117 → s.ar = 0) (hD : s.sort = 117 → s.name ∉ D ∧ b ∉ D) : ∀ l : List Tm,bX l = true → (s.sort = 117 → ∀ x ∈ aO l,x ∉ D → x ≠ b) → (s.sort = 97 → ∀ p ∈ bQ l,p ≠ (b,s.ar)) → iO (fI s ⟨s.sort,b,s.ar⟩) (iN D) l (cQ s b l)
 | [],_,_,_=>trivial
 | u :: us,h,x1,x2=>by
  simp only [bX,Bool.and_eq_true] at h
  exact ⟨Tm.rel_ren h0 hD u h.1 (fun hs x hx'=>x1 hs x (by simp [aO,hx'])) (fun hs p hp=>x2 hs p (by simp [bQ,hp])),nJ h0 hD us h.2 (fun hs x hx'=>x1 hs x (by simp [aO,hx'])) (fun hs p hp=>x2 hs p (by simp [bQ,hp]))⟩
end
mutual
theorem Fm.rel_ren {s : Sy} {b : Bs} (h0 : s.sort = 117 → s.ar = 0) : ∀ (f : Fm) (D : List Bs),f.ok = true → (s.sort = 117 → s.name ∉ D ∧ b ∉ D) → (s.sort = 117 → ∀ x ∈ f.free D,x ≠ b) → (s.sort = 117 → b ∉ f.binds) → (s.sort = 97 → ∀ p ∈ f.funs,p ≠ (b,s.ar)) → (s.sort = 80 → ∀ p ∈ f.preds,p ≠ (b,s.ar)) → f.rel (fI s ⟨s.sort,b,s.ar⟩) (iN D) (f.ren s b)
 | .mk op n ts fs,D,h,hD,x1,xb,x2,x3=>by
  have h':=h
  simp only [Fm.ok,Bool.and_eq_true,decide_eq_true_eq] at h
  have x1':=x1
  simp only [Fm.free,List.mem_append,List.mem_filter,decide_eq_true_eq] at x1
  have a:=nJ (s:=s) (b:=b) (D:=D) h0 hD ts h.1.2 (fun hs x hx' hn=>x1 hs x (.inl ⟨hx',hn⟩)) (fun hs p hp=>x2 hs p (by simp [Fm.funs,hp]))
  have hl : (cQ s b ts).length = ts.length:=eI ts
  rw [Fm.ren]
  by_cases e1 : op = 1 ∧ s = ⟨80,n,ts.length⟩
  ·rw [if_pos e1]
   obtain ⟨rfl,e⟩:=e1
   have hq : ¬ bV 1 = true:=by simp [bV]
   have c:=iH (s:=s) (b:=b) h0 fs D h.2 hD (fun hs x hx'=>x1 hs x (.inr (by rw [if_neg hq];exact hx'))) (fun hs hm=>xb hs (by simp [Fm.binds,hm])) (fun hs p hp=>x2 hs p (by simp [Fm.funs,hp])) (fun hs p hp=>x3 hs p (by simp [Fm.preds,hp]))
   refine ⟨rfl, ?_,a, ?_⟩
   ·rw [if_pos rfl,hl,← e,vH,e]
   ·rw [if_neg hq];exact c
  ·rw [if_neg e1]
   by_cases e2 : bV op = true ∧ s = ⟨117,n,0⟩
   ·rw [if_pos e2]
    obtain ⟨hq,e⟩:=e2
    have hs : s.sort = 117:=by rw [e]
    have ho : ¬ op = 1:=by rintro rfl;simp [bV] at hq
    have hm:=h.1.1.2
    have ho8 : op = 8 ∨ op = 9:=by simpa [bV] using hq
    rw [if_neg ho,if_pos ho8,Bool.and_eq_true,List.isEmpty_iff] at hm
    obtain ⟨rfl,-⟩:=hm
    have c:=kY (s:=s) (t:=⟨s.sort,b,s.ar⟩) fs (n :: D) h.2 (fun x hx'=>by
     have hb:=x1 hs x (.inr (by rw [if_pos hq];exact hx'))
     refine ⟨fun e3=>?_,fun e3=>hb (congrArg Sy.name e3)⟩
     have : x = n:=by rw [e] at e3;exact congrArg Sy.name e3
     subst this
     exact iU fs (x :: D) x (by simp) hx')
     (fun p hp=>⟨fun e3=>by have:=congrArg Sy.sort e3;rw [hs] at this;exact absurd (show (97 : UInt8) = 117 from this) (by decide),fun e3=>by have:=congrArg Sy.sort e3;exact absurd (show (97 : UInt8) = 117 from this.trans hs) (by decide)⟩)
     (fun p hp=>⟨fun e3=>by have:=congrArg Sy.sort e3;rw [hs] at this;exact absurd (show (80 : UInt8) = 117 from this) (by decide),fun e3=>by have:=congrArg Sy.sort e3;exact absurd (show (80 : UInt8) = 117 from this.trans hs) (by decide)⟩)
    refine ⟨rfl, ?_,trivial, ?_⟩
    ·rw [if_neg ho,if_pos hq];trivial
    ·rw [if_pos hq];exact c
   ·rw [if_neg e2]
    refine ⟨rfl, ?_,a, ?_⟩
    ·by_cases ho : op = 1
     ·rw [if_pos ho,hl]
      refine gS (fun e=>e1 ⟨ho,e.symm⟩) fun e=>?_
      have hs : s.sort = 80:=(congrArg Sy.sort e).symm
      have:=x3 hs (n,ts.length) (by simp [Fm.preds,ho])
      exact this (Prod.ext (congrArg Sy.name e) (congrArg Sy.ar e))
     ·rw [if_neg ho];split <;> trivial
    ·by_cases hq : bV op = true
     ·have c:=iH (s:=s) (b:=b) h0 fs (n :: D) h.2 (fun hs=>by
       refine ⟨fun hm=>?_,fun hm=>?_⟩
       ·rcases List.mem_cons.1 hm with e | hm
        ·exact e2 ⟨hq,by cases s;simp only at hs e h0 ⊢;simp [hs,e,h0 hs]⟩
        ·exact (hD hs).1 hm
       ·rcases List.mem_cons.1 hm with e | hm
        ·exact xb hs (by simp [Fm.binds,hq,e])
        ·exact (hD hs).2 hm) (fun hs x hx'=>x1 hs x (.inr (by rw [if_pos hq];exact hx'))) (fun hs hm=>xb hs (by simp [Fm.binds,hm])) (fun hs p hp=>x2 hs p (by simp [Fm.funs,hp])) (fun hs p hp=>x3 hs p (by simp [Fm.preds,hp]))
      rw [if_pos hq];exact c
     ·have c:=iH (s:=s) (b:=b) h0 fs D h.2 hD (fun hs x hx'=>x1 hs x (.inr (by rw [if_neg hq];exact hx'))) (fun hs hm=>xb hs (by simp [Fm.binds,hm])) (fun hs p hp=>x2 hs p (by simp [Fm.funs,hp])) (fun hs p hp=>x3 hs p (by simp [Fm.preds,hp]))
      rw [if_neg hq];exact c
theorem iH {s : Sy} {b : Bs} (h0 : s.sort = 117 → s.ar = 0) : ∀ (l : List Fm) (D : List Bs),bU l = true → (s.sort = 117 → s.name ∉ D ∧ b ∉ D) → (s.sort = 117 → ∀ x ∈ aV D l,x ≠ b) → (s.sort = 117 → b ∉ bK l) → (s.sort = 97 → ∀ p ∈ cY l,p ≠ (b,s.ar)) → (s.sort = 80 → ∀ p ∈ cD l,p ≠ (b,s.ar)) → gH (fI s ⟨s.sort,b,s.ar⟩) (iN D) l (bN s b l)
 | [],D,_,_,_,_,_,_=>trivial
 | f :: fs,D,h,hD,x1,xb,x2,x3=>by
  simp only [bU,Bool.and_eq_true] at h
  simp only [aV,bK,cY,cD,List.mem_append] at x1 xb x2 x3
  exact ⟨Fm.rel_ren h0 f D h.1 hD (fun hs x hx'=>x1 hs x (.inl hx')) (fun hs hm=>xb hs (.inl hm)) (fun hs p hp=>x2 hs p (.inl hp)) (fun hs p hp=>x3 hs p (.inl hp)),
   iH h0 fs D h.2 hD (fun hs x hx'=>x1 hs x (.inr hx')) (fun hs hm=>xb hs (.inr hm)) (fun hs p hp=>x2 hs p (.inr hp)) (fun hs p hp=>x3 hs p (.inr hp))⟩
end
end Ly
namespace Ly
mutual
theorem Tm.ren_ok {s : Sy} {b : Bs} (h97 : s.sort = 97 → eU b = true) (h117 : s.sort = 117 → bY b = true) : ∀ t : Tm,t.ok = true → (t.ren s b).ok = true
 | .mk v n ts,h=>by
  have ih:=pL h97 h117 ts
  have hl : (cQ s b ts).length = ts.length:=eI ts
  rw [Tm.ok] at h
  rw [Tm.ren,Tm.ok]
  cases v with
  | true =>
   simp only [if_true,Bool.and_eq_true,List.isEmpty_iff] at h ⊢
   obtain ⟨rfl,h⟩:=h
   refine ⟨rfl, ?_⟩
   split
   ·next e=>exact h117 (congrArg Sy.sort e).symm
   ·exact h
  | false =>
   simp only [Bool.false_eq_true,if_false,Bool.and_eq_true,decide_eq_true_eq] at h ⊢
   refine ⟨⟨by rw [hl];exact h.1.1, ?_⟩,ih h.2⟩
   split
   ·next e=>exact h97 (congrArg Sy.sort e).symm
   ·exact h.1.2
theorem pL {s : Sy} {b : Bs} (h97 : s.sort = 97 → eU b = true) (h117 : s.sort = 117 → bY b = true) : ∀ l : List Tm,bX l = true → bX (cQ s b l) = true
 | [],_=>rfl
 | t :: ts,h=>by
  simp only [bX,cQ,Bool.and_eq_true] at h ⊢
  exact ⟨Tm.ren_ok h97 h117 t h.1,pL h97 h117 ts h.2⟩
end
theorem fW (s : Sy) (b : Bs) : ∀ l : List Fm,(bN s b l).length = l.length
 | []=>rfl
 | f :: fs=>by simp [bN,fW s b fs]
theorem tmsRen_nil {s : Sy} {b : Bs} {l : List Tm} (h : l.isEmpty = true) : (cQ s b l).isEmpty = true:=by
 rw [List.isEmpty_iff] at h;subst h;rfl
mutual
theorem Fm.ren_ok {s : Sy} {b : Bs} (h80 : s.sort = 80 → dB b = true) (h97 : s.sort = 97 → eU b = true) (h117 : s.sort = 117 → bY b = true) : ∀ f : Fm,f.ok = true → (f.ren s b).ok = true
 | .mk op n ts fs,h=>by
  have i1:=pL h97 h117 ts
  have i2:=tO h80 h97 h117 fs
  have h':=h
  rw [Fm.ok] at h
  simp only [Bool.and_eq_true] at h
  rw [Fm.ren]
  by_cases e1 : op = 1 ∧ s = ⟨80,n,ts.length⟩
  ·rw [if_pos e1,Fm.ok]
   obtain ⟨rfl,e⟩:=e1
   simp only [Bool.and_eq_true,if_true,fW,eI] at h ⊢
   exact ⟨⟨⟨h.1.1.1,h80 (by rw [e]),h.1.1.2.2⟩,i1 h.1.2⟩,i2 h.2⟩
  ·rw [if_neg e1]
   by_cases e2 : bV op = true ∧ s = ⟨117,n,0⟩
   ·rw [if_pos e2];exact h'
   ·rw [if_neg e2,Fm.ok]
    simp only [Bool.and_eq_true,fW,eI]
    refine ⟨⟨⟨h.1.1.1, ?_⟩,i1 h.1.2⟩,i2 h.2⟩
    have h2:=h.1.1.2
    by_cases ho : op = 1
    ·rw [if_pos ho] at h2 ⊢;exact h2
    ·rw [if_neg ho,Bool.and_eq_true] at h2 ⊢
     exact ⟨tmsRen_nil h2.1,h2.2⟩
theorem tO {s : Sy} {b : Bs} (h80 : s.sort = 80 → dB b = true) (h97 : s.sort = 97 → eU b = true) (h117 : s.sort = 117 → bY b = true) : ∀ l : List Fm,bU l = true → bU (bN s b l) = true
 | [],_=>rfl
 | f :: fs,h=>by
  simp only [bU,bN,Bool.and_eq_true] at h ⊢
  exact ⟨Fm.ren_ok h80 h97 h117 f h.1,tO h80 h97 h117 fs h.2⟩
end
mutual
theorem Tm.ren_nodes (s : Sy) (b : Bs) : ∀ t : Tm,(t.ren s b).nodes = t.nodes ∧ (t.ren s b).depth = t.depth
 | .mk v n ts=>by
  have ih:=kC s b ts
  rw [Tm.ren]
  simp only [Tm.nodes,Tm.depth,ih.1,ih.2]
  exact ⟨trivial,trivial⟩
theorem kC (s : Sy) (b : Bs) : ∀ l : List Tm,aM (cQ s b l) = aM l ∧ cP (cQ s b l) = cP l
 | []=>⟨rfl,rfl⟩
 | t :: ts=>by
  have i1:=Tm.ren_nodes s b t
  have i2:=kC s b ts
  simp only [cQ,aM,cP,i1.1,i1.2,i2.1,i2.2]
  exact ⟨trivial,trivial⟩
end
mutual
theorem Fm.ren_nodes (s : Sy) (b : Bs) : ∀ f : Fm,(f.ren s b).nodes = f.nodes ∧ (f.ren s b).depth = f.depth
 | .mk op n ts fs=>by
  have i1:=kC s b ts
  have i2:=nZ s b fs
  rw [Fm.ren]
  split
  ·simp only [Fm.nodes,Fm.depth,i1.1,i1.2,i2.1,i2.2];exact ⟨trivial,trivial⟩
  ·split
   ·exact ⟨rfl,rfl⟩
   ·simp only [Fm.nodes,Fm.depth,i1.1,i1.2,i2.1,i2.2];exact ⟨trivial,trivial⟩
theorem nZ (s : Sy) (b : Bs) : ∀ l : List Fm,aG (bN s b l) = aG l ∧ cN (bN s b l) = cN l
 | []=>⟨rfl,rfl⟩
 | f :: fs=>by
  have i1:=Fm.ren_nodes s b f
  have i2:=nZ s b fs
  simp only [bN,aG,cN,i1.1,i1.2,i2.1,i2.2]
  exact ⟨trivial,trivial⟩
end
theorem Fm.ren_right {s : Sy} {b : Bs} (h80 : s.sort = 80 → dB b = true) (h97 : s.sort = 97 → eU b = true) (h117 : s.sort = 117 → bY b = true) (f : Fm) (h : f.right = true) : (f.ren s b).right = true:=by
 unfold Fm.right at h ⊢
 simp only [Bool.and_eq_true,decide_eq_true_eq,(Fm.ren_nodes s b f).1,(Fm.ren_nodes s b f).2] at h ⊢
 exact ⟨⟨Fm.ren_ok h80 h97 h117 f h.1.1,h.1.2⟩,h.2⟩
mutual
theorem Tm.ren_back {s : Sy} {b : Bs} : ∀ t : Tm,t.ok = true → (s.sort = 117 → b ∉ t.vars) → (s.sort = 97 → (b,s.ar) ∉ t.funs) → (t.ren s b).ren ⟨s.sort,b,s.ar⟩ s.name = t
 | .mk v n ts,h,x1,x2=>by
  have hl : (cQ s b ts).length = ts.length:=eI ts
  rw [Tm.ok] at h
  cases v with
  | true =>
   simp only [if_true,Bool.and_eq_true,List.isEmpty_iff] at h
   obtain ⟨rfl,-⟩:=h
   simp only [Tm.ren,if_true,cQ,Tm.mk.injEq,and_true,true_and]
   by_cases e : (⟨117,n,0⟩ : Sy) = s
   ·rw [if_pos e,← e,if_pos rfl]
   ·rw [if_neg e]
    split
    ·next e2 =>
     exfalso
     have hs : s.sort = 117:=(congrArg Sy.sort e2).symm
     have hn : n = b:=congrArg Sy.name e2
     exact x1 hs (by simp [Tm.vars,hn])
    ·rfl
  | false =>
   simp only [Bool.false_eq_true,if_false,Bool.and_eq_true] at h
   have ih:=lU (s:=s) (b:=b) ts h.2 (fun hs hm=>x1 hs (by simp [Tm.vars,hm])) (fun hs hm=>x2 hs (by simp [Tm.funs,hm]))
   simp only [Tm.ren,Bool.false_eq_true,if_false,Tm.mk.injEq,true_and,hl,ih,and_true]
   by_cases e : (⟨97,n,ts.length⟩ : Sy) = s
   ·rw [if_pos e,← e,if_pos rfl]
   ·rw [if_neg e]
    split
    ·next e2 =>
     exfalso
     have hs : s.sort = 97:=(congrArg Sy.sort e2).symm
     refine x2 hs ?_
     rw [Tm.funs]
     refine List.mem_append.2 (.inl ?_)
     simp only [Bool.false_eq_true,if_false,List.mem_singleton]
     exact Prod.ext (congrArg Sy.name e2).symm (congrArg Sy.ar e2).symm
    ·rfl
theorem lU {s : Sy} {b : Bs} : ∀ l : List Tm,bX l = true → (s.sort = 117 → b ∉ aO l) → (s.sort = 97 → (b,s.ar) ∉ bQ l) → cQ ⟨s.sort,b,s.ar⟩ s.name (cQ s b l) = l
 | [],_,_,_=>rfl
 | t :: ts,h,x1,x2=>by
  simp only [bX,Bool.and_eq_true] at h
  rw [cQ,cQ,Tm.ren_back t h.1 (fun hs hm=>x1 hs (by simp [aO,hm])) (fun hs hm=>x2 hs (by simp [bQ,hm])),lU ts h.2 (fun hs hm=>x1 hs (by simp [aO,hm])) (fun hs hm=>x2 hs (by simp [bQ,hm]))]
end
mutual
theorem Fm.ren_back {s : Sy} {b : Bs} : ∀ (f : Fm) (D : List Bs),f.ok = true → (s.sort = 117 → b ∉ D ∧ b ∉ f.free D ∧ b ∉ f.binds ∧ s.name ∉ f.binds) → (s.sort = 97 → (b,s.ar) ∉ f.funs) → (s.sort = 80 → (b,s.ar) ∉ f.preds) → (f.ren s b).ren ⟨s.sort,b,s.ar⟩ s.name = f
 | .mk op n ts fs,D,h,x1,x2,x3=>by
  have hl : (cQ s b ts).length = ts.length:=eI ts
  simp only [Fm.ok,Bool.and_eq_true] at h
  have i1:=lU (s:=s) (b:=b) ts h.1.2 (fun hs hm=>(x1 hs).2.1 (by simp [Fm.free,hm,(x1 hs).1])) (fun hs hm=>x2 hs (by simp [Fm.funs,hm]))
  have i2:=kZ (s:=s) (b:=b) fs (if bV op then n :: D else D) h.2 (fun hs=>by
   obtain ⟨a1,a2,a3,a4⟩:=x1 hs
   simp only [Fm.free,Fm.binds,List.mem_append,not_or] at a2 a3 a4
   refine ⟨?_,a2.2,a3.2,a4.2⟩
   by_cases hq : bV op = true
   ·rw [if_pos hq] at a3 ⊢
    simp only [List.mem_singleton] at a3
    simp only [List.mem_cons,not_or]
    exact ⟨a3.1,a1⟩
   ·rw [if_neg hq];exact a1) (fun hs hm=>x2 hs (by simp [Fm.funs,hm])) (fun hs hm=>x3 hs (by simp [Fm.preds,hm]))
  rw [Fm.ren]
  by_cases e1 : op = 1 ∧ s = ⟨80,n,ts.length⟩
  ·rw [if_pos e1]
   obtain ⟨rfl,e⟩:=e1
   have hs : s.sort = 80:=by rw [e]
   have ha : s.ar = ts.length:=by rw [e]
   rw [Fm.ren,if_pos ⟨rfl,by rw [hl,hs,ha]⟩,i1,i2,e]
  ·rw [if_neg e1]
   by_cases e2 : bV op = true ∧ s = ⟨117,n,0⟩
   ·exfalso
    have hs : s.sort = 117:=by rw [e2.2]
    refine (x1 hs).2.2.2 ?_
    rw [Fm.binds,if_pos e2.1,e2.2]
    simp
   ·rw [if_neg e2,Fm.ren]
    rw [if_neg (fun e3=>?_),if_neg (fun e3=>?_),i1,i2]
    ·have hs : s.sort = 117:=congrArg Sy.sort e3.2
     refine (x1 hs).2.2.1 ?_
     have h1 : b = n:=congrArg Sy.name e3.2
     rw [Fm.binds,if_pos e3.1,h1]
     simp
    ·have hs : s.sort = 80:=congrArg Sy.sort e3.2
     refine x3 hs ?_
     have h1 : b = n:=congrArg Sy.name e3.2
     have h2 : s.ar = ts.length:=by have:=congrArg Sy.ar e3.2;rw [hl] at this;exact this
     rw [Fm.preds,if_pos e3.1,h1,h2]
     simp
theorem kZ {s : Sy} {b : Bs} : ∀ (l : List Fm) (D : List Bs),bU l = true → (s.sort = 117 → b ∉ D ∧ b ∉ aV D l ∧ b ∉ bK l ∧ s.name ∉ bK l) → (s.sort = 97 → (b,s.ar) ∉ cY l) → (s.sort = 80 → (b,s.ar) ∉ cD l) → bN ⟨s.sort,b,s.ar⟩ s.name (bN s b l) = l
 | [],_,_,_,_,_=>rfl
 | f :: fs,D,h,x1,x2,x3=>by
  simp only [bU,Bool.and_eq_true] at h
  simp only [aV,bK,cY,cD,List.mem_append,not_or] at x1 x2 x3
  rw [bN,bN,Fm.ren_back f D h.1 (fun hs=>⟨(x1 hs).1,(x1 hs).2.1.1,(x1 hs).2.2.1.1,(x1 hs).2.2.2.1⟩) (fun hs=>(x2 hs).1) (fun hs=>(x3 hs).1),
   kZ fs D h.2 (fun hs=>⟨(x1 hs).1,(x1 hs).2.1.2,(x1 hs).2.2.1.2,(x1 hs).2.2.2.2⟩) (fun hs=>(x2 hs).2) (fun hs=>(x3 hs).2)]
end
end Ly
