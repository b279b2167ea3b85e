/- Plain law: SkeletonRenames: which symbols a renamed formula has; how many operators. Nothing of the program is imported. -/
import Derived.Test.YtppfalbnhnpbnaaGreatDoorSkLX
import Derived.Test.YtppfalbnhnpbnaaGreatDoorSkHX
import Derived.Test.YtppfalbnhnpbnaaGreatDoorMakeX
set_option linter.unusedSimpArgs false
set_option linter.unusedVariables false
namespace Ly
mutual
theorem Fm.ren_binds (s : Sy) (b : Bs) : ∀ f : Fm,(f.ren s b).binds = f.binds
 | .mk op n ts fs=>by
  have ih:=jV s b fs
  rw [Fm.ren]
  split
  ·next e =>
   obtain ⟨rfl,-⟩:=e
   simp [Fm.binds,bV,ih]
  ·split
   ·rfl
   ·simp [Fm.binds,ih]
theorem jV (s : Sy) (b : Bs) : ∀ l : List Fm,bK (bN s b l) = bK l
 | []=>rfl
 | f :: fs=>by simp [bN,bK,Fm.ren_binds s b f,jV s b fs]
end
def rp (s : Sy) (b : Bs) (c : UInt8) (p : Bs × Nat) : Bs × Nat:=if s = ⟨c,p.1,p.2⟩ then (b,p.2) else p
def rv (s : Sy) (b : Bs) (x : Bs) : Bs:=if s = ⟨117,x,0⟩ then b else x
theorem AV {s : Sy} {b : Bs} {c : UInt8} (h : s.sort ≠ c) (l : List (Bs × Nat)) : l.map (rp s b c) = l:=by
 have : ∀ p,rp s b c p = p:=fun p=>if_neg fun e=>h (by rw [e])
 rw [List.map_congr_left fun p _=>this p]
 simp
mutual
theorem Tm.ren_funs (s : Sy) (b : Bs) : ∀ t : Tm,(t.ren s b).funs = t.funs.map (rp s b 97)
 | .mk v n ts=>by
  have ih:=jE s b ts
  have hl : (cQ s b ts).length = ts.length:=eI ts
  rw [Tm.ren,Tm.funs,Tm.funs,List.map_append,ih,hl]
  congr 1
  cases v with
  | true=>rfl
  | false =>
   simp only [Bool.false_eq_true,if_false,List.map_cons,List.map_nil,List.cons.injEq,and_true]
   unfold rp
   by_cases e : s = ⟨97,n,ts.length⟩
   ·rw [if_pos e.symm,if_pos e]
   ·rw [if_neg fun h=>e h.symm,if_neg e]
theorem jE (s : Sy) (b : Bs) : ∀ l : List Tm,bQ (cQ s b l) = (bQ l).map (rp s b 97)
 | []=>rfl
 | t :: ts=>by rw [cQ,bQ,bQ,List.map_append,Tm.ren_funs s b t,jE s b ts]
end
mutual
theorem Tm.ren_vars (s : Sy) (b : Bs) : ∀ t : Tm,(t.ren s b).vars = t.vars.map (rv s b)
 | .mk v n ts=>by
  have ih:=jF s b ts
  rw [Tm.ren,Tm.vars,Tm.vars,List.map_append,ih]
  congr 1
  cases v with
  | false=>rfl
  | true =>
   simp only [if_true,List.map_cons,List.map_nil,List.cons.injEq,and_true]
   unfold rv
   by_cases e : s = ⟨117,n,0⟩
   ·rw [if_pos e.symm,if_pos e]
   ·rw [if_neg fun h=>e h.symm,if_neg e]
theorem jF (s : Sy) (b : Bs) : ∀ l : List Tm,aO (cQ s b l) = (aO l).map (rv s b)
 | []=>rfl
 | t :: ts=>by rw [cQ,aO,aO,List.map_append,Tm.ren_vars s b t,jF s b ts]
end
mutual
theorem Fm.ren_preds (s : Sy) (b : Bs) : ∀ f : Fm,(f.ren s b).preds = f.preds.map (rp s b 80)
 | .mk op n ts fs=>by
  have ih:=hZ s b fs
  have hl : (cQ s b ts).length = ts.length:=eI ts
  rw [Fm.ren]
  by_cases e1 : op = 1 ∧ s = ⟨80,n,ts.length⟩
  ·rw [if_pos e1,Fm.preds,Fm.preds,List.map_append,ih,if_pos e1.1,if_pos e1.1,hl]
   congr 1
   simp [rp,e1.2]
  ·rw [if_neg e1]
   by_cases e2 : bV op = true ∧ s = ⟨117,n,0⟩
   ·rw [if_pos e2,AV (by rw [e2.2];show (117 : UInt8) ≠ 80;decide)]
   ·rw [if_neg e2,Fm.preds,Fm.preds,List.map_append,ih,hl]
    congr 1
    by_cases ho : op = 1
    ·rw [if_pos ho]
     have : ¬ s = ⟨80,n,ts.length⟩:=fun e=>e1 ⟨ho,e⟩
     simp [rp,this]
    ·rw [if_neg ho];rfl
theorem hZ (s : Sy) (b : Bs) : ∀ l : List Fm,cD (bN s b l) = (cD l).map (rp s b 80)
 | []=>rfl
 | f :: fs=>by rw [bN,cD,cD,List.map_append,Fm.ren_preds s b f,hZ s b fs]
end
mutual
theorem Fm.ren_funs (s : Sy) (b : Bs) : ∀ f : Fm,(f.ren s b).funs = f.funs.map (rp s b 97)
 | .mk op n ts fs=>by
  have ih:=iY s b fs
  rw [Fm.ren]
  split
  ·rw [Fm.funs,Fm.funs,List.map_append,ih,jE]
  ·split
   ·next e=>rw [AV (by rw [e.2];show (117 : UInt8) ≠ 97;decide)]
   ·rw [Fm.funs,Fm.funs,List.map_append,ih,jE]
theorem iY (s : Sy) (b : Bs) : ∀ l : List Fm,cY (bN s b l) = (cY l).map (rp s b 97)
 | []=>rfl
 | f :: fs=>by rw [bN,cY,cY,List.map_append,Fm.ren_funs s b f,iY s b fs]
end
theorem filter_rv {s : Sy} {b : Bs} {D : List Bs} (h : s.sort = 117 → s.name ∉ D ∧ b ∉ D) (l : List Bs) : (l.map (rv s b)).filter (fun x=>decide (x ∉ D)) = (l.filter (fun x=>decide (x ∉ D))).map (rv s b):=by
 rw [List.filter_map]
 congr 1
 refine List.filter_congr fun x _=>?_
 simp only [Function.comp_def,decide_eq_decide]
 unfold rv
 split
 ·next e =>
  have hs : s.sort = 117:=by rw [e]
  have hn : s.name = x:=by rw [e]
  have:=h hs
  rw [hn] at this
  exact ⟨fun _=>this.1,fun _=>this.2⟩
 ·exact Iff.rfl
theorem rv_id {s : Sy} {b : Bs} {l : List Bs} (h : s.name ∉ l) : l.map (rv s b) = l:=by
 have : ∀ x ∈ l,rv s b x = x:=fun x hx=>if_neg fun e=>h (by rw [e];exact hx)
 rw [List.map_congr_left this]
 simp
mutual
theorem Fm.ren_free {s : Sy} {b : Bs} (h0 : s.sort = 117 → s.ar = 0) : ∀ (f : Fm) (D : List Bs),f.ok = true → (s.sort = 117 → s.name ∉ D ∧ b ∉ D ∧ b ∉ f.binds) → (f.ren s b).free D = (f.free D).map (rv s b)
 | .mk op n ts fs,D,h,x1=>by
  have h':=h
  simp only [Fm.ok,Bool.and_eq_true] at h
  have hv:=filter_rv (s:=s) (b:=b) (D:=D) (fun hs=>⟨(x1 hs).1,(x1 hs).2.1⟩) (aO ts)
  rw [Fm.ren]
  by_cases e1 : op = 1 ∧ s = ⟨80,n,ts.length⟩
  ·rw [if_pos e1]
   have hq : ¬ bV op = true:=by rw [e1.1];simp [bV]
   have ih:=gB (s:=s) (b:=b) h0 fs D h.2 (fun hs=>by rw [e1.2] at hs;exact absurd (show (80 : UInt8) = 117 from hs) (by decide))
   rw [Fm.free,Fm.free,if_neg hq,if_neg hq,List.map_append,ih,jF,hv]
  ·rw [if_neg e1]
   by_cases e2 : bV op = true ∧ s = ⟨117,n,0⟩
   ·rw [if_pos e2]
    have hs : s.sort = 117:=by rw [e2.2]
    refine (rv_id ?_).symm
    rw [Fm.free,if_pos e2.1,List.mem_append,not_or]
    have hn : s.name = n:=by rw [e2.2]
    refine ⟨fun hm=>?_, ?_⟩
    ·have h2:=h.1.1.2
     have ho : ¬ op = 1:=by rintro rfl;simp [bV] at e2
     rw [if_neg ho,Bool.and_eq_true,List.isEmpty_iff] at h2
     rw [h2.1] at hm
     simp [aO] at hm
    ·rw [hn];exact iU fs (n :: D) n (by simp)
   ·rw [if_neg e2,Fm.free,Fm.free,List.map_append,jF,hv]
    by_cases hq : bV op = true
    ·rw [if_pos hq]
     have ih:=gB (s:=s) (b:=b) h0 fs (n :: D) h.2 (fun hs=>by
      obtain ⟨a1,a2,a3⟩:=x1 hs
      simp only [Fm.binds,List.mem_append,not_or,if_pos hq,List.mem_singleton] at a3
      simp only [List.mem_cons,not_or]
      exact ⟨⟨fun e=>e2 ⟨hq,by cases s;simp only at hs e h0 ⊢;simp [hs,e,h0 hs]⟩,a1⟩,⟨a3.1,a2⟩,a3.2⟩)
     rw [ih]
    ·rw [if_neg hq]
     have ih:=gB (s:=s) (b:=b) h0 fs D h.2 (fun hs=>by
      obtain ⟨a1,a2,a3⟩:=x1 hs
      simp only [Fm.binds,List.mem_append,not_or] at a3
      exact ⟨a1,a2,a3.2⟩)
     rw [ih]
theorem gB {s : Sy} {b : Bs} (h0 : s.sort = 117 → s.ar = 0) : ∀ (l : List Fm) (D : List Bs),bU l = true → (s.sort = 117 → s.name ∉ D ∧ b ∉ D ∧ b ∉ bK l) → aV D (bN s b l) = (aV D l).map (rv s b)
 | [],_,_,_=>rfl
 | f :: fs,D,h,x1=>by
  simp only [bU,Bool.and_eq_true] at h
  simp only [bK,List.mem_append,not_or] at x1
  rw [bN,aV,aV,List.map_append,Fm.ren_free h0 f D h.1 (fun hs=>⟨(x1 hs).1,(x1 hs).2.1,(x1 hs).2.2.1⟩),gB h0 fs D h.2 (fun hs=>⟨(x1 hs).1,(x1 hs).2.1,(x1 hs).2.2.2⟩)]
end
end Ly
namespace Ly
def symL (s : Sy) (l : List Fm) : Prop:=if s.sort = 80 then (s.name,s.ar) ∈ cD l else if s.sort = 97 then (s.name,s.ar) ∈ cY l else s.name ∈ aV [] l
theorem kT (s : Sy) : ∀ l : List Fm,l.any (Fm.hasSy s) = true ↔ symL s l
 | []=>by
  unfold symL
  split
  ·simp [cD]
  ·split <;> simp [cY,aV]
 | f :: l=>by
  have ih:=kT s l
  unfold symL at ih ⊢
  simp only [List.any_cons,Bool.or_eq_true,ih,Fm.hasSy,cD,cY,aV,List.mem_append]
  by_cases h1 : s.sort = 80
  ·simp [h1]
  ·by_cases h2 : s.sort = 97
   ·simp [h1,h2]
   ·simp [h1,h2]
theorem oN (b : Bs) : ∀ l : List Fm,l.any (fun f=>decide (b ∈ f.binds)) = true ↔ b ∈ bK l
 | []=>by simp [bK]
 | f :: l=>by simp only [List.any_cons,Bool.or_eq_true,oN b l,bK,List.mem_append,decide_eq_true_eq]
theorem nA (s : Sy) (b : Bs) (l k : List Fm) : bN s b (l ++ k) = bN s b l ++ bN s b k:=by
 induction l with
 | nil=>rfl
 | cons x l ih=>simp [bN,ih]
theorem fP {l : List Fm} : bU l = true ↔ ∀ f ∈ l,f.ok = true:=by
 induction l with
 | nil=>simp [bU]
 | cons x l ih=>simp [bU,ih]
theorem fmsRen_mem {s : Sy} {b : Bs} {l : List Fm} {g : Fm} (h : g ∈ bN s b l) : ∃ f ∈ l,g = f.ren s b:=by
 induction l with
 | nil=>cases h
 | cons x l ih =>
  rcases List.mem_cons.1 h with rfl | h
  ·exact ⟨x,by simp,rfl⟩
  ·obtain ⟨f,hf,e⟩:=ih h
   exact ⟨f,by simp [hf],e⟩
structure gG (s : Sy) (b : Bs) : Prop where
 kind : s.sort = 80 ∨ s.sort = 97 ∨ s.sort = 117
 ar : s.sort = 117 → s.ar = 0
 p : s.sort = 80 → dB b = true
 f : s.sort = 97 → eU b = true
 v : s.sort = 117 → bY b = true
 ne : b ≠ s.name
structure Away (s : Sy) (b : Bs) (l : List Fm) : Prop where
 sym : ¬ symL ⟨s.sort,b,s.ar⟩ l
 bound : s.sort = 117 → b ∉ bK l
section
variable {s : Sy} {b : Bs} {l : List Fm}
theorem Away.facts (h : Away s b l) (n : gG s b) : (s.sort = 117 → b ∉ aV [] l) ∧ (s.sort = 97 → (b,s.ar) ∉ cY l) ∧ (s.sort = 80 → (b,s.ar) ∉ cD l):=by
 have h1:=h.sym
 unfold symL at h1
 refine ⟨fun e=>?_,fun e=>?_,fun e=>?_⟩
 ·rw [if_neg (by rw [e];decide),if_neg (by rw [e];decide)] at h1;exact h1
 ·rw [if_neg (by rw [e];decide),if_pos e] at h1;exact h1
 ·rw [if_pos e] at h1;exact h1
theorem Away.sub {k : List Fm} (h : Away s b (l ++ k)) (n : gG s b) : Away s b l ∧ Away s b k:=by
 have hp : ∀ x y : List Fm,cD (x ++ y) = cD x ++ cD y:=fun x y=>by induction x with
  | nil=>rfl
  | cons a x ih=>simp [cD,ih]
 have hf : ∀ x y : List Fm,cY (x ++ y) = cY x ++ cY y:=fun x y=>by induction x with
  | nil=>rfl
  | cons a x ih=>simp [cY,ih]
 have hv : ∀ x y : List Fm,aV [] (x ++ y) = aV [] x ++ aV [] y:=fun x y=>by induction x with
  | nil=>rfl
  | cons a x ih=>simp [aV,ih]
 have hb : ∀ x y : List Fm,bK (x ++ y) = bK x ++ bK y:=fun x y=>by induction x with
  | nil=>rfl
  | cons a x ih=>simp [bK,ih]
 obtain ⟨h1,h2⟩:=h
 unfold symL at h1
 simp only [hp,hf,hv,hb,List.mem_append,not_or] at h1 h2
 constructor
 ·refine ⟨?_,fun e=>(h2 e).1⟩
  unfold symL
  split at h1
  ·next e=>rw [if_pos e];simp only [not_or] at h1;exact h1.1
  ·next e =>
   rw [if_neg e]
   split at h1
   ·next e2=>rw [if_pos e2];simp only [not_or] at h1;exact h1.1
   ·next e2=>rw [if_neg e2];simp only [not_or] at h1;exact h1.1
 ·refine ⟨?_,fun e=>(h2 e).2⟩
  unfold symL
  split at h1
  ·next e=>rw [if_pos e];simp only [not_or] at h1;exact h1.2
  ·next e =>
   rw [if_neg e]
   split at h1
   ·next e2=>rw [if_pos e2];simp only [not_or] at h1;exact h1.2
   ·next e2=>rw [if_neg e2];simp only [not_or] at h1;exact h1.2
theorem yM (n : gG s b) (hok : bU l = true) (h : Away s b l) : gH (fI s ⟨s.sort,b,s.ar⟩) [] l (bN s b l):=by
 obtain ⟨a1,a2,a3⟩:=h.facts n
 exact iH n.ar l [] hok (fun _=>⟨by simp,by simp⟩) (fun hs x hx e=>a1 hs (e ▸ hx)) h.bound (fun hs p hp e=>a2 hs (e ▸ hp)) (fun hs p hp e=>a3 hs (e ▸ hp))
theorem ren_right (n : gG s b) (h : ∀ f ∈ l,f.right = true) : ∀ f ∈ bN s b l,f.right = true:=fun g hg=>by
 obtain ⟨f,hf,rfl⟩:=fmsRen_mem hg
 exact Fm.ren_right n.p n.f n.v f (h f hf)
theorem zU {c : UInt8} {k : List (Bs × Nat)} (hb : b ≠ s.name) (hs : s.sort = c) : (s.name,s.ar) ∉ k.map (rp s b c):=fun h=>by
 obtain ⟨p,hp,e⟩:=List.mem_map.1 h
 unfold rp at e
 split at e
 ·exact hb (congrArg Prod.fst e)
 ·next e2=>exact e2 (by rw [e];subst hs;rfl)
theorem zT {c : UInt8} {k : List (Bs × Nat)} (hs : s.sort = c) (h : (s.name,s.ar) ∈ k) : (b,s.ar) ∈ k.map (rp s b c) :=
 List.mem_map.2 ⟨_,h,if_pos (by subst hs;rfl)⟩
theorem rv_old {k : List Bs} (hb : b ≠ s.name) (hs : s = ⟨117,s.name,0⟩) : s.name ∉ k.map (rv s b):=fun h=>by
 obtain ⟨p,hp,e⟩:=List.mem_map.1 h
 unfold rv at e
 split at e
 ·exact hb e
 ·next e2=>exact e2 (by rw [e];exact hs)
theorem rv_new {k : List Bs} (hs : s = ⟨117,s.name,0⟩) (h : s.name ∈ k) : b ∈ k.map (rv s b) :=
 List.mem_map.2 ⟨_,h,if_pos hs⟩
theorem gG.sy (n : gG s b) (h : s.sort = 117) : s = ⟨117,s.name,0⟩:=by
 have:=n.ar h
 cases s
 simp only at h this ⊢
 simp [h,this]
theorem ren_old (n : gG s b) (hok : bU l = true) (h : Away s b l) : ¬ symL s (bN s b l):=by
 unfold symL
 rcases n.kind with e | e | e
 ·rw [if_pos e,hZ];exact zU n.ne e
 ·rw [if_neg (by rw [e];decide),if_pos e,iY];exact zU n.ne e
 ·rw [if_neg (by rw [e];decide),if_neg (by rw [e];decide),gB n.ar l [] hok (fun hs=>⟨by simp,by simp,h.bound hs⟩)]
  exact rv_old n.ne (n.sy e)
theorem ren_new (n : gG s b) (hok : bU l = true) (h : Away s b l) (hs : symL s l) : symL ⟨s.sort,b,s.ar⟩ (bN s b l):=by
 unfold symL at hs ⊢
 rcases n.kind with e | e | e
 ·rw [if_pos e] at hs;rw [if_pos e,hZ];exact zT e hs
 ·rw [if_neg (by rw [e];decide),if_pos e] at hs;rw [if_neg (by rw [e];decide),if_pos e,iY];exact zT e hs
 ·rw [if_neg (by rw [e];decide),if_neg (by rw [e];decide)] at hs
  rw [if_neg (by rw [e];decide),if_neg (by rw [e];decide),gB n.ar l [] hok (fun hs=>⟨by simp,by simp,h.bound hs⟩)]
  exact rv_new (n.sy e) hs
theorem uF (n : gG s b) (hok : bU l = true) (h : Away s b l) (hb : s.sort = 117 → s.name ∉ bK l) : bN ⟨s.sort,b,s.ar⟩ s.name (bN s b l) = l:=by
 obtain ⟨a1,a2,a3⟩:=h.facts n
 exact kZ l [] hok (fun hs=>⟨by simp,a1 hs,h.bound hs,hb hs⟩) a2 a3
end
theorem ren_sk {s : Sy} {b : Bs} {L R : List Fm} (n : gG s b) (hL : ∀ f ∈ L,f.right = true) (hR : ∀ f ∈ R,f.right = true) (hl : L.length + R.length ≤ 200) (h : Away s b (L ++ R)) : skOf (bN s b L) (bN s b R) = skOf L R:=by
 obtain ⟨h1,h2⟩:=h.sub n
 have okL : bU L = true:=fP.2 fun f hf=>by have:=hL f hf;unfold Fm.right at this;simp only [Bool.and_eq_true] at this;exact this.1.1
 have okR : bU R = true:=fP.2 fun f hf=>by have:=hR f hf;unfold Fm.right at this;simp only [Bool.and_eq_true] at this;exact this.1.1
 exact skOf_rel (swap_ren (s:=s) (t:=⟨s.sort,b,s.ar⟩) rfl rfl) hL hR (ren_right n hL) (ren_right n hR) (yM n okL h1) (yM n okR h2) hl
end Ly
namespace Ly
def renP (s : Sy) (b : Bs) (L R : List Fm) : List Fm × List Fm × Int :=
 if ((L ++ R).any (Fm.hasSy ⟨s.sort,b,s.ar⟩) || (decide (s.sort = 117) && (L ++ R).any (fun f=>decide (b ∈ f.binds)))) = true then ([],[],300)
 else if (L ++ R).any (Fm.hasSy s) = true then (bN s b L,bN s b R,0) else ([],[],6)
theorem away_of {s : Sy} {b : Bs} {l : List Fm} (h : ¬ (l.any (Fm.hasSy ⟨s.sort,b,s.ar⟩) || (decide (s.sort = 117) && l.any (fun f=>decide (b ∈ f.binds)))) = true) : Away s b l:=by
 simp only [Bool.or_eq_true,not_or,Bool.and_eq_true,decide_eq_true_eq,not_and] at h
 exact ⟨fun e=>h.1 ((kT _ _).2 e),fun e hm=>h.2 e ((oN b l).2 hm)⟩
theorem iL (s : Sy) (b : Bs) (L R : List Fm) : renP s b L R = ([],[],300) ∨ renP s b L R = ([],[],6) ∨ (renP s b L R = (bN s b L,bN s b R,0) ∧ Away s b (L ++ R) ∧ symL s (L ++ R)):=by
 unfold renP
 split
 ·exact .inl rfl
 ·next h =>
  split
  ·next h2=>exact .inr (.inr ⟨rfl,away_of h,(kT _ _).1 h2⟩)
  ·exact .inr (.inl rfl)
structure Kept (L R L' R' : List Fm) : Prop where
 l : ∀ f ∈ L',f.right = true
 r : ∀ f ∈ R',f.right = true
 ll : L'.length = L.length
 lr : R'.length = R.length
 sk : skOf L' R' = skOf L R
theorem Kept.refl {L R : List Fm} (hL : ∀ f ∈ L,f.right = true) (hR : ∀ f ∈ R,f.right = true) : Kept L R L R:=⟨hL,hR,rfl,rfl,rfl⟩
theorem Kept.ren {s : Sy} {b : Bs} {L R L' R' : List Fm} (h : Kept L R L' R') (n : gG s b) (hl : L.length + R.length ≤ 200) (a : Away s b (L' ++ R')) : Kept L R (bN s b L') (bN s b R') :=
 ⟨ren_right n h.l,ren_right n h.r,by rw [fW,h.ll],by rw [fW,h.lr],by rw [ren_sk n h.l h.r (by rw [h.ll,h.lr];exact hl) a,h.sk]⟩
def nxt (s : Sy) (b : Bs) (c : List Fm × List Fm) : List Fm × List Fm:=if (renP s b c.1 c.2).2.2 = 0 then ((renP s b c.1 c.2).1,(renP s b c.1 c.2).2.1) else c
theorem Kept.nxt {s : Sy} {b : Bs} {L R : List Fm} {c : List Fm × List Fm} (h : Kept L R c.1 c.2) (n : gG s b) (hl : L.length + R.length ≤ 200) : Kept L R (nxt s b c).1 (nxt s b c).2:=by
 unfold Ly.nxt
 rcases iL s b c.1 c.2 with e | e | ⟨e,a,-⟩
 ·rw [e];exact h
 ·rw [e];exact h
 ·rw [e];exact h.ren n hl a
def prs : List (Sy × Bs):=[(⟨80,[80],0⟩,[90]),(⟨80,[81],0⟩,[80]),(⟨80,[82],0⟩,[81]),(⟨80,[80],1⟩,[66,50]),(⟨80,[81],1⟩,[80]),(⟨80,[82],2⟩,[80]),(⟨97,[97],0⟩,[99]),(⟨97,[98],0⟩,[97]),(⟨97,[102],1⟩,[104]),(⟨97,[103],1⟩,[102]),
 (⟨117,[120],0⟩,[119]),(⟨117,[121],0⟩,[118,55]),(⟨117,[122],0⟩,[117,49])]
theorem mH : ∀ p ∈ prs,gG p.1 p.2:=by
 intro p hp
 simp only [prs,List.mem_cons,List.mem_nil_iff,or_false] at hp
 rcases hp with rfl | rfl | rfl | rfl | rfl | rfl | rfl | rfl | rfl | rfl | rfl | rfl | rfl
 all_goals exact ⟨by decide,by decide,by decide,by decide,by decide,by decide⟩
theorem yK : ∀ p ∈ prs,gG ⟨p.1.sort,p.2,p.1.ar⟩ p.1.name:=by
 intro p hp
 simp only [prs,List.mem_cons,List.mem_nil_iff,or_false] at hp
 rcases hp with rfl | rfl | rfl | rfl | rfl | rfl | rfl | rfl | rfl | rfl | rfl | rfl | rfl
 all_goals exact ⟨by decide,by decide,by decide,by decide,by decide,by decide⟩
def rens (bits : Nat) : Nat → List (Sy × Bs) → List Fm × List Fm → List Fm × List Fm
 | _,[],c=>c
 | i,p :: ps,c=>rens bits (i + 1) ps (if bits / 2 ^ i % 2 = 0 then c else nxt p.1 p.2 c)
theorem uG {bits : Nat} {L R : List Fm} (hl : L.length + R.length ≤ 200) : ∀ (ps : List (Sy × Bs)) (i : Nat) (c : List Fm × List Fm),(∀ p ∈ ps,gG p.1 p.2) → Kept L R c.1 c.2 → Kept L R (rens bits i ps c).1 (rens bits i ps c).2
 | [],_,c,_,h=>h
 | p :: ps,i,c,hp,h=>by
  rw [rens]
  refine uG hl ps (i + 1) _ (fun q hq=>hp q (by simp [hq])) ?_
  split
  ·exact h
  ·exact h.nxt (hp p (by simp)) hl
theorem back_law {s : Sy} {b : Bs} {L R : List Fm} (n : gG s b) (hL : ∀ f ∈ L,f.right = true) (hR : ∀ f ∈ R,f.right = true) (h0 : (renP s b L R).2.2 = 0) :
  (renP ⟨s.sort,b,s.ar⟩ s.name (renP s b L R).1 (renP s b L R).2.1 = ([],[],300) ∧ s.sort = 117) ∨ renP ⟨s.sort,b,s.ar⟩ s.name (renP s b L R).1 (renP s b L R).2.1 = (L,R,0):=by
 rcases iL s b L R with e | e | ⟨e,a,hs⟩
 ·rw [e] at h0;cases h0
 ·rw [e] at h0;cases h0
 ·rw [e]
  have ok : bU (L ++ R) = true:=fP.2 fun f hf=>by
   have hr : f.right = true:=by rcases List.mem_append.1 hf with h | h;exact hL f h;exact hR f h
   unfold Fm.right at hr;simp only [Bool.and_eq_true] at hr;exact hr.1.1
  have okL : bU L = true:=fP.2 fun f hf=>fP.1 ok f (by simp [hf])
  have okR : bU R = true:=fP.2 fun f hf=>fP.1 ok f (by simp [hf])
  have o1:=ren_old n ok a
  have o2:=ren_new n ok a hs
  have e1 : ((bN s b L ++ bN s b R).any (Fm.hasSy s)) = false:=by
   rw [Bool.eq_false_iff,← nA];exact fun h=>o1 ((kT _ _).1 h)
  have e2 : ((bN s b L ++ bN s b R).any (Fm.hasSy ⟨s.sort,b,s.ar⟩)) = true:=by
   rw [← nA];exact (kT _ _).2 o2
  unfold renP
  simp only [e1,e2,Bool.false_or,if_true]
  by_cases hb : (decide (s.sort = 117) && (bN s b L ++ bN s b R).any fun f=>decide (s.name ∈ f.binds)) = true
  ·rw [if_pos hb]
   simp only [Bool.and_eq_true,decide_eq_true_eq] at hb
   exact .inl ⟨rfl,hb.1⟩
  ·rw [if_neg hb]
   simp only [Bool.and_eq_true,decide_eq_true_eq,not_and] at hb
   obtain ⟨a1,a2⟩:=a.sub n
   have nb : s.sort = 117 → s.name ∉ bK (L ++ R):=fun h5 hm=>hb h5 (by rw [← nA];exact (oN _ _).2 (by rw [jV];exact hm))
   have ba : ∀ x y : List Fm,bK (x ++ y) = bK x ++ bK y:=fun x y=>by induction x with
    | nil=>rfl
    | cons a x ih=>simp [bK,ih]
   rw [uF n okL a1 fun h5 hm=>nb h5 (by rw [ba];simp [hm]),uF n okR a2 fun h5 hm=>nb h5 (by rw [ba];simp [hm])]
   exact .inr rfl
end Ly
namespace Go.Proofs.YtppfalbnhnpbnaaGreatDoor
open Go Go.RowKit Ly
set_option maxRecDepth 10000
theorem sK (L R : List Fm) (x : Value) (W : World) (hr : cZ W) (hx0 : bT W L R x) (h1 : okSq L R) (s : Sy) (b : Bs) (n : gG s b) (n' : gG ⟨s.sort,b,s.ar⟩ s.name) (la : s.name.length ≤ maxLen) (lb : b.length ≤ maxLen) (ha : kM s.name = [s.sort]) (hb : kM b = [s.sort]) :
  Calls Tryz.prog 29 #[x,.agg #[str s.name,.int .i64 s.ar],.agg #[str b,.int .i64 s.ar]] W (RetR (renP s b L R).1 (renP s b L R).2.1 (renP s b L R).2.2 W):=by
 obtain ⟨c,a,k⟩:=s
 have hk:=n.kind
 simp only at hk la ha hb ⊢
 rcases hk with rfl | rfl | rfl
 ·have:=mJ L R x W hr hx0 h1 a b k (n'.p rfl) (n.p rfl) n.ne
  have e : renS L R a b k = renP ⟨80,a,k⟩ b L R:=by
   unfold renS renP hasB
   simp [Fm.hasSy]
  rwa [e] at this
 ·have:=renamedA_c L R x W hr hx0 h1 a b k la lb ha hb n.ne
  have e : renG 97 L R a b k = renP ⟨97,a,k⟩ b L R:=rfl
  rwa [e] at this
 ·have:=renamedU_c L R x W hr hx0 h1 a b k (n.ar rfl) la lb ha hb n.ne
  have e : renG 117 L R a b k = renP ⟨117,a,k⟩ b L R:=rfl
  rwa [e] at this
theorem uE : ∀ p ∈ prs,(p.1.name.length ≤ 16 ∧ p.2.length ≤ 16) ∧ kM p.1.name = [p.1.sort] ∧ kM p.2 = [p.1.sort]:=by
 intro p hp
 simp only [prs,List.mem_cons,List.mem_nil_iff,or_false] at hp
 rcases hp with rfl | rfl | rfl | rfl | rfl | rfl | rfl | rfl | rfl | rfl | rfl | rfl | rfl
 all_goals exact ⟨⟨by decide,by decide⟩,by decide,by decide⟩
theorem yL (p : Sy × Bs) (hp : p ∈ prs) (L R : List Fm) (x : Value) (W : World) (hr : cZ W) (hx0 : bT W L R x) (h1 : okSq L R) :
  Calls Tryz.prog 29 #[x,.agg #[str p.1.name,.int .i64 p.1.ar],.agg #[str p.2,.int .i64 p.1.ar]] W (RetR (renP p.1 p.2 L R).1 (renP p.1 p.2 L R).2.1 (renP p.1 p.2 L R).2.2 W):=by
 obtain ⟨⟨h2,h3⟩,h4,h5⟩:=uE p hp
 exact sK L R x W hr hx0 h1 p.1 p.2 (mH p hp) (yK p hp) (Nat.le_trans h2 (by unfold maxLen;omega)) (Nat.le_trans h3 (by unfold maxLen;omega)) h4 h5
theorem back13_c (p : Sy × Bs) (hp : p ∈ prs) (L R : List Fm) (x : Value) (W : World) (hr : cZ W) (hx0 : bT W L R x) (h1 : okSq L R) :
  Calls Tryz.prog 29 #[x,.agg #[str p.2,.int .i64 p.1.ar],.agg #[str p.1.name,.int .i64 p.1.ar]] W (RetR (renP ⟨p.1.sort,p.2,p.1.ar⟩ p.1.name L R).1 (renP ⟨p.1.sort,p.2,p.1.ar⟩ p.1.name L R).2.1 (renP ⟨p.1.sort,p.2,p.1.ar⟩ p.1.name L R).2.2 W):=by
 obtain ⟨⟨h2,h3⟩,h4,h5⟩:=uE p hp
 exact sK L R x W hr hx0 h1 ⟨p.1.sort,p.2,p.1.ar⟩ p.1.name (yK p hp) (mH p hp) (Nat.le_trans h3 (by unfold maxLen;omega)) (Nat.le_trans h2 (by unfold maxLen;omega)) h5 h4
end Go.Proofs.YtppfalbnhnpbnaaGreatDoor
namespace Ly
open Go Go.RowKit
mutual
def D.wide : D → Prop
 | .val _=>True
 | .sl _ n ds=>(n = 0 ∨ 3 ≤ ds.length) ∧ gY ds
def gY : List D → Prop
 | []=>True
 | d :: ds=>d.wide ∧ gY ds
end
theorem gY.append : ∀ {a b : List D},gY a → gY b → gY (a ++ b)
 | [],_,_,h=>h
 | _ :: _,_,h,k=>⟨h.1,gY.append h.2 k⟩
theorem pJ : ∀ ts : List Tm,(bW ts).length = ts.length * 3
 | []=>rfl
 | t :: ts=>by simp [bW,Tm.ds_length,pJ ts];omega
theorem mB : ∀ fs : List Fm,(bJ fs).length = fs.length * 4
 | []=>rfl
 | f :: fs=>by simp [bJ,Fm.ds_length,mB fs];omega
mutual
theorem Tm.ds_wide : ∀ t : Tm,gY t.ds
 | .mk v n ts=>⟨trivial,trivial,⟨by rw [pJ];omega,nG ts⟩,trivial⟩
theorem nG : ∀ ts : List Tm,gY (bW ts)
 | []=>trivial
 | t :: ts=>(Tm.ds_wide t).append (nG ts)
end
mutual
theorem Fm.ds_wide : ∀ f : Fm,gY f.ds
 | .mk o n ts fs=>⟨trivial,trivial,⟨by rw [pJ];omega,nG ts⟩,⟨by rw [mB];omega,jS fs⟩,trivial⟩
theorem jS : ∀ fs : List Fm,gY (bJ fs)
 | []=>trivial
 | f :: fs=>(Fm.ds_wide f).append (jS fs)
end
section
variable {W W' : World} {g : Nat}
mutual
theorem At.away (hk : ∀ (a : Addr) v,a.block ≠ g → W.cell? a = some v → W'.cell? a = some v) (h2 : ∀ off,2 ≤ off → W.cell? ⟨g,off,none⟩ = none) : ∀ (d : D) (u : Value),d.wide → At W d u → At W' d u
 | .val v,u,_,h=>h
 | .sl size n ds,u,hw,h=>by
  obtain ⟨a,cap,h1,h2',h3,h4,h5⟩:=h
  refine ⟨a,cap,h1,h2',h3,h4, ?_⟩
  rcases h5 with h5 | ⟨b,off,e,h5⟩
  ·exact .inl h5
  ·rcases hw.1 with h0 | hl
   ·exact .inl h0
   ·have hne : b ≠ g:=by
     rintro rfl
     obtain ⟨u,hu,-⟩:=h5.get 2 ds[2] (List.getElem?_eq_getElem (by omega))
     rw [h2 (off + 2) (by omega)] at hu
     cases hu
    exact .inr ⟨b,off,e,fY.away hk h2 b hne off ds hw.2 h5⟩
theorem fY.away (hk : ∀ (a : Addr) v,a.block ≠ g → W.cell? a = some v → W'.cell? a = some v) (h2 : ∀ off,2 ≤ off → W.cell? ⟨g,off,none⟩ = none) (b : Nat) (hne : b ≠ g) : ∀ (off : Nat) (ds : List D),gY ds → fY W b off ds → fY W' b off ds
 | _,[],_,_=>trivial
 | off,d :: ds,hw,h=>by
  obtain ⟨⟨u,h1,h3⟩,h4⟩:=h
  exact ⟨⟨u,hk _ _ hne h1,At.away hk h2 d u hw.1 h3⟩,fY.away hk h2 b hne (off + 1) ds hw.2 h4⟩
end
theorem aL.away {x y : Value} {t : TypeId} (hg : W.heap[g]? = some (.cells #[x,y] t (0,0))) (hb : ∀ k,k ≠ g → W'.heap[k]? = W.heap[k]?) {fs : List Fm} {v : Value} (h : aL W fs v) : aL W' fs v:=by
 refine At.away (g:=g) (fun a u hne hc=>?_) (fun off ho=>?_) _ _ ⟨?_,jS fs⟩ h
 ·rw [World.cell?_of_block (a:=a) (hb _ hne)];exact hc
 ·simp [World.cell?,hg]
  omega
 ·rw [mB];omega
end
end Ly
