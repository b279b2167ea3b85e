/- describe.readLine at a line of a right proof: lemmas and the steps without premises. Conditions: those of each statement; the program's tables (rows, MaxLen) lie as laid. -/
import Derived.Test.YtcandidgaegghaaGreatDoorBuiltC0Z
import Derived.Test.YtcandidgaegghaaGreatDoorProvedZ
import Derived.Sort.CutIn
import Derived.Test.YtcandidgaegghaaGreatDoorModBZ
import Derived.Test.YtcandidgaegghaaGreatDoorCpZ
import Derived.Test.YtcandidgaegghaaGreatDoorRdCZ
set_option maxRecDepth 10000
set_option linter.unusedSimpArgs false
set_option linter.unusedVariables false
namespace Go.Proofs.YtcandidgaegghaaGreatDoor
open Go Go.RowKit Ly
attribute [local go_sem] Oper.semAt_some
theorem sD (p s : Bs) (h : Lib.hasPrefix s p = false) (w : World) : Calls Tryz.prog 39 #[str s,str p] w fun e w'=>e = .returned (.tuple #[str s,.bool false]) ∧ w' = w:=by
 refine (Tryz.strings_CutPrefix ⟨s.toArray⟩ ⟨p.toArray⟩ w).mono fun e w' ⟨h1,h2⟩=>⟨?_,h2⟩
 rw [h1]
 simp only [h,Lib.trimPrefix,Bool.false_eq_true,if_false]
structure LV (w W : World) : Prop where
 bw : Below w.heap.size w W
 c2 : W.heap[w.heap.size]? = some (.cells #[str [],.int .u8 0,str [],.slice none 0 0,.slice none 0 0,.int .i64 0,.slice none 0 0,.slice none 0 0] 53 (0,0))
 c3 : W.heap[w.heap.size + 1]? = some (.cells #[.int .i64 0] 3 (0,0))
 c4 : W.heap[w.heap.size + 1 + 1]? = some (.cells #[.bool false] 4 (0,0))
theorem LV.below {w A W : World} (h : LV w A) (b : Below A.heap.size A W) : LV w W:=⟨aB h.bw b,kc b h.c2,kc b h.c3,kc b h.c4⟩
theorem iL (w : World) : LV w (((w.alloc (.cells #[str [],.int .u8 0,str [],.slice none 0 0,.slice none 0 0,.int .i64 0,.slice none 0 0,.slice none 0 0] 53)).alloc (.cells #[.int .i64 0] 3)).alloc (.cells #[.bool false] 4)):=by
 refine ⟨(((Below.refl _ w).alloc (Nat.le_refl _) _).alloc (by simp) _).alloc (by simp;omega) _,mS _ (mS _ (heap_alloc_new w _)),mS _ ?_, ?_⟩
 ·have:=heap_alloc_new (w.alloc (.cells #[str [],.int .u8 0,str [],.slice none 0 0,.slice none 0 0,.int .i64 0,.slice none 0 0,.slice none 0 0] 53)) (.cells #[.int .i64 0] 3)
  rwa [World.size_alloc] at this
 ·have:=heap_alloc_new ((w.alloc (.cells #[str [],.int .u8 0,str [],.slice none 0 0,.slice none 0 0,.int .i64 0,.slice none 0 0,.slice none 0 0] 53)).alloc (.cells #[.int .i64 0] 3)) (.cells #[.bool false] 4)
  rwa [World.size_alloc,World.size_alloc] at this
theorem mI (tmps : Array Value) (w : World) (g h k : Nat) (a b c d e f x y n t : Value) (h2 : tmps.getD 2 undef = one g) (h3 : tmps.getD 3 undef = one h) (h4 : tmps.getD 4 undef = one k) (hg : w.heap[g]? = some (.cells #[a,b,c,d,e,f,x,y] 53 (0,0))) (hh : w.heap[h]? = some (.cells #[n] 3 (0,0))) (hk : w.heap[k]? = some (.cells #[t] 4 (0,0))) :
  (results Tryz.f120 tmps).run Tryz.prog w = .ok (.tuple #[.agg #[a,b,c,d,e,f,x,y],n,t]) w:=by
 obtain ⟨fs,h1⟩:=u53
 have e2 : tmps[2]?.getD undef = .pointer (some ⟨g,0,none⟩):=by simpa using h2
 have e3 : tmps[3]?.getD undef = .pointer (some ⟨h,0,none⟩):=by simpa using h3
 have e4 : tmps[4]?.getD undef = .pointer (some ⟨k,0,none⟩):=by simpa using h4
 have c3 : w.cell? ⟨h,0,none⟩ = some n:=(row9 hh).1
 have c4 : w.cell? ⟨k,0,none⟩ = some t:=(row9 hk).1
 have l3 : (loadVar 3 ⟨h,0,none⟩).run Tryz.prog w = .ok n w:=by simp [loadVar,Tryz.isAgg3,go_sem,c3]
 have l4 : (loadVar 4 ⟨k,0,none⟩).run Tryz.prog w = .ok t w:=by simp [loadVar,Tryz.isAgg4,go_sem,c4]
 simp [results,Tryz.results120,e2,e3,e4,asAddr,run_loadVar_row w g 53 53 #[a,b,c,d,e,f,x,y] (0,0) _ hg h1 rfl i53,l3,l4]
def kM (W : World) (g : Nat) (a b c d e f x y n t : Value) : World :=
 (((((((((W.setCell ⟨g,0,none⟩ a).setCell ⟨g,1,none⟩ b).setCell ⟨g,2,none⟩ c).setCell ⟨g,3,none⟩ d).setCell ⟨g,4,none⟩ e).setCell ⟨g,5,none⟩ f).setCell ⟨g,6,none⟩ x).setCell ⟨g,7,none⟩ y).setCell ⟨g + 1,0,none⟩ n).setCell ⟨g + 1 + 1,0,none⟩ t
theorem uA {W : World} {g i : Nat} {a b c d e f x y n t : Value} (h0 : i ≠ g) (h1 : i ≠ g + 1) (h2 : i ≠ g + 1 + 1) : (kM W g a b c d e f x y n t).heap[i]? = W.heap[i]?:=by
 unfold kM
 rw [Below.heap_setCell _ _ _ _ h2,Below.heap_setCell _ _ _ _ h1,Below.heap_setCell _ _ _ _ h0,Below.heap_setCell _ _ _ _ h0,Below.heap_setCell _ _ _ _ h0,Below.heap_setCell _ _ _ _ h0,Below.heap_setCell _ _ _ _ h0,Below.heap_setCell _ _ _ _ h0,Below.heap_setCell _ _ _ _ h0,Below.heap_setCell _ _ _ _ h0]
theorem drew_heap (W : World) : W.drew.heap = W.heap:=rfl
theorem kQ (W : World) (a : Addr) (v : Value) : (W.setCell a v).os = W.os ∧ (W.setCell a v).tape = W.tape ∧ (W.setCell a v).output = W.output:=⟨rfl,rfl,rfl⟩
theorem xO {W : World} {g : Nat} {a b c d e f x y n t : Value} : (kM W g a b c d e f x y n t).os = W.os ∧ (kM W g a b c d e f x y n t).tape = W.tape ∧ (kM W g a b c d e f x y n t).output = W.output:=by
 unfold kM
 simp only [kQ,and_self]
theorem GD {W : World} {g : Nat} {a b c d e f x y z0 z1 z2 z3 z4 z5 z6 z7 : Value} (h : W.heap[g]? = some (.cells #[z0,z1,z2,z3,z4,z5,z6,z7] 53 (0,0))) :
  ((((((((W.setCell ⟨g,0,none⟩ a).setCell ⟨g,1,none⟩ b).setCell ⟨g,2,none⟩ c).setCell ⟨g,3,none⟩ d).setCell ⟨g,4,none⟩ e).setCell ⟨g,5,none⟩ f).setCell ⟨g,6,none⟩ x).setCell ⟨g,7,none⟩ y).heap[g]? = some (.cells #[a,b,c,d,e,f,x,y] 53 (0,0)):=by
 have h0:=aC (o:=0) (u:=a) h
 simp only [List.setIfInBounds_toArray,List.set_cons_zero,List.set_cons_succ] at h0
 have h1:=aC (o:=1) (u:=b) h0
 simp only [List.setIfInBounds_toArray,List.set_cons_zero,List.set_cons_succ] at h1
 have h2:=aC (o:=2) (u:=c) h1
 simp only [List.setIfInBounds_toArray,List.set_cons_zero,List.set_cons_succ] at h2
 have h3:=aC (o:=3) (u:=d) h2
 simp only [List.setIfInBounds_toArray,List.set_cons_zero,List.set_cons_succ] at h3
 have h4:=aC (o:=4) (u:=e) h3
 simp only [List.setIfInBounds_toArray,List.set_cons_zero,List.set_cons_succ] at h4
 have h5:=aC (o:=5) (u:=f) h4
 simp only [List.setIfInBounds_toArray,List.set_cons_zero,List.set_cons_succ] at h5
 have h6:=aC (o:=6) (u:=x) h5
 simp only [List.setIfInBounds_toArray,List.set_cons_zero,List.set_cons_succ] at h6
 have h7:=aC (o:=7) (u:=y) h6
 simp only [List.setIfInBounds_toArray,List.set_cons_zero,List.set_cons_succ] at h7
 exact h7
theorem xP {W : World} {g : Nat} {a b c d e f x y n t : Value} : (kM W g a b c d e f x y n t).heap.size = W.heap.size:=by simp [kM]
theorem vF {W : World} {g : Nat} {a b c d e f x y n t z0 z1 z2 z3 z4 z5 z6 z7 n0 t0 : Value} (c2 : W.heap[g]? = some (.cells #[z0,z1,z2,z3,z4,z5,z6,z7] 53 (0,0))) (c3 : W.heap[g + 1]? = some (.cells #[n0] 3 (0,0))) (c4 : W.heap[g + 1 + 1]? = some (.cells #[t0] 4 (0,0))) :
  (kM W g a b c d e f x y n t).heap[g]? = some (.cells #[a,b,c,d,e,f,x,y] 53 (0,0)) ∧ (kM W g a b c d e f x y n t).heap[g + 1]? = some (.cells #[n] 3 (0,0)) ∧ (kM W g a b c d e f x y n t).heap[g + 1 + 1]? = some (.cells #[t] 4 (0,0)):=by
 unfold kM
 refine ⟨?_, ?_, ?_⟩
 ·rw [Below.heap_setCell _ _ _ _ (by show g ≠ g + 1 + 1;omega),Below.heap_setCell _ _ _ _ (by show g ≠ g + 1;omega)]
  exact GD c2
 ·rw [Below.heap_setCell _ _ _ _ (by show g + 1 ≠ g + 1 + 1;omega)]
  have h : ∀ W : World,W.heap[g + 1]? = some (.cells #[n0] 3 (0,0)) → (W.setCell ⟨g + 1,0,none⟩ n).heap[g + 1]? = some (.cells #[n] 3 (0,0)):=fun W h=>aC h
  refine h _ ?_
  have hn : g + 1 ≠ g:=by omega
  rw [Below.heap_setCell _ _ _ _ hn,Below.heap_setCell _ _ _ _ hn,Below.heap_setCell _ _ _ _ hn,Below.heap_setCell _ _ _ _ hn,Below.heap_setCell _ _ _ _ hn,Below.heap_setCell _ _ _ _ hn,Below.heap_setCell _ _ _ _ hn,Below.heap_setCell _ _ _ _ hn]
  exact c3
 ·have h : ∀ W : World,W.heap[g + 1 + 1]? = some (.cells #[t0] 4 (0,0)) → (W.setCell ⟨g + 1 + 1,0,none⟩ t).heap[g + 1 + 1]? = some (.cells #[t] 4 (0,0)):=fun W h=>aC h
  refine h _ ?_
  have hn : g + 1 + 1 ≠ g:=by omega
  rw [Below.heap_setCell _ _ _ _ (by show g + 1 + 1 ≠ g + 1;omega),Below.heap_setCell _ _ _ _ hn,Below.heap_setCell _ _ _ _ hn,Below.heap_setCell _ _ _ _ hn,Below.heap_setCell _ _ _ _ hn,Below.heap_setCell _ _ _ _ hn,Below.heap_setCell _ _ _ _ hn,Below.heap_setCell _ _ _ _ hn,Below.heap_setCell _ _ _ _ hn]
  exact c4
theorem lV (W : World) : Below W.heap.size W W.drew:=⟨rfl,rfl,rfl,Nat.le_refl _,fun _ _=>rfl⟩
end Go.Proofs.YtcandidgaegghaaGreatDoor
namespace Go
theorem wpListIn_append_own_at {F : Fence} {n : Nat} {P : Program} (w : World) {ops : Array Oper} {rest : List Oper} {o : Oper} {a : Act} {Q : Exit → Act → World → Prop}
  (hg : o.guard = none) (s x : Operand) (t : TypeId) (hop : o.op = Op.call { callee:=Callee.builtin Builtin.append,args:=#[s,x],argTypes:=#[t,t] })
  (base : Nat) (e : TypeId) (i : TypeInfo) (z : Value) (size bytes : Nat) (h1 : P.underlying t = some (.slice e)) (h2 : P.info? e = some i) (h3 : i.zero = some z) (h4 : i.size = size) (h5 : i.bytes = bytes) (h6 : z.cells.size = size) (h7 : 0 < size)
  (v : Value) (k : Nat) (xs : List Value) (hs : a.eval s = v) (hown : w.ownsRow base e size v k xs) (ad : Addr) (m c : Nat) (news : List Value) (hx : a.eval x = .slice (some ad) m c) (hn : news.length = m * size)
  (hc : ∀ j u,news[j]? = some u → w.cell? (ad.add j) = some u) (h1c : ∀ u ∈ news,u.oneCell' = true) (b1 : k + m ≤ maxLen) (b2 : (k + m) * bytes ≤ 140737488355328) (b3 : base ≤ w.heap.size)
  (hK : ∀ v' w',w'.ownsRow base e size v' (k + m) (xs ++ news) → w.grownBy w' v.ownBlock → (v'.ownBlock = v.ownBlock ∨ v'.ownBlock = some w.heap.size) → wpListIn F n P ops Q rest (a.put o.dst v') w') :
  wpListIn F n P ops Q (o :: rest) a w:=by
 refine wpListIn_plain hg fun K hK'=>?_
 obtain ⟨v',w',hrun,r1,r2,r3,r4⟩:=run_append_own_at (P:=P) w base t o.type e i z size bytes h1 h2 h3 h4 h5 h6 h7 v k xs hown ad m c news hn hc h1c b1 b2 b3
 unfold Oper.wpIn
 refine ⟨?_, ?_⟩
 ·simp [Oper.about,hop,resolve,Target.leads,Sem.run_pure]
 ·rw [Oper.semAt_plain F _ _ (by rw [hop];intro c hc';cases hc')]
  simp [execOp,hop,resolve,invoke,builtin,hs,hx,hrun,Result.andThen]
  exact hK' _ _ (hK v' w' r1 r2 r4)
end Go
namespace Go.Proofs.YtcandidgaegghaaGreatDoor
open Go Go.RowKit Ly
theorem lJ {A W : World} {B size n : Nat} {e : TypeId} {v : Value} {xs : List Value} (h : A.ownsRow B e size v n xs) (k : ∀ i o,B ≤ i → A.heap[i]? = some o → o.isCells = true → W.heap[i]? = some o) : W.ownsRow B e size v n xs:=by
 refine ⟨h.1, ?_⟩
 rcases h.2 with h1 | ⟨g,cap,cur,h1,hb,hg,h2⟩
 ·exact .inl h1
 ·exact .inr ⟨g,cap,cur,h1,hb,k g _ hb hg rfl,h2⟩
theorem info3z' : (Tryz.prog.info? 3).map (fun i=>(i.zero,i.size,i.bytes)) = some (some (.int .i64 0),1,8):=by kernel_rfl
/- The loop over a premise's marks. -/
structure LJ (A : World) (gl : Nat) (L : List Int) (la : Option Addr) (ln lc : Nat) (W : World) : Prop where
 os : W.os = A.os
 tape : W.tape = A.tape
 output : W.output = A.output
 sz : A.heap.size + 3 ≤ W.heap.size
 old : ∀ i,i < A.heap.size → i ≠ gl → W.heap[i]? = A.heap[i]?
 cell : W.heap[gl]? = some (.cells #[.slice la ln lc] 29 (0,0))
 own : W.ownsRow (A.heap.size + 3) 3 1 (.slice la ln lc) L.length (L.map fun z=>.int .i64 z)
theorem LJ.turned {A X W : World} {gl : Nat} {L : List Int} {la : Option Addr} {ln lc : Nat} (hgl : gl < A.heap.size) (h : LJ A gl L la ln lc X) (hs : X.heap.size ≤ W.heap.size) (ho : W.os = X.os) (ht : W.tape = X.tape) (hu : W.output = X.output)
  (k1 : ∀ i,i < A.heap.size → W.heap[i]? = X.heap[i]?) (k2 : ∀ i o,A.heap.size + 3 ≤ i → X.heap[i]? = some o → o.isCells = true → W.heap[i]? = some o) : LJ A gl L la ln lc W :=
 ⟨ho.trans h.os,ht.trans h.tape,hu.trans h.output,Nat.le_trans h.sz hs,fun i hi hn=>(k1 i hi).trans (h.old i hi hn),(k1 gl hgl).trans h.cell,lJ h.own k2⟩
theorem LJ.below {A X W : World} {gl : Nat} {L : List Int} {la : Option Addr} {ln lc : Nat} (hgl : gl < A.heap.size) (h : LJ A gl L la ln lc X) (b : Below X.heap.size X W) : LJ A gl L la ln lc W :=
 h.turned hgl b.size b.os b.tape b.output (fun i hi=>b.block i (by have:=h.sz;omega)) (fun i o _ hi _=>(b.block i (Array.getElem?_eq_some_iff.1 hi).1).trans hi)
theorem LJ.new {A : World} {gl : Nat} (hgl : gl < A.heap.size) (h : A.heap[gl]? = some (.cells #[.slice none 0 0] 29 (0,0))) {W : World} (b : Below A.heap.size A W) (hs : A.heap.size + 3 ≤ W.heap.size) : LJ A gl [] none 0 0 W :=
 ⟨b.os,b.tape,b.output,hs,fun i hi _=>b.block i hi,(b.block _ hgl).trans h,World.ownsRow_nil _ _ _ _⟩
theorem LJ.step {A W w1 w5 : World} {gl c B : Nat} {L : List Int} {la : Option Addr} {ln lc : Nat} {z : Int} {v' : Value} {o : Obj} (hgl : gl < A.heap.size) (hB : B = A.heap.size + 3) (hcc : c = A.heap.size) (h1 : 1 < A.heap.size) (h1' : gl ≠ 1) (h : LJ A gl L la ln lc W) (b : Below W.heap.size W w1)
  (h5 : w5.ownsRow (A.heap.size + 3) 3 1 v' (L.length + 1) ((L.map fun z=>Value.int .i64 z) ++ [.int .i64 z])) (hg : (w1.alloc o).grownBy w5 (Value.slice la ln lc).ownBlock) (hat : v'.ownBlock = (Value.slice la ln lc).ownBlock ∨ v'.ownBlock = some (w1.alloc o).heap.size) {W2 : World} (hW : W2 = w5.setCell ⟨gl,0,none⟩ v') :
  KeepsFrom B W W2 ∧ jY c W W2 ∧ ∃ la ln lc,LJ A gl (L ++ [z]) la ln lc W2:=by
 subst hB hcc
 have lt:=h.own.lt
 have hsz:=h.sz
 have bs:=b.size
 have gs:=hg.size
 simp only [World.size_alloc] at gs
 have ba:=(Below.refl _ w1).alloc (Nat.le_refl _) o
 have low : ∀ i,i < W.heap.size → i ≠ gl → (Value.slice la ln lc).ownBlock ≠ some i → W2.heap[i]? = W.heap[i]?:=fun i hi hn hv=>by
  rw [hW,Below.heap_setCell _ _ _ _ hn,hg.block i (by simp;omega) (fun e=>hv e.symm),ba.block i (by omega),b.block i hi]
 have lowA : ∀ i,i < A.heap.size + 3 → i ≠ gl → W2.heap[i]? = W.heap[i]?:=fun i hi hn=>low i (by omega) hn (fun e=>by have:=lt i e;omega)
 obtain ⟨va,vc,rfl⟩:=gP h5
 have g5 : w5.heap[gl]? = some (.cells #[.slice la ln lc] 29 (0,0)):=by
  rw [hg.block gl (by simp;omega) (fun e=>by have:=lt gl e.symm;omega),ba.block gl (by omega),b.block gl (by omega)]
  exact h.cell
 have s2 : W2.heap.size = w5.heap.size:=by rw [hW];simp
 have r2 : W2.os = w5.os ∧ W2.tape = w5.tape ∧ W2.output = w5.output:=by rw [hW];exact kQ _ _ _
 refine ⟨⟨by omega,fun i ob hi ho hcells=>?_⟩,fun i hi=>?_,va,L.length + 1,vc, ?_⟩
 ·rw [low i (Array.getElem?_eq_some_iff.1 ho).1 (by omega) (fun e=>?_)]
  ·exact ho
  ·rcases h.own.2 with ⟨h1,_⟩ | ⟨g,cap,cur,h1,_,h3,_⟩
   ·rw [h1] at e;cases e
   ·rw [h1] at e;cases e
    rw [ho] at h3;cases h3;cases hcells
 ·exact lowA i (by omega) (by omega)
 ·refine ⟨?_, ?_, ?_,by omega,fun i hi hn=>(lowA i (by omega) hn).trans (h.old i hi hn), ?_, ?_⟩
  ·rw [r2.1,hg.os];exact b.os.trans h.os
  ·rw [r2.2.1,hg.tape];exact b.tape.trans h.tape
  ·rw [r2.2.2,hg.output];exact b.output.trans h.output
  ·rw [hW]
   have k : ∀ W : World,W.heap[gl]? = some (.cells #[.slice la ln lc] 29 (0,0)) → (W.setCell ⟨gl,0,none⟩ (.slice va (L.length + 1) vc)).heap[gl]? = some (.cells #[.slice va (L.length + 1) vc] 29 (0,0)):=fun W h=>aC h
   exact k _ g5
  ·rw [List.length_append,List.map_append]
   exact lJ h5 fun i ob hi ho _=>by rw [hW,Below.heap_setCell _ _ _ _ (by show i ≠ gl;omega)];exact ho
theorem LJ.put {A W w1 : World} {gl c B : Nat} {L : List Int} {la : Option Addr} {ln lc : Nat} {z : Int} {o : Obj} (hgl : gl < A.heap.size) (hB : B = A.heap.size + 3) (hcc : c = A.heap.size) (h1 : 1 < A.heap.size) (h1' : gl ≠ 1) (h : LJ A gl L la ln lc W) (b : Below W.heap.size W w1) :
  (w1.alloc o).ownsRow (A.heap.size + 3) 3 1 (.slice la ln lc) L.length (L.map fun z=>.int .i64 z) ∧ ∀ v' w5,w5.ownsRow (A.heap.size + 3) 3 1 v' (L.length + 1) ((L.map fun z=>Value.int .i64 z) ++ [.int .i64 z]) → (w1.alloc o).grownBy w5 (Value.slice la ln lc).ownBlock →
   (v'.ownBlock = (Value.slice la ln lc).ownBlock ∨ v'.ownBlock = some (w1.alloc o).heap.size) →
   w5.cell? ⟨gl,0,none⟩ = some (.slice la ln lc) ∧ w5.frozen? ⟨gl,0,none⟩ = false ∧
   ∀ W2,W2 = w5.setCell ⟨gl,0,none⟩ v' → KeepsFrom B W W2 ∧ jY c W W2 ∧ ∃ la ln lc,LJ A gl (L ++ [z]) la ln lc W2:=by
 refine ⟨(h.below hgl b).own.alloc o,fun v' w5 h5 hg hat=>?_⟩
 have lt:=h.own.lt
 have hsz:=h.sz
 have bs:=b.size
 have g5 : w5.heap[gl]? = some (.cells #[.slice la ln lc] 29 (0,0)):=by
  rw [hg.block gl (by simp;omega) (fun e=>by have:=lt gl e.symm;omega),Below.heap_alloc w1 o gl (by omega),b.block gl (by omega)]
  exact h.cell
 exact ⟨(box_cell g5 0).trans rfl,by simp [World.frozen?,g5],fun W2 hW=>h.step hgl hB hcc h1 h1' b h5 hg hat hW⟩
theorem LJ.bw {B A W : World} {gl : Nat} {L : List Int} {la : Option Addr} {ln lc : Nat} (h : LJ A gl L la ln lc W) (b : Below B.heap.size B A) (hgl : B.heap.size ≤ gl) : Below B.heap.size B W :=
 ⟨h.os.trans b.os,h.tape.trans b.tape,h.output.trans b.output,Nat.le_trans b.size (by have:=h.sz;omega),fun i hi=>(h.old i (by have:=b.size;omega) (by omega)).trans (b.block i hi)⟩
theorem LJ.count {A W : World} {gl : Nat} {L : List Int} {la : Option Addr} {ln lc : Nat} (h : LJ A gl L la ln lc W) : ln = L.length:=by
 obtain ⟨a,c,e⟩:=gP h.own
 cases e;rfl
section
variable {A X W : World} {g : Nat} {x0 x1 x2 x3 x4 x5 x6 : Value} {L : List (List Int)} {va : Option Addr} {vn vc : Nat}
theorem row_fill7 {W : World} {g : Nat} {y z0 z1 z2 z3 z4 z5 z6 z7 : Value} (h : W.heap[g]? = some (.cells #[z0,z1,z2,z3,z4,z5,z6,z7] 53 (0,0))) :
  (W.setCell ⟨g,7,none⟩ y).heap[g]? = some (.cells #[z0,z1,z2,z3,z4,z5,z6,y] 53 (0,0)):=by
 have h0:=aC (o:=7) (u:=y) h
 simp only [List.setIfInBounds_toArray,List.set_cons_zero,List.set_cons_succ] at h0
 exact h0
end
end Go.Proofs.YtcandidgaegghaaGreatDoor
namespace Ly
open Go Go.RowKit
def TyOk : Nat → List D → TypeId → Prop
 | 3,_,t=>t = 95
 | 4,_,t=>t = 25
 | 8,_,t=>t = 53
 | 1,.sl _ _ _ :: _,t=>t = 29
 | 1,.val _ :: _,t=>t = 3
 | _,_,_=>False
mutual
def AtB (w : World) : D → Value → Prop
 | .val v,u=>u = v
 | .sl size n ds,u=>∃ a cap,u = .slice a n cap ∧ n ≤ cap ∧ cap ≤ maxLen ∧ ds.length = n * size ∧ (cap = 0 ∨ ∃ (b : Nat) (cs : Array Value) (t : TypeId),a = some ⟨b,0,none⟩ ∧ w.heap[b]? = some (.cells cs t (0,0)) ∧ TyOk size ds t ∧ cap * size ≤ cs.size ∧ RowB w b 0 ds)
def RowB (w : World) (b : Nat) : Nat → List D → Prop
 | _,[]=>True
 | off,d :: ds=>(∃ u,w.cell? ⟨b,off,none⟩ = some u ∧ AtB w d u) ∧ RowB w b (off + 1) ds
end
def bY (w w' : World) : Prop:=∀ (b : Nat) (cs : Array Value) (t : TypeId) (f : Nat × Nat),w.heap[b]? = some (.cells cs t f) → w'.heap[b]? = some (.cells cs t f)
theorem bY.w {w w' : World} (h : bY w w') : aR w w':=fun a v hv=>by
 simp only [World.cell?] at hv ⊢
 cases e : w.heap[a.block]? with
 | none=>rw [e] at hv;simp at hv
 | some o =>
  cases o with
  | cells cs t f=>rw [e] at hv;rw [h _ _ _ _ e];exact hv
  | map _ _=>rw [e] at hv;simp at hv
  | _=>rw [e] at hv;simp at hv
theorem bY.trans {a b c : World} (h : bY a b) (h' : bY b c) : bY a c:=fun _ _ _ _ e=>h' _ _ _ _ (h _ _ _ _ e)
theorem fZ {w w' : World} (h : Below w.heap.size w w') : bY w w':=fun b _ _ _ e=>(h.block b (Array.getElem?_eq_some_iff.1 e).1).trans e
mutual
theorem AtB.keep {w w' : World} (hk : bY w w') : ∀ (d : D) (u : Value),AtB w d u → AtB w' d u
 | .val v,u,h=>h
 | .sl size n ds,u,h=>by
  obtain ⟨a,cap,h1,h2,h3,h4,h5⟩:=h
  refine ⟨a,cap,h1,h2,h3,h4, ?_⟩
  rcases h5 with h5 | ⟨b,cs,t,e,h6,h7,h8,h9⟩
  ·exact .inl h5
  ·exact .inr ⟨b,cs,t,e,hk _ _ _ _ h6,h7,h8,RowB.keep hk b 0 ds h9⟩
theorem RowB.keep {w w' : World} (hk : bY w w') (b : Nat) : ∀ (off : Nat) (ds : List D),RowB w b off ds → RowB w' b off ds
 | _,[],_=>trivial
 | off,d :: ds,h=>by
  obtain ⟨⟨u,h1,h2⟩,h3⟩:=h
  exact ⟨⟨u,hk.w _ _ h1,AtB.keep hk d u h2⟩,RowB.keep hk b (off + 1) ds h3⟩
end
mutual
theorem AtB.w {w : World} : ∀ (d : D) (u : Value),AtB w d u → At w d u
 | .val v,u,h=>h
 | .sl size n ds,u,h=>by
  obtain ⟨a,cap,h1,h2,h3,h4,h5⟩:=h
  refine ⟨a,cap,h1,h2,h3,h4, ?_⟩
  rcases h5 with h5 | ⟨b,cs,t,e,h6,h7,h8,h9⟩
  ·exact .inl (by omega)
  ·exact .inr ⟨b,0,e,RowB.w b 0 ds h9⟩
theorem RowB.w {w : World} (b : Nat) : ∀ (off : Nat) (ds : List D),RowB w b off ds → kJ w b off ds
 | _,[],_=>trivial
 | off,d :: ds,h=>by
  obtain ⟨⟨u,h1,h2⟩,h3⟩:=h
  exact ⟨⟨u,h1,AtB.w d u h2⟩,RowB.w b (off + 1) ds h3⟩
end
theorem RowB.get {w : World} {b : Nat} : ∀ {off : Nat} {ds : List D},RowB w b off ds → ∀ (j : Nat) (d : D),ds[j]? = some d → ∃ u,w.cell? ⟨b,off + j,none⟩ = some u ∧ AtB w d u
 | _,[],_,j,d,h=>by simp at h
 | off,x :: ds,h,0,d,e=>by
  obtain ⟨⟨u,h1,h2⟩,_⟩:=h
  simp at e;subst e
  exact ⟨u,h1,h2⟩
 | off,x :: ds,h,j + 1,d,e=>by
  have:=RowB.get h.2 j d (by simpa using e)
  rwa [show off + 1 + j = off + (j + 1) by omega] at this
theorem RowB.mk {w : World} {b : Nat} : ∀ {off : Nat} {ds : List D},(∀ (j : Nat) (d : D),ds[j]? = some d → ∃ u,w.cell? ⟨b,off + j,none⟩ = some u ∧ AtB w d u) → RowB w b off ds
 | _,[],_=>trivial
 | off,x :: ds,h=>⟨h 0 x (by simp),RowB.mk fun j d hd=>by
   have:=h (j + 1) d (by simpa using hd)
   rwa [show off + (j + 1) = off + 1 + j by omega] at this⟩
theorem AtB.nil {w : World} {size : Nat} : AtB w (.sl size 0 []) (.slice none 0 0):=⟨_,_,rfl,Nat.le_refl _,Nat.zero_le _,by simp,.inl rfl⟩
theorem AtB.sl_mk {w : World} {size n : Nat} {ds : List D} {b cap : Nat} {cs : Array Value} {t : TypeId} (hl : ds.length = n * size) (hn : n ≤ cap) (hc : cap ≤ maxLen) (hb : w.heap[b]? = some (.cells cs t (0,0))) (ht : TyOk size ds t) (hs : cap * size ≤ cs.size)
  (h : ∀ (j : Nat) (d : D),ds[j]? = some d → ∃ u,cs[j]? = some u ∧ AtB w d u) : AtB w (.sl size n ds) (.slice (some ⟨b,0,none⟩) n cap) :=
 ⟨_,_,rfl,hn,hc,hl,.inr ⟨b,cs,t,rfl,hb,ht,hs,RowB.mk fun j d hd=>by
  obtain ⟨u,h1,h2⟩:=h j d hd
  exact ⟨u,by rw [Nat.zero_add,Go.Proofs.YtcandidgaegghaaGreatDoor.box_cell hb];exact h1,h2⟩⟩⟩
def TmsB (w : World) (l : List Tm) (u : Value) : Prop:=AtB w (.sl 3 l.length (cC l)) u
def FmsB (w : World) (l : List Fm) (u : Value) : Prop:=AtB w (.sl 4 l.length (cH l)) u
def PfsB (w : World) (l : List Pf) (u : Value) : Prop:=AtB w (.sl 8 l.length (cX l)) u
def fS (w : World) (l : List (List Int)) (u : Value) : Prop:=AtB w (.sl 1 l.length (l.map eY)) u
def TmB (w : World) (t : Tm) (u : Value) : Prop:=∃ a n c,u = .agg #[.bool t.v,str t.name,.slice a n c] ∧ TmsB w t.args (.slice a n c)
def FmB (w : World) (f : Fm) (u : Value) : Prop :=
 ∃ a n c b m d,u = .agg #[.int .u8 f.op,str f.name,.slice a n c,.slice b m d] ∧ TmsB w f.args (.slice a n c) ∧ FmsB w f.sub (.slice b m d)
theorem TmsB.keep {w w' : World} {l : List Tm} {u : Value} (h : TmsB w l u) (k : bY w w') : TmsB w' l u:=AtB.keep k _ _ h
theorem FmsB.keep {w w' : World} {l : List Fm} {u : Value} (h : FmsB w l u) (k : bY w w') : FmsB w' l u:=AtB.keep k _ _ h
theorem PfsB.keep {w w' : World} {l : List Pf} {u : Value} (h : PfsB w l u) (k : bY w w') : PfsB w' l u:=AtB.keep k _ _ h
theorem fS.keep {w w' : World} {l : List (List Int)} {u : Value} (h : fS w l u) (k : bY w w') : fS w' l u:=AtB.keep k _ _ h
theorem TmsB.w {w : World} {l : List Tm} {u : Value} (h : TmsB w l u) : bI w l u:=AtB.w _ _ h
theorem FmsB.w {w : World} {l : List Fm} {u : Value} (h : FmsB w l u) : cD w l u:=AtB.w _ _ h
theorem PfsB.w {w : World} {l : List Pf} {u : Value} (h : PfsB w l u) : gD w l u:=AtB.w _ _ h
theorem fS.w {w : World} {l : List (List Int)} {u : Value} (h : fS w l u) : eB w l u:=AtB.w _ _ h
theorem TmsB.slice {w : World} {l : List Tm} {u : Value} (h : TmsB w l u) : ∃ a n c,u = .slice a n c:=by
 obtain ⟨a,c,e,_⟩:=h;exact ⟨a,_,c,e⟩
end Ly
namespace Go.Proofs.YtcandidgaegghaaGreatDoor
open Go Go.RowKit Ly
set_option maxHeartbeats 800000
theorem lG {p : Nat → Bool} {w : World} {b : Nat} {cs : Array Value} {t : TypeId} {f : Nat × Nat} (h : (hide p w).heap[b]? = some (.cells cs t f)) : p b = false ∧ w.heap[b]? = some (.cells cs t f):=by
 cases hp : p b with
 | false=>exact ⟨rfl,by rw [← lH p w b hp];exact h⟩
 | true =>
  exfalso
  simp only [hide,Array.getElem?_mapIdx,hp,if_true] at h
  cases e : w.heap[b]? <;> rw [e] at h <;> simp at h
theorem kA (p : Nat → Bool) (w : World) : bY (hide p w) w:=fun b cs t f h=>(lG h).2
theorem aS {p q : Nat → Bool} {w w' : World} (h : ∀ k,k < w.heap.size → p k = false → q k = false ∧ w'.heap[k]? = w.heap[k]?) : bY (hide p w) (hide q w'):=fun b cs t f e=>by
 obtain ⟨hp,e1⟩:=lG e
 obtain ⟨h1,h2⟩:=h b (Array.getElem?_eq_some_iff.1 e1).1 hp
 rw [lH q w' b h1,h2];exact e1
theorem mU {w w1 w' w'' : World} (h : w.heap.size ≤ w1.heap.size) (hk : ∀ k,w1.heap.size ≤ k → k < w'.heap.size → w''.heap[k]? = w'.heap[k]?) : bY (hide (lo w1) w') (hide (lo w) w''):=aS fun k h1 h2=>by
 simp only [lo,decide_eq_false_iff_not,Nat.not_lt] at h2 ⊢
 exact ⟨by omega,hk k h2 h1⟩
def aX (W : World) (ds : List D) (xs : List Value) : Prop:=xs.length = ds.length ∧ ∀ (j : Nat) (d : D),ds[j]? = some d → ∃ u,xs[j]? = some u ∧ AtB W d u
theorem aX.keep {W W' : World} {ds : List D} {xs : List Value} (h : aX W ds xs) (k : bY W W') : aX W' ds xs :=
 ⟨h.1,fun j d hd=>by obtain ⟨u,h1,h2⟩:=h.2 j d hd;exact ⟨u,h1,AtB.keep k _ _ h2⟩⟩
theorem aX.w {W : World} {ds : List D} {xs : List Value} (h : aX W ds xs) : aP W ds xs :=
 ⟨h.1,fun j d hd=>by obtain ⟨u,h1,h2⟩:=h.2 j d hd;exact ⟨u,h1,AtB.w _ _ h2⟩⟩
theorem aX.nil (W : World) : aX W [] []:=⟨rfl,fun j d h=>by simp at h⟩
theorem aX.cons {W : World} {d : D} {x : Value} {ds : List D} {xs : List Value} (h : AtB W d x) (hs : aX W ds xs) : aX W (d :: ds) (x :: xs):=by
 refine ⟨by simp [hs.1],fun j e he=>?_⟩
 cases j with
 | zero=>simp at he;subst he;exact ⟨x,rfl,h⟩
 | succ j=>simp at he ⊢;exact hs.2 j e he
theorem aX.append {W : World} {ds es : List D} {xs ys : List Value} (h : aX W ds xs) (h' : aX W es ys) : aX W (ds ++ es) (xs ++ ys):=by
 refine ⟨by simp [h.1,h'.1],fun j d hd=>?_⟩
 by_cases hj : j < ds.length
 ·rw [List.getElem?_append_left hj] at hd
  rw [List.getElem?_append_left (by rw [h.1];exact hj)]
  exact h.2 j d hd
 ·rw [List.getElem?_append_right (by omega)] at hd
  rw [List.getElem?_append_right (by rw [h.1];omega),h.1]
  exact h'.2 _ d hd
theorem aX.take {W : World} {ds : List D} {xs : List Value} (h : aX W ds xs) (m : Nat) : aX W (ds.take m) (xs.take m):=by
 refine ⟨by simp [h.1],fun j d hd=>?_⟩
 rw [List.getElem?_take] at hd
 split at hd
 ·rename_i hj
  obtain ⟨u,hu,ha⟩:=h.2 _ d hd
  exact ⟨u,by rw [List.getElem?_take,if_pos hj];exact hu,ha⟩
 ·cases hd
theorem aX.drop {W : World} {ds : List D} {xs : List Value} (h : aX W ds xs) (m : Nat) : aX W (ds.drop m) (xs.drop m):=by
 refine ⟨by simp [h.1],fun j d hd=>?_⟩
 rw [List.getElem?_drop] at hd
 obtain ⟨u,hu,ha⟩:=h.2 _ d hd
 exact ⟨u,by rw [List.getElem?_drop];exact hu,ha⟩
theorem aX.fresh {p : Nat → Bool} {w : World} {ds : List D} {cs : Array Value} {t : TypeId} {size n : Nat} (h : aX (hide p w) ds cs.toList) (hp : p w.heap.size = false) (hn : ds.length = n * size) (hc : n ≤ maxLen) (hT : TyOk size ds t:=by simp [TyOk]) :
  AtB (hide p (w.alloc (.cells cs t))) (.sl size n ds) (.slice (some ⟨w.heap.size,0,none⟩) n n):=by
 have hg : (w.alloc (.cells cs t)).heap[w.heap.size]? = some (.cells cs t (0,0)):=heap_alloc_new w _
 refine AtB.sl_mk hn (Nat.le_refl _) hc ((lH p _ _ hp).trans hg) hT (by rw [← hn,← h.1];simp) fun j d hd=>?_
 obtain ⟨u,h1,h2⟩:=h.2 j d hd
 exact ⟨u,by simpa using h1,AtB.keep (aS fun k hk hpk=>⟨hpk,bnew.block _ hk⟩) _ _ h2⟩
def OwnB (p : Nat → Bool) (base : Nat) (w : World) (e : TypeId) (size n : Nat) (ds : List D) (v : Value) : Prop :=
 ∃ xs,w.ownsRow base e size v n xs ∧ aX (hide (fun k=>p k || decide (v.ownBlock = some k)) w) ds xs
theorem OwnB.w {p : Nat → Bool} {base : Nat} {w : World} {e : TypeId} {size n : Nat} {ds : List D} {v : Value} (h : OwnB p base w e size n ds v) : iP p base w e size n ds v:=by
 obtain ⟨xs,h1,h2⟩:=h;exact ⟨xs,h1,h2.w⟩
theorem OwnB.nil (p : Nat → Bool) (base : Nat) (w : World) (e : TypeId) (size : Nat) : OwnB p base w e size 0 [] (.slice none 0 0):=⟨[],World.ownsRow_nil _ _ _ _,aX.nil _⟩
theorem OwnB.at {p : Nat → Bool} {base : Nat} {w : World} {e : TypeId} {size n : Nat} {ds : List D} {v : Value} (h : OwnB p base w e size n ds v) (hp : ∀ k,base ≤ k → p k = false) (hT : n ≠ 0 ∨ size ≠ 1 → TyOk size ds e:=by intro _;simp [TyOk]) (hN : size = 1 → n = 0 → v = .slice none 0 0:=by intro h;simp at h) : AtB (hide p w) (.sl size n ds) v:=by
 obtain ⟨xs,ho,hc⟩:=h
 have hl:=ho.1
 rcases ho.2 with ⟨rfl,rfl⟩ | ⟨g,cap,cur,rfl,hb,hg,h1,h2,h3,h4⟩
 ·have : ds = []:=List.eq_nil_of_length_eq_zero (by rw [← hc.1,hl];simp)
  subst this
  exact AtB.nil
 ·have hT' : TyOk size ds e:=by
   refine hT ?_
   by_cases h0 : n = 0
   ·right;intro h1;have:=hN h1 h0;simp at this
   ·exact .inl h0
  refine AtB.sl_mk (by rw [← hc.1];exact hl) h1 h2 ((lH p _ _ (hp g hb)).trans hg) hT' (by rw [h3];exact Nat.le_refl _) fun j d hd=>?_
  obtain ⟨u,u1,u2⟩:=hc.2 j d hd
  refine ⟨u, ?_,AtB.keep (aS fun k hk hpk=>⟨?_,rfl⟩) _ _ u2⟩
  ·rw [← h4,List.getElem?_take] at u1
   split at u1
   ·simpa using u1
   ·cases u1
  ·exact (Bool.or_eq_false_iff.1 hpk).1
theorem OwnB.moved {p : Nat → Bool} {base : Nat} {w w' : World} {e : TypeId} {size n : Nat} {ds : List D} {v : Value} (h : OwnB p base w e size n ds v) (hp : ∀ k,base ≤ k → p k = false) (hk : ∀ k,k < w.heap.size → p k = false → w'.heap[k]? = w.heap[k]?) : OwnB p base w' e size n ds v:=by
 obtain ⟨xs,ho,hc⟩:=h
 refine ⟨xs,⟨ho.1, ?_⟩,hc.keep (aS fun k h1 h2=>⟨h2,hk k h1 (Bool.or_eq_false_iff.1 h2).1⟩)⟩
 rcases ho.2 with h1 | ⟨g,cap,cur,rfl,hb,hg,h1,h2,h3,h4⟩
 ·exact .inl h1
 ·exact .inr ⟨g,cap,cur,rfl,hb,(hk g (Array.getElem?_eq_some_iff.1 hg).1 (hp g hb)).trans hg,h1,h2,h3,h4⟩
theorem OwnB.appended {p : Nat → Bool} {base : Nat} {w w' : World} {e : TypeId} {size n m : Nat} {ds es : List D} {v v' : Value} {xs ys : List Value} (hc : aX (hide (fun k=>p k || decide (v.ownBlock = some k)) w) ds xs) (he : aX (hide (fun k=>p k || decide (v.ownBlock = some k)) w) es ys)
  (ho : w'.ownsRow base e size v' (n + m) (xs ++ ys)) (hg : w.grownBy w' v.ownBlock) (hv : v'.ownBlock = v.ownBlock ∨ v'.ownBlock = some w.heap.size) : OwnB p base w' e size (n + m) (ds ++ es) v':=by
 refine ⟨_,ho,(hc.append he).keep (aS fun k hk hp=>?_)⟩
 simp only [Bool.or_eq_false_iff,decide_eq_false_iff_not] at hp ⊢
 refine ⟨⟨hp.1, ?_⟩,hg.block k hk (Ne.symm hp.2)⟩
 rcases hv with e | e
 ·rw [e];exact hp.2
 ·rw [e];intro e2;cases e2;omega
end Go.Proofs.YtcandidgaegghaaGreatDoor
