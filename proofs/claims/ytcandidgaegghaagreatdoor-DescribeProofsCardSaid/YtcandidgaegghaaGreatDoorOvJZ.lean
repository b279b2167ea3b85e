/- describe.Proof and lyceumref41.Proof at any proof: its lines, or an error. Conditions: names and lists fit into memory; formulas have at most a million parts, proofs at most a million steps. -/
import Derived.Test.YtcandidgaegghaaGreatDoorCpZ
import Derived.Test.YtcandidgaegghaaGreatDoorRpBZ
import Derived.Test.YtcandidgaegghaaGreatDoorRaDZ
import Derived.Test.YtcandidgaegghaaGreatDoorTxBZ
import Derived.Test.YtcandidgaegghaaGreatDoorShelfZ
import Derived.Shelf.Slices.Turned
import Derived.Shelf.Slices.Equal
import Derived.Shelf.Slices.Empties2
import Derived.Test.YtcandidgaegghaaGreatDoorProg
import Derived.Outline
import Derived.Test.YtcandidgaegghaaGreatDoorOvIZ
set_option maxRecDepth 10000
set_option linter.unusedSimpArgs false
set_option linter.unusedVariables false
namespace Go.Proofs.YtcandidgaegghaaGreatDoor
open Go Go.RowKit Go.Sort Ly
set_option maxHeartbeats 4000000
def pfLn (p : Pf) : List Bs:=if p.right then p.lines 0 else []
def pfCd (p : Pf) : Int:=if p.right then 0 else 2
def zJ (p : Pf) (w : World) (e : Ending) (w' : World) : Prop:=∃ v,e = .returned (.tuple #[v,.int .i64 (pfCd p)]) ∧ aI w.heap.size w' (pfLn p) v ∧ Below w.heap.size w w'
theorem yA {p : Pf} (h : p.right = false) {w w' : World} {e : Ending} (hh : e = .returned (.tuple #[.slice none 0 0,.int .i64 2]) ∧ Below w.heap.size w w') : zJ p w e w':=by
 unfold zJ pfCd pfLn
 rw [h]
 exact ⟨.slice none 0 0,hh.1,World.ownsRow_nil _ _ _ _,hh.2⟩
theorem nR (p : Pf) : p.right = true ↔ CV p 300 0:=by
 unfold Pf.right CV
 simp only [Bool.and_eq_true,decide_eq_true_eq]
 constructor
 ·rintro ⟨⟨h1,h2⟩,h3⟩;exact ⟨h1,by omega,by omega⟩
 ·rintro ⟨h1,h2,h3⟩;exact ⟨⟨h1,by omega⟩,by omega⟩
theorem zK (p : Pf) (hz : p.sz) (x : Value) (w : World) (hr : dV w) (hrn : jG w) (hp : iK w) (hx : cU w p x) : Calls Tryz.prog 24 #[x] w (zJ p w):=by
 cases h : p.right with
 | true =>
  refine (IP p x w hr hp hx h).mono fun e w' hh=>?_
  obtain ⟨v,he,ho,hb⟩:=hh
  refine ⟨v, ?_, ?_,hb⟩
  ·rw [he];simp [pfCd,h]
  ·rw [show pfLn p = p.lines 0 by simp [pfLn,h]];exact ho
 | false =>
  have hx0:=hx
  obtain ⟨a,n,c,b,m,d,s,sn,sc,q,qn,qc,rfl,-⟩:=hx
  refine (Proof_no _ _ _ _ _ _ _ _ w fun w' g hw hg hl=>?_).mono fun e w' hh=>yA h hh
  refine (NK p w w' g 300 0 _ hr hrn hx0 hw hg hl hz (fun hgd=>by rw [(nR p).2 hgd] at h;cases h) (by decide) (by decide) (by decide) (by decide)).mono fun e w'' hh=>⟨hh.1,hh.2.1⟩
theorem tG (p : Pf) (hz : p.sz) (hf : p.few) (hst : p.steps ≤ 100000) (x : Value) (w : World) (hx : cU w p x) : Calls Tryz.prog 114 #[x] w (zJ p w):=by
 have hx0:=hx
 obtain ⟨a,n,c,b,m,d,s,sn,sc,q,qn,qc,rfl,-⟩:=hx
 have B0 : Hid (Below w.heap.size w (w.alloc (.cells #[str p.rule,.int .u8 p.form.op,str p.form.name,.slice a n c,.slice b m d,.int .i64 p.label,.slice s sn sc,.slice q qn qc] 53))):=bnew
 have R0 : Hid ((w.alloc (.cells #[str p.rule,.int .u8 p.form.op,str p.form.name,.slice a n c,.slice b m d,.int .i64 p.label,.slice s sn sc,.slice q qn qc] 53)).heap[w.heap.size]? = some (.cells #[str p.rule,.int .u8 p.form.op,str p.form.name,.slice a n c,.slice b m d,.int .i64 p.label,.slice s sn sc,.slice q qn qc] 53 (0,0))):=heap_alloc_new w _
 have X : Hid (∀ W,Below w.heap.size w W → cU W p (.agg #[str p.rule,.int .u8 p.form.op,str p.form.name,.slice a n c,.slice b m d,.int .i64 p.label,.slice s sn sc,.slice q qn qc])):=fun W hW=>hx0.keep (aA hW)
 obtain ⟨fb,hfb⟩ : ∃ fb,fitB p 0 = fb:=⟨_,rfl⟩
 have C1 : Hid (∀ W,Below w.heap.size w W → Calls Tryz.prog 184 #[.agg #[str p.rule,.int .u8 p.form.op,str p.form.name,.slice a n c,.slice b m d,.int .i64 p.label,.slice s sn sc,.slice q qn qc],.int .i64 0] W (Rt (.bool fb) W)):=fun W hW=>by
  rw [← hfb];exact KV p W 0 _ (X.out W hW) hz hf (by decide) (by decide)
 have C2 : Hid (∀ W,Below w.heap.size w W → Calls Tryz.prog 185 #[.agg #[str p.rule,.int .u8 p.form.op,str p.form.name,.slice a n c,.slice b m d,.int .i64 p.label,.slice s sn sc,.slice q qn qc]] W (Rt (.int .i64 (p.steps : Nat)) W)):=fun W hW=>KE p W _ (X.out W hW) (by omega)
 have C3 : Hid (p.right = true → ∀ W,Below w.heap.size w W → Calls Tryz.prog 186 #[.slice none 0 0,.agg #[str p.rule,.int .u8 p.form.op,str p.form.name,.slice a n c,.slice b m d,.int .i64 p.label,.slice s sn sc,.slice q qn qc]] W fun e w'=>∃ v,e = .returned v ∧ aI W.heap.size w' (p.lines 0) v ∧ Below W.heap.size W w'):=fun h W hW=>by
  have hok : p.ok = true:=((nR p).1 h).1
  refine (MY p W W [] (.slice none 0 0) _ (X.out W hW) (Below.refl _ _) (World.ownsRow_nil _ _ _ _) hok (by simp;omega)).mono fun e w' hh=>?_
  obtain ⟨v,he,ho,hg⟩:=hh
  exact ⟨v,he,by simpa using ho,Grow.old (L:=[]) hg (Below.refl _ _) (World.ownsRow_nil _ _ _ _)⟩
 have RT : Hid (p.right = (fb && decide (p.steps ≤ 300))):=by
  show _ = _
  rw [← hfb]
  unfold Pf.right fitB
  cases p.ok <;> simp
  rw [Bool.and_comm];congr 1
  exact decide_eq_decide.2 (by omega)
 have HA:=hx0
 clear hx0 hfb hz hf
 obtain ⟨k0,k1,k2,k3,k4,k5,k6,k7⟩:=row53' R0.out
 generalize p.steps = N at *
 cases fb
 ·have hn : Hid (p.right = false):=by show _ = _;rw [RT.out];rfl
  clear C3 RT
  go_enter Tryz.func114,Tryz.ntmps114
  go_wp2_with (go_at_call 184;refine (C1.out _ B0.out).mono ?_;rintro e w1 ⟨rfl,b1⟩;have B1:=Hd (aB B0.out b1);clear b1)
  go_ret2
  exact yA hn.out ⟨rfl,B1.out⟩
 by_cases h3 : N ≤ 300
 ·have hn : Hid (p.right = true):=by show _ = _;rw [RT.out];simp [h3]
  have g1 : decide ((300 : Int) < (N : Int)) = false:=by simp;omega
  replace C3:=Hd (C3.out hn.out)
  clear RT
  go_enter Tryz.func114,Tryz.ntmps114
  go_wp2_with (first
   | (go_at_call 184;refine (C1.out _ B0.out).mono ?_;rintro e w1 ⟨rfl,b1⟩;have B1:=Hd (aB B0.out b1);have R1:=Hd (kc b1 R0.out);clear b1 k0 k1 k2 k3 k4 k5 k6 k7;obtain ⟨k0,k1,k2,k3,k4,k5,k6,k7⟩:=row53' R1.out)
   | (go_at_call 185;refine (C2.out _ B1.out).mono ?_;rintro e w2 ⟨rfl,b2⟩;have B2:=Hd (aB B1.out b2);have R2:=Hd (kc b2 R1.out);clear b2 k0 k1 k2 k3 k4 k5 k6 k7;obtain ⟨k0,k1,k2,k3,k4,k5,k6,k7⟩:=row53' R2.out)
   | (go_at_call 186;refine (C3.out _ B2.out).mono ?_;rintro e w3 ⟨v3,rfl,o3,b3⟩;have O3:=Hd (aI.mono o3 B2.out.size);have B3:=Hd (aB B2.out b3);clear o3 b3))
  go_ret2
  refine ⟨v3,by rw [show pfCd p = 0 by simp [pfCd,hn.out]];rfl, ?_,B3.out⟩
  rw [show pfLn p = p.lines 0 by simp [pfLn,hn.out]];exact O3.out
 ·have hn : Hid (p.right = false):=by show _ = _;rw [RT.out];simp [h3]
  have g1 : decide ((300 : Int) < (N : Int)) = true:=by simp;omega
  clear C3 RT
  go_enter Tryz.func114,Tryz.ntmps114
  go_wp2_with (first
   | (go_at_call 184;refine (C1.out _ B0.out).mono ?_;rintro e w1 ⟨rfl,b1⟩;have B1:=Hd (aB B0.out b1);have R1:=Hd (kc b1 R0.out);clear b1 k0 k1 k2 k3 k4 k5 k6 k7;obtain ⟨k0,k1,k2,k3,k4,k5,k6,k7⟩:=row53' R1.out)
   | (go_at_call 185;refine (C2.out _ B1.out).mono ?_;rintro e w2 ⟨rfl,b2⟩;have B2:=Hd (aB B1.out b2);clear b2))
  go_ret2
  exact yA hn.out ⟨rfl,B2.out⟩
open Go Go.RowKit Ly
mutual
theorem Tm.sz_of_ok3 : ∀ t : Tm,t.ok = true → t.sz
 | .mk v n l,h=>by
  have hl : cJ l = true:=by
   simp only [Tm.ok] at h
   split at h
   ·simp only [Bool.and_eq_true,List.isEmpty_iff] at h;rw [h.1];rfl
   ·simp only [Bool.and_eq_true] at h;exact h.2
  have hn : n.length ≤ 16:=by
   simp only [Tm.ok] at h
   split at h
   ·simp only [Bool.and_eq_true] at h;exact fM h.2
   ·simp only [Bool.and_eq_true] at h;exact fM h.1.2
  rw [Tm.sz]
  exact ⟨by unfold maxLen;omega,nV l hl⟩
theorem nV : ∀ l : List Tm,cJ l = true → mZ l
 | [],_=>by rw [mZ];trivial
 | t :: ts,h=>by
  simp only [cJ,Bool.and_eq_true] at h
  rw [mZ];exact ⟨Tm.sz_of_ok3 t h.1,nV ts h.2⟩
end
mutual
theorem Fm.sz_of_ok3 : ∀ t : Fm,t.ok = true → t.sz
 | .mk o n l s,h=>by
  have hf:=kE h
  have hn:=DU h
  have hs : dR s = true:=by
   simp only [Fm.ok,Bool.and_eq_true] at h;exact h.2
  have hl : cJ l = true:=by
   simp only [Fm.ok,Bool.and_eq_true] at h;exact h.1.2
  rw [Fm.sz]
  exact ⟨⟨by omega,by omega⟩,by unfold maxLen;omega,nV l hl,sJ s hs⟩
theorem sJ : ∀ l : List Fm,dR l = true → sI l
 | [],_=>by rw [sI];trivial
 | t :: ts,h=>by
  simp only [dR,Bool.and_eq_true] at h
  rw [sI];exact ⟨Fm.sz_of_ok3 t h.1,sJ ts h.2⟩
end
theorem nT {f : Fm} (h : f.right = true) : f.sz ∧ f.nodes ≤ 1000000 :=
 ⟨Fm.sz_of_ok3 f (fD h),by simp only [Fm.right,Bool.and_eq_true,decide_eq_true_eq] at h;omega⟩
theorem PfsB.slice {w : World} {l : List Pf} {u : Value} (h : PfsB w l u) : ∃ a n c,u = .slice a n c:=by
 obtain ⟨a,c,e,_⟩:=h;exact ⟨a,_,c,e⟩
theorem FmsB.slice {w : World} {l : List Fm} {u : Value} (h : FmsB w l u) : ∃ a n c,u = .slice a n c:=by
 obtain ⟨a,c,e,_⟩:=h;exact ⟨a,_,c,e⟩
theorem fS.slice {w : World} {l : List (List Int)} {u : Value} (h : fS w l u) : ∃ a n c,u = .slice a n c:=by
 obtain ⟨a,c,e,_⟩:=h;exact ⟨a,_,c,e⟩
theorem wJ {p : Nat → Bool} {W : World} : bY (hide p W) W:=kA p W
theorem pf_cellsB {W : World} {p : Pf} {a b s q : Option Addr} {n c m d sn sc qn qc : Nat} (h1 : TmsB W p.form.args (.slice a n c)) (h2 : FmsB W p.form.sub (.slice b m d)) (h3 : PfsB W p.sub (.slice s sn sc)) (h4 : fS W p.marks (.slice q qn qc)) :
  aX W p.ds [str p.rule,.int .u8 p.form.op,str p.form.name,.slice a n c,.slice b m d,.int .i64 p.label,.slice s sn sc,.slice q qn qc]:=by
 obtain ⟨r,⟨op,nm,ta,sub⟩,lb,ps,ms⟩:=p
 exact aX.cons rfl (aX.cons rfl (aX.cons rfl (aX.cons h1 (aX.cons h2 (aX.cons rfl (aX.cons h3 (aX.cons h4 (aX.nil _))))))))
theorem OwnB.cut {p : Nat → Bool} {base size n j c : Nat} {w : World} {e : TypeId} {ds : List D} {a : Option Addr} (h : OwnB p base w e size n ds (.slice a n c)) (hj : j ≤ n) : OwnB p base w e size j (ds.take (j * size)) (.slice a j c):=by
 obtain ⟨xs,ho,hc⟩:=h
 have hjs : j * size ≤ n * size:=Nat.mul_le_mul_right _ hj
 refine ⟨xs.take (j * size),⟨by rw [List.length_take,ho.1];omega, ?_⟩, ?_⟩
 ·rcases ho.2 with ⟨h1,h2⟩ | ⟨g,cap,cur,h1,hb,hg,h2,h3,h4,h5⟩
  ·cases h1
   obtain rfl : j = 0:=by omega
   exact .inl ⟨rfl,rfl⟩
  ·cases h1
   exact .inr ⟨g,_,cur,rfl,hb,hg,by omega,h3,h4,by rw [← h5,List.take_take,Nat.min_eq_left hjs]⟩
 ·cases a <;> exact hc.take _
structure RPB (w : World) (S : List Pf) (v : Value) (wr : World) : Prop where
 bw : Below w.heap.size w wr
 res : wr.heap[w.heap.size]? = some (.cells #[str [],.int .u8 0,str [],.slice none 0 0,.slice none 0 0,.int .i64 0,.slice none 0 0,.slice none 0 0] 53 (0,0))
 own : OwnB (lo1 w) (w.heap.size + 1) wr 53 8 S.length (cX S) v
theorem RPB.form {w wr : World} {S : List Pf} {v : Value} (R : RPB w S v wr) : ∃ a c,v = .slice a S.length c:=by
 obtain ⟨xs,ho,_⟩:=R.own
 exact gP ho
theorem RPB.base {w wr : World} {S : List Pf} {v : Value} (R : RPB w S v wr) : w.heap.size + 1 ≤ wr.heap.size:=(Array.getElem?_eq_some_iff.1 R.res).1
theorem RPB.tail {w wr : World} {T U : List Pf} {a : Option Addr} {n c : Nat} (R : RPB w (T ++ U) (.slice a n c) wr) :
  ∃ xs,xs.length = U.length * 8 ∧ (∀ u ∈ xs,u.oneCell' = true) ∧ aX (hide (fun k=>lo1 w k || decide ((Value.slice a n c).ownBlock = some k)) wr) (cX U) xs ∧ ∀ g o,a = some ⟨g,o,none⟩ → o = 0 ∧ ∀ j u,xs[j]? = some u → wr.cell? ⟨g,T.length * 8 + j,none⟩ = some u:=by
 obtain ⟨xs,ho,hc⟩:=R.own
 have e : (cX (T ++ U)).drop (T.length * 8) = cX U:=by rw [tA,← tB,List.drop_left]
 have hc':=hc.drop (T.length * 8)
 rw [e] at hc'
 refine ⟨xs.drop (T.length * 8),by rw [hc'.1,tB],cells_one hc'.w (BI U),hc',fun g o ha=>?_⟩
 subst ha
 rcases ho.2 with ⟨h1,_⟩ | ⟨g',cap,cur,h1,_⟩
 ·cases h1
 ·cases h1
  refine ⟨rfl,fun j u hu=>?_⟩
  rw [List.getElem?_drop] at hu
  have:=ho.cells (g:=g) rfl _ u hu
  rw [Addr.add_lit] at this
  simpa using this
theorem RPB.clone {w wr w8 : World} {T U : List Pf} {a : Option Addr} {n c : Nat} {xs : List Value} (R : RPB w (T ++ U) (.slice a n c) wr) (b8 : Below wr.heap.size wr w8) (xl : xs.length = U.length * 8) (x1 : ∀ u ∈ xs,u.oneCell' = true)
  (xa : ∀ g o,a = some ⟨g,o,none⟩ → o = 0 ∧ ∀ j u,xs[j]? = some u → wr.cell? ⟨g,T.length * 8 + j,none⟩ = some u) (hU : U.length ≤ 1000000) (a' : Option Addr) (n' c' : Nat) (hn : n' = U.length) (ha : a' = a.map (fun x=>x.add (T.length * 8)) ∨ (a' = a ∧ U.length = 0)) :
  Calls Tryz.prog 121 #[.slice a' n' c'] w8 fun e w'=>∃ v',e = .returned v' ∧ w'.ownsRow w8.heap.size 53 8 v' U.length xs ∧ Below w8.heap.size w8 w':=by
 subst hn
 obtain ⟨zs,ho,_⟩:=R.own
 obtain ⟨_,_,e⟩:=R.form
 cases e
 rcases ho.2 with ⟨h1,h2⟩ | ⟨g,cap,cur,h1,_⟩
 ·obtain ⟨rfl,-,rfl⟩:=Value.slice.inj h1
  have hU0 : U.length = 0:=by rw [List.length_append] at h2;omega
  have e0 : a' = none:=by rcases ha with h | h <;> simp [h]
  subst e0
  refine (clone_nil _ _ _).mono fun e w' ⟨h3,h4⟩=>⟨_,h3, ?_,by rw [h4];exact Below.refl _ _⟩
  have : xs = []:=List.eq_nil_of_length_eq_zero (by omega)
  rw [this,hU0]
  exact World.ownsRow_nil _ _ _ _
 ·cases h1
  obtain ⟨-,xa⟩:=xa g 0 rfl
  rcases ha with rfl | ⟨rfl,h0⟩
  ·refine JB _ _ _ xs xl x1 hU w8 fun j u hu=>?_
   have:=aA b8 _ _ (xa j u hu)
   show w8.cell? (((⟨g,0,none⟩ : Addr).add (T.length * 8)).add j) = some u
   rw [Addr.add_lit,Addr.add_lit]
   simpa using this
  ·refine JB _ _ _ xs xl x1 hU w8 fun j u hu=>?_
   have : xs = []:=List.eq_nil_of_length_eq_zero (by omega)
   rw [this] at hu;simp at hu
theorem RPB.cap {w wr : World} {S : List Pf} {a : Option Addr} {n c : Nat} (R : RPB w S (.slice a n c) wr) : n ≤ c ∧ c ≤ maxLen:=by
 obtain ⟨zs,ho,_⟩:=R.own
 rcases ho.2 with ⟨h1,h2⟩ | ⟨g,cap,cur,h1,_,_,h2,h3,_⟩
 ·obtain ⟨rfl,rfl,rfl⟩:=Value.slice.inj h1;exact ⟨Nat.le_refl _,Nat.zero_le _⟩
 ·cases h1;exact ⟨h2,h3⟩
theorem RPB.copied {w wr w1 : World} {T U : List Pf} {a : Option Addr} {n c base : Nat} {xs : List Value} {v : Value} (R : RPB w (T ++ U) (.slice a n c) wr) (hs : wr.heap.size ≤ base) (hc : aX (hide (fun k=>lo1 w k || decide ((Value.slice a n c).ownBlock = some k)) wr) (cX U) xs)
  (ho : w1.ownsRow base 53 8 v U.length xs) (B : Below wr.heap.size wr w1) : PfsB (hide (fun k=>lo1 w k || decide ((Value.slice a n c).ownBlock = some k)) w1) U v:=by
 have lt:=pH R.own.w
 have O : OwnB (fun k=>lo1 w k || decide ((Value.slice a n c).ownBlock = some k)) base w1 53 8 U.length (cX U) v:=by
  refine ⟨xs,ho,hc.keep (aS fun k h1 h2=>⟨?_,B.block k h1⟩)⟩
  rw [Bool.or_eq_false_iff]
  refine ⟨h2, ?_⟩
  simp only [decide_eq_false_iff_not]
  intro e
  have:=(ho.lt k e).1
  omega
 have hb:=R.base
 exact O.at fun k hk=>by
  simp only [lo1,Bool.or_eq_false_iff,decide_eq_false_iff_not]
  exact ⟨by omega,fun e=>by have:=lt k e;omega⟩
theorem RPB.filled {w wr w5 w7 w9 : World} {T : List Pf} {q : Pf} {a fa fb s qa ca : Option Addr} {n c fn fc fm fd sn sc qn qc m cc : Nat} {xs : List Value} (R : RPB w (T ++ q.sub) (.slice a n c) wr) (b5 : Below wr.heap.size wr w5) (b7 : Below w5.heap.size w5 w7)
  (h1 : TmsB (hide (lo w5) w7) q.form.args (.slice fa fn fc)) (h2 : FmsB (hide (lo w5) w7) q.form.sub (.slice fb fm fd)) (h4 : fS (hide (lo w5) w7) q.marks (.slice qa qn qc))
  (xc : aX (hide (fun k=>lo1 w k || decide ((Value.slice a n c).ownBlock = some k)) wr) (cX q.sub) xs)
  (ho : w9.ownsRow (w7.alloc (.cells #[str q.rule,.int .u8 q.form.op,str q.form.name,.slice fa fn fc,.slice fb fm fd,.int .i64 q.label,.slice s sn sc,.slice qa qn qc] 53)).heap.size 53 8 (.slice ca m cc) q.sub.length xs)
  (b9 : Below (w7.alloc (.cells #[str q.rule,.int .u8 q.form.op,str q.form.name,.slice fa fn fc,.slice fb fm fd,.int .i64 q.label,.slice s sn sc,.slice qa qn qc] 53)).heap.size (w7.alloc (.cells #[str q.rule,.int .u8 q.form.op,str q.form.name,.slice fa fn fc,.slice fb fm fd,.int .i64 q.label,.slice s sn sc,.slice qa qn qc] 53)) w9) :
  w9.heap[w7.heap.size]? = some (.cells #[str q.rule,.int .u8 q.form.op,str q.form.name,.slice fa fn fc,.slice fb fm fd,.int .i64 q.label,.slice s sn sc,.slice qa qn qc] 53 (0,0)) ∧
  ∀ wF,wF = w9.setCell ⟨w7.heap.size,6,none⟩ (.slice ca m cc) → wF.heap[w7.heap.size]? = some (.cells #[str q.rule,.int .u8 q.form.op,str q.form.name,.slice fa fn fc,.slice fb fm fd,.int .i64 q.label,.slice ca m cc,.slice qa qn qc] 53 (0,0)) ∧ Below wr.heap.size wr wF ∧
   aX (hide (fun k=>lo1 w k || decide ((Value.slice a n c).ownBlock = some k)) wF) q.ds [str q.rule,.int .u8 q.form.op,str q.form.name,.slice fa fn fc,.slice fb fm fd,.int .i64 q.label,.slice ca m cc,.slice qa qn qc]:=by
 have c9:=kc b9 (heap_alloc_new w7 _)
 refine ⟨c9,fun wF hF=>?_⟩
 have lt:=pH R.own.w
 have hb:=R.base
 have z5:=b5.size
 have z7:=b7.size
 have B8:=aB (aB b5 b7) ((Below.refl _ _).alloc (Nat.le_refl _) (.cells #[str q.rule,.int .u8 q.form.op,str q.form.name,.slice fa fn fc,.slice fb fm fd,.int .i64 q.label,.slice s sn sc,.slice qa qn qc] 53))
 have B9:=aB B8 b9
 rw [World.size_alloc] at ho
 have BF : Below wr.heap.size wr wF:=by rw [hF];exact B9.setCell (by show wr.heap.size ≤ w7.heap.size;omega) _
 have oF : wF.ownsRow (w7.heap.size + 1) 53 8 (.slice ca m cc) q.sub.length xs:=lJ ho fun i o hi hio _=>by rw [hF,Below.heap_setCell _ _ _ _ (by show i ≠ w7.heap.size;omega)];exact hio
 have K : bY (hide (lo w5) w7) (hide (fun k=>lo1 w k || decide ((Value.slice a n c).ownBlock = some k)) wF):=aS fun k h1 h2=>by
  simp only [lo,lo1,decide_eq_false_iff_not,Nat.not_lt,Bool.or_eq_false_iff] at h2 ⊢
  refine ⟨⟨by omega,fun e=>by have:=lt k e;omega⟩, ?_⟩
  rw [hF,Below.heap_setCell _ _ _ _ (by show k ≠ w7.heap.size;omega),b9.block k (by simp;omega)]
  exact Below.heap_alloc _ _ _ h1
 exact ⟨by rw [hF];exact row_fill6 c9,BF,pf_cellsB (h1.keep K) (h2.keep K) (R.copied (by omega) xc oF BF) (h4.keep K)⟩
theorem RPB.step {w wr w1 : World} {T : List Pf} {q : Pf} {a : Option Addr} {n c : Nat} {ys : List Value} (R : RPB w (T ++ q.sub) (.slice a n c) wr) (b1 : Below wr.heap.size wr w1)
  (he : aX (hide (fun k=>lo1 w k || decide ((Value.slice a n c).ownBlock = some k)) w1) q.ds ys) :
  ∃ xs,(w1.alloc (.cells ys.toArray 53)).ownsRow (w.heap.size + 1) 53 8 (.slice a T.length c) T.length xs ∧ ∀ v' w5,w5.ownsRow (w.heap.size + 1) 53 8 v' (T.length + 1) (xs ++ ys) →
   (w1.alloc (.cells ys.toArray 53)).grownBy w5 (Value.slice a T.length c).ownBlock → (v'.ownBlock = (Value.slice a T.length c).ownBlock ∨ v'.ownBlock = some (w1.alloc (.cells ys.toArray 53)).heap.size) → RPB w (T ++ [q]) v' w5:=by
 have hv:=pH R.own.w
 have hob : (Value.slice a T.length c).ownBlock = (Value.slice a n c).ownBlock:=by cases a <;> rfl
 obtain ⟨a',c',e⟩:=R.form
 cases e
 have O:=R.own.cut (j:=T.length) (by simp)
 rw [← pfsDs_take,List.take_left] at O
 obtain ⟨xs,ho,hf⟩:=FM (ty:=53) O lo1_off b1 (by rw [hob];exact he)
 refine ⟨xs,ho,fun v' w5 h5 hg hat=>?_⟩
 have B1 : Below wr.heap.size wr (w1.alloc (.cells ys.toArray 53)):=aB b1 bnew
 have hb:=R.base
 have hs:=B1.size
 have gb : ∀ j,j < w.heap.size + 1 → w5.heap[j]? = wr.heap[j]?:=fun j hj=>by
  rw [hg.block j (by omega) (fun e=>by rw [hob] at e;have:=hv j e.symm;omega)]
  exact B1.block j (by omega)
 refine ⟨⟨hg.os.trans (B1.os.trans R.bw.os),hg.tape.trans (B1.tape.trans R.bw.tape),hg.output.trans (B1.output.trans R.bw.output),Nat.le_trans R.bw.size (Nat.le_trans hs hg.size),fun j hj=>(gb j (by omega)).trans (R.bw.block j hj)⟩,(gb _ (by omega)).trans R.res, ?_⟩
 have:=hf v' w5 h5 hg hat
 rwa [List.length_append,List.length_singleton,tA,show cX [q] = q.ds by simp [cX]]
structure IO (w wr : World) (P : Pf) (g : Nat) (x : Option Addr) (xk xe : Nat) (y : Option Addr) (m d : Nat) (s : Option Addr) (sn sc : Nat) (q : Option Addr) (qn qc : Nat) : Prop where
 ge : w.heap.size + 1 ≤ g
 c0 : wr.cell? ⟨g,0,none⟩ = some (str P.rule)
 c1 : wr.cell? ⟨g,1,none⟩ = some (.int .u8 P.form.op)
 c2 : wr.cell? ⟨g,2,none⟩ = some (str P.form.name)
 c3 : wr.cell? ⟨g,3,none⟩ = some (.slice x xk xe)
 c4 : wr.cell? ⟨g,4,none⟩ = some (.slice y m d)
 c5 : wr.cell? ⟨g,5,none⟩ = some (.int .i64 P.label)
 c6 : wr.cell? ⟨g,6,none⟩ = some (.slice s sn sc)
 c7 : wr.cell? ⟨g,7,none⟩ = some (.slice q qn qc)
 h1 : TmsB (hide (lo1 w) wr) P.form.args (.slice x xk xe)
 h2 : FmsB (hide (lo1 w) wr) P.form.sub (.slice y m d)
 h3 : PfsB (hide (lo1 w) wr) P.sub (.slice s sn sc)
 h4 : fS (hide (lo1 w) wr) P.marks (.slice q qn qc)
theorem IO.below {w wr w' : World} {P : Pf} {g : Nat} {x y s q : Option Addr} {xk xe m d sn sc qn qc : Nat} (O : IO w wr P g x xk xe y m d s sn sc q qn qc) (b : Below wr.heap.size wr w') : IO w w' P g x xk xe y m d s sn sc q qn qc:=by
 have k:=aA b
 have K : bY (hide (lo1 w) wr) (hide (lo1 w) w'):=aS fun i h1 h2=>⟨h2,b.block i h1⟩
 exact ⟨O.ge,k _ _ O.c0,k _ _ O.c1,k _ _ O.c2,k _ _ O.c3,k _ _ O.c4,k _ _ O.c5,k _ _ O.c6,k _ _ O.c7,O.h1.keep K,O.h2.keep K,O.h3.keep K,O.h4.keep K⟩
theorem RPB.only {w wr : World} {P : Pf} {a : Option Addr} {n c : Nat} (R : RPB w [P] (.slice a n c) wr) : ∃ g x xk xe y m d s sn sc q qn qc,a = some ⟨g,0,none⟩ ∧ n = 1 ∧ g < wr.heap.size ∧ IO w wr P g x xk xe y m d s sn sc q qn qc:=by
 have lt:=pH R.own.w
 obtain ⟨xs,ho,hc⟩:=R.own
 obtain ⟨a0,c0,e0⟩:=gP ho
 rcases ho.2 with ⟨e,h0⟩ | ⟨g,cap,cur,e,hb,hg,_⟩
 ·cases h0
 ·obtain rfl : a = some ⟨g,0,none⟩:=by cases e;rfl
  have hx:=fun j u h=>ho.cells (g:=g) rfl j u h
  have hk : bY (hide (fun k=>lo1 w k || decide ((Value.slice (some ⟨g,0,none⟩) n c).ownBlock = some k)) wr) (hide (lo1 w) wr):=aS fun k h1 h2=>⟨(Bool.or_eq_false_iff.1 h2).1,rfl⟩
  obtain ⟨r,⟨op,nm,ta,sub⟩,lb,ps,ms⟩:=P
  have cell : ∀ t d,(cX [Pf.mk r (.mk op nm ta sub) lb ps ms])[t]? = some d → ∃ u,wr.cell? ⟨g,t,none⟩ = some u ∧ AtB (hide (lo1 w) wr) d u:=by
   intro t d hd
   obtain ⟨u,h1,h2⟩:=hc.2 _ d hd
   have:=hx _ u h1
   rw [Addr.add_lit] at this
   exact ⟨u,by simpa using this,AtB.keep hk _ _ h2⟩
  obtain ⟨u0,k0,p0⟩:=cell 0 (.val (str r)) rfl
  obtain ⟨u1,k1,p1⟩:=cell 1 (.val (.int .u8 op)) rfl
  obtain ⟨u2,k2,p2⟩:=cell 2 (.val (str nm)) rfl
  obtain ⟨u3,k3,p3⟩:=cell 3 (.sl 3 ta.length (cC ta)) rfl
  obtain ⟨u4,k4,p4⟩:=cell 4 (.sl 4 sub.length (cH sub)) rfl
  obtain ⟨u5,k5,p5⟩:=cell 5 (.val (.int .i64 lb)) rfl
  obtain ⟨u6,k6,p6⟩:=cell 6 (.sl 8 ps.length (cX ps)) rfl
  obtain ⟨u7,k7,p7⟩:=cell 7 (.sl 1 ms.length (ms.map eY)) rfl
  obtain ⟨x,xk,xe,rfl⟩:=TmsB.slice (l:=ta) p3
  obtain ⟨y,m,d,rfl⟩:=FmsB.slice (l:=sub) p4
  obtain ⟨s,sn,sc',rfl⟩:=PfsB.slice (l:=ps) p6
  obtain ⟨q,qn,qc,rfl⟩:=fS.slice (l:=ms) p7
  have e0 : u0 = _:=p0
  have e1 : u1 = _:=p1
  have e2 : u2 = _:=p2
  have e5 : u5 = _:=p5
  subst e0 e1 e2 e5
  exact ⟨g,x,xk,xe,y,m,d,s,sn,sc',q,qn,qc,rfl,by cases e;rfl,(Array.getElem?_eq_some_iff.1 hg).1,hb,k0,k1,k2,k3,k4,k5,k6,k7,p3,p4,p6,p7⟩
end Go.Proofs.YtcandidgaegghaaGreatDoor
namespace Go.Proofs
open Go.Shelf
def Tryz.lays193_ren : Go.Shelf.Ren:=⟨fun | 193=>122 | n=>n,fun | 31=>36 | 9=>9 | 4=>4 | 3=>3 | 0=>0 | n=>n,fun | n=>n⟩
theorem Tryz.lays193 : Go.Proofs.Lays.n193 Tryz.prog Tryz.lays193_ren:={
 mixed:=by kernel_rfl
 f193:=Tryz.func122.trans (congrArg some (by kernel_rfl))
 t0:=Tryz.underlying0
 a0:=Tryz.isAgg0
 z0:=Tryz.sizeOf0
 v0:=Tryz.zeroValue0
 t3:=Tryz.underlying3
 a3:=Tryz.isAgg3
 z3:=Tryz.sizeOf3
 v3:=Tryz.zeroValue3
 t4:=Tryz.underlying4
 a4:=Tryz.isAgg4
 z4:=Tryz.sizeOf4
 v4:=Tryz.zeroValue4
 t9:=Tryz.underlying9
 a9:=Tryz.isAgg9
 z9:=Tryz.sizeOf9
 v9:=Tryz.zeroValue9
 t31:=Tryz.underlying36
 a31:=Tryz.isAgg36
 z31:=Tryz.sizeOf36
 v31:=Tryz.zeroValue36 }
open Go.RowKit Go.Lib in
theorem Tryz.slices_Equal_string (b1 o1 n c b2 o2 m d : Nat) (xs ys : List ByteArray) (w : World) (hx : n ≤ xs.length) (hy : m ≤ ys.length) (hbig : n ≤ 9223372036854775807) (hbig2 : m ≤ 9223372036854775807) (hc1 : ∀ j,j < xs.length → w.cell? ⟨b1,o1 + j,none⟩ = some (.string (xs.getD j ByteArray.empty))) (hc2 : ∀ j,j < ys.length → w.cell? ⟨b2,o2 + j,none⟩ = some (.string (ys.getD j ByteArray.empty))) :
  Calls Tryz.prog 122 #[.slice (some ⟨b1,o1,none⟩) n c,.slice (some ⟨b2,o2,none⟩) m d] w fun e w'=>e = .returned (.bool (decide (xs.take n = ys.take m))) ∧ ∃ q,w' = w.drewN q:=Any.slices_Equal_string Tryz.lays193 b1 o1 n c b2 o2 m d xs ys w hx hy hbig hbig2 hc1 hc2
end Go.Proofs
namespace Go.Proofs.YtcandidgaegghaaGreatDoor
open Go Go.RowKit Ly
theorem LX (tmps : Array Value) (w : World) (g : Nat) (a b c d e f x y z : Value) (h2 : tmps.getD 2 undef = one g) (h3 : tmps.getD 3 undef = z) (hg : w.heap[g]? = some (.cells #[a,b,c,d,e,f,x,y] 53 (0,0))) :
  (results Tryz.f46 tmps).run Tryz.prog w = .ok (.tuple #[.agg #[a,b,c,d,e,f,x,y],z]) w:=by
 obtain ⟨fs,h1⟩:=u53
 have e2 : tmps[2]?.getD undef = .pointer (some ⟨g,0,none⟩):=by simpa using h2
 have e3 : tmps[3]?.getD undef = z:=by simpa using h3
 simp [results,Tryz.results46,e2,e3,asAddr,run_loadVar_row w g 53 53 #[a,b,c,d,e,f,x,y] (0,0) _ hg h1 rfl i53]
theorem mk_inj (L M : List Bs) : (L.map fun s=>(⟨s.toArray⟩ : ByteArray)) = (M.map fun s=>(⟨s.toArray⟩ : ByteArray)) ↔ L = M:=by
 constructor
 ·intro h
  have:=congrArg (List.map fun b : ByteArray=>b.data.toList) h
  simpa [List.map_map,Function.comp_def] using this
 ·rintro rfl;rfl
theorem equal_any (L M : List Bs) (hL : L ≠ []) (hM : M ≠ []) (sa : Option Addr) (sN sC : Nat) (la : Option Addr) (N lc : Nat) (w : World) (h1 : aU w L (.slice sa sN sC)) (h2 : aU w M (.slice la N lc)) :
  Calls Tryz.prog 122 #[.slice sa sN sC,.slice la N lc] w (Rt (.bool (decide (L = M))) w):=by
 have l1:=h1.len
 have l2:=h2.len
 have m1:=le63 l1.2.2
 have m2:=le63 l2.2.2
 obtain ⟨b1,o1,rfl,c1⟩:=h1.get hL
 obtain ⟨b2,o2,rfl,c2⟩:=h2.get hM
 have cell : ∀ (K : List Bs) (b o : Nat),(∀ (j : Nat) (x : Bs),K[j]? = some x → w.cell? ⟨b,o + j,none⟩ = some (str x)) → ∀ j,j < (K.map fun s=>(⟨s.toArray⟩ : ByteArray)).length → w.cell? ⟨b,o + j,none⟩ = some (.string ((K.map fun s=>(⟨s.toArray⟩ : ByteArray)).getD j ⟨#[]⟩)):=fun K b o h j hj=>by
  rw [List.length_map] at hj
  rw [h j _ (List.getElem?_eq_getElem hj)]
  simp [List.getD_eq_getElem?_getD,hj,str]
 refine (Tryz.slices_Equal_string b1 o1 sN sC b2 o2 N lc (L.map fun s=>⟨s.toArray⟩) (M.map fun s=>⟨s.toArray⟩) w (by simp;omega) (by simp;omega) (by omega) (by omega) (cell L b1 o1 c1) (cell M b2 o2 c2)).mono fun e w' ⟨h3,q,h4⟩=>⟨?_, ?_⟩
 ·rw [h3,List.take_of_length_le (by simp;omega),List.take_of_length_le (by simp;omega)]
  simp only [mk_inj]
 ·rw [h4];exact ⟨rfl,rfl,rfl,Nat.le_refl _,fun _ _=>rfl⟩
def PfB (w : World) (p : Pf) (u : Value) : Prop :=
 ∃ a n c b m d s sn sc q qn qc,u = .agg #[str p.rule,.int .u8 p.form.op,str p.form.name,.slice a n c,.slice b m d,.int .i64 p.label,.slice s sn sc,.slice q qn qc] ∧
  TmsB w p.form.args (.slice a n c) ∧ FmsB w p.form.sub (.slice b m d) ∧ PfsB w p.sub (.slice s sn sc) ∧ fS w p.marks (.slice q qn qc)
theorem PfB.w {w : World} {p : Pf} {u : Value} (h : PfB w p u) : cU w p u:=by
 obtain ⟨a,n,c,b,m,d,s,sn,sc,q,qn,qc,e,h1,h2,h3,h4⟩:=h
 exact ⟨a,n,c,b,m,d,s,sn,sc,q,qn,qc,e,h1.w,h2.w,h3.w,h4.w⟩
theorem PfB.keep {w w' : World} {p : Pf} {u : Value} (h : PfB w p u) (k : bY w w') : PfB w' p u:=by
 obtain ⟨a,n,c,b,m,d,s,sn,sc,q,qn,qc,e,h1,h2,h3,h4⟩:=h
 exact ⟨a,n,c,b,m,d,s,sn,sc,q,qn,qc,e,h1.keep k,h2.keep k,h3.keep k,h4.keep k⟩
def zM (l : List Bs) (w : World) (e : Ending) (w' : World) : Prop :=
 Below w.heap.size w w' ∧ ((∃ P v,l.length ≤ 300 ∧ dB l = some P ∧ e = .returned (.tuple #[v,.int .i64 0]) ∧ PfB (hide (lo w) w') P v) ∨
  (∃ c : Int,((300 < l.length ∧ c = 5) ∨ (l.length ≤ 300 ∧ dB l = none ∧ c = 2)) ∧ e = .returned (.tuple #[.agg #[str [],.int .u8 0,str [],.slice none 0 0,.slice none 0 0,.int .i64 0,.slice none 0 0,.slice none 0 0],.int .i64 c])))
theorem proof_finB {w W W' : World} {a b c d e f x y z0 z1 z2 z3 z4 z5 z6 z7 : Value} (bw : Below w.heap.size w W) (hres : W.heap[w.heap.size]? = some (.cells #[z0,z1,z2,z3,z4,z5,z6,z7] 53 (0,0))) (hW : W' = kI W w.heap.size a b c d e f x y) :
  Below w.heap.size w W' ∧ W'.heap[w.heap.size]? = some (.cells #[a,b,c,d,e,f,x,y] 53 (0,0)) ∧ bY (hide (lo1 w) W) (hide (lo w) W'):=by
 obtain ⟨q1,q2,-⟩:=proof_fin bw hres hW
 have low : ∀ i,i ≠ w.heap.size → W'.heap[i]? = W.heap[i]?:=fun i hi=>by rw [hW];exact yH hi
 refine ⟨q1,q2,aS fun k h1 h2=>?_⟩
 simp only [lo1,decide_eq_false_iff_not] at h2
 exact ⟨by simp [lo];omega,low k (by omega)⟩
theorem pM {ls : List Bs} {w W : World} {a b c d e f x y z z0 z1 z2 z3 z4 z5 z6 z7 : Value} {tmps : Array Value} (bw : Below w.heap.size w W) (hres : W.heap[w.heap.size]? = some (.cells #[z0,z1,z2,z3,z4,z5,z6,z7] 53 (0,0)))
  (h2 : tmps.getD 2 undef = one w.heap.size) (h3 : tmps.getD 3 undef = z) (post : ∀ W',Below w.heap.size w W' → bY (hide (lo1 w) W) (hide (lo w) W') → zM ls w (.returned (.tuple #[.agg #[a,b,c,d,e,f,x,y],z])) W') :
  bodyPost Tryz.prog Tryz.f46 (zM ls w) .ret ⟨tmps,[]⟩ (kI W w.heap.size a b c d e f x y):=by
 obtain ⟨q1,q2,q3⟩:=proof_finB (W':=kI W w.heap.size a b c d e f x y) bw hres rfl
 exact bodyPost_ret (LX tmps _ w.heap.size a b c d e f x y z h2 h3 q2) rfl (post _ q1 q3)
theorem ReadProof_long (ls : List Bs) (hn : 300 < ls.length) (la : Option Addr) (N lc : Nat) (w : World) (hL : aU w ls (.slice la N lc)) : Calls Tryz.prog 46 #[.slice la N lc] w (zM ls w):=by
 have l1:=hL.len
 have m1:=le63 l1.2.2
 have n0 : (300 : Int) < N:=by omega
 have HN:=Hd hn
 have zr:=heap_alloc_new w (.cells #[str [],.int .u8 0,str [],.slice none 0 0,.slice none 0 0,.int .i64 0,.slice none 0 0,.slice none 0 0] 53)
 have R0:=Hd zr
 have B0 : Hid (Below w.heap.size w (w.alloc (.cells #[str [],.int .u8 0,str [],.slice none 0 0,.slice none 0 0,.int .i64 0,.slice none 0 0,.slice none 0 0] 53))):=bnew
 clear hL l1 hn zr
 go_enter Tryz.func46,Tryz.ntmps46
 go_wp2_with fail
 exact bodyPost_ret (LX _ _ w.heap.size _ _ _ _ _ _ _ _ _ rfl rfl R0.out) rfl ⟨B0.out,.inr ⟨5,.inl ⟨HN.out,rfl⟩,rfl⟩⟩
theorem lineGot_sz {s : Bs} {q : Pf} (h : cO s = some q) (hs : s.length ≤ 1000000000) : q.form.right = true ∧ q.rule.length ≤ 1000000000:=by
 obtain ⟨a,b,t,hc⟩ : ∃ a b t,Lib.cut s cs = (a,b,t):=⟨_,_,_,rfl⟩
 have ls:=mN hc
 unfold cO at h
 rw [hc] at h
 simp only at h
 split at h
 ·split at h
  ·split at h
   ·split at h
    ·rename_i hr
     simp only [Option.some.injEq] at h;subst h
     exact ⟨vP hr,by simp [Pf.rule]⟩
    ·cases h
   ·cases h
  ·split at h
   ·rename_i hr
    have RT:=vP hr
    split at h
    ·simp only [Option.some.injEq] at h;subst h
     exact ⟨RT,by simp [Pf.rule,hole]⟩
    ·split at h
     ·obtain ⟨r,J,u,hc2⟩ : ∃ r J u,Lib.cut (Lib.trimPrefix b byT) fJ = (r,J,u):=⟨_,_,_,rfl⟩
      have l2:=mN hc2
      have l3:=pP b byT
      rw [hc2] at h
      simp only at h
      split at h
      ·split at h
       ·simp only [Option.some.injEq] at h;subst h
        exact ⟨RT,by simp only [Pf.rule];omega⟩
       ·cases h
      ·simp only [Option.some.injEq] at h;subst h
       exact ⟨RT,by simp only [Pf.rule];omega⟩
     ·cases h
   ·cases h
 ·cases h
theorem step_good {i : Nat} {S : List Pf} {ln T1 : Bs} {q : Pf} (hT : Lib.itoa ((i : Int) + 1) = T1) (hok : Lib.hasPrefix ln (T1 ++ eE) = true) (hq : cO (Lib.trimPrefix ln (T1 ++ eE)) = some q) (hm : q.marks.length ≤ S.length) :
  ∃ T q',S = T ++ q'.sub ∧ q'.rule = q.rule ∧ q'.form = q.form ∧ q'.label = q.label ∧ q'.marks = q.marks ∧ q'.sub.length = q.marks.length ∧ iG i S ln = some (T ++ [q']):=by
 refine ⟨S.take (S.length - q.marks.length),.mk q.rule q.form q.label (S.drop (S.length - q.marks.length)) q.marks, ?_,rfl,rfl,rfl,rfl, ?_, ?_⟩
 ·simp only [Pf.sub];exact (List.take_append_drop _ _).symm
 ·simp only [Pf.sub,List.length_drop];omega
 ·unfold iG
  rw [hT,if_pos hok,hq]
  simp only
  rw [if_neg (by omega)]
theorem tN {i : Nat} {S : List Pf} {ln T1 : Bs} (hT : Lib.itoa ((i : Int) + 1) = T1) (h : Lib.hasPrefix ln (T1 ++ eE) = false ∨ cO (Lib.trimPrefix ln (T1 ++ eE)) = none ∨ ∃ q,cO (Lib.trimPrefix ln (T1 ++ eE)) = some q ∧ S.length < q.marks.length) : iG i S ln = none:=by
 unfold iG
 rw [hT]
 rcases h with h | h | ⟨q,h,hl⟩
 ·rw [h];rfl
 ·split
  ·rw [h]
  ·rfl
 ·split
  ·rw [h];simp only;rw [if_pos hl]
  ·rfl
theorem run_next {ls : List Bs} {j : Nat} {ln : Bs} {S : List Pf} (h : fW 0 [] (ls.take j) = some S) (hx : ls[j]? = some ln) (hj : j < ls.length) : fW 0 [] (ls.take (j + 1)) = iG j S ln:=by
 rw [take_snoc hx,vU,h]
 simp only
 rw [List.length_take,Nat.zero_add,Nat.min_eq_left (by omega)]
theorem tI {ls : List Bs} {j : Nat} (h : fW 0 [] (ls.take j) = none) : dB ls = none:=by
 have:=vS (ls.take j) (ls.drop j) 0 [] h
 rw [List.take_append_drop] at this
 unfold dB
 rw [this]
theorem cutPrefix_num (ln T1 : Bs) (W : World) : Calls Tryz.prog 39 #[str ln,.string (⟨T1.toArray⟩ ++ ⟨#[58,32]⟩)] W fun e w'=>e = .returned (.tuple #[str (Lib.trimPrefix ln (T1 ++ eE)),.bool (Lib.hasPrefix ln (T1 ++ eE))]) ∧ w' = W:=by
 have e0 : (⟨T1.toArray⟩ ++ ⟨#[58,32]⟩ : ByteArray) = ⟨(T1 ++ eE).toArray⟩:=mk_app T1 eE
 rw [e0]
 exact jT (T1 ++ eE) ln W
open Go Go.RowKit Go.Sort Ly
def jE (w0 W : World) (b : Nat) : Prop:=w0.heap.size ≤ b ∧ b < W.heap.size
theorem slB {w0 W : World} {size n : Nat} {ds : List D} {u : Value} (h : AtB (hide (lo w0) W) (.sl size n ds) u) : ∃ a c,u = .slice a n c ∧ n ≤ c ∧ c ≤ 9223372036854775807 ∧ (c = 0 ∨ ∃ (b : Nat) (xs : Array Value) (t : TypeId),a = some ⟨b,0,none⟩ ∧ jE w0 W b ∧ W.heap[b]? = some (Obj.cells xs t (0,0)) ∧ TyOk size ds t ∧ c * size ≤ xs.size ∧ ∀ (j : Nat) (d : D),ds[j]? = some d → ∃ v,xs[j]? = some v ∧ AtB (hide (lo w0) W) d v):=by
 obtain ⟨a,c,rfl,h1,h2,h3,h4⟩:=h
 refine ⟨a,c,rfl,h1,le63 h2, ?_⟩
 rcases h4 with h4 | ⟨b,xs,t,e,h5,h6,h7,h8⟩
 ·exact .inl h4
 ·obtain ⟨hp,hb⟩:=lG h5
  refine .inr ⟨b,xs,t,e,⟨by simpa [lo] using hp,(Array.getElem?_eq_some_iff.1 hb).1⟩,hb,h6,h7,fun j d hd=>?_⟩
  obtain ⟨v,k1,k2⟩:=h8.get j d hd
  rw [box_cell h5,Nat.zero_add] at k1
  exact ⟨v,k1,k2⟩
section
variable {w0 W : World}
theorem KL (l : List Tm) (hl : l.length ≤ 1000000) (h : ∃ n0 : Nat,∀ t ∈ l,∀ n,n0 ≤ n → ∀ u,TmsB (hide (lo w0) W) t.args u → OkTs (jE w0 W) W n u) : ∃ n0 : Nat,∀ n,n0 ≤ n → ∀ u,TmsB (hide (lo w0) W) l u → OkTs (jE w0 W) W n u:=by
 obtain ⟨n0,h⟩:=h
 refine ⟨n0 + 1,fun n hn u hu=>?_⟩
 obtain ⟨k,rfl⟩ : ∃ k,n = k + 1:=⟨n - 1,by omega⟩
 obtain ⟨a,c,rfl,h1,h2,h3⟩:=slB hu
 refine ⟨a,l.length,c,rfl,h1,h3.elim .inl fun ⟨b,xs,t,e,hb,hg,ht,hs,hc⟩=>.inr ?_⟩
 obtain rfl : t = 95:=by simpa [TyOk] using ht
 refine ⟨b,0,xs,e,hb,by omega,hg,by omega,⟨by omega,h2⟩,fun j hj=>?_⟩
 obtain ⟨⟨v,nm,ts1⟩,hT⟩:=aF hj
 obtain ⟨u0,k0,p0⟩:=hc (j * 3) (.val (.bool v)) (iM l j _ hT 0 (by omega))
 obtain ⟨u1,k1,p1⟩:=hc (j * 3 + 1) (.val (str nm)) (iM l j _ hT 1 (by omega))
 obtain ⟨u2,k2,p2⟩:=hc (j * 3 + 2) (.sl 3 ts1.length (cC ts1)) (iM l j _ hT 2 (by omega))
 have p0' : u0 = _:=p0
 have p1' : u1 = _:=p1
 subst p0' p1'
 exact ⟨v,nm,u2,by rw [Nat.zero_add];exact k0,by rw [Nat.zero_add];exact k1,by rw [Nat.zero_add];exact k2,h _ (List.mem_of_getElem? hT) k (by omega) u2 p2⟩
mutual
theorem Tm.okB : ∀ t : Tm,t.nodes ≤ 1000000 → ∃ n0 : Nat,∀ n,n0 ≤ n → ∀ u,TmsB (hide (lo w0) W) t.args u → OkTs (jE w0 W) W n u
 | .mk v n l,h=>by
  rw [Tm.nodes] at h
  exact KL l (by have:=kS l;omega) (IH l (by omega))
theorem IH : ∀ l : List Tm,aD l ≤ 1000000 → ∃ n0 : Nat,∀ t ∈ l,∀ n,n0 ≤ n → ∀ u,TmsB (hide (lo w0) W) t.args u → OkTs (jE w0 W) W n u
 | [],_=>⟨0,fun t ht=>by simp at ht⟩
 | t :: ts,h=>by
  simp only [aD] at h
  obtain ⟨a,ha⟩:=Tm.okB t (by omega)
  obtain ⟨b,hb⟩:=IH ts (by omega)
  refine ⟨a + b,fun x hx n hn u hu=>?_⟩
  rcases List.mem_cons.1 hx with rfl | hx
  ·exact ha n (by omega) u hu
  ·exact hb x hx n (by omega) u hu
end
theorem DC (l : List Tm) (h : aD l ≤ 1000000) : ∃ n : Nat,∀ u,TmsB (hide (lo w0) W) l u → OkTs (jE w0 W) W n u:=by
 obtain ⟨n0,hh⟩:=KL (w0:=w0) (W:=W) l (by have:=kS l;omega) (IH l h)
 exact ⟨n0,fun u hu=>hh n0 (Nat.le_refl _) u hu⟩
theorem DI (l : List Fm) (hl : aK l ≤ 1000000) (h : ∃ n0 : Nat,∀ t ∈ l,∀ n,n0 ≤ n → ∀ u,FmsB (hide (lo w0) W) t.sub u → OkFs (jE w0 W) W n u) : ∃ n0 : Nat,∀ n,n0 ≤ n → ∀ u,FmsB (hide (lo w0) W) l u → OkFs (jE w0 W) W n u:=by
 obtain ⟨n0,h⟩:=h
 refine ⟨n0 + 1,fun n hn u hu=>?_⟩
 obtain ⟨k,rfl⟩ : ∃ k,n = k + 1:=⟨n - 1,by omega⟩
 obtain ⟨a,c,rfl,h1,h2,h3⟩:=slB hu
 refine ⟨a,l.length,c,rfl,h1,h3.elim .inl fun ⟨b,xs,t,e,hb,hg,ht,hs,hc⟩=>.inr ?_⟩
 obtain rfl : t = 25:=by simpa [TyOk] using ht
 refine ⟨b,0,xs,e,hb,by omega,hg,by omega,⟨by have:=nI l;omega,h2⟩,fun j hj=>?_⟩
 obtain ⟨⟨op,nm,ts1,sub⟩,hT⟩:=aF hj
 obtain ⟨u0,k0,p0⟩:=hc (j * 4) (.val (.int .u8 op)) (gW l j _ hT 0 (by omega))
 obtain ⟨u1,k1,p1⟩:=hc (j * 4 + 1) (.val (str nm)) (gW l j _ hT 1 (by omega))
 obtain ⟨u2,k2,p2⟩:=hc (j * 4 + 2) (.sl 3 ts1.length (cC ts1)) (gW l j _ hT 2 (by omega))
 obtain ⟨u3,k3,p3⟩:=hc (j * 4 + 3) (.sl 4 sub.length (cH sub)) (gW l j _ hT 3 (by omega))
 have p0' : u0 = _:=p0
 have p1' : u1 = _:=p1
 subst p0' p1'
 have hn : aD ts1 ≤ 1000000:=by
  have h1:=sG (List.mem_of_getElem? hT)
  rw [Fm.nodes] at h1
  omega
 obtain ⟨kk,hk⟩:=DC (w0:=w0) (W:=W) ts1 hn
 exact ⟨op,nm,u2,u3,by rw [Nat.zero_add];exact k0,by rw [Nat.zero_add];exact k1,by rw [Nat.zero_add];exact k2,by rw [Nat.zero_add];exact k3,⟨kk,hk u2 p2⟩,h _ (List.mem_of_getElem? hT) k (by omega) u3 p3⟩
mutual
theorem Fm.okB : ∀ t : Fm,t.nodes ≤ 1000000 → ∃ n0 : Nat,∀ n,n0 ≤ n → ∀ u,FmsB (hide (lo w0) W) t.sub u → OkFs (jE w0 W) W n u
 | .mk o n ts1 l,h=>by
  rw [Fm.nodes] at h
  exact DI l (by omega) (DH l (by omega))
theorem DH : ∀ l : List Fm,aK l ≤ 1000000 → ∃ n0 : Nat,∀ t ∈ l,∀ n,n0 ≤ n → ∀ u,FmsB (hide (lo w0) W) t.sub u → OkFs (jE w0 W) W n u
 | [],_=>⟨0,fun t ht=>by simp at ht⟩
 | t :: ts,h=>by
  simp only [aK] at h
  obtain ⟨a,ha⟩:=Fm.okB t (by omega)
  obtain ⟨b,hb⟩:=DH ts (by omega)
  refine ⟨a + b,fun x hx n hn u hu=>?_⟩
  rcases List.mem_cons.1 hx with rfl | hx
  ·exact ha n (by omega) u hu
  ·exact hb x hx n (by omega) u hu
end
theorem ints_okB (m : List Int) (hl : m.length ≤ 1000000) (u : Value) (h : AtB (hide (lo w0) W) (eY m) u) : OkI w0.heap.size W u:=by
 obtain ⟨a,c,rfl,h1,h2,h3⟩:=slB h
 refine ⟨a,m.length,c,rfl,h1,h3.elim .inl fun ⟨b,xs,t,e,hb,hg,ht,hs,hc⟩=>.inr ?_⟩
 cases m with
 | nil=>exact absurd ht (by simp [TyOk])
 | cons x r =>
  obtain rfl : t = 3:=by simpa [TyOk,intD] using ht
  exact ⟨b,0,xs,e,hb.1,hg,by omega,by omega,h2⟩
theorem AR (ms : List (List Int)) (hl : ms.length ≤ 1000000) (hm : ∀ m ∈ ms,m.length ≤ 1000000) (u : Value) (h : fS (hide (lo w0) W) ms u) : OkMs w0.heap.size (jE w0 W) W u:=by
 obtain ⟨a,c,rfl,h1,h2,h3⟩:=slB h
 refine ⟨a,ms.length,c,rfl,h1,h3.elim .inl fun ⟨b,xs,t,e,hb,hg,ht,hs,hc⟩=>.inr ?_⟩
 cases ms with
 | nil=>exact absurd ht (by simp [TyOk])
 | cons x r =>
  obtain rfl : t = 29:=by simpa [TyOk,eY] using ht
  refine ⟨b,0,xs,e,hb,hg,by omega,⟨by omega,h2⟩,fun j hj=>?_⟩
  obtain ⟨m,hT⟩:=aF hj
  obtain ⟨v,k0,p0⟩:=hc j (eY m) (by rw [List.getElem?_map,hT];rfl)
  exact ⟨v,by rw [Nat.zero_add];exact k0,ints_okB m (hm m (List.mem_of_getElem? hT)) v p0⟩
end
end Go.Proofs.YtcandidgaegghaaGreatDoor
namespace Ly
mutual
def Pf.bd : Pf → Prop
 | .mk _ f _ ps ms=>(f.nodes ≤ 1000000 ∧ ps.length ≤ 1000000 ∧ ms.length ≤ 1000000 ∧ ∀ m ∈ ms,m.length ≤ 1000000) ∧ sY ps
def sY : List Pf → Prop
 | []=>True
 | p :: ps=>p.bd ∧ sY ps
end
theorem qS : ∀ l : List Pf,l.length ≤ aE l
 | []=>Nat.zero_le _
 | t :: ts=>by have:=qS ts;cases t;rw [aE,Pf.steps,List.length_cons];omega
theorem BH : ∀ l : List Pf,sY l ↔ ∀ t ∈ l,t.bd
 | []=>by simp [sY]
 | t :: ts=>by simp [sY,BH ts]
mutual
theorem Pf.bd_of : ∀ p : Pf,p.lim → p.steps ≤ 1000 → p.bd
 | .mk r f l ps ms,h,hs=>by
  simp only [Pf.lim] at h
  simp only [Pf.steps] at hs
  have h1:=qS ps
  exact ⟨⟨by omega,by omega,by omega,fun m hm=>by have:=h.1.2.2.2 m hm;omega⟩,FV ps h.2 (by omega)⟩
theorem FV : ∀ l : List Pf,lK l → aE l ≤ 1000 → sY l
 | [],_,_=>trivial
 | p :: ps,h,hs=>by
  simp only [lK] at h
  simp only [aE] at hs
  exact ⟨Pf.bd_of p h.1 (by omega),FV ps h.2 (by omega)⟩
end
end Ly
namespace Go.Proofs.YtcandidgaegghaaGreatDoor
open Go Go.RowKit Go.Sort Ly
section
variable {w0 W : World}
theorem JY (l : List Pf) (hl : l.length ≤ 1000000) (hb : sY l) (h : ∃ n0 : Nat,∀ t ∈ l,∀ n,n0 ≤ n → ∀ u,PfsB (hide (lo w0) W) t.sub u → OkPs w0.heap.size (jE w0 W) W n u) : ∃ n0 : Nat,∀ n,n0 ≤ n → ∀ u,PfsB (hide (lo w0) W) l u → OkPs w0.heap.size (jE w0 W) W n u:=by
 obtain ⟨n0,h⟩:=h
 refine ⟨n0 + 1,fun n hn u hu=>?_⟩
 obtain ⟨k,rfl⟩ : ∃ k,n = k + 1:=⟨n - 1,by omega⟩
 obtain ⟨a,c,rfl,h1,h2,h3⟩:=slB hu
 refine ⟨a,l.length,c,rfl,h1,h3.elim .inl fun ⟨b,xs,t,e,hb',hg,ht,hs,hc⟩=>.inr ?_⟩
 obtain rfl : t = 53:=by simpa [TyOk] using ht
 refine ⟨b,0,xs,e,hb',by omega,hg,by omega,⟨by omega,h2⟩,fun j hj=>?_⟩
 obtain ⟨⟨r,⟨op,nm,ts1,sub⟩,lb,ps,ms⟩,hT⟩:=aF hj
 obtain ⟨u0,k0,p0⟩:=hc (j * 8) (.val (str r)) (dG l j _ hT 0 (by omega))
 obtain ⟨u1,k1,p1⟩:=hc (j * 8 + 1) (.val (.int .u8 op)) (dG l j _ hT 1 (by omega))
 obtain ⟨u2,k2,p2⟩:=hc (j * 8 + 2) (.val (str nm)) (dG l j _ hT 2 (by omega))
 obtain ⟨u3,k3,p3⟩:=hc (j * 8 + 3) (.sl 3 ts1.length (cC ts1)) (dG l j _ hT 3 (by omega))
 obtain ⟨u4,k4,p4⟩:=hc (j * 8 + 4) (.sl 4 sub.length (cH sub)) (dG l j _ hT 4 (by omega))
 obtain ⟨u5,k5,p5⟩:=hc (j * 8 + 5) (.val (.int .i64 lb)) (dG l j _ hT 5 (by omega))
 obtain ⟨u6,k6,p6⟩:=hc (j * 8 + 6) (.sl 8 ps.length (cX ps)) (dG l j _ hT 6 (by omega))
 obtain ⟨u7,k7,p7⟩:=hc (j * 8 + 7) (.sl 1 ms.length (ms.map eY)) (dG l j _ hT 7 (by omega))
 have e0 : u0 = _:=p0
 have e1 : u1 = _:=p1
 have e2 : u2 = _:=p2
 have e5 : u5 = _:=p5
 subst e0 e1 e2 e5
 have hbd:=(BH l).1 hb _ (List.mem_of_getElem? hT)
 simp only [Pf.bd,Fm.nodes] at hbd
 obtain ⟨ka,hka⟩:=DC (w0:=w0) (W:=W) ts1 (by omega)
 obtain ⟨kf,hkf⟩:=DI (w0:=w0) (W:=W) sub (by omega) (DH sub (by omega))
 refine ⟨r,op,nm,u3,u4,lb,u6,u7,⟨?_, ?_, ?_, ?_, ?_, ?_, ?_, ?_⟩,⟨⟨ka,hka u3 p3⟩,⟨kf,hkf kf (Nat.le_refl _) u4 p4⟩,AR ms hbd.1.2.2.1 hbd.1.2.2.2 u7 p7⟩,h _ (List.mem_of_getElem? hT) k (by omega) u6 p6⟩
 all_goals (rw [Nat.zero_add];assumption)
mutual
theorem Pf.okB : ∀ t : Pf,t.bd → ∃ n0 : Nat,∀ n,n0 ≤ n → ∀ u,PfsB (hide (lo w0) W) t.sub u → OkPs w0.heap.size (jE w0 W) W n u
 | .mk r f l ps ms,h=>by
  simp only [Pf.bd] at h
  exact JY ps h.1.2.1 h.2 (IE ps h.2)
theorem IE : ∀ l : List Pf,sY l → ∃ n0 : Nat,∀ t ∈ l,∀ n,n0 ≤ n → ∀ u,PfsB (hide (lo w0) W) t.sub u → OkPs w0.heap.size (jE w0 W) W n u
 | [],_=>⟨0,fun t ht=>by simp at ht⟩
 | t :: ts,h=>by
  simp only [sY] at h
  obtain ⟨a,ha⟩:=Pf.okB t h.1
  obtain ⟨b,hb⟩:=IE ts h.2
  refine ⟨a + b,fun x hx n hn u hu=>?_⟩
  rcases List.mem_cons.1 hx with rfl | hx
  ·exact ha n (by omega) u hu
  ·exact hb x hx n (by omega) u hu
end
end
end Go.Proofs.YtcandidgaegghaaGreatDoor
