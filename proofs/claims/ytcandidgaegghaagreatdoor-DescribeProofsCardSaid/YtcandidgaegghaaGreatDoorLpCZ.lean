/- lyceumkit.LentModel. Conditions: at most a thousand functions; each list fits into memory. -/
import Derived.Test.YtcandidgaegghaaGreatDoorLnCZ
import Derived.Test.YtcandidgaegghaaGreatDoorCpZ
import Derived.Test.YtcandidgaegghaaGreatDoorLpBZ
set_option maxRecDepth 10000
set_option linter.unusedSimpArgs false
set_option linter.unusedVariables false
namespace Go.Proofs.YtcandidgaegghaaGreatDoor
open Go Go.RowKit Ly
set_option maxHeartbeats 1600000
def Past (n : Nat) (B F : World) : Prop:=B.heap.size ≤ F.heap.size ∧ ∀ i,n ≤ i → i < B.heap.size → F.heap[i]? = B.heap[i]?
theorem Past.below {n : Nat} {A B F : World} (h : Past n A B) (b : Below B.heap.size B F) : Past n A F :=
 ⟨Nat.le_trans h.1 b.size,fun i h1 h2=>(b.block i (Nat.lt_of_lt_of_le h2 h.1)).trans (h.2 i h1 h2)⟩
theorem Past.set {n : Nat} {A B : World} (h : Past n A B) {g o : Nat} (hg : g < n) (v : Value) : Past n A (B.setCell ⟨g,o,none⟩ v) :=
 ⟨by simp [World.setCell];exact h.1,fun i h1 h2=>(Below.heap_setCell _ _ _ _ (by simp;omega)).trans (h.2 i h1 h2)⟩
theorem Past.refl (n : Nat) (A : World) : Past n A A:=⟨Nat.le_refl _,fun _ _ _=>rfl⟩
theorem Past.keeps {n : Nat} {w A B F : World} (h : Past n B F) (hA : n ≤ A.heap.size) (hw : w.heap.size ≤ A.heap.size) : aR (hide (lo A) B) (hide (lo w) F) :=
 aV fun k h1 h2=>by
  simp only [lo,decide_eq_false_iff_not,Nat.not_lt] at h2 ⊢
  exact ⟨by omega,h.2 k (by omega) h1⟩
open Go Go.RowKit Ly
set_option maxHeartbeats 4000000
theorem info29m : (Tryz.prog.info? 29).map (fun i=>(i.zero,i.size,i.bytes)) = some (some (.slice none 0 0),1,24):=by kernel_rfl
structure jD (w : World) (l : List (List Int)) (g k j i : Nat) (W : World) : Prop where
 own : ∃ xs ys,W.ownsRow g 29 1 (.slice (some ⟨g,0,none⟩) (j + i) (k + 12)) (j + i) (xs ++ ys) ∧ MsC (hide (fun n=>decide (n < g + 1)) W) (l.take j) xs ∧ MkC (hide (fun n=>decide (n < g + 1)) W) i ys
 bw : Below w.heap.size w W
 lt : g < W.heap.size
 ge : w.heap.size ≤ g
theorem jD.moved {w : World} {l : List (List Int)} {g k j i : Nat} {W W' : World} (h : jD w l g k j i W) (b : Below W.heap.size W W') : jD w l g k j i W':=by
 obtain ⟨⟨xs,ys,h1,h2,h6⟩,h3,h4,h5⟩:=h
 exact ⟨⟨xs,ys,mV h1 (b.block g h4),MsC.keep (bK fun k h _=>b.block k h) h2,MkC.keep (bK fun k h _=>b.block k h) h6⟩,aB h3 b,Nat.lt_of_lt_of_le h4 b.size,h5⟩
theorem jD.put {w : World} {l : List (List Int)} {g k j : Nat} {W W' : World} {x : List Int} {v : Value} {xs : List Value} (h2 : MsC (hide (fun n=>decide (n < g + 1)) W) (l.take j) xs) (h3 : Below w.heap.size w W) (h4 : g < W.heap.size) (h5 : w.heap.size ≤ g) (hT : l[j]? = some x) (hc : eI (hide (fun n=>decide (n < g + 1)) W) 1 (inV x) (marksOf oQ 12) x.length v)
  (ho : W'.ownsRow g 29 1 (.slice (some ⟨g,0,none⟩) (j + 1) (k + 12)) (j + 1) (xs ++ [v])) (hg : W.grownBy W' (some g)) : jD w l g k (j + 1) 0 W':=by
 have K : aR (hide (fun n=>decide (n < g + 1)) W) (hide (fun n=>decide (n < g + 1)) W'):=bK fun k h h'=>hg.block k h (by simp;omega)
 refine ⟨⟨xs ++ [v],[],by simpa using ho, ?_,rfl,fun j h=>absurd h (by omega)⟩,h3.trans (below_grown hg (fun x e=>by cases e;exact h5) (Nat.le_trans h5 (Nat.le_of_lt h4))),Nat.lt_of_lt_of_le h4 hg.size,h5⟩
 have e : l.take (j + 1) = l.take j ++ [x]:=by rw [List.take_add_one,hT];rfl
 rw [e]
 exact MsC.put (MsC.keep K h2) (hc.keep K)
theorem jD.mark {w : World} {l : List (List Int)} {g k i : Nat} {W W' : World} {v : Value} {xs ys : List Value} (h2 : MsC (hide (fun n=>decide (n < g + 1)) W) (l.take k) xs) (h6 : MkC (hide (fun n=>decide (n < g + 1)) W) i ys) (h3 : Below w.heap.size w W) (h4 : g < W.heap.size) (h5 : w.heap.size ≤ g) (hc : cR (hide (fun n=>decide (n < g + 1)) W) 1 [.int .i64 (fL i)] 1 v)
  (ho : W'.ownsRow g 29 1 (.slice (some ⟨g,0,none⟩) (k + i + 1) (k + 12)) (k + i + 1) (xs ++ ys ++ [v])) (hg : W.grownBy W' (some g)) : jD w l g k k (i + 1) W':=by
 have K : aR (hide (fun n=>decide (n < g + 1)) W) (hide (fun n=>decide (n < g + 1)) W'):=bK fun k h h'=>hg.block k h (by simp;omega)
 exact ⟨⟨xs,ys ++ [v],by rw [← List.append_assoc];exact ho,MsC.keep K h2,MkC.put (MkC.keep K h6) (hc.keep K)⟩,h3.trans (below_grown hg (fun x e=>by cases e;exact h5) (Nat.le_trans h5 (Nat.le_of_lt h4))),Nat.lt_of_lt_of_le h4 hg.size,h5⟩
theorem jD.lent {w : World} {l : List (List Int)} {g k : Nat} {W : World} (h : jD w l g k k 12 W) (hk : k = l.length) (hm : k + 12 ≤ maxLen) : oC (hide (lo w) W) l (.slice (some ⟨g,0,none⟩) k (k + 12)):=by
 obtain ⟨⟨xs,ys,h1,h2,h6⟩,h3,h4,h5⟩:=h
 rw [List.take_of_length_le (by omega)] at h2
 subst hk
 have K : aR (hide (fun n=>decide (n < g + 1)) W) (hide (lo w) W):=aV fun k h6 h7=>⟨by simp at h7;simp [lo];omega,rfl⟩
 refine ⟨g,_,xs,ys,rfl,Nat.le_refl _,hm, ?_,MsC.keep K h2,MkC.keep K h6⟩
 intro j u hu
 have:=h1.cells (g:=g) rfl j u hu
 rw [show ((⟨g,0,none⟩ : Addr).add j) = ⟨g,j,none⟩ by simp [Addr.add];omega] at this
 rw [eZ (by simp [lo];omega)]
 exact this
theorem jD.new {w w1 : World} {l : List (List Int)} {k : Nat} (h : w1.ownsRow w.heap.size 29 1 (.slice (some ⟨w.heap.size,0,none⟩) 0 (k + 12)) 0 []) (hg : w.grownBy w1 none) : jD w l w.heap.size k 0 0 w1 :=
 ⟨⟨[],[],by simpa using h,⟨by simp,fun j x hx=>by simp at hx⟩,rfl,fun j h=>absurd h (by omega)⟩,below_grown hg (fun _ e=>by cases e) (Nat.le_refl _),(h.lt _ rfl).2,Nat.le_refl _⟩
theorem jD.first {w W : World} {l : List (List Int)} {g k j : Nat} (h : jD w l g k j 0 W) : ∃ xs,W.ownsRow g 29 1 (.slice (some ⟨g,0,none⟩) j (k + 12)) j xs ∧ MsC (hide (fun n=>decide (n < g + 1)) W) (l.take j) xs:=by
 obtain ⟨xs,ys,h1,h2,h6⟩:=h.own
 have : ys = []:=List.eq_nil_of_length_eq_zero h6.1
 subst this
 exact ⟨xs,by simpa using h1,h2⟩
theorem flat_one {W W' : World} {v : Value} {b g : Nat} {ty : TypeId} (h : W'.heap[b]? = some (.cells #[v] ty (0,0))) (hb : g < b) : cR (hide (fun n=>decide (n < g + 1)) W') 1 [v] 1 (.slice (some ⟨b,0,none⟩) 1 1):=by
 refine ⟨_,_,rfl,Nat.le_refl _,by unfold maxLen;omega,rfl,.inr ⟨b,0,rfl,fun j u hu=>?_⟩⟩
 rw [eZ (by simp;omega),Nat.zero_add,box_cell h]
 rw [← hu];simp
theorem news1' (w : World) (o : Obj) (a : Value) {t : TypeId} : ∀ (j : Nat) (u : Value),[a][j]? = some u → ((w.alloc o).alloc (.cells #[a] t)).cell? ((⟨w.heap.size + 1,0,none⟩ : Addr).add j) = some u:=by
 have:=FH (w.alloc o) a (t:=t)
 rwa [World.size_alloc] at this
theorem pl_of (t : Pf) (h : PlS t.sub) : PlT t:=by
 intro w x hx hst hlim
 obtain ⟨a,k,c,a',m,d,s,sn,sc,q,qn,qc,rfl,hx1,hx2,hx3,hx4⟩:=hx
 have hs : aE t.sub ≤ 1000:=by cases t;rw [Pf.steps] at hst;simp only [Pf.sub];omega
 have hl : (t.form.nodes ≤ 600 ∧ t.marks.length ≤ 10 ∧ ∀ m ∈ t.marks,m.length ≤ 10) ∧ lK t.sub:=by
  cases t;rw [Pf.lim] at hlim;exact ⟨⟨hlim.1.1,hlim.1.2.2.1,hlim.1.2.2.2⟩,hlim.2⟩
 have HML : Hid (∀ m ∈ t.marks,m.length ≤ 10):=hl.1.2.2
 have A1 : Below w.heap.size w (w.alloc (.cells #[str t.rule,.int .u8 t.form.op,str t.form.name,.slice a k c,.slice a' m d,.int .i64 t.label,.slice s sn sc,.slice q qn qc] 53)):=bnew
 have HB : Hid (Below w.heap.size w ((w.alloc (.cells #[str t.rule,.int .u8 t.form.op,str t.form.name,.slice a k c,.slice a' m d,.int .i64 t.label,.slice s sn sc,.slice q qn qc] 53)).alloc (.cells #[str [],.int .u8 0,str [],.slice none 0 0,.slice none 0 0,.int .i64 0,.slice none 0 0,.slice none 0 0] 53))):=A1.alloc (by simp) _
 have G0 : Hid (((w.alloc (.cells #[str t.rule,.int .u8 t.form.op,str t.form.name,.slice a k c,.slice a' m d,.int .i64 t.label,.slice s sn sc,.slice q qn qc] 53)).alloc (.cells #[str [],.int .u8 0,str [],.slice none 0 0,.slice none 0 0,.int .i64 0,.slice none 0 0,.slice none 0 0] 53)).heap[w.heap.size]? = some (.cells #[str t.rule,.int .u8 t.form.op,str t.form.name,.slice a k c,.slice a' m d,.int .i64 t.label,.slice s sn sc,.slice q qn qc] 53 (0,0))):=kc bnew (heap_alloc_new w _)
 have G1 : Hid (((w.alloc (.cells #[str t.rule,.int .u8 t.form.op,str t.form.name,.slice a k c,.slice a' m d,.int .i64 t.label,.slice s sn sc,.slice q qn qc] 53)).alloc (.cells #[str [],.int .u8 0,str [],.slice none 0 0,.slice none 0 0,.int .i64 0,.slice none 0 0,.slice none 0 0] 53)).heap[w.heap.size + 1]? = some (.cells #[str [],.int .u8 0,str [],.slice none 0 0,.slice none 0 0,.int .i64 0,.slice none 0 0,.slice none 0 0] 53 (0,0))):=by
  have:=heap_alloc_new (w.alloc (.cells #[str t.rule,.int .u8 t.form.op,str t.form.name,.slice a k c,.slice a' m d,.int .i64 t.label,.slice s sn sc,.slice q qn qc] 53)) (.cells #[str [],.int .u8 0,str [],.slice none 0 0,.slice none 0 0,.int .i64 0,.slice none 0 0,.slice none 0 0] 53)
  rwa [World.size_alloc] at this
 have R1 : Hid (∀ W,Below w.heap.size w W → Calls Tryz.prog 50 #[.agg #[.int .u8 t.form.op,str t.form.name,.slice a k c,.slice a' m d]] W fun e w'=>∃ b n cap b' n' cap',e = .returned (.agg #[.int .u8 t.form.op,str t.form.name,.slice (some ⟨b,0,none⟩) n cap,.slice (some ⟨b',0,none⟩) n' cap']) ∧ (dJ (hide (lo W) w') t.form.args (.slice (some ⟨b,0,none⟩) n cap) ∧ eW (hide (lo W) w') t.form.sub (.slice (some ⟨b',0,none⟩) n' cap')) ∧ Below W.heap.size W w'):=fun W hW =>
  (xN t.form W _ ⟨a,k,c,a',m,d,rfl,hx1.keep (aA hW),hx2.keep (aA hW)⟩ (by have:=hl.1.1;omega)).mono fun e w' hh=>by
   obtain ⟨b,n,cap,b',n',cap',e1,e2,e3,e4⟩:=hh
   exact ⟨b,n,cap,b',n',cap',e1,⟨e2,e3⟩,e4⟩
 have R2 : Hid (∀ W,Below w.heap.size w W → Calls Tryz.prog 181 #[.slice s sn sc] W fun e w'=>∃ b cap,e = .returned (.slice (some ⟨b,0,none⟩) sn cap) ∧ jR (hide (lo W) w') t.sub (.slice (some ⟨b,0,none⟩) sn cap) ∧ Below W.heap.size W w'):=fun W hW=>h W s sn sc (hx3.keep (aA hW)) hs hl.2
 have R3 : Hid (∀ W (y : List Int) (e : Option Addr) (en ec : Nat),y.length ≤ 10 → dZ W y (.slice e en ec) → Calls Tryz.prog 61 #[.slice e en ec] W fun r w'=>∃ b cap,r = .returned (.slice (some ⟨b,0,none⟩) en cap) ∧ (en = y.length ∧ eI (hide (lo W) w') 1 (inV y) (marksOf oQ 12) y.length (.slice (some ⟨b,0,none⟩) en cap)) ∧ Below W.heap.size W w'):=fun W y e en ec hy hW=>by
  have hf:=mF.1 hW
  have hn:=hf.len.1
  refine (lentInts_c (inV y) (inV_one y) y.length (by omega) e en ec W hf).mono fun r w' hh=>?_
  obtain ⟨b,cap,e1,e2,e3⟩:=hh
  exact ⟨b,cap,e1,⟨hn,by rw [← hn] ;exact e2⟩,e3⟩
 have hq:=hx4.len
 have L1:=Hd hq.1
 have hq10 : qn ≤ 10:=by have:=hl.1.2.1;omega
 have HX:=Hd hx4
 obtain ⟨i0,hi0,hz0,hs0,hb0⟩:=info_parts info29m
 clear hx1 hx2 hx3 hx4 h hs hl hst hlim A1 hq
 go_enter Tryz.func110,Tryz.ntmps110
 go_upto_region 2 with (go_at_call 50;refine (R1.out _ HB.out).mono ?_;rintro e w1 ⟨b1,n1,k1,b2,n2,k2,rfl,l1,v1⟩;have HL1:=Hd (And.intro l1 v1);have E1:=Hd (kc v1 G0.out);have F1:=Hd (kc v1 G1.out);have B1:=Hd (aB HB.out v1);clear l1 v1;obtain ⟨c0,c1,c2,c3,c4,c5,c6,c7⟩:=row53' E1.out;obtain ⟨f0,f1,f2,f3,f4,f5,f6,f7⟩:=rM E1.out)
 have S1 : Hid (((((w1.setCell ⟨w.heap.size,1,none⟩ (.int .u8 t.form.op)).setCell ⟨w.heap.size,2,none⟩ (str t.form.name)).setCell ⟨w.heap.size,3,none⟩ (.slice (some ⟨b1,0,none⟩) n1 k1)).setCell ⟨w.heap.size,4,none⟩ (.slice (some ⟨b2,0,none⟩) n2 k2)).heap[w.heap.size]? = some (.cells #[str t.rule,.int .u8 t.form.op,str t.form.name,.slice (some ⟨b1,0,none⟩) n1 k1,.slice (some ⟨b2,0,none⟩) n2 k2,.int .i64 t.label,.slice s sn sc,.slice q qn qc] 53 (0,0))):=aC (o:=4) (aC (o:=3) (aC (o:=2) (aC (o:=1) E1.out)))
 have T1 : Hid (((((w1.setCell ⟨w.heap.size,1,none⟩ (.int .u8 t.form.op)).setCell ⟨w.heap.size,2,none⟩ (str t.form.name)).setCell ⟨w.heap.size,3,none⟩ (.slice (some ⟨b1,0,none⟩) n1 k1)).setCell ⟨w.heap.size,4,none⟩ (.slice (some ⟨b2,0,none⟩) n2 k2)).heap[w.heap.size + 1]? = some (.cells #[str [],.int .u8 0,str [],.slice none 0 0,.slice none 0 0,.int .i64 0,.slice none 0 0,.slice none 0 0] 53 (0,0))):=by
  show _ = _
  rw [Below.heap_setCell _ _ _ _ (by simp),Below.heap_setCell _ _ _ _ (by simp),Below.heap_setCell _ _ _ _ (by simp),Below.heap_setCell _ _ _ _ (by simp)]
  exact F1.out
 have BW1 : Hid (Below w.heap.size w ((((w1.setCell ⟨w.heap.size,1,none⟩ (.int .u8 t.form.op)).setCell ⟨w.heap.size,2,none⟩ (str t.form.name)).setCell ⟨w.heap.size,3,none⟩ (.slice (some ⟨b1,0,none⟩) n1 k1)).setCell ⟨w.heap.size,4,none⟩ (.slice (some ⟨b2,0,none⟩) n2 k2))):=(((B1.out.setCell (by simp) _).setCell (by simp) _).setCell (by simp) _).setCell (by simp) _
 have P1 : Hid (Past (w.heap.size + 2) w1 ((((w1.setCell ⟨w.heap.size,1,none⟩ (.int .u8 t.form.op)).setCell ⟨w.heap.size,2,none⟩ (str t.form.name)).setCell ⟨w.heap.size,3,none⟩ (.slice (some ⟨b1,0,none⟩) n1 k1)).setCell ⟨w.heap.size,4,none⟩ (.slice (some ⟨b2,0,none⟩) n2 k2))):=((((Past.refl _ _).set (by omega) _).set (by omega) _).set (by omega) _).set (by omega) _
 clear c0 c1 c2 c3 c4 c5 c6 c7 f0 f1 f2 f3 f4 f5 f6 f7
 generalize hW1 : ((((w1.setCell ⟨w.heap.size,1,none⟩ (.int .u8 t.form.op)).setCell ⟨w.heap.size,2,none⟩ (str t.form.name)).setCell ⟨w.heap.size,3,none⟩ (.slice (some ⟨b1,0,none⟩) n1 k1)).setCell ⟨w.heap.size,4,none⟩ (.slice (some ⟨b2,0,none⟩) n2 k2)) = W1 at *
 clear hW1
 obtain ⟨c0,c1,c2,c3,c4,c5,c6,c7⟩:=row53' S1.out
 obtain ⟨f0,f1,f2,f3,f4,f5,f6,f7⟩:=rM S1.out
 go_upto_region 3 with (go_at_call 181;refine (R2.out _ BW1.out).mono ?_;rintro e w2 ⟨b3,k3,rfl,l2,v2⟩;have HL2:=Hd (And.intro l2 v2);have E2:=Hd (kc v2 S1.out);have F2:=Hd (kc v2 T1.out);have B2:=Hd (aB BW1.out v2);clear l2 v2;clear c0 c1 c2 c3 c4 c5 c6 c7 f0 f1 f2 f3 f4 f5 f6 f7;obtain ⟨c0,c1,c2,c3,c4,c5,c6,c7⟩:=row53' E2.out;obtain ⟨f0,f1,f2,f3,f4,f5,f6,f7⟩:=rM E2.out)
 have S2 : Hid ((w2.setCell ⟨w.heap.size,6,none⟩ (.slice (some ⟨b3,0,none⟩) sn k3)).heap[w.heap.size]? = some (.cells #[str t.rule,.int .u8 t.form.op,str t.form.name,.slice (some ⟨b1,0,none⟩) n1 k1,.slice (some ⟨b2,0,none⟩) n2 k2,.int .i64 t.label,.slice (some ⟨b3,0,none⟩) sn k3,.slice q qn qc] 53 (0,0))):=aC (o:=6) E2.out
 have T2 : Hid ((w2.setCell ⟨w.heap.size,6,none⟩ (.slice (some ⟨b3,0,none⟩) sn k3)).heap[w.heap.size + 1]? = some (.cells #[str [],.int .u8 0,str [],.slice none 0 0,.slice none 0 0,.int .i64 0,.slice none 0 0,.slice none 0 0] 53 (0,0))):=(Below.heap_setCell _ _ _ _ (by simp)).trans F2.out
 have BW2 : Hid (Below w.heap.size w (w2.setCell ⟨w.heap.size,6,none⟩ (.slice (some ⟨b3,0,none⟩) sn k3))):=B2.out.setCell (by simp) _
 have P2 : Hid (Past (w.heap.size + 2) w2 (w2.setCell ⟨w.heap.size,6,none⟩ (.slice (some ⟨b3,0,none⟩) sn k3))):=(Past.refl _ _).set (by omega) _
 have P1' : Hid (Past (w.heap.size + 2) w1 (w2.setCell ⟨w.heap.size,6,none⟩ (.slice (some ⟨b3,0,none⟩) sn k3))):=(P1.out.below HL2.out.2).set (by omega) _
 clear c0 c1 c2 c3 c4 c5 c6 c7 f0 f1 f2 f3 f4 f5 f6 f7 P1
 generalize hW2 : (w2.setCell ⟨w.heap.size,6,none⟩ (.slice (some ⟨b3,0,none⟩) sn k3)) = W2 at *
 clear hW2
 obtain ⟨c0,c1,c2,c3,c4,c5,c6,c7⟩:=row53' S2.out
 go_wp2_with (at_make;refine wpList_make_own _ rfl _ _ 51 rfl W2.heap.size 29 i0 (.slice none 0 0) 1 Tryz.underlying51 hi0 hz0 hs0 _ _ _ (qn + 12) rfl rfl (by first | rfl | omega) (by rw [hb0];omega) (by unfold maxLen;omega) (Nat.le_refl _) ?_;intro w3 hown1 hgrow1)
 go_loopw [3,4] (fun u i wr=>∃ j : Nat,j ≤ qn ∧ i = .int .i64 j ∧ u = .slice (some ⟨W2.heap.size,0,none⟩) j (qn + 12) ∧ Hid (jD W2 t.marks W2.heap.size qn j 0 wr)) (fun _ i _=>qn - (intOf i).toNat)
 case atStart=>exact ⟨0,Nat.zero_le _,rfl,rfl,jD.new hown1 hgrow1⟩
 case round =>
  clear hown1 hgrow1 c0 c1 c2 c3 c4 c5 c6 c7
  obtain ⟨j,hj,rfl,rfl,hs⟩:=hrel
  have SR:=Hd (kc hs.out.bw S2.out)
  obtain ⟨c0,c1,c2,c3,c4,c5,c6,c7⟩:=row53' SR.out
  by_cases hlt : j < qn
  ·obtain ⟨y,hT⟩:=aF (l:=t.marks) (j:=j) (by rw [← L1.out];exact hlt)
   obtain ⟨bb,off,rfl,hc⟩:=HX.out.get (aJ hT)
   obtain ⟨e0,en,ec,hy,hyv⟩:=hc j y hT
   have hK:=aA (aB BW2.out hs.out.bw)
   have y0:=hK _ _ hy
   have X : Hid (dZ wr y (.slice e0 en ec)):=hyv.keep hK
   have HT:=Hd hT
   have HM:=Hd (HML.out y (List.mem_of_getElem? hT))
   clear hc hy hyv hT hK
   go_wp2_with (first
    | (go_at_call 61;refine (R3.out _ y e0 en ec HM.out X.out).mono ?_;rintro e w4 ⟨b,cap,rfl,hl,b3⟩;obtain ⟨xs,o3,t3⟩:=(hs.out.moved b3).first;have OW:=Hd o3;have TC:=Hd t3;have HL:=Hd (And.intro hl b3);clear hl b3 o3 t3)
    | (at_builtin;refine wpList_append_fits _ rfl _ _ 51 rfl W2.heap.size 29 i0 1 Tryz.underlying51 hi0 hs0 W2.heap.size j (qn + 12) _ rfl (OW.out.alloc _) ⟨w4.heap.size,0,none⟩ 1 1 [.slice (some ⟨b,0,none⟩) en cap] rfl rfl (FH _ _) (by simp [Value.oneCell']) (by omega) ?_;intro w5 hown4 hgrow4))
   go_roundw
   case rel =>
    refine ⟨j + 1,by omega,by go_num,rfl, ?_⟩
    obtain ⟨⟨hl0,hl⟩,b3⟩:=HL.out
    have LR:=hs.out.moved b3
    have bA : ∀ o,Below w4.heap.size w4 (w4.alloc o):=fun o=>bnew
    have e1:=LR.lt
    have e2:=LR.ge
    have e3:=hs.out.lt
    exact jD.put (MsC.keep (bK fun i h _=>(bA _).block i h) TC.out) (aB LR.bw (bA _)) (by simp;omega) e2 HT.out
     (hl.keep (aV fun i h1 h2=>by simp only [lo,decide_eq_false_iff_not,Nat.not_lt] at h2 ⊢;exact ⟨by omega,(bA _).block i h1⟩)) hown4 hgrow4
   case measure=>simp [intOf];omega
  ·have hjk : j = qn:=by omega
   have LR:=Hd hs.out
   subst hjk
   clear hs HX HML R1 R2 R3 SR
   go_wp2_with fail
   clear c0 c1 c2 c3 c4 c5 c6 c7
   go_loopw [3,5] (fun u i wr=>∃ p : Nat,p ≤ 12 ∧ i = .int .i64 p ∧ u = .slice (some ⟨W2.heap.size,0,none⟩) (j + p) (j + 12) ∧ Hid (jD W2 t.marks W2.heap.size j j p wr)) (fun _ i _=>12 - (intOf i).toNat)
   case atStart=>exact ⟨0,by omega,rfl,rfl,LR.out⟩
   case round =>
    clear LR
    obtain ⟨p,hp,rfl,rfl,hs⟩:=hrel
    by_cases hlt : p < 12
    ·go_wp2_with (first
      | (go_at_call 136;refine (xV p hlt _).mono ?_;rintro e w4 ⟨rfl,rfl⟩;obtain ⟨xs,ys,o3,t3,t4⟩:=hs.out.own;have OW:=Hd o3;have TC:=Hd t3;have TK:=Hd t4;clear o3 t3 t4)
      | (at_builtin;refine wpList_append_fits _ rfl _ _ 51 rfl W2.heap.size 29 i0 1 Tryz.underlying51 hi0 hs0 W2.heap.size (j + p) (j + 12) _ rfl ((OW.out.alloc _).alloc _) ⟨w4.heap.size + 1,0,none⟩ 1 1 [.slice (some ⟨w4.heap.size,0,none⟩) 1 1] rfl rfl (news1' _ _ _) (by simp [Value.oneCell']) (by omega) ?_;intro w5 hown4 hgrow4))
     go_roundw
     case rel =>
      refine ⟨p + 1,by omega,by go_num,rfl, ?_⟩
      have LR:=hs.out
      have bA : ∀ o o',Below w4.heap.size w4 ((w4.alloc o).alloc o'):=fun o o'=>bnew.alloc (by simp) _
      have e1:=LR.lt
      have e2:=LR.ge
      refine jD.mark (MsC.keep (bK fun i h _=>(bA _ _).block i h) TC.out) (MkC.keep (bK fun i h _=>(bA _ _).block i h) TK.out) (aB LR.bw (bA _ _)) (by simp;omega) e2 (flat_one (W:=w) (kc bnew (heap_alloc_new w4 _)) e1) hown4 hgrow4
     case measure=>simp [intOf];omega
    ·have hp12 : p = 12:=by omega
     subst hp12
     have LE:=Hd (hs.out.lent L1.out (by unfold maxLen;omega))
     have LB:=Hd hs.out.bw
     have SR:=Hd (kc hs.out.bw S2.out)
     have TR:=Hd (kc hs.out.bw T2.out)
     clear hs
     obtain ⟨c0,c1,c2,c3,c4,c5,c6,c7⟩:=row53' SR.out
     obtain ⟨f0,f1,f2,f3,f4,f5,f6,f7⟩:=rM SR.out
     go_upto_region 13 with fail
     have S3 : Hid ((wr.setCell ⟨w.heap.size,7,none⟩ (.slice (some ⟨W2.heap.size,0,none⟩) j (j + 12))).heap[w.heap.size]? = some (.cells #[str t.rule,.int .u8 t.form.op,str t.form.name,.slice (some ⟨b1,0,none⟩) n1 k1,.slice (some ⟨b2,0,none⟩) n2 k2,.int .i64 t.label,.slice (some ⟨b3,0,none⟩) sn k3,.slice (some ⟨W2.heap.size,0,none⟩) j (j + 12)] 53 (0,0))):=aC (o:=7) SR.out
     have T3 : Hid ((wr.setCell ⟨w.heap.size,7,none⟩ (.slice (some ⟨W2.heap.size,0,none⟩) j (j + 12))).heap[w.heap.size + 1]? = some (.cells #[str [],.int .u8 0,str [],.slice none 0 0,.slice none 0 0,.int .i64 0,.slice none 0 0,.slice none 0 0] 53 (0,0))):=(Below.heap_setCell _ _ _ _ (by simp)).trans TR.out
     have BW3 : Hid (Below w.heap.size w (wr.setCell ⟨w.heap.size,7,none⟩ (.slice (some ⟨W2.heap.size,0,none⟩) j (j + 12)))):=(aB BW2.out LB.out).setCell (by simp) _
     have P1 : Hid (Past (w.heap.size + 2) w1 (wr.setCell ⟨w.heap.size,7,none⟩ (.slice (some ⟨W2.heap.size,0,none⟩) j (j + 12)))):=(P1'.out.below LB.out).set (by omega) _
     have P3 : Hid (Past (w.heap.size + 2) w2 (wr.setCell ⟨w.heap.size,7,none⟩ (.slice (some ⟨W2.heap.size,0,none⟩) j (j + 12)))):=(P2.out.below LB.out).set (by omega) _
     have P4 : Hid (Past (w.heap.size + 2) wr (wr.setCell ⟨w.heap.size,7,none⟩ (.slice (some ⟨W2.heap.size,0,none⟩) j (j + 12)))):=(Past.refl _ _).set (by omega) _
     clear c0 c1 c2 c3 c4 c5 c6 c7 f0 f1 f2 f3 f4 f5 f6 f7
     generalize hW3 : (wr.setCell ⟨w.heap.size,7,none⟩ (.slice (some ⟨W2.heap.size,0,none⟩) j (j + 12))) = W3 at *
     clear hW3
     obtain ⟨c0,c1,c2,c3,c4,c5,c6,c7⟩:=row53' S3.out
     obtain ⟨d0,d1,d2,d3,d4,d5,d6,d7⟩:=row53' T3.out
     obtain ⟨h0,h1,h2,h3,h4,h5,h6,h7⟩:=rM T3.out
     go_wp2_with fail
     have g0:=aC (o:=0) (u:=str t.rule) T3.out
     have g1:=aC (o:=1) (u:=.int .u8 t.form.op) g0
     have g2:=aC (o:=2) (u:=str t.form.name) g1
     have g3:=aC (o:=3) (u:=.slice (some ⟨b1,0,none⟩) n1 k1) g2
     have g4:=aC (o:=4) (u:=.slice (some ⟨b2,0,none⟩) n2 k2) g3
     have g5:=aC (o:=5) (u:=.int .i64 t.label) g4
     have g6:=aC (o:=6) (u:=.slice (some ⟨b3,0,none⟩) sn k3) g5
     have g7:=aC (o:=7) (u:=.slice (some ⟨W2.heap.size,0,none⟩) j (j + 12)) g6
     have t1:=(Array.getElem?_eq_some_iff.1 T1.out).1
     have t2:=(Array.getElem?_eq_some_iff.1 T2.out).1
     have t3:=(Array.getElem?_eq_some_iff.1 T3.out).1
     refine bodyPost_ret (IF rfl _ _ (w.heap.size + 1) _ _ _ _ _ _ _ _ (0,0) rfl g7) rfl ?_
     refine ⟨_,_,_,_,_,_,_,_,_,_,_,_,rfl,rV.2 ⟨_,_,_,_,rfl, ?_, ?_, ?_, ?_⟩,(((((((BW3.out.setCell (by simp) _).setCell (by simp) _).setCell (by simp) _).setCell (by simp) _).setCell (by simp) _).setCell (by simp) _).setCell (by simp) _).setCell (by simp) _⟩
     ·exact HL1.out.1.1.keep (((((((((P1.out.set (by omega) _).set (by omega) _).set (by omega) _).set (by omega) _).set (by omega) _).set (by omega) _).set (by omega) _).set (by omega) _).keeps (by simp) (by simp;omega))
     ·exact HL1.out.1.2.keep (((((((((P1.out.set (by omega) _).set (by omega) _).set (by omega) _).set (by omega) _).set (by omega) _).set (by omega) _).set (by omega) _).set (by omega) _).keeps (by simp) (by simp;omega))
     ·exact LE.out.keep (((((((((P4.out.set (by omega) _).set (by omega) _).set (by omega) _).set (by omega) _).set (by omega) _).set (by omega) _).set (by omega) _).set (by omega) _).keeps (by omega) (by omega))
     ·exact HL2.out.1.keep (((((((((P3.out.set (by omega) _).set (by omega) _).set (by omega) _).set (by omega) _).set (by omega) _).set (by omega) _).set (by omega) _).set (by omega) _).keeps (by omega) (by omega))
mutual
theorem vE : ∀ t : Pf,PlT t
 | .mk r f l ps ms=>pl_of _ (pls_step ps (oV ps))
theorem oV : ∀ l : List Pf,∀ t ∈ l,PlT t
 | [],_,h=>by cases h
 | x :: xs,t,h=>by
  rcases List.mem_cons.1 h with e | e
  ·rw [e];exact vE x
  ·exact oV xs t e
end
end Go.Proofs.YtcandidgaegghaaGreatDoor
