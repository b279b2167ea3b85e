/- skeleton.each: a list is made, element by element, by a method value; whatever the method keeps. Conditions: those of each statement. -/
import Derived.Test.YtppfalbnhnpbnaaGreatDoorNmCC
set_option linter.unusedSimpArgs false
set_option linter.unusedVariables false
namespace Go.Proofs.YtppfalbnhnpbnaaGreatDoor
open Go Go.RowKit Ly
set_option maxRecDepth 10000
structure ButE (E : Nat → Prop) (A X : World) : Prop where
 os : X.os = A.os
 tape : X.tape = A.tape
 output : X.output = A.output
 size : A.heap.size ≤ X.heap.size
 block : ∀ k,k < A.heap.size → ¬ E k → X.heap[k]? = A.heap[k]?
theorem ButE.refl (E : Nat → Prop) (A : World) : ButE E A A:=⟨rfl,rfl,rfl,Nat.le_refl _,fun _ _ _=>rfl⟩
theorem ButE.trans {E : Nat → Prop} {A X Y : World} (h : ButE E A X) (k : ButE E X Y) : ButE E A Y :=
 ⟨k.os.trans h.os,k.tape.trans h.tape,k.output.trans h.output,Nat.le_trans h.size k.size,fun i hi hn=>(k.block i (Nat.lt_of_lt_of_le hi h.size) hn).trans (h.block i hi hn)⟩
theorem ButE.of_below {E : Nat → Prop} {A X : World} (h : Below A.heap.size A X) : ButE E A X:=⟨h.os,h.tape,h.output,h.size,fun i hi _=>h.block i hi⟩
theorem ButE.set {E : Nat → Prop} {A X : World} (h : ButE E A X) {b : Nat} (hb : A.heap.size ≤ b) (o : Nat) (v : Value) : ButE E A (X.setCell ⟨b,o,none⟩ v):=by
 have sr:=nY X ⟨b,o,none⟩ v
 have e6 : (X.setCell ⟨b,o,none⟩ v).heap.size = X.heap.size:=by simp
 have:=h.size
 exact ⟨sr.1.trans h.os,sr.2.1.trans h.tape,sr.2.2.trans h.output,by omega,fun i hi hn=>by rw [Below.heap_setCell _ _ _ _ (by show i ≠ b;omega)];exact h.block i hi hn⟩
theorem ButE.alloc {E : Nat → Prop} {A X : World} (h : ButE E A X) (o : Obj) : ButE E A (X.alloc o):=h.trans (.of_below ((Below.refl _ _).alloc (Nat.le_refl _) _))
theorem ButE.keeps {E : Nat → Prop} {A X : World} (h : ButE E A X) (hm : ∀ k,E k → ∃ es c,A.heap[k]? = some (.map es c)) : bI A X:=fun a v hv=>by
 have lt:=World.block_lt_of_cell? A a hv
 have ne : ¬ E a.block:=fun e=>by
  obtain ⟨es,c,hc⟩:=hm _ e
  unfold World.cell? at hv
  rw [hc] at hv
  cases hv
 rw [World.cell?_of_block (a:=a) (h.block _ lt ne)]
 exact hv
def kU {St : Type} (n : Nat) (I : St → World → Prop) : Prop:=∀ s X X',I s X → (∀ k,k < n → X'.heap[k]? = X.heap[k]?) → I s X'
def aK {St A : Type} (f : St → A → A × St) : St → List A → List A × St
 | s,[]=>([],s)
 | s,x :: l=>((f s x).1 :: (aK f (f s x).2 l).1,(aK f (f s x).2 l).2)
theorem gO {St A : Type} (f : St → A → A × St) : ∀ (s : St) (l : List A),(aK f s l).1.length = l.length
 | _,[]=>rfl
 | s,x :: l=>by simp [aK,gO f _ l]
def stAt {St A : Type} (f : St → A → A × St) (s : St) (l : List A) (j : Nat) : St:=(aK f s (l.take j)).2
theorem rB {St A : Type} (f : St → A → A × St) (x : A) : ∀ (s : St) (l : List A),aK f s (l ++ [x]) = ((aK f s l).1 ++ [(f (aK f s l).2 x).1],(f (aK f s l).2 x).2)
 | s,[]=>by simp [aK]
 | s,y :: l=>by simp [aK,rB f x _ l]
theorem gY {St A : Type} (f : St → A → A × St) (s : St) {l : List A} {j : Nat} {x : A} (h : l[j]? = some x) : aK f s (l.take (j + 1)) = ((aK f s (l.take j)).1 ++ [(f (stAt f s l j) x).1],(f (stAt f s l j) x).2):=by
 rw [List.take_add_one,h]
 exact rB f x s _
theorem oP : ∀ a b : List Tm,bS (a ++ b) = bS a ++ bS b
 | [],b=>rfl
 | x :: a,b=>by simp [bS,oP a b]
theorem lM : ∀ l : List Tm,(bS l).length = l.length * 3
 | []=>rfl
 | x :: l=>by simp [bS,Tm.ds_length,lM l];omega
theorem gN : ∀ l : List Fm,(bJ l).length = l.length * 4
 | []=>rfl
 | x :: l=>by simp [bJ,Fm.ds_length,gN l];omega
theorem iH : ∀ a b : List Fm,bJ (a ++ b) = bJ a ++ bJ b
 | [],b=>rfl
 | x :: a,b=>by simp [bJ,iH a b]
def cF (G n size : Nat) (e : TypeId) (ds : List D) (j : Nat) (W : World) : Prop :=
 ∃ cs : List Value,W.heap[G]? = some (.cells cs.toArray e (0,0)) ∧ cs.length = n * size ∧ aU (hide (fun k=>decide (k < G + 1)) W) ds (cs.take (j * size))
theorem cF.keep {G n size j : Nat} {e : TypeId} {ds : List D} {W W' : World} (h : cF G n size e ds j W) (hb : ∀ k,G ≤ k → k < W.heap.size → W'.heap[k]? = W.heap[k]?) : cF G n size e ds j W':=by
 obtain ⟨cs,h1,h2,h3⟩:=h
 refine ⟨cs,(hb G (Nat.le_refl _) (Array.getElem?_eq_some_iff.1 h1).1).trans h1,h2,h3.keep (aH fun k a b=>⟨b,hb k (by simp at b;omega) a⟩)⟩
theorem cF.cells3 {G n j : Nat} {e : TypeId} {ds : List D} {W : World} (h : cF G n 3 e ds j W) (hj : j < n) :
  (∃ u,W.cell? ⟨G,j * 3,none⟩ = some u) ∧ W.frozen? ⟨G,j * 3,none⟩ = false ∧ (∀ a,∃ u,(W.setCell ⟨G,j * 3,none⟩ a).cell? ⟨G,j * 3 + 1,none⟩ = some u) ∧ (∀ a,(W.setCell ⟨G,j * 3,none⟩ a).frozen? ⟨G,j * 3 + 1,none⟩ = false) ∧
   (∀ a b,∃ u,((W.setCell ⟨G,j * 3,none⟩ a).setCell ⟨G,j * 3 + 1,none⟩ b).cell? ⟨G,j * 3 + 2,none⟩ = some u) ∧ (∀ a b,((W.setCell ⟨G,j * 3,none⟩ a).setCell ⟨G,j * 3 + 1,none⟩ b).frozen? ⟨G,j * 3 + 2,none⟩ = false):=by
 obtain ⟨cs,h1,h2,h3⟩:=h
 have g1 : ∀ a,(W.setCell ⟨G,j * 3,none⟩ a).heap[G]? = _:=fun a=>aC (o:=j * 3) (u:=a) h1
 have g2 : ∀ a b,((W.setCell ⟨G,j * 3,none⟩ a).setCell ⟨G,j * 3 + 1,none⟩ b).heap[G]? = _:=fun a b=>aC (o:=j * 3 + 1) (u:=b) (g1 a)
 have key : ∀ {w : World} {xs : Array Value} (g : w.heap[G]? = some (.cells xs e (0,0))) (o : Nat),o < xs.size → (∃ u,w.cell? ⟨G,o,none⟩ = some u) ∧ w.frozen? ⟨G,o,none⟩ = false:=fun {w xs} g o ho=>⟨⟨xs[o],by rw [bE g];simp [ho]⟩,by simp [World.frozen?,g]⟩
 exact ⟨(key h1 _ (by simp;omega)).1,(key h1 _ (by simp;omega)).2,fun a=>(key (g1 a) _ (by simp;omega)).1,fun a=>(key (g1 a) _ (by simp;omega)).2,fun a b=>(key (g2 a b) _ (by simp;omega)).1,fun a b=>(key (g2 a b) _ (by simp;omega)).2⟩
theorem cF.cells4 {G n j : Nat} {e : TypeId} {ds : List D} {W : World} (h : cF G n 4 e ds j W) (hj : j < n) :
  (∃ u,W.cell? ⟨G,j * 4,none⟩ = some u) ∧ W.frozen? ⟨G,j * 4,none⟩ = false ∧ (∀ a,∃ u,(W.setCell ⟨G,j * 4,none⟩ a).cell? ⟨G,j * 4 + 1,none⟩ = some u) ∧ (∀ a,(W.setCell ⟨G,j * 4,none⟩ a).frozen? ⟨G,j * 4 + 1,none⟩ = false) ∧
   (∀ a b,∃ u,((W.setCell ⟨G,j * 4,none⟩ a).setCell ⟨G,j * 4 + 1,none⟩ b).cell? ⟨G,j * 4 + 2,none⟩ = some u) ∧ (∀ a b,((W.setCell ⟨G,j * 4,none⟩ a).setCell ⟨G,j * 4 + 1,none⟩ b).frozen? ⟨G,j * 4 + 2,none⟩ = false) ∧
   (∀ a b c,∃ u,(((W.setCell ⟨G,j * 4,none⟩ a).setCell ⟨G,j * 4 + 1,none⟩ b).setCell ⟨G,j * 4 + 2,none⟩ c).cell? ⟨G,j * 4 + 3,none⟩ = some u) ∧ (∀ a b c,(((W.setCell ⟨G,j * 4,none⟩ a).setCell ⟨G,j * 4 + 1,none⟩ b).setCell ⟨G,j * 4 + 2,none⟩ c).frozen? ⟨G,j * 4 + 3,none⟩ = false):=by
 obtain ⟨cs,h1,h2,h3⟩:=h
 have g1 : ∀ a,(W.setCell ⟨G,j * 4,none⟩ a).heap[G]? = _:=fun a=>aC (o:=j * 4) (u:=a) h1
 have g2 : ∀ a b,((W.setCell ⟨G,j * 4,none⟩ a).setCell ⟨G,j * 4 + 1,none⟩ b).heap[G]? = _:=fun a b=>aC (o:=j * 4 + 1) (u:=b) (g1 a)
 have g3 : ∀ a b c,(((W.setCell ⟨G,j * 4,none⟩ a).setCell ⟨G,j * 4 + 1,none⟩ b).setCell ⟨G,j * 4 + 2,none⟩ c).heap[G]? = _:=fun a b c=>aC (o:=j * 4 + 2) (u:=c) (g2 a b)
 have key : ∀ {w : World} {xs : Array Value} (g : w.heap[G]? = some (.cells xs e (0,0))) (o : Nat),o < xs.size → (∃ u,w.cell? ⟨G,o,none⟩ = some u) ∧ w.frozen? ⟨G,o,none⟩ = false:=fun {w xs} g o ho=>⟨⟨xs[o],by rw [bE g];simp [ho]⟩,by simp [World.frozen?,g]⟩
 exact ⟨(key h1 _ (by simp;omega)).1,(key h1 _ (by simp;omega)).2,fun a=>(key (g1 a) _ (by simp;omega)).1,fun a=>(key (g1 a) _ (by simp;omega)).2,fun a b=>(key (g2 a b) _ (by simp;omega)).1,fun a b=>(key (g2 a b) _ (by simp;omega)).2,fun a b c=>(key (g3 a b c) _ (by simp;omega)).1,fun a b c=>(key (g3 a b c) _ (by simp;omega)).2⟩
theorem cF.at {G n size : Nat} {e : TypeId} {ds : List D} {w W : World} (h : cF G n size e ds n W) (hd : ds.length = n * size) (hn : n ≤ maxLen) (hG : w.heap.size ≤ G) : At (hide (lo w) W) (.sl size n ds) (.slice (some ⟨G,0,none⟩) n n):=by
 obtain ⟨cs,h1,h2,h3⟩:=h
 rw [List.take_of_length_le (by omega)] at h3
 refine At.sl_mk hd (Nat.le_refl _) hn fun j d hd'=>?_
 obtain ⟨u,hu,ha⟩:=h3.2 j d hd'
 refine ⟨u, ?_,At.keep (aH fun k a b=>⟨by simp at b;simp [lo];omega,rfl⟩) _ _ ha⟩
 rw [cD (by simp [lo];omega),Nat.zero_add,bE h1]
 simpa using hu
theorem put3 (cs : List Value) (o : Nat) (a b c : Value) (h : o + 3 ≤ cs.length) : ((cs.set o a).set (o + 1) b).set (o + 2) c = cs.take o ++ [a,b,c] ++ cs.drop (o + 3):=by
 apply List.ext_getElem?
 intro k
 simp only [List.getElem?_set,List.length_set,List.append_assoc,List.getElem?_append,List.length_take,List.getElem?_take,List.getElem?_drop,List.length_cons,List.length_nil]
 rw [Nat.min_eq_left (by omega)]
 by_cases h1 : k < o
 ·simp [h1,show ¬ o + 2 = k by omega,show ¬ o + 1 = k by omega,show ¬ o = k by omega]
 ·obtain ⟨d,rfl⟩ : ∃ d,k = o + d:=⟨k - o,by omega⟩
  match d with
  | 0=>simp [show o < cs.length by omega]
  | 1=>simp [show o + 1 < cs.length by omega];omega
  | 2=>simp [show o + 2 < cs.length by omega];omega
  | d + 3=>simp [show ¬ o + (d + 3) < o by omega,show ¬ d + 3 < 3 by omega,show ¬ o + 2 = o + (d + 3) by omega,show ¬ o + 1 = o + (d + 3) by omega,show o + 3 + d = o + (d + 3) by omega]
theorem put4 (cs : List Value) (o : Nat) (a b c d : Value) (h : o + 4 ≤ cs.length) : (((cs.set o a).set (o + 1) b).set (o + 2) c).set (o + 3) d = cs.take o ++ [a,b,c,d] ++ cs.drop (o + 4):=by
 rw [put3 cs o a b c (by omega)]
 apply List.ext_getElem?
 intro k
 simp only [List.getElem?_set,List.length_set,List.append_assoc,List.getElem?_append,List.length_append,List.length_drop,List.length_take,List.getElem?_take,List.getElem?_drop,List.length_cons,List.length_nil]
 rw [Nat.min_eq_left (by omega)]
 by_cases h1 : k < o
 ·simp [h1,show ¬ o + 3 = k by omega]
 ·obtain ⟨d,rfl⟩ : ∃ d,k = o + d:=⟨k - o,by omega⟩
  match d with
  | 0=>simp
  | 1=>simp
  | 2=>simp
  | 3=>simp [show o + 3 < cs.length by omega,show ¬ o + 3 < o by omega,show 0 < cs.length - (o + 3) by omega]
  | d + 4=>simp [show ¬ o + (d + 4) < o by omega,show ¬ d + 4 < 4 by omega,show ¬ d + 4 < 3 by omega,show ¬ o + 3 = o + (d + 4) by omega,show o + 4 + d = o + (d + 4) by omega,show o + 3 + (d + 1) = o + (d + 4) by omega]
theorem cF.put {G n size j : Nat} {e : TypeId} {ds es : List D} {W W' : World} {ys : List Value} (h : cF G n size e ds j W) (hj : j < n) (hy : ys.length = size) (he : aU (hide (fun k=>decide (k < G + 1)) W) es ys)
  (hW : ∀ cs : List Value,W.heap[G]? = some (.cells cs.toArray e (0,0)) → cs.length = n * size → W'.heap[G]? = some (.cells (cs.take (j * size) ++ ys ++ cs.drop (j * size + size)).toArray e (0,0)))
  (hb : ∀ k,G < k → k < W.heap.size → W'.heap[k]? = W.heap[k]?) : cF G n size e (ds ++ es) (j + 1) W':=by
 obtain ⟨cs,h1,h2,h3⟩:=h
 have lj : j * size + size ≤ n * size:=by
  have:=Nat.mul_le_mul_right size (show j + 1 ≤ n by omega)
  rw [Nat.add_mul] at this;omega
 have K : bI (hide (fun k=>decide (k < G + 1)) W) (hide (fun k=>decide (k < G + 1)) W'):=aH fun k a b=>⟨b,hb k (by simp at b;omega) a⟩
 refine ⟨_,hW cs h1 h2,by simp;omega, ?_⟩
 have e1 : (cs.take (j * size) ++ ys ++ cs.drop (j * size + size)).take ((j + 1) * size) = cs.take (j * size) ++ ys:=by
  rw [List.take_append_of_le_length (by simp [Nat.add_mul];omega),List.take_of_length_le (by simp [Nat.add_mul];omega)]
 rw [e1]
 exact (h3.keep K).append (he.keep K)
theorem cF.put3 {G n j : Nat} {e : TypeId} {ds es : List D} {W : World} {a b c : Value} (h : cF G n 3 e ds j W) (hj : j < n) (he : aU (hide (fun k=>decide (k < G + 1)) W) es [a,b,c]) : cF G n 3 e (ds ++ es) (j + 1) (((W.setCell ⟨G,j * 3,none⟩ a).setCell ⟨G,j * 3 + 1,none⟩ b).setCell ⟨G,j * 3 + 2,none⟩ c):=by
 refine h.put hj rfl he (fun cs h1 h2=>?_) (fun k h1 h2=>by rw [Below.heap_setCell _ _ _ _ (by show k ≠ G;omega),Below.heap_setCell _ _ _ _ (by show k ≠ G;omega),Below.heap_setCell _ _ _ _ (by show k ≠ G;omega)])
 have:=aC (o:=j * 3 + 2) (u:=c) (aC (o:=j * 3 + 1) (u:=b) (aC (o:=j * 3) (u:=a) h1))
 rw [this,← _root_.Go.Proofs.YtppfalbnhnpbnaaGreatDoor.put3 cs (j * 3) a b c (by omega)]
 simp
theorem cF.put4 {G n j : Nat} {e : TypeId} {ds es : List D} {W : World} {a b c d : Value} (h : cF G n 4 e ds j W) (hj : j < n) (he : aU (hide (fun k=>decide (k < G + 1)) W) es [a,b,c,d]) : cF G n 4 e (ds ++ es) (j + 1) ((((W.setCell ⟨G,j * 4,none⟩ a).setCell ⟨G,j * 4 + 1,none⟩ b).setCell ⟨G,j * 4 + 2,none⟩ c).setCell ⟨G,j * 4 + 3,none⟩ d):=by
 refine h.put hj rfl he (fun cs h1 h2=>?_) (fun k h1 h2=>by rw [Below.heap_setCell _ _ _ _ (by show k ≠ G;omega),Below.heap_setCell _ _ _ _ (by show k ≠ G;omega),Below.heap_setCell _ _ _ _ (by show k ≠ G;omega),Below.heap_setCell _ _ _ _ (by show k ≠ G;omega)])
 have:=aC (o:=j * 4 + 3) (u:=d) (aC (o:=j * 4 + 2) (u:=c) (aC (o:=j * 4 + 1) (u:=b) (aC (o:=j * 4) (u:=a) h1)))
 rw [this,← _root_.Go.Proofs.YtppfalbnhnpbnaaGreatDoor.put4 cs (j * 4) a b c d (by omega)]
 simp
end Go.Proofs.YtppfalbnhnpbnaaGreatDoor
namespace Go.Proofs.YtppfalbnhnpbnaaGreatDoor
open Go Go.RowKit Ly
set_option maxRecDepth 10000
set_option maxHeartbeats 8000000 in
theorem vP {St : Type} (E : Nat → Prop) (nv : Value) (I : St → World → Prop) (f : St → Fm → Fm × St) (W : World) (ts : List Fm) (s0 : St) (a : Option Addr) (n c : Nat) (hx : aN W ts (.slice a n c)) (hn : ts.length ≤ 100000) (h0 : I s0 W) (hI : kU W.heap.size I)
  (hmap : ∀ s X,I s X → ∀ k,E k → ∃ es c,X.heap[k]? = some (.map es c)) (hE : ∀ k,E k → k < W.heap.size)
  (hf : ∀ j t,ts[j]? = some t → ∀ X x,I (stAt f s0 ts j) X → ButE E W X → aV X t x → Calls Tryz.prog 38 #[nv,x] X fun e w'=>∃ v,e = .returned v ∧ aV (hide (lo X) w') (f (stAt f s0 ts j) t).1 v ∧ I (f (stAt f s0 ts j) t).2 w' ∧ ButE E X w') :
  Calls Tryz.prog 69 #[.slice a n c,.func (.func 38) #[nv] #[]] W fun e w'=>∃ v,e = .returned v ∧ aN (hide (lo W) w') (aK f s0 ts).1 v ∧ I (aK f s0 ts).2 w' ∧ ButE E W w':=by
 have hl:=hx.len
 have L2:=Lib.hid hl.1
 have N0 : n ≤ 100000:=by rw [hl.1];exact hn
 have HX:=Lib.hid hx
 have H0:=Lib.hid h0
 have HI:=Lib.hid hI
 have HK : Hid (∀ X,ButE E W X → bI W X):=fun X hX=>hX.keeps (hmap s0 W h0)
 have HE:=Lib.hid hE
 have HF:=Lib.hid hf
 obtain ⟨i0,hi0,hz0,hs0,hb0⟩:=info_parts dV
 clear hl hx hn h0 hI hmap hE hf
 go_enter Tryz.func69,Tryz.ntmps69
 by_cases hn0 : n = 0
 ·subst hn0
  go_wp2
  have e : ts = []:=List.eq_nil_of_length_eq_zero L2.out.symm
  go_ret
  subst e
  exact ⟨_,rfl,At.sl_nil (by unfold maxLen;omega),H0.out,ButE.refl _ _⟩
 ·go_wp2_with (at_make;refine wpList_make_full _ rfl _ _ 24 rfl W.heap.size 40 i0 (.agg #[.int .u8 0,.string ⟨#[]⟩,.slice none 0 0,.slice none 0 0]) 4 Tryz.underlying24 hi0 hz0 hs0 .i64 .i64 _ _ n rfl rfl (by first | rfl | omega) (by first | rfl | omega) (by rw [hb0];omega) (by unfold maxLen;omega) (Nat.le_refl _) ?_;intro w1 hown1 hgrow1)
  obtain ⟨G,hG⟩ : ∃ G,W.heap.size = G:=⟨_,rfl⟩
  have A0 : Hid (cF G n 4 40 (bJ (aK f s0 (ts.take 0)).1) 0 w1 ∧ I (stAt f s0 ts 0) w1 ∧ ButE E W w1):=by
   have B : ButE E W w1:=⟨hgrow1.os,hgrow1.tape,hgrow1.output,hgrow1.size,fun k hk _=>hgrow1.block k hk (by simp)⟩
   refine ⟨?_,HI.out s0 W w1 H0.out (fun k hk=>hgrow1.block k hk (by simp)),B⟩
   rcases hown1.2 with ⟨e,-⟩ | ⟨g,cap,cur,e,-,h3,h4,h5,h6,h7⟩
   ·cases e
   ·simp only [Value.slice.injEq,Option.some.injEq,Addr.mk.injEq,and_true,true_and] at e
    obtain ⟨e1,rfl⟩:=e
    rw [← hG]
    rw [← e1] at h3
    exact ⟨cur.toList,by simpa using h3,by simpa using h6,by simpa [aK,bJ] using aU.nil _⟩
  rw [hG]
  have HG:=Lib.hid hG
  clear hown1 hgrow1 hn0 hG H0
  go_loopw [16] (fun i wr=>∃ j : Nat,j ≤ n ∧ i = .int .i64 j ∧ Hid (cF G n 4 40 (bJ (aK f s0 (ts.take j)).1) j wr ∧ I (stAt f s0 ts j) wr ∧ ButE E W wr)) (fun i _=>n - (intOf i).toNat)
  case atStart=>exact ⟨0,Nat.zero_le _,rfl,A0.out⟩
  case round =>
   obtain ⟨j,hj,rfl,hs⟩:=hrel
   clear A0
   by_cases hlt : j < n
   ·obtain ⟨T,hT⟩:=aT (l:=ts) (j:=j) (by rw [← L2.out];exact hlt)
    obtain ⟨bb,off,rfl,hc⟩:=HX.out.get (aX hT)
    obtain ⟨x0,x1,x2,x3,x4,x5,hx⟩:=hc j _ hT
    have hK:=HK.out _ hs.out.2.2
    have c0:=hK _ _ hx.c0;have c1:=hK _ _ hx.c1;have c2:=hK _ _ hx.c2;have c3:=hK _ _ hx.c3
    have HT:=Lib.hid hT
    have IC : Hid (∀ o,Calls Tryz.prog 38 #[nv,.agg #[.int .u8 T.op,str T.name,.slice x0 x1 x2,.slice x3 x4 x5]] (wr.alloc o) fun e w'=>∃ v,e = .returned v ∧ aV (hide (lo (wr.alloc o)) w') (f (stAt f s0 ts j) T).1 v ∧ I (f (stAt f s0 ts j) T).2 w' ∧ ButE E (wr.alloc o) w'):=fun o =>
     HF.out j T HT.out _ _ (HI.out _ _ _ hs.out.2.1 (fun k hk=>((Below.refl _ wr).alloc (Nat.le_refl _) o).block k (by have:=hs.out.2.2.size;omega))) (hs.out.2.2.alloc o) ⟨_,_,_,_,_,_,rfl,(hx.at_.keep hK).keep (aA ((Below.refl _ _).alloc (Nat.le_refl _) _)),(hx.at'.keep hK).keep (aA ((Below.refl _ _).alloc (Nat.le_refl _) _))⟩
    clear hc hx hT hK
    go_wp2_with (
           go_at_call 38
           refine (IC.out _).mono ?_
           rintro e w3 ⟨v3,rfl,⟨fa,fn,fc,fb,fm,fd,rfl,h3,h4⟩,i3,b3⟩
           have FA:=hs.out.1.keep (W':=w3) (fun k h1 h2=>(b3.block k (by simp;omega) (fun e=>by have:=HE.out k e;have:=HG.out;omega)).trans (((Below.refl _ wr).alloc (Nat.le_refl _) _).block k h2))
           obtain ⟨⟨p0,q0⟩,f0,p1,f1,p2,f2,p3,f3⟩:=FA.cells4 hlt
           obtain ⟨u1,q1⟩:=Classical.axiomOfChoice p1
           obtain ⟨u2,q2⟩ : ∃ u2 : Value → Value → Value,∀ a b,((w3.setCell ⟨G,j * 4,none⟩ a).setCell ⟨G,j * 4 + 1,none⟩ b).cell? ⟨G,j * 4 + 2,none⟩ = some (u2 a b):=⟨fun a b=>(p2 a b).choose,fun a b=>(p2 a b).choose_spec⟩
           obtain ⟨u3,q3⟩ : ∃ u3 : Value → Value → Value → Value,∀ a b c,(((w3.setCell ⟨G,j * 4,none⟩ a).setCell ⟨G,j * 4 + 1,none⟩ b).setCell ⟨G,j * 4 + 2,none⟩ c).cell? ⟨G,j * 4 + 3,none⟩ = some (u3 a b c):=⟨fun a b c=>(p3 a b c).choose,fun a b c=>(p3 a b c).choose_spec⟩
           clear p1 p2 p3
           have H3:=Lib.hid (And.intro FA (And.intro i3 b3))
           have R3:=Lib.hid (And.intro h3 h4)
           clear FA i3 b3 h3 h4)
    go_roundw
    case rel =>
     refine ⟨j + 1,by omega,by go_num, ?_⟩
     obtain ⟨FA,i3,b3⟩:=H3.out
     have e:=gY f s0 HT.out
     have g:=HG.out
     have lg : G < wr.heap.size:=by obtain ⟨cs,h1,-,-⟩:=hs.out.1;exact (Array.getElem?_eq_some_iff.1 h1).1
     have K : ∀ o,bI (hide (lo (wr.alloc o)) w3) (hide (fun k=>decide (k < G + 1)) w3):=fun o=>aH fun k a b=>⟨by simp [lo] at b;simp;omega,rfl⟩
     refine ⟨?_, ?_, ?_⟩
     ·rw [e,iH]
      have:=cF.put4 FA hlt (eV (R3.out.1.keep (K _)) (R3.out.2.keep (K _)))
      simpa [bJ] using this
     ·have : stAt f s0 ts (j + 1) = (f (stAt f s0 ts j) T).2:=by unfold stAt;rw [e];rfl
      rw [this]
      exact HI.out _ w3 _ i3 (fun k hk=>by rw [Below.heap_setCell _ _ _ _ (by show k ≠ G;omega),Below.heap_setCell _ _ _ _ (by show k ≠ G;omega),Below.heap_setCell _ _ _ _ (by show k ≠ G;omega),Below.heap_setCell _ _ _ _ (by show k ≠ G;omega)])
     ·exact (((((hs.out.2.2.alloc _).trans b3).set (by omega) _ _).set (by omega) _ _).set (by omega) _ _).set (by omega) _ _
    case measure=>simp [intOf];omega
   ·have ej : j = n:=by omega
    obtain ⟨FA,i3,b3⟩:=hs.out
    have et : ts.take j = ts:=List.take_of_length_le (by rw [← L2.out];omega)
    rw [et] at FA
    have i4 : I (aK f s0 ts).2 wr:=by have:=i3;unfold stAt at this;rwa [et] at this
    have FE : Hid (aN (hide (lo W) wr) (aK f s0 ts).1 (.slice (some ⟨G,0,none⟩) n n) ∧ I (aK f s0 ts).2 wr ∧ ButE E W wr):=by
     refine ⟨?_,i4,b3⟩
     have le : (aK f s0 ts).1.length = n:=by rw [gO,← L2.out]
     show At _ (.sl 4 (aK f s0 ts).1.length (bJ (aK f s0 ts).1)) _
     rw [le]
     rw [ej] at FA
     have ld : (bJ (aK f s0 ts).1).length = n * 4:=by rw [gN,le]
     exact cF.at FA ld (by unfold maxLen;omega) (by have:=HG.out;omega)
    clear FA i3 b3 i4 et ej hs
    go_wp2_with fail
    go_ret
    exact ⟨_,rfl,FE.out⟩
end Go.Proofs.YtppfalbnhnpbnaaGreatDoor
namespace Go.Proofs.YtppfalbnhnpbnaaGreatDoor
open Go Go.RowKit Ly
set_option maxRecDepth 10000
set_option maxHeartbeats 8000000 in
theorem each123_c {St : Type} (E : Nat → Prop) (nv : Value) (I : St → World → Prop) (f : St → Tm → Tm × St) (W : World) (ts : List Tm) (s0 : St) (a : Option Addr) (n c : Nat) (hx : bG W ts (.slice a n c)) (hn : ts.length ≤ 100000) (h0 : I s0 W) (hI : kU W.heap.size I)
  (hmap : ∀ s X,I s X → ∀ k,E k → ∃ es c,X.heap[k]? = some (.map es c)) (hE : ∀ k,E k → k < W.heap.size)
  (hf : ∀ j t,ts[j]? = some t → ∀ X x,I (stAt f s0 ts j) X → ButE E W X → dC X t x → Calls Tryz.prog 123 #[nv,x] X fun e w'=>∃ v,e = .returned v ∧ dC (hide (lo X) w') (f (stAt f s0 ts j) t).1 v ∧ I (f (stAt f s0 ts j) t).2 w' ∧ ButE E X w') :
  Calls Tryz.prog 114 #[.slice a n c,.func (.func 123) #[nv] #[]] W fun e w'=>∃ v,e = .returned v ∧ bG (hide (lo W) w') (aK f s0 ts).1 v ∧ I (aK f s0 ts).2 w' ∧ ButE E W w':=by
 have hl:=hx.len
 have L2:=Lib.hid hl.1
 have N0 : n ≤ 100000:=by rw [hl.1];exact hn
 have HX:=Lib.hid hx
 have H0:=Lib.hid h0
 have HI:=Lib.hid hI
 have HK : Hid (∀ X,ButE E W X → bI W X):=fun X hX=>hX.keeps (hmap s0 W h0)
 have HE:=Lib.hid hE
 have HF:=Lib.hid hf
 obtain ⟨i0,hi0,hz0,hs0,hb0⟩:=info_parts mQ
 clear hl hx hn h0 hI hmap hE hf
 go_enter Tryz.func114,Tryz.ntmps114
 by_cases hn0 : n = 0
 ·subst hn0
  go_wp2
  have e : ts = []:=List.eq_nil_of_length_eq_zero L2.out.symm
  go_ret
  subst e
  exact ⟨_,rfl,At.sl_nil (by unfold maxLen;omega),H0.out,ButE.refl _ _⟩
 ·go_wp2_with (at_make;refine wpList_make_full _ rfl _ _ 36 rfl W.heap.size 38 i0 (.agg #[.bool false,.string ⟨#[]⟩,.slice none 0 0]) 3 Tryz.underlying36 hi0 hz0 hs0 .i64 .i64 _ _ n rfl rfl (by first | rfl | omega) (by first | rfl | omega) (by rw [hb0];omega) (by unfold maxLen;omega) (Nat.le_refl _) ?_;intro w1 hown1 hgrow1)
  obtain ⟨G,hG⟩ : ∃ G,W.heap.size = G:=⟨_,rfl⟩
  have A0 : Hid (cF G n 3 38 (bS (aK f s0 (ts.take 0)).1) 0 w1 ∧ I (stAt f s0 ts 0) w1 ∧ ButE E W w1):=by
   have B : ButE E W w1:=⟨hgrow1.os,hgrow1.tape,hgrow1.output,hgrow1.size,fun k hk _=>hgrow1.block k hk (by simp)⟩
   refine ⟨?_,HI.out s0 W w1 H0.out (fun k hk=>hgrow1.block k hk (by simp)),B⟩
   rcases hown1.2 with ⟨e,-⟩ | ⟨g,cap,cur,e,-,h3,h4,h5,h6,h7⟩
   ·cases e
   ·simp only [Value.slice.injEq,Option.some.injEq,Addr.mk.injEq,and_true,true_and] at e
    obtain ⟨e1,rfl⟩:=e
    rw [← hG]
    rw [← e1] at h3
    exact ⟨cur.toList,by simpa using h3,by simpa using h6,by simpa [aK,bS] using aU.nil _⟩
  rw [hG]
  have HG:=Lib.hid hG
  clear hown1 hgrow1 hn0 hG H0
  go_loopw [16] (fun i wr=>∃ j : Nat,j ≤ n ∧ i = .int .i64 j ∧ Hid (cF G n 3 38 (bS (aK f s0 (ts.take j)).1) j wr ∧ I (stAt f s0 ts j) wr ∧ ButE E W wr)) (fun i _=>n - (intOf i).toNat)
  case atStart=>exact ⟨0,Nat.zero_le _,rfl,A0.out⟩
  case round =>
   obtain ⟨j,hj,rfl,hs⟩:=hrel
   clear A0
   by_cases hlt : j < n
   ·obtain ⟨T,hT⟩:=aT (l:=ts) (j:=j) (by rw [← L2.out];exact hlt)
    obtain ⟨bb,off,rfl,hc⟩:=HX.out.get (aX hT)
    obtain ⟨x0,x1,x2,hx⟩:=hc j _ hT
    have hK:=HK.out _ hs.out.2.2
    have c0:=hK _ _ hx.c0;have c1:=hK _ _ hx.c1;have c2:=hK _ _ hx.c2
    have HT:=Lib.hid hT
    have IC : Hid (∀ o,Calls Tryz.prog 123 #[nv,.agg #[.bool T.v,str T.name,.slice x0 x1 x2]] (wr.alloc o) fun e w'=>∃ v,e = .returned v ∧ dC (hide (lo (wr.alloc o)) w') (f (stAt f s0 ts j) T).1 v ∧ I (f (stAt f s0 ts j) T).2 w' ∧ ButE E (wr.alloc o) w'):=fun o =>
     HF.out j T HT.out _ _ (HI.out _ _ _ hs.out.2.1 (fun k hk=>((Below.refl _ wr).alloc (Nat.le_refl _) o).block k (by have:=hs.out.2.2.size;omega))) (hs.out.2.2.alloc o) ⟨_,_,_,rfl,(hx.at_.keep hK).keep (aA ((Below.refl _ _).alloc (Nat.le_refl _) _))⟩
    clear hc hx hT hK
    go_wp2_with (
           go_at_call 123
           refine (IC.out _).mono ?_
           rintro e w3 ⟨v3,rfl,⟨fa,fn,fc,rfl,h3⟩,i3,b3⟩
           have FA:=hs.out.1.keep (W':=w3) (fun k h1 h2=>(b3.block k (by simp;omega) (fun e=>by have:=HE.out k e;have:=HG.out;omega)).trans (((Below.refl _ wr).alloc (Nat.le_refl _) _).block k h2))
           obtain ⟨⟨p0,q0⟩,f0,p1,f1,p2,f2⟩:=FA.cells3 hlt
           obtain ⟨u1,q1⟩:=Classical.axiomOfChoice p1
           obtain ⟨u2,q2⟩ : ∃ u2 : Value → Value → Value,∀ a b,((w3.setCell ⟨G,j * 3,none⟩ a).setCell ⟨G,j * 3 + 1,none⟩ b).cell? ⟨G,j * 3 + 2,none⟩ = some (u2 a b):=⟨fun a b=>(p2 a b).choose,fun a b=>(p2 a b).choose_spec⟩
           clear p1 p2
           have H3:=Lib.hid (And.intro FA (And.intro i3 b3))
           have R3:=Lib.hid h3
           clear FA i3 b3 h3)
    go_roundw
    case rel =>
     refine ⟨j + 1,by omega,by go_num, ?_⟩
     obtain ⟨FA,i3,b3⟩:=H3.out
     have e:=gY f s0 HT.out
     have g:=HG.out
     have lg : G < wr.heap.size:=by obtain ⟨cs,h1,-,-⟩:=hs.out.1;exact (Array.getElem?_eq_some_iff.1 h1).1
     have K : ∀ o,bI (hide (lo (wr.alloc o)) w3) (hide (fun k=>decide (k < G + 1)) w3):=fun o=>aH fun k a b=>⟨by simp [lo] at b;simp;omega,rfl⟩
     refine ⟨?_, ?_, ?_⟩
     ·rw [e,oP]
      have:=cF.put3 FA hlt (fM (R3.out.keep (K _)))
      simpa [bS] using this
     ·have : stAt f s0 ts (j + 1) = (f (stAt f s0 ts j) T).2:=by unfold stAt;rw [e];rfl
      rw [this]
      exact HI.out _ w3 _ i3 (fun k hk=>by rw [Below.heap_setCell _ _ _ _ (by show k ≠ G;omega),Below.heap_setCell _ _ _ _ (by show k ≠ G;omega),Below.heap_setCell _ _ _ _ (by show k ≠ G;omega)])
     ·exact ((((hs.out.2.2.alloc _).trans b3).set (by omega) _ _).set (by omega) _ _).set (by omega) _ _
    case measure=>simp [intOf];omega
   ·have ej : j = n:=by omega
    obtain ⟨FA,i3,b3⟩:=hs.out
    have et : ts.take j = ts:=List.take_of_length_le (by rw [← L2.out];omega)
    rw [et] at FA
    have i4 : I (aK f s0 ts).2 wr:=by have:=i3;unfold stAt at this;rwa [et] at this
    have FE : Hid (bG (hide (lo W) wr) (aK f s0 ts).1 (.slice (some ⟨G,0,none⟩) n n) ∧ I (aK f s0 ts).2 wr ∧ ButE E W wr):=by
     refine ⟨?_,i4,b3⟩
     have le : (aK f s0 ts).1.length = n:=by rw [gO,← L2.out]
     show At _ (.sl 3 (aK f s0 ts).1.length (bS (aK f s0 ts).1)) _
     rw [le]
     rw [ej] at FA
     have ld : (bS (aK f s0 ts).1).length = n * 3:=by rw [lM,le]
     exact cF.at FA ld (by unfold maxLen;omega) (by have:=HG.out;omega)
    clear FA i3 b3 i4 et ej hs
    go_wp2_with fail
    go_ret
    exact ⟨_,rfl,FE.out⟩
end Go.Proofs.YtppfalbnhnpbnaaGreatDoor
