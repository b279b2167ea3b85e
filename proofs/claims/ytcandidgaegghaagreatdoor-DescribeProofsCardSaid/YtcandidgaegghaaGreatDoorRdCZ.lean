/- The reader of words: what is accepted, lists of the call's own, must and take, and terms. Conditions: words of at most the greatest length. -/
import Derived.Test.YtcandidgaegghaaGreatDoorCpZ
import Derived.Test.YtcandidgaegghaaGreatDoorRdBZ
import Derived.Test.YtcandidgaegghaaGreatDoorShelfZ
import Derived.Laws.Rows
set_option maxRecDepth 10000
set_option linter.unusedSimpArgs false
set_option linter.unusedVariables false
namespace Go.Proofs.YtcandidgaegghaaGreatDoor
open Go Go.RowKit Ly
set_option maxHeartbeats 4000000
theorem gI.moved {w w' : World} {I : RdIx} {M n : Nat} {T : Bs → Value} (h : gI w M n T) (m : aN I w w') (hA : M ≠ I.A) (hS : M ≠ I.S) : gI w' M n T:=by
 have h1 : w.grownBy ⟨w'.heap.setIfInBounds I.A (w.heap.getD I.A (.map #[] 0)),w.tape,w.drawn,w.os,w.output⟩ (some I.S):=by
  refine ⟨rfl,rfl,rfl,by simpa using m.size,fun k hk hne=>?_⟩
  simp only [Array.getElem?_setIfInBounds]
  by_cases e : I.A = k
  ·subst e
   have:=Nat.lt_of_lt_of_le hk m.size
   simp [this,hk]
  ·rw [if_neg e]
   exact m.block k hk (Ne.symm e) (fun e2=>hne (by rw [e2]))
 have h2 : World.grownBy ⟨w'.heap.setIfInBounds I.A (w.heap.getD I.A (.map #[] 0)),w.tape,w.drawn,w.os,w.output⟩ w' (some I.A):=by
  refine ⟨m.os,m.tape,m.output,by simp,fun k hk hne=>?_⟩
  simp only [Array.getElem?_setIfInBounds]
  rw [if_neg (fun e=>hne (by rw [e]))]
 exact (h.grown h1 (by simpa using hS)).grown h2 (by simpa using hA)
theorem FC {w w' : World} {I : RdIx} {ws : List Bs} {k : Nat} {f : Bool} (r : Rd w I ws k f) (m : aN I w w') : KR w w':=by
 intro b cs t fz h1 h2 hb
 rw [m.block b (Array.getElem?_eq_some_iff.1 hb).1 (fun e=>?_) (fun e=>?_)]
 ·exact hb
 ·subst e;rw [r.hA] at hb;cases hb;exact h2 rfl
 ·subst e;rw [r.hS] at hb;cases hb;exact h1 rfl
theorem Tb.moved {w w' : World} {I : RdIx} {ws : List Bs} {k : Nat} {f : Bool} (t : Tb w I) (r : Rd w I ws k f) (m : aN I w w') : Tb w' I:=by
 obtain ⟨n,T,h1,h2,h3⟩:=t
 have hm : ∃ es clk,w.heap[I.M]? = some (.map es clk):=by
  obtain ⟨D,⟨es,clk,hb,_⟩,_⟩:=h1
  exact ⟨es,clk,hb⟩
 obtain ⟨es,clk,hm⟩:=hm
 refine ⟨n,T,h1.moved m (fun e=>?_) (fun e=>?_),fun i hi=>(h2 i hi).keepn (FC r m),h3⟩
 ·rw [e,r.hA] at hm;cases hm
 ·rw [e,r.hS] at hm;cases hm
def Acc (g : FuncId) (fs cs : Array Value) (w : World) (p : Bs → Bool) : Prop:=∀ s : Bs,s.length ≤ maxLen → Calls Tryz.prog g (fs.push (str s) ++ cs) w (Rt (.bool (p s)) w)
theorem xM {s : Bs} (hs : s.length ≤ maxLen) : s.length ≤ 9223372036854775807:=by unfold maxLen at hs;exact Nat.le_trans hs (by decide)
theorem KJ (w : World) : Acc 306 #[] #[] w fun s=>aZ s || dO s:=by
 intro s hs
 have hl:=Hd (xM hs)
 show Calls Tryz.prog 306 #[str s] w _
 go_enter Tryz.func306,Tryz.ntmps306
 cases hv : aZ s
 ·have HV:=Hd hv
  clear hv
  cases hf : dO s
  all_goals
   have HF:=Hd hf
   clear hf
   go_wp2_with (first
    | (go_at_call 266;refine (eS s _ hl.out).mono ?_;rintro e w2 ⟨he,hb2⟩;rw [show aZ s = false from HV.out] at he;subst he;have B2:=Hd hb2;clear hb2)
    | (go_at_call 307;refine (nC s _ hl.out).mono ?_;rintro e w3 ⟨he,hb3⟩;rw [show dO s = _ from HF.out] at he;subst he;have B3:=Hd hb3;clear hb3))
   go_ret
   exact ⟨rfl,B2.out.trans (B3.out.mono B2.out.size)⟩
 ·have HV:=Hd hv
  clear hv
  go_wp2_with (go_at_call 266;refine (eS s _ hl.out).mono ?_;rintro e w2 ⟨he,hb2⟩;rw [show aZ s = true from HV.out] at he;subst he;have B2:=Hd hb2;clear hb2)
  go_ret
  exact ⟨rfl,B2.out⟩
theorem wK (w : World) : Acc 266 #[] #[] w aZ:=fun s hs=>eS s w (xM hs)
theorem bytes_inj {x y : Bs} : (⟨x.toArray⟩ : ByteArray) = ⟨y.toArray⟩ ↔ x = y:=by
 constructor
 ·intro h;have:=congrArg (fun b : ByteArray=>b.data.toList) h;simpa using this
 ·rintro rfl;rfl
theorem is1_c {w : World} {b : Nat} {l : List Bs} {a : Option Addr} {n c : Nat} (hb : w.heap[b]? = some (.cells #[.slice a n c] 36 (0,0))) (h : aU w l (.slice a n c)) (hne : l ≠ []) : Acc 299 #[] #[one b] w fun s=>decide (s ∈ l):=by
 intro s hs
 have c0:=cell_of_one hb
 obtain ⟨bb,off,rfl,hc⟩:=h.get hne
 have hn:=h.len
 have C:=Tryz.slices_Contains_string bb off n c (l.map fun x=>⟨x.toArray⟩) ⟨s.toArray⟩ w (by simp;omega) (by have:=hn.2;unfold maxLen at this;omega) (by
  intro j hj
  simp only [List.length_map] at hj
  have:=hc j l[j] (List.getElem?_eq_getElem hj)
  rw [this]
  simp [hj])
 have e : Lib.containsS ((l.map fun x=>(⟨x.toArray⟩ : ByteArray)).take n) ⟨s.toArray⟩ = decide (s ∈ l):=by
  rw [List.take_of_length_le (by simp;omega),Bool.eq_iff_iff,Lib.containsS_iff,decide_eq_true_eq,List.mem_map]
  constructor
  ·rintro ⟨x,hx,he⟩
   rw [bytes_inj.1 he] at hx;exact hx
  ·intro hx;exact ⟨s,hx,rfl⟩
 rw [e] at C
 have HC:=Hd C
 clear C e hb h hc hn hs
 show Calls Tryz.prog 299 #[str s,one b] w _
 go_enter Tryz.func299,Tryz.ntmps299
 go_wp2_with (go_at_call 300;refine HC.out.mono ?_;rintro e w2 ⟨rfl,rfl⟩)
 go_ret
 exact ⟨rfl,Below.refl _ _⟩
theorem iv_func {w : World} {S i : Nat} {v : Value} (hi : i ∈ cW) (h : IV w S i v) : ∃ g fs cs,v = .func g fs cs:=by
 unfold IV at h
 split at h
 ·exact ⟨_,_,_,h⟩
 ·rename_i h2
  simp only [cW,List.mem_cons,List.mem_nil_iff,or_false] at hi
  rcases hi with rfl | rfl | rfl | rfl | rfl | rfl | rfl | rfl | rfl | rfl | rfl | rfl
  ·exact absurd rfl h2
  all_goals first
   | (obtain ⟨_,_,e,_⟩:=h;exact ⟨_,_,_,e⟩)
   | (obtain ⟨_,_,_,e,_⟩:=h;exact ⟨_,_,_,e⟩)
   | exact ⟨_,_,_,h⟩
def keyed (s : Bs) : Bool:=decide (s ∈ cW.map dN)
theorem Tb.key {w : World} {I : RdIx} (t : Tb w I) (s : Bs) (hs : s.length ≤ maxLen) :
  (keyed s = true ∧ ∃ i ∈ cW,s = dN i ∧ ∃ g fs cs,IV w I.S i (.func g fs cs) ∧ (Instr.lookup 159 (.map (some I.M)) (str s) false).run Tryz.prog w = .ok (.func g fs cs) w) ∨ (keyed s = false ∧ (Instr.lookup 159 (.map (some I.M)) (str s) false).run Tryz.prog w = .ok .nilFunc w):=by
 obtain ⟨n,T,h1,h2,h3⟩:=t
 have L:=h1.look s hs
 by_cases hk : s ∈ cW.map dN
 ·left
  refine ⟨by simp [keyed,hk], ?_⟩
  obtain ⟨i,hi,e⟩:=List.mem_map.1 hk
  have iv:=h2 i hi
  rw [e] at iv
  obtain ⟨g,fs,cs,ev⟩:=iv_func hi iv
  rw [ev] at L iv
  exact ⟨i,hi,e.symm,g,fs,cs,iv,L⟩
 ·right
  refine ⟨by simp [keyed,hk], ?_⟩
  rw [h3 s fun i hi e=>hk (List.mem_map.2 ⟨i,hi,e.symm⟩)] at L
  exact L
theorem xY (g : Fn) (fs cs : Array Value) (w : World) : (binOp BinOp.neq 155 (.func g fs cs) .nilFunc).run Tryz.prog w = .ok (.bool true) w:=by rfl
theorem DV (w : World) : (binOp BinOp.neq 155 .nilFunc .nilFunc).run Tryz.prog w = .ok (.bool false) w:=by rfl
theorem wD {w : World} {I : RdIx} {ws : List Bs} {k : Nat} {f : Bool} {b : Nat} (h : Rd w I ws k f) (t : Tb w I) (hb : w.heap[b]? = some (.cells #[one I.S] 153 (0,0))) : Acc 197 #[] #[one b] w fun s=>keyed s || bN s:=by
 intro s hs
 have hl:=Hd (xM hs)
 have c0:=cell_of_one hb
 have s3 : w.cell? ⟨I.S,3,none⟩ = some (.map (some I.M)):=by rw [box_cell h.hS];rfl
 show Calls Tryz.prog 197 #[str s,one b] w _
 rcases t.key s hs with ⟨hk,i,hi,e,g,fs,cs,iv,L⟩ | ⟨hk,L⟩
 ·have HK:=Hd hk
  clear hk t h hb iv hi e
  have N:=xY g fs cs w
  go_enter Tryz.func197,Tryz.ntmps197
  go_wp2_with fail
  go_ret
  exact ⟨by rw [HK.out];rfl,Below.refl _ _⟩
 ·have HK:=Hd hk
  clear hk t h hb
  have N:=DV w
  go_enter Tryz.func197,Tryz.ntmps197
  cases hf : bN s
  all_goals
   have HF:=Hd hf
   clear hf
   go_wp2_with (go_at_call 198;refine (lT s _ hl.out).mono ?_;rintro e w2 ⟨he,hb2⟩;rw [show bN s = _ from HF.out] at he;subst he;have B2:=Hd hb2;clear hb2)
   go_ret
   exact ⟨by rw [HK.out];rfl,B2.out⟩
open Go Go.RowKit Ly
set_option maxHeartbeats 800000
def hide (p : Nat → Bool) (w : World) : World:=⟨w.heap.mapIdx fun i o=>if p i then .map #[] 0 else o,w.tape,w.drawn,w.os,w.output⟩
theorem lH (p : Nat → Bool) (w : World) (k : Nat) (h : p k = false) : (hide p w).heap[k]? = w.heap[k]?:=by
 simp only [hide,Array.getElem?_mapIdx,h,Bool.false_eq_true,if_false]
 cases w.heap[k]? <;> rfl
theorem eZ {p : Nat → Bool} {w : World} {a : Addr} (h : p a.block = false) : (hide p w).cell? a = w.cell? a:=World.cell?_of_block (lH p w _ h)
theorem tX {p : Nat → Bool} {w : World} {a : Addr} {v : Value} (h : (hide p w).cell? a = some v) : p a.block = false:=by
 cases hp : p a.block with
 | false=>rfl
 | true =>
  exfalso
  have lt:=World.block_lt_of_cell? _ a h
  have g : (hide p w).heap[a.block]? = some (.map #[] 0):=by
   have l2 : a.block < w.heap.size:=by simpa [hide] using lt
   simp [hide,Array.getElem?_mapIdx,hp,l2]
  simp [World.cell?,g] at h
theorem fG (p : Nat → Bool) (w : World) : aR (hide p w) w:=fun a v h=>by rw [← eZ (tX h)];exact h
theorem aV {p q : Nat → Bool} {w w' : World} (h : ∀ k,k < w.heap.size → p k = false → q k = false ∧ w'.heap[k]? = w.heap[k]?) : aR (hide p w) (hide q w'):=fun a v hv=>by
 have hp:=tX hv
 rw [eZ hp] at hv
 obtain ⟨h1,h2⟩:=h a.block (World.block_lt_of_cell? w a hv) hp
 rw [eZ h1,World.cell?_of_block h2];exact hv
def pI (I : RdIx) : Nat → Bool:=fun k=>k == I.A || k == I.S
theorem aN.keeps {I : RdIx} {w w' : World} (m : aN I w w') : aR (hide (pI I) w) (hide (pI I) w'):=aV fun k hk hp=>by
 refine ⟨hp, ?_⟩
 simp only [pI,Bool.or_eq_false_iff,beq_eq_false_iff_ne] at hp
 exact m.block k hk hp.1 hp.2
def aP (W : World) (ds : List D) (xs : List Value) : Prop:=xs.length = ds.length ∧ ∀ (j : Nat) (d : D),ds[j]? = some d → ∃ u,xs[j]? = some u ∧ At W d u
theorem aP.keep {W W' : World} {ds : List D} {xs : List Value} (h : aP W ds xs) (k : aR W W') : aP W' ds xs :=
 ⟨h.1,fun j d hd=>by obtain ⟨u,h1,h2⟩:=h.2 j d hd;exact ⟨u,h1,At.keep k _ _ h2⟩⟩
theorem aP.nil (W : World) : aP W [] []:=⟨rfl,fun j d h=>by simp at h⟩
theorem aP.cons {W : World} {d : D} {x : Value} {ds : List D} {xs : List Value} (h : At W d x) (hs : aP W ds xs) : aP W (d :: ds) (x :: xs):=by
 refine ⟨by simp [hs.1],fun j e he=>?_⟩
 cases j with
 | zero=>simp at he;subst he;exact ⟨x,rfl,h⟩
 | succ j=>simp at he ⊢;exact hs.2 j e he
theorem aP.append {W : World} {ds es : List D} {xs ys : List Value} (h : aP W ds xs) (h' : aP W es ys) : aP W (ds ++ es) (xs ++ ys):=by
 refine ⟨by simp [h.1,h'.1],fun j d hd=>?_⟩
 by_cases hj : j < ds.length
 ·rw [List.getElem?_append_left hj] at hd
  rw [List.getElem?_append_left (by rw [h.1];exact hj)]
  exact h.2 j d hd
 ·rw [List.getElem?_append_right (by omega)] at hd
  rw [List.getElem?_append_right (by rw [h.1];omega),h.1]
  exact h'.2 _ d hd
theorem aP.fresh {p : Nat → Bool} {w : World} {ds : List D} {cs : Array Value} {t : TypeId} {size n : Nat} (h : aP (hide p w) ds cs.toList) (hp : p w.heap.size = false) (hn : ds.length = n * size) (hc : n ≤ maxLen) :
  At (hide p (w.alloc (.cells cs t))) (.sl size n ds) (.slice (some ⟨w.heap.size,0,none⟩) n n):=by
 refine At.sl_mk hn (Nat.le_refl _) hc fun j d hd=>?_
 obtain ⟨u,h1,h2⟩:=h.2 j d hd
 have hg : (w.alloc (.cells cs t)).heap[w.heap.size]? = some (.cells cs t (0,0)):=heap_alloc_new w _
 refine ⟨u, ?_,At.keep (aV fun k hk hpk=>⟨hpk,heap_alloc_old _ _ hk⟩) _ _ h2⟩
 rw [eZ (by simpa using hp),box_cell hg]
 simpa using h1
def iP (p : Nat → Bool) (base : Nat) (w : World) (e : TypeId) (size n : Nat) (ds : List D) (v : Value) : Prop :=
 ∃ xs,w.ownsRow base e size v n xs ∧ aP (hide (fun k=>p k || decide (v.ownBlock = some k)) w) ds xs
theorem iP.nil (p : Nat → Bool) (base : Nat) (w : World) (e : TypeId) (size : Nat) : iP p base w e size 0 [] (.slice none 0 0):=⟨[],World.ownsRow_nil _ _ _ _,aP.nil _⟩
theorem iP.at {p : Nat → Bool} {base : Nat} {w : World} {e : TypeId} {size n : Nat} {ds : List D} {v : Value} (h : iP p base w e size n ds v) (hp : ∀ k,base ≤ k → p k = false) : At (hide p w) (.sl size n ds) v:=by
 obtain ⟨xs,ho,hc⟩:=h
 have hl:=ho.1
 rcases ho.2 with ⟨rfl,rfl⟩ | ⟨g,cap,cur,rfl,hb,hg,h1,h2,h3,h4⟩
 ·have : ds = []:=List.eq_nil_of_length_eq_zero (by rw [← hc.1,hl];simp)
  subst this
  exact At.sl_nil (Nat.zero_le _)
 ·refine At.sl_mk (by rw [← hc.1];exact hl) h1 h2 fun j d hd=>?_
  obtain ⟨u,u1,u2⟩:=hc.2 j d hd
  refine ⟨u, ?_,At.keep (aV fun k hk hpk=>⟨?_,rfl⟩) _ _ u2⟩
  ·rw [eZ (hp g hb),box_cell hg]
   rw [← h4,List.getElem?_take] at u1
   split at u1
   ·simpa using u1
   ·cases u1
  ·exact (Bool.or_eq_false_iff.1 hpk).1
theorem iP.moved {p : Nat → Bool} {base : Nat} {w w' : World} {e : TypeId} {size n : Nat} {ds : List D} {v : Value} (h : iP p base w e size n ds v) (hp : ∀ k,base ≤ k → p k = false) (hk : ∀ k,k < w.heap.size → p k = false → w'.heap[k]? = w.heap[k]?) : iP p base w' e size n ds v:=by
 obtain ⟨xs,ho,hc⟩:=h
 refine ⟨xs,⟨ho.1, ?_⟩,hc.keep (aV fun k h1 h2=>⟨h2,hk k h1 (Bool.or_eq_false_iff.1 h2).1⟩)⟩
 rcases ho.2 with h1 | ⟨g,cap,cur,rfl,hb,hg,h1,h2,h3,h4⟩
 ·exact .inl h1
 ·exact .inr ⟨g,cap,cur,rfl,hb,(hk g (Array.getElem?_eq_some_iff.1 hg).1 (hp g hb)).trans hg,h1,h2,h3,h4⟩
theorem iP.appended {p : Nat → Bool} {base : Nat} {w w' : World} {e : TypeId} {size n m : Nat} {ds es : List D} {v v' : Value} {xs ys : List Value} (hc : aP (hide (fun k=>p k || decide (v.ownBlock = some k)) w) ds xs) (he : aP (hide (fun k=>p k || decide (v.ownBlock = some k)) w) es ys)
  (ho : w'.ownsRow base e size v' (n + m) (xs ++ ys)) (hg : w.grownBy w' v.ownBlock) (hv : v'.ownBlock = v.ownBlock ∨ v'.ownBlock = some w.heap.size) : iP p base w' e size (n + m) (ds ++ es) v':=by
 refine ⟨_,ho,(hc.append he).keep (aV fun k hk hp=>?_)⟩
 simp only [Bool.or_eq_false_iff,decide_eq_false_iff_not] at hp ⊢
 refine ⟨⟨hp.1, ?_⟩,hg.block k hk (Ne.symm hp.2)⟩
 rcases hv with e | e
 ·rw [e];exact hp.2
 ·rw [e];intro e2;cases e2;omega
open Go Go.RowKit Ly
set_option maxHeartbeats 4000000
def EF (I : RdIx) (ws : List Bs) (k : Nat) (f : Bool) (p : Bs → Bool) (w : World) (e : Ending) (w' : World) : Prop :=
 aN I w w' ∧ ((∃ x,f = false ∧ ws[k]? = some x ∧ p x = true ∧ e = .returned (str x) ∧ Rd w' I ws (k + 1) false) ∨
  ((f = true ∨ ws[k]? = none ∨ ∃ x,ws[k]? = some x ∧ p x = false) ∧ e = .returned (str []) ∧ Rd w' I ws k true))
theorem iB (I : RdIx) (ws : List Bs) (k : Nat) (f : Bool) (g : FuncId) (fs cs : Array Value) (p : Bs → Bool) (w : World) (h : Rd w I ws k f) (hw : ∀ x ∈ ws,x.length ≤ maxLen) (en : Enters Tryz.prog g) (ha : Acc g fs cs w p) :
  Calls Tryz.prog 196 #[one I.S,.func (.func g) fs cs] w (EF I ws k f p w):=by
 by_cases hf : f = true ∨ k = ws.length
 ·refine (AU I ws k f g fs cs w h ((CI I ws k f g fs cs w h hf).mono fun e w' he=>⟨he.1,by rw [← he.2];exact Below.refl _ _⟩)).mono fun e w' he=>⟨he.2.2,.inr ⟨?_,he.1,he.2.1⟩⟩
  rcases hf with h1 | h1
  ·exact .inl h1
  ·exact .inr (.inl (by simp [h1]))
 ·have hf1 : f = false:=by cases f <;> simp at hf ⊢
  subst hf1
  have hk : k < ws.length:=by have:=h.at_;have : k ≠ ws.length:=fun e=>hf (.inr e);omega
  have hx : ws[k]? = some ws[k]:=List.getElem?_eq_getElem hk
  have A:=ha ws[k] (hw _ (List.getElem_mem hk))
  cases hp : p ws[k] with
  | true =>
   rw [hp] at A
   exact (must_yes I ws k _ g fs cs w h (GL I ws k _ g fs cs w h hx en A)).mono fun e w' he=>⟨he.2.2,.inl ⟨_,rfl,hx,hp,he.1,he.2.1⟩⟩
  | false =>
   rw [hp] at A
   exact (AU I ws k false g fs cs w h (KI I ws k _ g fs cs w h hx en A)).mono fun e w' he=>⟨he.2.2,.inr ⟨.inr (.inr ⟨_,hx,hp⟩),he.1,he.2.1⟩⟩
def EH (I : RdIx) (ws : List Bs) (k : Nat) (f : Bool) (p : Bs → Bool) (w : World) (e : Ending) (w' : World) : Prop :=
 aN I w w' ∧ ((∃ x,f = false ∧ ws[k]? = some x ∧ p x = true ∧ e = .returned (.tuple #[str x,.bool true]) ∧ Rd w' I ws (k + 1) false) ∨
  ((f = true ∨ ws[k]? = none ∨ ∃ x,ws[k]? = some x ∧ p x = false) ∧ e = .returned (.tuple #[str [],.bool false]) ∧ Rd w' I ws k f))
theorem MA (I : RdIx) (ws : List Bs) (k : Nat) (f : Bool) (g : FuncId) (fs cs : Array Value) (p : Bs → Bool) (w : World) (h : Rd w I ws k f) (hw : ∀ x ∈ ws,x.length ≤ maxLen) (en : Enters Tryz.prog g) (ha : Acc g fs cs w p) :
  Calls Tryz.prog 190 #[.func (.func g) fs cs,one I.R,one I.A,one I.L] w (EH I ws k f p w):=by
 by_cases hf : f = true ∨ k = ws.length
 ·refine (CI I ws k f g fs cs w h hf).mono fun e w' he=>?_
  obtain ⟨he,rfl⟩:=he
  refine ⟨aN.refl I w,.inr ⟨?_,he,h⟩⟩
  rcases hf with h1 | h1
  ·exact .inl h1
  ·exact .inr (.inl (by simp [h1]))
 ·have hf1 : f = false:=by cases f <;> simp at hf ⊢
  subst hf1
  have hk : k < ws.length:=by have:=h.at_;have : k ≠ ws.length:=fun e=>hf (.inr e);omega
  have hx : ws[k]? = some ws[k]:=List.getElem?_eq_getElem hk
  have A:=ha ws[k] (hw _ (List.getElem_mem hk))
  cases hp : p ws[k] with
  | true =>
   rw [hp] at A
   exact (GL I ws k _ g fs cs w h hx en A).mono fun e w' he=>⟨he.2.2,.inl ⟨_,rfl,hx,hp,he.1,he.2.1⟩⟩
  | false =>
   rw [hp] at A
   exact (KI I ws k _ g fs cs w h hx en A).mono fun e w' he=>⟨aN.of_below he.2,.inr ⟨.inr (.inr ⟨_,hx,hp⟩),he.1,h.below he.2⟩⟩
theorem JF : Enters Tryz.prog 197:=fun _ _=>rfl
theorem JG : Enters Tryz.prog 266:=fun _ _=>rfl
theorem uU : Enters Tryz.prog 299:=fun _ _=>rfl
theorem MS : Enters Tryz.prog 306:=fun _ _=>rfl
theorem is_c {w : World} {l : List Bs} {a : Option Addr} {n c : Nat} (h : aU w l (.slice a n c)) (hne : l ≠ []) :
  Calls Tryz.prog 265 #[.slice a n c] w fun e w'=>(∃ b,e = .returned (.func (.func 299) #[] #[one b]) ∧ Acc 299 #[] #[one b] w' fun s=>decide (s ∈ l)) ∧ Below w.heap.size w w':=by
 have hb:=heap_alloc_new w (.cells #[.slice a n c] 36)
 have hB : Below w.heap.size w (w.alloc (.cells #[.slice a n c] 36)):=bnew
 have H:=Hd (is1_c hb (h.keep (aA hB)) hne)
 have HB:=Hd hB
 clear hb hB h
 go_enter Tryz.func265,Tryz.ntmps265
 go_wp2_with fail
 go_ret
 exact ⟨⟨_,rfl,H.out⟩,HB.out⟩
open Go Go.RowKit Ly
set_option maxHeartbeats 4000000
theorem u25 : ∃ fs,Tryz.prog.underlying 25 = some (.struct fs):=⟨_,Tryz.underlying25⟩
theorem i25 : (Tryz.prog.info? 25).map (·.size) = some 4:=by kernel_rfl
theorem u95 : ∃ fs,Tryz.prog.underlying 95 = some (.struct fs):=⟨_,Tryz.underlying95⟩
theorem i95 : (Tryz.prog.info? 95).map (·.size) = some 3:=by kernel_rfl
theorem jF {fn : Func} {p : Tmp} (h : fn.results = #[.cell p 25]) (tmps : Array Value) (w : World) (g : Nat) (a b c d : Value) (fr : Nat × Nat)
  (hp : tmps.getD p undef = one g) (hg : w.heap[g]? = some (.cells #[a,b,c,d] 25 fr)) : (results fn tmps).run Tryz.prog w = .ok (.agg #[a,b,c,d]) w:=by
 obtain ⟨fs,h1⟩:=u25
 exact results_cell_row h tmps w g 25 #[a,b,c,d] fr _ hp hg h1 rfl i25
theorem GC {fn : Func} {p : Tmp} (h : fn.results = #[.cell p 95]) (tmps : Array Value) (w : World) (g : Nat) (a b c : Value) (fr : Nat × Nat)
  (hp : tmps.getD p undef = one g) (hg : w.heap[g]? = some (.cells #[a,b,c] 95 fr)) : (results fn tmps).run Tryz.prog w = .ok (.agg #[a,b,c]) w:=by
 obtain ⟨fs,h1⟩:=u95
 exact results_cell_row h tmps w g 95 #[a,b,c] fr _ hp hg h1 rfl i95
theorem JH (w : World) : Calls Tryz.prog 192 #[] w (Rt (.agg #[.int .u8 2,str [],.slice none 0 0,.slice none 0 0]) w):=by
 have hB : Hid (Below w.heap.size w ((w.alloc (.cells #[.int .u8 0,str [],.slice none 0 0,.slice none 0 0] 25)))):=bnew
 go_enter Tryz.func192,Tryz.ntmps192
 go_wp2_with fail
 refine bodyPost_ret (jF rfl _ _ w.heap.size _ _ _ _ (0,0) rfl (heap_alloc_new w _)) rfl ?_
 exact ⟨rfl,bnew⟩
open Go Go.RowKit Ly
set_option maxHeartbeats 4000000
def lo (w : World) : Nat → Bool:=fun k=>decide (k < w.heap.size)
theorem pC {w w1 w' w'' : World} (h : w.heap.size ≤ w1.heap.size) (hk : ∀ k,w1.heap.size ≤ k → k < w'.heap.size → w''.heap[k]? = w'.heap[k]?) : aR (hide (lo w1) w') (hide (lo w) w''):=aV fun k h1 h2=>by
 simp only [lo,decide_eq_false_iff_not,Nat.not_lt] at h2 ⊢
 exact ⟨by omega,hk k h2 h1⟩
theorem Rd.back {w w3 w4 : World} {I : RdIx} {ws : List Bs} {k0 k : Nat} {f0 f : Bool} (H : Rd w I ws k0 f0) (R : Rd w3 I ws k f) (m : aN I w w4) (e : ∀ j,j < w.heap.size → w4.heap[j]? = w3.heap[j]?) : Rd w4 I ws k f :=
 ⟨(e _ H.lt.1).trans R.hL,(e _ H.lt.2.1).trans R.hA,(e _ H.lt.2.2.1).trans R.hS,(e _ H.lt.2.2.2).trans R.hR,AP H m,R.at_,R.short,R.lO,R.sep⟩
theorem aN.set {I : RdIx} {w w3 : World} (m : aN I w w3) {g o : Nat} (hg : w.heap.size ≤ g) (v : Value) : aN I w (w3.setCell ⟨g,o,none⟩ v) :=
 ⟨m.os,m.tape,m.output,by simpa [World.setCell] using m.size,fun k hk ha hs=>(Below.heap_setCell _ _ _ _ (by simp;omega)).trans (m.block k hk ha hs)⟩
def PrOk {α : Type} (pr : PR α) (x : α) (f : Bool) (rest : List Bs) : Prop:=match pr with
 | .good y r=>x = y ∧ f = false ∧ r = rest
 | .bad r=>f = true ∧ r = rest
def Out {α : Type} (I : RdIx) (ws : List Bs) (w : World) (pr : PR α) (V : World → α → Value → Prop) (e : Ending) (w' : World) : Prop :=
 ∃ x v k' f',e = .returned v ∧ V (hide (lo w) w') x v ∧ aN I w w' ∧ Rd w' I ws k' f' ∧ PrOk pr x f' (ws.drop k')
def wR (I : RdIx) (ws : List Bs) (n : Nat) : Prop:=∀ (k : Nat) (w : World),Rd w I ws k false → 3 * (ws.length - k) + 1 ≤ n → Calls Tryz.prog 271 #[one I.S] w (Out I ws w (fE n (ws.drop k)) iS)
def rZ (I : RdIx) (ws : List Bs) (n : Nat) : Prop:=∀ (k : Nat) (w : World),Rd w I ws k false → 3 * (ws.length - k) + 1 ≤ n → Calls Tryz.prog 199 #[one I.S] w (Out I ws w (eM n (ws.drop k)) bI)
theorem drop_at {ws : List Bs} {k : Nat} {x : Bs} (h : ws[k]? = some x) : ws.drop k = x :: ws.drop (k + 1):=by
 have hk:=(List.getElem?_eq_some_iff.1 h)
 obtain ⟨h1,h2⟩:=hk
 rw [← h2];exact List.drop_eq_getElem_cons h1
theorem gB {ws : List Bs} {k : Nat} (h : ws[k]? = none) : ws.drop k = []:=by
 simpa using h
theorem qW {w : World} {I : RdIx} {ws : List Bs} {k : Nat} {f : Bool} (h : Rd w I ws k f) : w.cell? ⟨I.S,2,none⟩ = some (.bool f):=(box_cell h.hS 2).trans rfl
theorem vQ {w : World} {b : Nat} (h : w.heap[b]? = some (.cells #[.bool false,str [],.slice none 0 0] 95 (0,0))) :
  w.cell? ⟨b,0,none⟩ = some (.bool false) ∧ w.cell? ⟨b,1,none⟩ = some (str []) ∧ w.cell? ⟨b,2,none⟩ = some (.slice none 0 0) ∧ w.frozen? ⟨b,0,none⟩ = false ∧ w.frozen? ⟨b,1,none⟩ = false ∧ w.frozen? ⟨b,2,none⟩ = false :=
 ⟨(box_cell h 0).trans rfl,(box_cell h 1).trans rfl,(box_cell h 2).trans rfl,by simp [World.frozen?,h],by simp [World.frozen?,h],by simp [World.frozen?,h]⟩
theorem yW {I : RdIx} {ws : List Bs} {w w3 : World} {k0 k : Nat} {f0 f : Bool} {pr : PR Tm} {t : Tm} {a : Option Addr} {n c : Nat} {tmps : Array Value} (H : Rd w I ws k0 f0) (R : Rd w3 I ws k f) (m : aN I w w3) (hg : w3.heap[w.heap.size]? = some (.cells #[.bool false,str [],.slice none 0 0] 95 (0,0)))
  (hv : bI (hide (lo (w.alloc (.cells #[.bool false,str [],.slice none 0 0] 95))) w3) t.args (.slice a n c)) (hpr : PrOk pr t f (ws.drop k)) (h2 : tmps.getD 2 undef = one w.heap.size) :
  bodyPost Tryz.prog Tryz.f271 (Out I ws w pr iS) .ret ⟨tmps,[]⟩ (((w3.setCell ⟨w.heap.size,0,none⟩ (.bool t.v)).setCell ⟨w.heap.size,1,none⟩ (str t.name)).setCell ⟨w.heap.size,2,none⟩ (.slice a n c)):=by
 have g1:=aC (o:=0) (u:=.bool t.v) hg
 have g2:=aC (o:=1) (u:=str t.name) g1
 have g3:=aC (o:=2) (u:=.slice a n c) g2
 have M:=((m.set (o:=0) (Nat.le_refl _) (.bool t.v)).set (o:=1) (Nat.le_refl _) (str t.name)).set (o:=2) (Nat.le_refl _) (.slice a n c)
 have E : ∀ j,j ≠ w.heap.size → (((w3.setCell ⟨w.heap.size,0,none⟩ (.bool t.v)).setCell ⟨w.heap.size,1,none⟩ (str t.name)).setCell ⟨w.heap.size,2,none⟩ (.slice a n c)).heap[j]? = w3.heap[j]?:=fun j hj=>by
  rw [Below.heap_setCell _ _ _ _ hj,Below.heap_setCell _ _ _ _ hj,Below.heap_setCell _ _ _ _ hj]
 refine bodyPost_ret (GC rfl _ _ w.heap.size _ _ _ (0,0) h2 g3) rfl ?_
 refine ⟨t,_,k,f,rfl,⟨a,n,c,rfl, ?_⟩,M,H.back R M fun j hj=>E j (by omega),hpr⟩
 exact hv.keep (pC (by simp) fun k h1 h2=>E k (by simp at h1;omega))
theorem term_of (I : RdIx) (ws : List Bs) (hw : ∀ x ∈ ws,x.length ≤ maxLen) (n : Nat) (hS : rZ I ws n) : wR I ws (n + 1):=by
 intro k w h hn
 have HS:=Hd hS
 have hB : Below w.heap.size w (w.alloc (.cells #[.bool false,str [],.slice none 0 0] 95)):=bnew
 have r1:=h.below hB
 have M1:=iB I ws k false 306 #[] #[] _ _ r1 hw MS (KJ _)
 have g1:=heap_alloc_new w (.cells #[.bool false,str [],.slice none 0 0] 95)
 have HM:=Hd M1
 have H:=Hd h
 have HB:=Hd hB
 have HG:=Hd g1
 have HN:=Hd hn
 have lt:=h.lt
 have LT:=Hd lt
 clear h hS hB M1 r1 g1 hn lt
 go_enter Tryz.func271,Tryz.ntmps271
 go_wp2_with (go_at_call 196;refine HM.out.mono ?_;rintro e w2 ⟨mv,hor⟩;have MV:=Hd mv;have G2:=Hd ((mv.block w.heap.size (by simp) (by have:=LT.out;omega) (by have:=LT.out;omega)).trans HG.out);clear mv;rcases hor with ⟨x,_,hx,hp,rfl,r2⟩ | ⟨hor,rfl,r2⟩;all_goals (have s2:=qW r2;have R2:=Hd r2;clear r2;obtain ⟨c0,c1,c2,f0,f1,f2⟩:=vQ G2.out))
 ·have hl:=Hd (xM (hw x (List.mem_of_getElem? hx)))
  have HX:=Hd (And.intro hx hp)
  clear hx hp
  clear c0 c1 c2 f0 f1 f2
  cases hv : aZ x
  ·have HV:=Hd hv
   clear hv
   go_wp2_with (first
    | (go_at_call 266;refine (eS x _ hl.out).mono ?_;rintro e w3 ⟨he,hb2⟩;rw [show aZ x = false from HV.out] at he;subst he;have B2:=Hd hb2;clear hb2)
    | (go_at_call 199;refine (HS.out (k + 1) _ (R2.out.below B2.out) (by have:=HN.out;have:=R2.out.at_;omega)).mono ?_;rintro e w4 ⟨tl,v,k',f',rfl,hv4,mv4,r4,hp4⟩;obtain ⟨a4,n4,c4,rfl⟩:=bI.slice hv4;have G4:=(mv4.block w.heap.size (by have:=B2.out.size;have:=(Array.getElem?_eq_some_iff.1 G2.out).1;omega) (by have:=LT.out;omega) (by have:=LT.out;omega)).trans ((B2.out.block w.heap.size (Array.getElem?_eq_some_iff.1 G2.out).1).trans G2.out);obtain ⟨c0,c1,c2,f0,f1,f2⟩:=vQ G4;have Q4:=Hd (And.intro hv4 (And.intro mv4 (And.intro r4 (And.intro hp4 G4))));clear hv4 mv4 r4 hp4 G4))
   obtain ⟨hv4,mv4,r4,hp4,G4⟩:=Q4.out
   refine yW (t:=.mk false x tl) H.out r4 ?_ G4 (hv4.keep (pC ?_ fun _ _ _=>rfl)) ?_ rfl
   ·exact (((aN.of_below HB.out).trans MV.out).trans (aN.of_below B2.out)).trans mv4
   ·exact Nat.le_trans MV.out.size B2.out.size
   ·rw [drop_at HX.out.1]
    have hf : dO x = true:=by have:=HX.out.2;rw [HV.out] at this;simpa using this
    simp only [fE,HV.out,hf,Bool.false_eq_true,if_false,if_true]
    revert hp4
    cases eM n (ws.drop (k + 1)) with
    | good y r=>rintro ⟨rfl,h2,h3⟩;exact ⟨rfl,h2,h3⟩
    | bad r=>exact fun h=>h
  ·have HV:=Hd hv
   clear hv
   go_wp2_with (go_at_call 266;refine (eS x _ hl.out).mono ?_;rintro e w3 ⟨he,hb2⟩;rw [show aZ x = true from HV.out] at he;subst he;have B2:=Hd hb2;have G3:=(hb2.block w.heap.size (by have:=G2.out;exact (Array.getElem?_eq_some_iff.1 this).1)).trans G2.out;clear hb2;obtain ⟨c0,c1,c2,f0,f1,f2⟩:=vQ G3;have G3:=Hd G3)
   refine yW (t:=.mk true x []) H.out (R2.out.below B2.out) ?_ G3.out (At.sl_nil (Nat.zero_le _)) ?_ rfl
   ·exact ((aN.of_below HB.out).trans MV.out).trans (aN.of_below B2.out)
   ·rw [drop_at HX.out.1]
    simp only [fE,if_pos HV.out]
    exact ⟨rfl,rfl,rfl⟩
 ·refine yW (t:=.mk true [] []) H.out R2.out ?_ G2.out (At.sl_nil (Nat.zero_le _)) ?_ rfl
  ·exact (aN.of_below HB.out).trans MV.out
  ·rcases hor with h1 | h1 | ⟨x,hx,hp⟩
   ·cases h1
   ·rw [gB h1];exact ⟨rfl,rfl⟩
   ·rw [drop_at hx]
    simp only [Bool.or_eq_false_iff] at hp
    simp only [fE,hp.1,hp.2,Bool.false_eq_true,if_false]
    exact ⟨rfl,rfl⟩
end Go.Proofs.YtcandidgaegghaaGreatDoor
