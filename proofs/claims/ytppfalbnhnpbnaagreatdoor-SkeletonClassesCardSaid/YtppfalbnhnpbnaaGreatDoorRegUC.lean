/- subst's freeNames and set: the set of the free variables of a formula. Conditions: those of each statement. -/
import Derived.Test.YtppfalbnhnpbnaaGreatDoorVtBC
import Derived.Test.YtppfalbnhnpbnaaGreatDoorBuiltAC
import Derived.OneCell
import Derived.Deep.RegionHeld
set_option linter.unusedSimpArgs false
set_option linter.unusedVariables false
namespace Go.Proofs.YtppfalbnhnpbnaaGreatDoor
open Go Go.RowKit Ly
set_option maxRecDepth 10000
attribute [local go_sem] Oper.semAt_some
theorem uF {m : Nat} (m' : Nat) {l : Nat} {args : Array Value} {W : World} {R : Ending → World → Prop} (h : YieldAt Fence.wide m Tryz.prog l args W R) : YieldAt Fence.wide m' Tryz.prog l args W R:=by
 obtain ⟨fn,tmps,assign,body,hy,hF,hR⟩:=h
 exact ⟨fn,tmps,assign,body,hy,hF,fun c cs _=>hR c cs (fun d h=>by cases h)⟩
theorem freeNames_c (f a b c : Value) (w : World) : Calls Tryz.prog 54 #[.agg #[f,a,b,c]] w fun e w'=>e = .returned (.func (.func 100) #[] #[one w.heap.size]) ∧ w' = w.alloc (.cells #[f,a,b,c] 40):=by
 go_enter Tryz.func54,Tryz.ntmps54
 go_wp2
 go_ret
 exact ⟨rfl,rfl⟩
set_option maxHeartbeats 2000000 in
theorem free_seq (n : Nat) (f : Fm) (x0 x1 x2 x3 : Value) (m cf : Nat) (w0 : World) (hm : m < w0.heap.size) (hf : w0.heap[cf]? = some (.cells #[x0,x1,x2,x3] 40 (0,0))) (hx : aV w0 f (.agg #[x0,x1,x2,x3])) (hok : f.okNames = true) (hn : f.nodes ≤ 100000) :
  qI Fence.wide n Tryz.prog 100 #[one cf] str m (f.free []) w0:=by
 intro r J W hW hJ hY h0
 have hX:=hx.keep (aA hW)
 have hF:=(hW.block cf (Array.getElem?_eq_some_iff.1 hf).1).trans hf
 have hlt : m < W.heap.size:=Nat.lt_of_lt_of_le hm hW.size
 obtain ⟨y0,y1,y2,y3⟩ : W.cell? ⟨cf,0,none⟩ = some x0 ∧ W.cell? ⟨cf,1,none⟩ = some x1 ∧ W.cell? ⟨cf,2,none⟩ = some x2 ∧ W.cell? ⟨cf,3,none⟩ = some x3:=⟨by simp [World.cell?,hF],by simp [World.cell?,hF],by simp [World.cell?,hF],by simp [World.cell?,hF]⟩
 have b1 : Below W.heap.size W (W.alloc (.map #[] 0)):=(Below.refl _ _).alloc (Nat.le_refl _) _
 have C0 : dA (W.alloc (.map #[] 0)) W.heap.size 0 []:=⟨_,(MapG.made (P:=Tryz.prog) (k:=9) (ok:=okS) (lit:=litS) (z:=.int .i64 0) W).cong (fun _ _=>rfl) (fun _ _=>by simp)⟩
 have hYs : ∀ n',Yields m r n' J (f.free []):=fun n' pre x W1 h1 h2=>uF n' (hY pre x W1 h1 h2)
 have V:=zS (m:=m) (mb:=W.heap.size) (r:=r) (B:=W.heap.size) (l:=f.free []) (J:=J) hYs hJ (Nat.le_refl _) (by omega) f
 have VV : Hid (∀ n,CallsIn Fence.wide n Tryz.prog 101 #[.agg #[x0,x1,x2,x3],.map (some W.heap.size),.func (.yield r) #[] #[]] (W.alloc (.map #[] 0)) fun e W'=>e = .returned (.bool true) ∧ J (f.free []) W'):=fun n=>(V n 0 [] [] _ _ (hX.keep (aA b1)) hok C0 (by omega) (by simp;omega) (hJ _ _ _ h0 (eQ.of_below b1)) (by simp)).mono fun e W' h=>⟨h.1,by simpa using h.2.1⟩
 have hmm:=@run_makeMap Tryz.prog
 clear V hYs C0 hX hF hx hf hJ hY
 refine callsIn_of_wp Tryz.func100 rfl trivial ?_ rfl
 simp only [Tryz.ntmps100,List.size_toArray,List.length_cons,List.length_nil,Nat.reduceAdd,Nat.reduceSub,Array.replicate_succ,Array.replicate_zero,List.push_toArray,List.append_toArray,List.nil_append,List.cons_append]
 gi_wp2_with (refine ⟨trivial,fun h=>absurd h (by decide), ?_⟩;gi_at_call 101;refine (VV.out _).mono ?_;rintro e w2 ⟨rfl,hj⟩;have HJ:=Lib.hid hj;clear hj)
 go_end0
 exact ⟨⟨_,rfl⟩,HJ.out⟩
theorem cQ.heap {w w' : World} {M n : Nat} {l : List Bs} (h : cQ w M n l) (e : w'.heap[M]? = w.heap[M]?) : cQ w' M n l:=MapG.heap h e
theorem cQ.lt {w : World} {M n : Nat} {l : List Bs} (h : cQ w M n l) : M < w.heap.size:=MapG.lt h
theorem cQ.put {w : World} {M n : Nat} {l : List Bs} {x : Bs} (h : MapG Tryz.prog 9 okS litS (.bool false) w M n (fun u=>if u = x then true else decide (u ∈ l)) (fun u=>if u = x then .bool true else .bool (decide (u ∈ l)))) : cQ w M n (l ++ [x]):=by
 refine h.cong (fun s hs=>?_) (fun s hs=>?_)
 ·by_cases e : s = x <;> simp [e]
 ·by_cases e : s = x <;> simp [e]
theorem cQ.made (w : World) : cQ (w.alloc (.map #[] 0)) w.heap.size 0 []:=(MapG.made (P:=Tryz.prog) (k:=9) (ok:=okS) (lit:=litS) (z:=.bool false) w).cong (fun _ _=>by simp) (fun _ _=>by simp)
structure SetI (w : World) (pre : List Bs) (W : World) : Prop where
 set : cQ W w.heap.size pre.length pre
 cell : W.heap[w.heap.size + 1]? = some (.cells #[.map (some w.heap.size)] 93 (0,0))
 below : Below w.heap.size w W
set_option maxHeartbeats 2000000 in
theorem set_c (f : Fm) (x0 x1 x2 x3 : Value) (cf : Nat) (w : World) (hf : w.heap[cf]? = some (.cells #[x0,x1,x2,x3] 40 (0,0))) (hx : aV w f (.agg #[x0,x1,x2,x3])) (hok : f.okNames = true) (hn : f.nodes ≤ 100000) (hl : (f.free []).length ≤ 1000000) (hs : ∀ s ∈ f.free [],okS s) :
  Calls Tryz.prog 53 #[.func (.func 100) #[] #[one cf]] w fun e w'=>e = .returned (.map (some w.heap.size)) ∧ cQ w' w.heap.size (f.free []).length (f.free []) ∧ Below w.heap.size w w':=by
 obtain ⟨W1,hW1⟩ : ∃ W1,(w.alloc (.map #[] 0)).alloc (.cells #[.map (some w.heap.size)] 93) = W1:=⟨_,rfl⟩
 have bw : Below w.heap.size w W1:=by rw [← hW1];exact ((Below.refl _ _).alloc (Nat.le_refl _) _).alloc (by simp) _
 have sz : W1.heap.size = w.heap.size + 2:=by rw [← hW1];simp
 have I0 : SetI w [] W1:=by
  refine ⟨?_, ?_,bw⟩
  ·rw [← hW1];exact (cQ.made w).heap (Below.heap_alloc _ _ _ (by simp))
  ·rw [← hW1]
   have:=heap_alloc_new (w.alloc (.map #[] 0)) (.cells #[.map (some w.heap.size)] 93)
   rwa [World.size_alloc] at this
 have FS : ∀ n,qI Fence.wide n Tryz.prog 100 #[one cf] str w.heap.size (f.free []) W1:=fun n=>free_seq n f x0 x1 x2 x3 w.heap.size cf W1 (by omega) ((bw.block cf (Array.getElem?_eq_some_iff.1 hf).1).trans hf) (hx.keep (aA bw)) hok hn
 have HS:=Lib.hid hs
 clear hf hx hok hn hs
 refine (callsIn_wide (n:=6)).1 ?_
 refine callsIn_of_wp_marks Tryz.func53 rfl trivial ?_ rfl
 have hmm:=@run_makeMap Tryz.prog
 simp only [Tryz.ntmps53,List.size_toArray,List.length_cons,List.length_nil,Nat.reduceAdd,Nat.reduceSub,Array.replicate_succ,Array.replicate_zero,List.push_toArray,List.append_toArray,List.nil_append,List.cons_append]
 gi_wp2
 clear hW1 hmm
 refine pW (w0:=W1) (a:=⟨#[.func (.func 100) #[] #[one cf],undef,.map none,one (w.heap.size + 1),undef,.map (some w.heap.size),.func (.func 100) #[] #[one cf],undef,undef,undef,undef],[]⟩) rfl (by decide) (gf:=100) (lb:=#[one cf]) rfl trivial (enters_of Tryz.func100 (by kernel_rfl) rfl) (by omega) (FS 5) (Below.refl _ _) rfl
  (SetI w) (fun s A X h hA hb=>⟨h.set.heap (hb.block _ (by omega)),(hb.block _ (by omega)).trans h.cell,h.below.trans (hb.mono (by omega))⟩) I0
  (fun x a W=>a = ⟨#[.func (.func 100) #[] #[one cf],undef,.map none,one (w.heap.size + 1),str x,.map (some w.heap.size),.func (.func 100) #[] #[one cf],str x,undef,undef,undef],[]⟩) (fun _ _ _ _ h _=>h) ?assign ?body ?done
 case assign =>
  intro r pre x W K hsz hi hp hK
  gi_wp2
  exact hK _ _ (fW.refl _ _) hi rfl
 case body =>
  rintro r pre x W a hsz hi rfl hp
  obtain ⟨y0,-⟩:=row1 hi.cell
  have hx : okS x:=HS.out x (hp.subset (by simp))
  have hlen : pre.length < maxLen:=by have:=hp.length_le;simp at this;unfold maxLen;omega
  have HI:=Lib.hid hi
  clear hi
  gi_wp2_with (gi_at_mapUpdate;refine fG rfl _ _ _ 93 rfl 4 keyS xT rfl HI.out.set hlen x hx rfl ?_;intro w1 hm1 hg1)
  have ht : fW w.heap.size W w1:=fW.of_grownBy hg1 (MapG.isMap HI.out.set)
  refine ⟨ht, ?_, ?_, ?_⟩
  ·rw [List.length_append]
   exact cQ.put hm1
  ·exact ht.block _ _ HI.out.cell (.inr rfl)
  ·refine HI.out.below.trans ⟨ht.os,ht.tape,ht.output,ht.size,fun i hi=>hg1.block i (by have:=HI.out.below.size;omega) (fun e=>by cases e;omega)⟩
 case done =>
  intro D W hD hi hK
  obtain ⟨y0,-⟩:=row1 hi.cell
  gi_wp2
  refine ⟨by simp,.inl ⟨_,_,rfl,run_takeDeferred hK, ?_⟩⟩
  refine ⟨_,results_tmp rfl _ _ _,rfl, ?_, ?_⟩
  ·exact hi.set.heap (World.putObj_heap_other (by omega))
  ·exact hi.below.trans (iG _ (by omega))
end Go.Proofs.YtppfalbnhnpbnaaGreatDoor
namespace Go.Proofs.YtppfalbnhnpbnaaGreatDoor
open Go Go.RowKit Ly
set_option maxRecDepth 10000
theorem nY (w : World) (a : Addr) (u : Value) : (w.setCell a u).os = w.os ∧ (w.setCell a u).tape = w.tape ∧ (w.setCell a u).output = w.output:=⟨rfl,rfl,rfl⟩
theorem jW {base size n : Nat} {w : World} {e : TypeId} {v : Value} {xs : List Value} (ho : w.ownsRow base e size v n xs) : ∃ a c,v = .slice a n c:=by
 rcases ho.2 with ⟨rfl,rfl⟩ | ⟨g,cap,cur,rfl,hb,hg,h1,h2,h3,h4⟩
 ·exact ⟨none,0,rfl⟩
 ·exact ⟨_,_,rfl⟩
theorem uX {p : Nat → Bool} {base size n : Nat} {wx w1 : World} {e ty : TypeId} {ds es : List D} {v : Value} {ys : List Value} (H : eJ p base wx e size n ds v) (hp : ∀ k,base ≤ k → p k = false) (b1 : Below wx.heap.size wx w1)
  (he : aU (hide (fun k=>p k || decide (v.ownBlock = some k)) w1) es ys) :
  ∃ xs,(w1.alloc (.cells ys.toArray ty)).ownsRow base e size v n xs ∧ ∀ v' w5,w5.ownsRow base e size v' (n + 1) (xs ++ ys) → (w1.alloc (.cells ys.toArray ty)).grownBy w5 v.ownBlock →
   (v'.ownBlock = v.ownBlock ∨ v'.ownBlock = some (w1.alloc (.cells ys.toArray ty)).heap.size) → eJ p base w5 e size (n + 1) (ds ++ es) v':=by
 have B1 : Below wx.heap.size wx (w1.alloc (.cells ys.toArray ty)):=aG b1 ((Below.refl _ _).alloc (Nat.le_refl _) _)
 obtain ⟨xs,ho,hc⟩:=H.moved (w':=w1.alloc (.cells ys.toArray ty)) hp (fun k h1 _=>B1.block k h1)
 exact ⟨xs,ho,fun v' w5 h5 hg hat=>eJ.appended hc (he.keep (aH fun k h1 h2=>⟨h2,((Below.refl _ w1).alloc (Nat.le_refl _) _).block _ h1⟩)) h5 hg hat⟩
structure But1 (R : Nat) (A X : World) : Prop where
 os : X.os = A.os
 tape : X.tape = A.tape
 output : X.output = A.output
 size : A.heap.size ≤ X.heap.size
 block : ∀ k,k < A.heap.size → k ≠ R → X.heap[k]? = A.heap[k]?
theorem But1.refl (R : Nat) (A : World) : But1 R A A:=⟨rfl,rfl,rfl,Nat.le_refl _,fun _ _ _=>rfl⟩
theorem But1.trans {R : Nat} {A X Y : World} (h : But1 R A X) (k : But1 R X Y) : But1 R A Y :=
 ⟨k.os.trans h.os,k.tape.trans h.tape,k.output.trans h.output,Nat.le_trans h.size k.size,fun i hi hn=>(k.block i (Nat.lt_of_lt_of_le hi h.size) hn).trans (h.block i hi hn)⟩
theorem But1.of_below {R : Nat} {A X : World} (h : Below A.heap.size A X) : But1 R A X:=⟨h.os,h.tape,h.output,h.size,fun i hi _=>h.block i hi⟩
theorem But1.below {R n : Nat} {A X : World} (h : But1 R A X) (hR : n ≤ R) (hA : n ≤ A.heap.size) : Below n A X:=⟨h.os,h.tape,h.output,h.size,fun i hi=>h.block i (by omega) (by omega)⟩
theorem But1.set {R : Nat} {A X : World} (h : But1 R A X) (o : Nat) (v : Value) : But1 R A (X.setCell ⟨R,o,none⟩ v):=by
 have sr:=nY X ⟨R,o,none⟩ v
 have e6 : (X.setCell ⟨R,o,none⟩ v).heap.size = X.heap.size:=by simp
 have:=h.size
 exact ⟨sr.1.trans h.os,sr.2.1.trans h.tape,sr.2.2.trans h.output,by omega,fun i hi hn=>by rw [Below.heap_setCell _ _ _ _ hn];exact h.block i hi hn⟩
structure ApR (w0 : World) (R : Nat) (ty e : TypeId) (size : Nat) (pre post : List Value) (k : Nat) (ds : List D) (u : Value) (wr : World) : Prop where
 own : eJ (lo w0) w0.heap.size wr e size k ds u
 bw : But1 R w0 wr
 r : wr.heap[R]? = some (.cells (pre ++ u :: post).toArray ty (0,0))
 lt : R < w0.heap.size
theorem fE {p : Nat → Bool} {base : Nat} {w : World} {e : TypeId} {size n : Nat} {ds : List D} {v : Value} (h : eJ p base w e size n ds v) : ∀ g,v.ownBlock = some g → base ≤ g ∧ g < w.heap.size:=by
 obtain ⟨xs,ho,_⟩:=h
 exact ho.lt
theorem ApR.new {w0 : World} {R : Nat} {ty e : TypeId} {size : Nat} {pre post : List Value} (h : w0.heap[R]? = some (.cells (pre ++ Value.slice none 0 0 :: post).toArray ty (0,0))) : ApR w0 R ty e size pre post 0 [] (.slice none 0 0) w0 :=
 ⟨eJ.nil _ _ _ _ _,But1.refl _ _,h,(Array.getElem?_eq_some_iff.1 h).1⟩
section
variable {w0 : World} {R : Nat} {ty e : TypeId} {size : Nat} {pre post : List Value} {k : Nat} {ds : List D} {u : Value} {wr : World}
theorem ApR.form (h : ApR w0 R ty e size pre post k ds u wr) : ∃ a c,u = .slice a k c:=by
 obtain ⟨xs,ho,_⟩:=h.own
 exact jW ho
theorem lC {wb w3 : World} {es : List D} {ys : List Value} (hu : ∀ g,u.ownBlock = some g → g < wb.heap.size) (hR : w0.heap.size ≤ wb.heap.size) (he : aU (hide (lo wb) w3) es ys) : aU (hide (fun j=>lo w0 j || decide (u.ownBlock = some j)) w3) es ys :=
 he.keep (aH fun j h1 h2=>by
  simp only [lo,decide_eq_false_iff_not,Nat.not_lt,Bool.or_eq_false_iff] at h2 ⊢
  exact ⟨⟨by omega,fun e=>by have:=hu j e;omega⟩,by trivial⟩)
theorem ApR.step {wb w3 : World} {es : List D} {ys : List Value} {tb : TypeId} (h : ApR w0 R ty e size pre post k ds u wr) (b1 : Below wr.heap.size wr wb) (b2 : Below wb.heap.size wb w3) (he : aU (hide (lo wb) w3) es ys) :
  ∃ xs,(w3.alloc (.cells ys.toArray tb)).ownsRow w0.heap.size e size u k xs ∧ w0.heap.size ≤ (w3.alloc (.cells ys.toArray tb)).heap.size ∧ (w3.alloc (.cells ys.toArray tb)).heap[R]? = some (.cells (pre ++ u :: post).toArray ty (0,0)) ∧
   ∀ v5 w5,w5.ownsRow w0.heap.size e size v5 (k + 1) (xs ++ ys) → (w3.alloc (.cells ys.toArray tb)).grownBy w5 u.ownBlock → (v5.ownBlock = u.ownBlock ∨ v5.ownBlock = some (w3.alloc (.cells ys.toArray tb)).heap.size) →
    w5.heap[R]? = some (.cells (pre ++ u :: post).toArray ty (0,0)) ∧ (∃ a c,v5 = .slice a (k + 1) c) ∧ ∀ w6,w6 = w5.setCell ⟨R,pre.length,none⟩ v5 → ApR w0 R ty e size pre post (k + 1) (ds ++ es) v5 w6:=by
 have lt:=(Array.getElem?_eq_some_iff.1 h.r).1
 have hu:=fE h.own
 have b3 : Below wr.heap.size wr w3:=aG b1 b2
 have B : Below wr.heap.size wr (w3.alloc (.cells ys.toArray tb)):=aG b3 ((Below.refl _ _).alloc (Nat.le_refl _) _)
 have hw:=h.bw.size
 obtain ⟨xs,ho,hf⟩:=uX (ty:=tb) h.own (fun j hj=>by simp [lo];omega) b3 (lC (w0:=w0) (u:=u) (fun g hg=>Nat.lt_of_lt_of_le (hu g hg).2 b1.size) (Nat.le_trans hw b1.size) he)
 have hs:=B.size
 refine ⟨xs,ho,by omega,(B.block _ lt).trans h.r,fun v5 w5 h5 hg hat=>?_⟩
 have O5:=hf v5 w5 h5 hg hat
 have gb : ∀ j,j < w0.heap.size → w5.heap[j]? = (w3.alloc (.cells ys.toArray tb)).heap[j]?:=fun j hj=>hg.block j (by omega) (fun e=>by have:=(hu j e.symm).1;omega)
 have r5 : w5.heap[R]? = some (.cells (pre ++ u :: post).toArray ty (0,0)):=by rw [gb R h.lt];exact (B.block _ lt).trans h.r
 refine ⟨r5,jW h5, ?_⟩
 rintro w6 rfl
 have b5 : But1 R w0 w5:=⟨hg.os.trans (B.os.trans h.bw.os),hg.tape.trans (B.tape.trans h.bw.tape),hg.output.trans (B.output.trans h.bw.output),by have:=hg.size;omega,fun j hj hn=>by rw [gb j hj,B.block j (by omega)];exact h.bw.block j hj hn⟩
 refine ⟨O5.moved (fun j hj=>by simp [lo];omega) (fun j hj hp=>?_),b5.set _ _, ?_,h.lt⟩
 ·rw [Below.heap_setCell _ _ _ _ (by have:=h.lt;simp [lo] at hp;show j ≠ R;omega)]
 ·rw [aC r5]
  congr 2
  simp
theorem ApR.at (h : ApR w0 R ty e size pre post k ds u wr) : At (hide (lo w0) wr) (.sl size k ds) u:=h.own.at fun j hj=>by simp [lo];omega
end
end Go.Proofs.YtppfalbnhnpbnaaGreatDoor
namespace Go
section
variable {P : Program} {ops : Array Oper} {Q : Exit → Act → World → Prop} {md : Region.Mode} {S T : World → Prop}
def waitsFor (md : Region.Mode) (ops : Array Oper) (i j : Nat) : Bool:=match ops[j]? with
 | some o=>o.after.any (fun e=>Region.binds md e && e.on == i)
 | none=>false
def nB (P : Program) (md : Region.Mode) (ops : Array Oper) (Q : Exit → Act → World → Prop) (S T : World → Prop) (i : Nat) : Nat → Array Bool → Act → World → Prop
 | 0,listed,a,w=>Region.ready md ops listed = [] ∧ Q .normal a w
 | fuel + 1,listed,a,w =>
  (Region.ready md ops listed = [] → Q .normal a w) ∧
  ∀ j ∈ Region.ready md ops listed,wpOp P ops Q j (fun a' w'=>S w' ∧ if waitsFor md ops i j = true then wpAnyH P md ops Q S fuel (listed.setIfInBounds j true) a' w' else (T w' ∧ nB P md ops Q S T i fuel (listed.setIfInBounds j true) a' w')) a w
theorem pV {i : Nat} : ∀ (fuel : Nat) (listed : Array Bool) (a : Act) (w : World),nB P md ops Q S T i fuel listed a w → wpAnyH P md ops Q S fuel listed a w
 | 0,_,_,_,h=>h
 | fuel + 1,listed,_,_,h=>⟨h.1,fun j hj=>wpOp_mono (fun a' w' h'=>⟨h'.1,by
   have h2:=h'.2
   split at h2
   ·exact h2
   ·exact pV fuel _ a' w' h2.2⟩) (h.2 j hj)⟩
theorem wpAnyU_first {i : Nat} {oi : Oper} {v : Value} (hi : ops[i]? = some oi) (hsel : ∀ (j : Nat) (o : Oper) cs b,ops[j]? = some o → o.op ≠ .select cs b)
  (hQ : ∀ c a w,Q (.panic c) (a.put oi.dst v) w → Q (.panic c) a w) :
  ∀ (fuel : Nat) (listed : Array Bool) (a : Act) (w : World),
   (∀ j oj,ops[j]? = some oj → j ≠ i → listed.getD j true = false → (∀ e ∈ oj.after,Region.binds md e = true → e.on ≠ i) → oi.apart ops oj = true) →
   i ∈ Region.ready md ops listed → YieldsIf P ops (fun w=>S w ∧ T w) oi v a → S w → T w →
   nB P md ops Q S T i fuel (listed.setIfInBounds i true) (a.put oi.dst v) w → wpAnyH P md ops Q S (fuel + 1) listed a w:=by
 intro fuel
 induction fuel with
 | zero =>
  intro listed a w _ hr hy hS hT H
  refine ⟨fun h=>(by rw [h] at hr;cases hr),fun j hj=>?_⟩
  by_cases hji : j = i
  ·subst hji;exact hy.wpOp hi ⟨hS,hT⟩ ⟨hS,H⟩
  ·have:=ready_mono hj hji
   rw [H.1] at this
   cases this
 | succ fuel ih =>
  intro listed a w hfree hr hy hS hT H
  refine ⟨fun h=>(by rw [h] at hr;cases hr),fun j hj=>?_⟩
  by_cases hji : j = i
  ·subst hji;exact hy.wpOp hi ⟨hS,hT⟩ ⟨hS,pV _ _ _ _ H⟩
  ·have h1:=H.2 j (ready_mono hj hji)
   obtain ⟨hjun,oj,hoj,hall⟩:=mem_ready.1 hj
   have hnot : ∀ e ∈ oj.after,Region.binds md e = true → e.on ≠ i:=fun e he hb heq=>by
    have h1:=hall e he hb
    have h0:=(mem_ready.1 hr).1
    rw [heq] at h1
    rcases Nat.lt_or_ge i listed.size with h' | h'
    ·simp [h'] at h0 h1;rw [h0] at h1;cases h1
    ·simp [Array.getElem?_eq_none h'] at h1
   have hw : waitsFor md ops i j = false:=by
    unfold waitsFor
    rw [hoj]
    simp only [Array.any_eq_false]
    intro k hk
    have:=hnot (oj.after[k]) (Array.getElem_mem hk)
    cases hb : Region.binds md oj.after[k]
    ·simp
    ·simpa using this hb
   simp only [hw,Bool.false_eq_true,if_false] at h1
   have h2:=wpOp_putIf hoj (hfree j oj hoj hji hjun hnot) (fun cs b=>hsel i oi cs b hi) (fun cs b=>hsel j oj cs b hoj) hQ hy h1
   have hfree' : ∀ k ok,ops[k]? = some ok → k ≠ i → (listed.setIfInBounds j true).getD k true = false →
     (∀ e ∈ ok.after,Region.binds md e = true → e.on ≠ i) → oi.apart ops ok = true:=fun k ok hk hki hun hno=>by
    refine hfree k ok hk hki ?_ hno
    by_cases hjk : j = k
    ·subst hjk;exact hjun
    ·rw [getD_set_ne true hjk] at hun;exact hun
   refine wpOp_mono (fun a' w' h3=>⟨h3.2.1,ih (listed.setIfInBounds j true) a' w' hfree' (ready_mono hr (Ne.symm hji)) h3.1 h3.2.1 h3.2.2.1 ?_⟩) h2
   rw [Array.setIfInBounds_comm _ _ hji]
   exact h3.2.2.2
theorem iF {i : Nat} {oi : Oper} {v : Value} {fuel : Nat} {listed : Array Bool} {a : Act} {w : World} (hi : ops[i]? = some oi)
  (hs : Region.noSelect ops = true) (hf : Region.free md ops listed i = true) (hr : (Region.ready md ops listed).contains i = true)
  (hQ : ∀ c a w,Q (.panic c) (a.put oi.dst v) w → Q (.panic c) a w) (hy : YieldsIf P ops (fun w=>S w ∧ T w) oi v a) (hS : S w) (hT : T w)
  (h : nB P md ops Q S T i fuel (listed.setIfInBounds i true) (a.put oi.dst v) w) : wpAnyH P md ops Q S (fuel + 1) listed a w :=
 wpAnyU_first hi (Region.noSelect_spec hs) hQ fuel listed a w (Region.free_spec hi hf) (by simpa using hr) hy hS hT h
theorem fB {i j : Nat} {o : Oper} {fuel : Nat} {listed : Array Bool} {a : Act} {w : World} (hr : Region.ready md ops listed = [j]) (hw : waitsFor md ops i j = false) (ho : ops[j]? = some o)
  (h : ∀ K' : Act → World → Prop,Shut (∀ a w,S w → T w → (S w → T w → nB P md ops Q S T i fuel (listed.setIfInBounds j true) a w) → K' a w) → if Region.wanted o (yielded ops a.tmps) = true then Oper.wp P o a w K' Q else K' (a.put o.dst undef) w) :
  nB P md ops Q S T i (fuel + 1) listed a w:=by
 refine ⟨fun h0=>(by rw [hr] at h0;cases h0),fun k hk=>?_⟩
 rw [hr] at hk
 obtain rfl : k = j:=by simpa using hk
 simp only [hw,Bool.false_eq_true,if_false]
 exact wpOp_step ho (fun K' hK=>h K' (fun a w hS hT hW=>hK a w ⟨hS,hT,hW hS hT⟩))
theorem jE {i j : Nat} {o : Oper} {fuel : Nat} {listed : Array Bool} {a : Act} {w : World} (hr : Region.ready md ops listed = [j]) (hw : waitsFor md ops i j = true) (ho : ops[j]? = some o)
  (h : ∀ K' : Act → World → Prop,Shut (∀ a w,S w → (S w → wpAnyH P md ops Q S fuel (listed.setIfInBounds j true) a w) → K' a w) → if Region.wanted o (yielded ops a.tmps) = true then Oper.wp P o a w K' Q else K' (a.put o.dst undef) w) :
  nB P md ops Q S T i (fuel + 1) listed a w:=by
 refine ⟨fun h0=>(by rw [hr] at h0;cases h0),fun k hk=>?_⟩
 rw [hr] at hk
 obtain rfl : k = j:=by simpa using hk
 simp only [hw,if_true]
 exact wpOp_step ho (fun K' hK=>h K' (fun a w hS hW=>hK a w ⟨hS,hW hS⟩))
def jN (P : Program) (md : Region.Mode) (ops : Array Oper) (Q : Exit → Act → World → Prop) (S : World → Prop) (q : Nat) : Nat → Array Bool → Act → World → Prop
 | 0,listed,a,w=>Region.ready md ops listed = [] ∧ Q .normal a w
 | fuel + 1,listed,a,w =>
  (Region.ready md ops listed = [] → Q .normal a w) ∧
  ∀ j ∈ Region.ready md ops listed,wpOp P ops Q j (fun a' w'=>if j = q then wpAny P md ops Q fuel (listed.setIfInBounds j true) a' w' else (S w' ∧ jN P md ops Q S q fuel (listed.setIfInBounds j true) a' w')) a w
theorem sE {q : Nat} : ∀ (fuel : Nat) (listed : Array Bool) (a : Act) (w : World),jN P md ops Q S q fuel listed a w → wpAny P md ops Q fuel listed a w
 | 0,_,_,_,h=>h
 | fuel + 1,listed,_,_,h=>⟨h.1,fun j hj=>wpOp_mono (fun a' w' h'=>by
   split at h'
   ·exact h'
   ·exact sE fuel _ a' w' h'.2) (h.2 j hj)⟩
theorem wpAnyV_first {q i : Nat} {oi : Oper} {v : Value} (hi : ops[i]? = some oi) (hiq : i ≠ q) (hwq : waitsFor md ops i q = true) (hsel : ∀ (j : Nat) (o : Oper) cs b,ops[j]? = some o → o.op ≠ .select cs b)
  (hQ : ∀ c a w,Q (.panic c) (a.put oi.dst v) w → Q (.panic c) a w) :
  ∀ (fuel : Nat) (listed : Array Bool) (a : Act) (w : World),
   (∀ j oj,ops[j]? = some oj → j ≠ i → listed.getD j true = false → (∀ e ∈ oj.after,Region.binds md e = true → e.on ≠ i) → oi.apart ops oj = true) →
   i ∈ Region.ready md ops listed → YieldsIf P ops S oi v a → S w →
   jN P md ops Q S q fuel (listed.setIfInBounds i true) (a.put oi.dst v) w → jN P md ops Q S q (fuel + 1) listed a w:=by
 intro fuel
 induction fuel with
 | zero =>
  intro listed a w _ hr hy hS H
  refine ⟨fun h=>(by rw [h] at hr;cases hr),fun j hj=>?_⟩
  by_cases hji : j = i
  ·subst hji;simp only [if_neg hiq];exact hy.wpOp hi hS ⟨hS,H⟩
  ·have:=ready_mono hj hji
   rw [H.1] at this
   cases this
 | succ fuel ih =>
  intro listed a w hfree hr hy hS H
  refine ⟨fun h=>(by rw [h] at hr;cases hr),fun j hj=>?_⟩
  by_cases hji : j = i
  ·subst hji;simp only [if_neg hiq];exact hy.wpOp hi hS ⟨hS,H⟩
  ·have h1:=H.2 j (ready_mono hj hji)
   obtain ⟨hjun,oj,hoj,hall⟩:=mem_ready.1 hj
   have hnot : ∀ e ∈ oj.after,Region.binds md e = true → e.on ≠ i:=fun e he hb heq=>by
    have h1:=hall e he hb
    have h0:=(mem_ready.1 hr).1
    rw [heq] at h1
    rcases Nat.lt_or_ge i listed.size with h' | h'
    ·simp [h'] at h0 h1;rw [h0] at h1;cases h1
    ·simp [Array.getElem?_eq_none h'] at h1
   have hjq : j ≠ q:=fun e=>by
    subst e
    unfold waitsFor at hwq
    rw [hoj] at hwq
    simp only [Array.any_eq_true] at hwq
    obtain ⟨k,hk,hk2⟩:=hwq
    simp only [Bool.and_eq_true,beq_iff_eq] at hk2
    exact hnot _ (Array.getElem_mem hk) hk2.1 hk2.2
   simp only [if_neg hjq]
   simp only [if_neg hjq] at h1
   have h2:=wpOp_putIf hoj (hfree j oj hoj hji hjun hnot) (fun cs b=>hsel i oi cs b hi) (fun cs b=>hsel j oj cs b hoj) hQ hy h1
   have hfree' : ∀ k ok,ops[k]? = some ok → k ≠ i → (listed.setIfInBounds j true).getD k true = false →
     (∀ e ∈ ok.after,Region.binds md e = true → e.on ≠ i) → oi.apart ops ok = true:=fun k ok hk hki hun hno=>by
    refine hfree k ok hk hki ?_ hno
    by_cases hjk : j = k
    ·subst hjk;exact hjun
    ·rw [getD_set_ne true hjk] at hun;exact hun
   refine wpOp_mono (fun a' w' h3=>⟨h3.2.1,ih (listed.setIfInBounds j true) a' w' hfree' (ready_mono hr (Ne.symm hji)) h3.1 h3.2.1 ?_⟩) h2
   rw [Array.setIfInBounds_comm _ _ hji]
   exact h3.2.2
theorem aJ {q i : Nat} {oi : Oper} {v : Value} {fuel : Nat} {listed : Array Bool} {a : Act} {w : World} (hi : ops[i]? = some oi) (hwq : (decide (i ≠ q) && waitsFor md ops i q) = true)
  (hs : Region.noSelect ops = true) (hf : Region.free md ops listed i = true) (hr : (Region.ready md ops listed).contains i = true)
  (hQ : ∀ c a w,Q (.panic c) (a.put oi.dst v) w → Q (.panic c) a w) (hy : YieldsIf P ops S oi v a) (hS : S w)
  (h : jN P md ops Q S q fuel (listed.setIfInBounds i true) (a.put oi.dst v) w) : jN P md ops Q S q (fuel + 1) listed a w:=by
 rw [Bool.and_eq_true,decide_eq_true_eq] at hwq
 exact wpAnyV_first hi hwq.1 hwq.2 (Region.noSelect_spec hs) hQ fuel listed a w (Region.free_spec hi hf) (by simpa using hr) hy hS h
theorem bQ {q j : Nat} {o : Oper} {fuel : Nat} {listed : Array Bool} {a : Act} {w : World} (hr : Region.ready md ops listed = [j]) (hw : decide (j ≠ q) = true) (ho : ops[j]? = some o)
  (h : ∀ K' : Act → World → Prop,Shut (∀ a w,S w → (S w → jN P md ops Q S q fuel (listed.setIfInBounds j true) a w) → K' a w) → if Region.wanted o (yielded ops a.tmps) = true then Oper.wp P o a w K' Q else K' (a.put o.dst undef) w) :
  jN P md ops Q S q (fuel + 1) listed a w:=by
 refine ⟨fun h0=>(by rw [hr] at h0;cases h0),fun k hk=>?_⟩
 rw [hr] at hk
 obtain rfl : k = j:=by simpa using hk
 simp only [if_neg (of_decide_eq_true hw)]
 exact wpOp_step ho (fun K' hK=>h K' (fun a w hS hW=>hK a w ⟨hS,hW hS⟩))
theorem dF {q : Nat} {o : Oper} {fuel : Nat} {listed : Array Bool} {a : Act} {w : World} (hr : Region.ready md ops listed = [q]) (he : Region.ready md ops (listed.setIfInBounds q true) = []) (ho : ops[q]? = some o)
  (h : ∀ K' : Act → World → Prop,Shut (∀ a w,Q .normal a w → K' a w) → if Region.wanted o (yielded ops a.tmps) = true then Oper.wp P o a w K' Q else K' (a.put o.dst undef) w) :
  jN P md ops Q S q (fuel + 1) listed a w:=by
 refine ⟨fun h0=>(by rw [hr] at h0;cases h0),fun k hk=>?_⟩
 rw [hr] at hk
 obtain rfl : k = q:=by simpa using hk
 simp only [if_true]
 refine wpOp_step ho (fun K' hK=>h K' (fun a w hQ=>hK a w ?_))
 cases fuel with
 | zero=>exact ⟨he,hQ⟩
 | succ fuel=>exact ⟨fun _=>hQ,by rw [he];simp⟩
theorem dG {id q : Nat} {a : Act} {w : World} (hm : P.follows .mixedOrders = true) (hS : S w.drew)
  (h : S w.drew → jN P .any ops Q S q ops.size (Array.replicate ops.size false) a w.drew) : (Code.region id ops true).wp P Q a w :=
 wp_region_any hm (sE _ _ _ _ (h hS))
end
end Go
