/- A region in any order whose operations only read what lay there or was made, and make memory: what each one's value is, whatever was carried out so far. Conditions: those of each statement. -/
import Derived.Deep.RegionHeld
import Derived.Below
set_option linter.unusedSimpArgs false
set_option linter.unusedVariables false
namespace Go
section
variable {P : Program} {ops : Array Oper} {Q : Exit → Act → World → Prop} {md : Region.Mode} {I : Array Bool → Act → World → Prop}
def vD (P : Program) (md : Region.Mode) (ops : Array Oper) (Q : Exit → Act → World → Prop) (I : Array Bool → Act → World → Prop) (rs : List Nat) : Prop :=
 ∀ i ∈ rs,∀ (listed : Array Bool) (a : Act) (w : World),I listed a w → i ∈ Region.ready md ops listed → wpOp P ops Q i (fun a' w'=>I (listed.setIfInBounds i true) a' w') a w
def iS (n : Nat) (listed : Array Bool) : Nat:=((List.range n).filter fun i=>!listed.getD i false).length
theorem unlistedOf_set {listed : Array Bool} {N i : Nat} (hs : listed.size = N) (hi : i < N) (h0 : listed.getD i false = false) : iS N (listed.setIfInBounds i true) + 1 = iS N listed:=by
 unfold iS
 have a1 : (listed.setIfInBounds i true).getD i false = true:=by
  simp only [Array.getD_eq_getD_getElem?]
  rw [Array.getElem?_setIfInBounds_self_of_lt (by omega)];rfl
 have key : ∀ n,i < n → n ≤ N → ((List.range n).filter fun j=>!(listed.setIfInBounds i true).getD j false).length + 1 = ((List.range n).filter fun j=>!listed.getD j false).length:=by
  intro n
  induction n with
  | zero=>intro h _;omega
  | succ n ih =>
   intro h hn
   rw [List.range_succ,List.filter_append,List.filter_append,List.length_append,List.length_append]
   by_cases e : i = n
   ·subst e
    have same : (List.range i).filter (fun j=>!(listed.setIfInBounds i true).getD j false) = (List.range i).filter (fun j=>!listed.getD j false):=by
     refine List.filter_congr fun j hj=>?_
     rw [getD_set_ne _ (by have:=List.mem_range.1 hj;omega)]
    rw [same]
    simp only [List.filter_cons,List.filter_nil,a1,h0,Bool.not_true,Bool.not_false,Bool.false_eq_true,if_false,if_true,List.length_nil,List.length_cons]
   ·have:=ih (by omega) (by omega)
    have a2 : (listed.setIfInBounds i true).getD n false = listed.getD n false:=getD_set_ne _ e
    simp only [List.filter_cons,List.filter_nil,a2]
    omega
 exact key N hi (Nat.le_refl _)
def jG (md : Region.Mode) (ops : Array Oper) : Bool:=(List.range ops.size).all fun i=>match ops[i]? with | some o=>o.after.toList.all fun e=>!Region.binds md e || decide (e.on < i) | none=>true
theorem afterB_spec (h : jG md ops = true) {i : Nat} {o : Oper} (ho : ops[i]? = some o) {e : _} (he : e ∈ o.after) (hb : Region.binds md e = true) : e.on < i:=by
 have hi:=(Array.getElem?_eq_some_iff.1 ho).1
 have:=List.all_eq_true.1 h i (List.mem_range.2 hi)
 rw [ho] at this
 simp only [] at this
 have h5:=List.all_eq_true.1 this e (Array.mem_toList_iff.2 he)
 simpa [hb] using h5
theorem ready_nil (haf : jG md ops = true) {listed : Array Bool} (hs : listed.size = ops.size) (hr : Region.ready md ops listed = []) : ∀ i,i < ops.size → listed.getD i false = true:=by
 intro i
 induction i using Nat.strongRecOn with
 | _ i ih =>
  intro hi
  cases e : listed.getD i false with
  | true=>rfl
  | false =>
   have hm : i ∈ Region.ready md ops listed:=by
    refine mem_ready.2 ⟨?_,ops[i],Array.getElem?_eq_getElem hi,fun d hd hb=>?_⟩
    ·have : i < listed.size:=by rw [hs];exact hi
     simp only [Array.getD_eq_getD_getElem?,Array.getElem?_eq_getElem this] at e ⊢
     exact e
    ·have hlt:=afterB_spec haf (Array.getElem?_eq_getElem hi) hd hb
     exact ih _ hlt (by omega)
   rw [hr] at hm;cases hm
theorem uE (haf : jG md ops = true) (hsz : ∀ listed a w,I listed a w → listed.size = ops.size) (hs : vD P md ops Q I (List.range ops.size))
  (hend : ∀ a w,(∃ listed,I listed a w ∧ ∀ i,i < ops.size → listed.getD i false = true) → Q .normal a w) :
  ∀ (fuel : Nat) (listed : Array Bool) (a : Act) (w : World),iS ops.size listed ≤ fuel → I listed a w → wpAny P md ops Q fuel listed a w
 | 0,listed,a,w,hf,hI=>by
  have hz : iS ops.size listed = 0:=by omega
  have all : ∀ i,i < ops.size → listed.getD i false = true:=by
   intro i hi
   have:=List.length_eq_zero_iff.1 hz
   rw [List.filter_eq_nil_iff] at this
   simpa using this i (List.mem_range.2 hi)
  refine ⟨?_,hend a w ⟨listed,hI,all⟩⟩
  cases e : Region.ready md ops listed with
  | nil=>rfl
  | cons j js =>
   have hj : j ∈ Region.ready md ops listed:=by rw [e];exact List.mem_cons_self
   obtain ⟨h0,o,ho,_⟩:=mem_ready.1 hj
   have hlt:=(Array.getElem?_eq_some_iff.1 ho).1
   have h1:=all j hlt
   have hl : j < listed.size:=by rw [hsz _ _ _ hI];exact hlt
   simp only [Array.getD_eq_getD_getElem?,Array.getElem?_eq_getElem hl,Option.getD_some] at h0 h1
   rw [h0] at h1;cases h1
 | fuel + 1,listed,a,w,hf,hI=>by
  refine ⟨fun hr=>hend a w ⟨listed,hI,ready_nil haf (hsz _ _ _ hI) hr⟩,fun i hi=>?_⟩
  obtain ⟨h0,o,ho,_⟩:=mem_ready.1 hi
  have hlt:=(Array.getElem?_eq_some_iff.1 ho).1
  have hl : i < listed.size:=by rw [hsz _ _ _ hI];exact hlt
  have h0' : listed.getD i false = false:=by
   simp only [Array.getD_eq_getD_getElem?,Array.getElem?_eq_getElem hl,Option.getD_some] at h0 ⊢
   exact h0
  have hc:=unlistedOf_set (hsz _ _ _ hI) hlt h0'
  exact wpOp_mono (fun a' w' h'=>uE haf hsz hs hend fuel _ a' w' (by omega) h') (hs i (List.mem_range.2 hlt) listed a w hI hi)
theorem jO {id : Nat} {a : Act} {w : World} (I : Array Bool → Act → World → Prop) (hm : P.follows .mixedOrders = true) (haf : jG .any ops = true) (hsz : ∀ listed a w,I listed a w → listed.size = ops.size)
  (h0 : I (Array.replicate ops.size false) a w.drew) (rs : List Nat) (hrs : List.range ops.size = rs) (hs : vD P .any ops Q I rs)
  (hend : ∀ a w,(∃ listed,I listed a w ∧ ∀ i,i < ops.size → listed.getD i false = true) → Q .normal a w) : (Code.region id ops true).wp P Q a w:=by
 subst hrs
 refine wp_region_any hm (uE haf hsz hs hend _ _ _ _ ?_ h0)
 exact Nat.le_trans (List.length_filter_le _ _) (by rw [List.length_range];exact Nat.le_refl _)
theorem kG {listed : Array Bool} {i j : Nat} (h : (listed.setIfInBounds i true).getD j false = true) (hne : i ≠ j) : listed.getD j false = true:=by rwa [getD_set_ne _ hne] at h
theorem eC {n j : Nat} (h : (Array.replicate n false).getD j false = true) : False:=by
 simp only [Array.getD_eq_getD_getElem?,Array.getElem?_replicate] at h
 split at h <;> cases h

def depB (ops : Array Oper) (i j : Nat) : Bool:=match ops[i]? with
 | some o=>o.after.toList.any fun e=>Region.binds .any e && e.on == j
 | none=>false
theorem gK {i j : Nat} {listed : Array Bool} (hd : depB ops i j = true) (hi : i ∈ Region.ready .any ops listed) : listed.getD j false = true:=by
 unfold depB at hd
 split at hd
 ·rename_i o ho
  obtain ⟨e,he,hb⟩:=List.any_eq_true.1 hd
  simp only [Bool.and_eq_true,beq_iff_eq] at hb
  obtain ⟨_,o',ho',h⟩:=mem_ready.1 hi
  rw [ho] at ho';cases ho'
  rw [← hb.2]
  exact h e (Array.mem_toList_iff.1 he) hb.1
 ·cases hd
def xI (ops : Array Oper) (n : Nat) : Bool:=(List.range ops.size).all fun i=>match ops[i]? with
 | some o=>match o.dst with
  | some k=>decide (k < n) && (List.range ops.size).all fun j=>i == j || (match ops[j]? with | some o'=>!(o'.dst == some k) | none=>true)
  | none=>false
 | none=>false
theorem kD {n : Nat} (h : xI ops n = true) {i : Nat} {o : Oper} (ho : ops[i]? = some o) : ∃ k,o.dst = some k ∧ k < n ∧ ∀ j o',ops[j]? = some o' → i ≠ j → o'.dst ≠ some k:=by
 have hi:=(Array.getElem?_eq_some_iff.1 ho).1
 have h1:=List.all_eq_true.1 h i (List.mem_range.2 hi)
 rw [ho] at h1
 simp only [] at h1
 cases e : o.dst with
 | none=>rw [e] at h1;cases h1
 | some k =>
  rw [e] at h1
  simp only [Bool.and_eq_true,decide_eq_true_eq] at h1
  refine ⟨k,rfl,h1.1,fun j o' hj hne e'=>?_⟩
  have h2:=List.all_eq_true.1 h1.2 j (List.mem_range.2 (Array.getElem?_eq_some_iff.1 hj).1)
  rw [hj] at h2
  simp only [Bool.or_eq_true,beq_iff_eq,Bool.not_eq_true',beq_eq_false_iff_ne] at h2
  rcases h2 with h2 | h2
  ·exact hne h2
  ·exact h2 e'
structure Flow (ops : Array Oper) (W : World) (a0 : Act) (R : Nat → Value → World → Prop) (listed : Array Bool) (a : Act) (w : World) : Prop where
 sz : listed.size = ops.size
 bw : RowKit.Below W.heap.size W w
 df : a.defers = a0.defers
 ts : a.tmps.size = a0.tmps.size
 old : ∀ k,(∀ (i : Nat) (o : Oper),ops[i]? = some o → o.dst ≠ some k) → a.tmps.getD k undef = a0.tmps.getD k undef
 val : ∀ (i : Nat) (o : Oper) k,ops[i]? = some o → o.dst = some k → listed.getD i false = true → R i (a.tmps.getD k undef) w
theorem lE {xs : Array Value} {k : Nat} {v : Value} (h : k < xs.size) : (xs.setIfInBounds k v).getD k undef = v:=by
 simp [Array.getD_eq_getD_getElem?,Array.getElem?_setIfInBounds_self_of_lt h]
theorem gG {xs : Array Value} {k j : Nat} {v : Value} (h : k ≠ j) : (xs.setIfInBounds k v).getD j undef = xs.getD j undef:=by
 simp [Array.getD_eq_getD_getElem?,Array.getElem?_setIfInBounds_ne h]
theorem Flow.step {W : World} {a0 : Act} {R : Nat → Value → World → Prop} {listed : Array Bool} {a : Act} {w w' : World} (hB : xI ops a0.tmps.size = true)
  (hR : ∀ i v w w',R i v w → RowKit.Below w.heap.size w w' → R i v w') (h : Flow ops W a0 R listed a w) {i : Nat} {o : Oper} (ho : ops[i]? = some o) {v : Value} (hb : RowKit.Below w.heap.size w w') (hv : R i v w') :
  Flow ops W a0 R (listed.setIfInBounds i true) (a.put o.dst v) w':=by
 obtain ⟨k,hk,hlt,hap⟩:=kD hB ho
 have hput : a.put o.dst v = { a with tmps:=a.tmps.setIfInBounds k v }:=by rw [hk];rfl
 rw [hput]
 refine ⟨by simpa using h.sz,h.bw.trans (hb.mono h.bw.size),h.df,by simpa using h.ts,fun j hj=>?_,fun j o' q hj hq hl=>?_⟩
 ·have : k ≠ j:=fun e=>hj i o ho (by rw [hk,e])
  show (a.tmps.setIfInBounds k v).getD j undef = _
  rw [gG this]
  exact h.old j hj
 ·show R j ((a.tmps.setIfInBounds k v).getD q undef) w'
  by_cases e : i = j
  ·subst e
   rw [ho] at hj;cases hj
   rw [hk] at hq;cases hq
   rw [lE (by rw [h.ts];exact hlt)]
   exact hv
  ·have : k ≠ q:=fun e2=>hap j o' hj e (by rw [hq,e2])
   rw [gG this]
   exact hR _ _ _ _ (h.val j o' q hj hq (kG hl e)) hb
def aB (P : Program) (ops : Array Oper) (Q : Exit → Act → World → Prop) (W : World) (a0 : Act) (R : Nat → Value → World → Prop) (rs : List Nat) : Prop :=
 ∀ i ∈ rs,∀ o,ops[i]? = some o → ∀ (a : Act) (w : World),RowKit.Below W.heap.size W w → (∀ k,(∀ (i : Nat) (o : Oper),ops[i]? = some o → o.dst ≠ some k) → a.tmps.getD k undef = a0.tmps.getD k undef) →
  (∀ j o' k,depB ops i j = true → ops[j]? = some o' → o'.dst = some k → R j (a.tmps.getD k undef) w) →
  ∀ K : Act → World → Prop,Shut (∀ v w',RowKit.Below w.heap.size w w' → R i v w' → K (a.put o.dst v) w') → if Region.wanted o (yielded ops a.tmps) = true then Oper.wp P o a w K Q else K (a.put o.dst undef) w
theorem aB.nil {W : World} {a0 : Act} {R : Nat → Value → World → Prop} : aB P ops Q W a0 R []:=fun _ h=>by cases h
theorem aB.cons {W : World} {a0 : Act} {R : Nat → Value → World → Prop} {i : Nat} {o : Oper} {rs : List Nat} (ho : ops[i]? = some o)
  (h : ∀ (a : Act) (w : World),RowKit.Below W.heap.size W w → (∀ k,(∀ (i : Nat) (o : Oper),ops[i]? = some o → o.dst ≠ some k) → a.tmps.getD k undef = a0.tmps.getD k undef) →
   (∀ j o' k,depB ops i j = true → ops[j]? = some o' → o'.dst = some k → R j (a.tmps.getD k undef) w) →
   ∀ K : Act → World → Prop,Shut (∀ v w',RowKit.Below w.heap.size w w' → R i v w' → K (a.put o.dst v) w') → if Region.wanted o (yielded ops a.tmps) = true then Oper.wp P o a w K Q else K (a.put o.dst undef) w)
  (hs : aB P ops Q W a0 R rs) : aB P ops Q W a0 R (i :: rs):=fun j hj=>by
 rcases List.mem_cons.1 hj with rfl | hj
 ·intro o' ho'
  rw [ho] at ho';cases ho'
  exact h
 ·exact hs j hj
def cP (ks : List Nat) (xs : List Value) (t : Array Value) : Array Value:=match ks,xs with
 | k :: ks,x :: xs=>cP ks xs (t.setIfInBounds k x)
 | _,_=>t
theorem jB : ∀ (ks : List Nat) (xs : List Value) (t : Array Value),(cP ks xs t).size = t.size
 | [],_,_=>by simp [cP]
 | _ :: _,[],_=>by simp [cP]
 | k :: ks,x :: xs,t=>by rw [cP,jB ks xs,Array.size_setIfInBounds]
theorem iQ {j : Nat} : ∀ (ks : List Nat) (xs : List Value) (t : Array Value),j ∉ ks → (cP ks xs t).getD j undef = t.getD j undef
 | [],_,_,_=>by simp [cP]
 | _ :: _,[],_,_=>by simp [cP]
 | k :: ks,x :: xs,t,h=>by
  rw [cP,iQ ks xs _ (fun e=>h (List.mem_cons_of_mem _ e)),gG (fun e=>h (by rw [e];exact List.mem_cons_self))]
theorem lZ : ∀ (ks : List Nat) (xs : List Value) (t : Array Value) (i j : Nat) (x : Value),ks.Nodup → ks[i]? = some j → xs[i]? = some x → j < t.size → (cP ks xs t).getD j undef = x
 | [],_,_,i,j,x,_,h,_,_=>by simp at h
 | _ :: _,[],_,i,j,x,_,_,h,_=>by simp at h
 | k :: ks,y :: xs,t,0,j,x,hn,h1,h2,h3=>by
  simp only [List.getElem?_cons_zero,Option.some.injEq] at h1 h2
  subst h1 h2
  rw [cP,iQ ks xs _ (List.nodup_cons.1 hn).1,lE h3]
 | k :: ks,y :: xs,t,i + 1,j,x,hn,h1,h2,h3=>by
  rw [cP]
  exact lZ ks xs _ i j x (List.nodup_cons.1 hn).2 (by simpa using h1) (by simpa using h2) (by simpa using h3)
theorem uH {xs ys : Array Value} (h : xs.size = ys.size) (h2 : ∀ k,k < xs.size → xs.getD k undef = ys.getD k undef) : xs = ys:=by
 apply Array.ext h
 intro k h3 h4
 have:=h2 k h3
 simpa [Array.getD_eq_getD_getElem?,h3,h4] using this
theorem wp_region_flow {id : Nat} {a0 : Act} {w0 : World} (hm : P.follows .mixedOrders = true) (haf : jG .any ops = true) (hB : xI ops a0.tmps.size = true) (ks : List Nat) (hks : (List.range ops.size).map (fun i=>((ops[i]?).bind (fun o=>o.dst)).getD 0) = ks)
  (R : Nat → Value → World → Prop) (hR : ∀ i v w w',R i v w → RowKit.Below w.heap.size w w' → R i v w') (rs : List Nat) (hrs : List.range ops.size = rs) (hs : aB P ops Q w0 a0 R rs)
  (hend : ∀ (xs : List Value) (w : World),xs.length = ops.size → RowKit.Below w0.heap.size w0 w → (∀ i x,xs[i]? = some x → R i x w) → Q .normal { tmps:=cP ks xs a0.tmps,defers:=a0.defers } w) : (Code.region id ops true).wp P Q a0 w0:=by
 refine jO (fun listed a w=>Flow ops w0 a0 R listed a w) hm haf (fun _ _ _ h=>h.sz) ⟨by simp,(RowKit.Below.refl _ _).drew,rfl,rfl,fun _ _=>rfl,fun i o k _ _ h=>(eC h).elim⟩ rs hrs (fun i hi listed a w hF hr=>?_) (fun a w h=>?_)
 ·subst hrs
  obtain ⟨o,ho⟩ : ∃ o,ops[i]? = some o:=⟨_,Array.getElem?_eq_getElem (List.mem_range.1 hi)⟩
  exact wpOp_step ho (fun K' hK=>hs i hi o ho a w hF.bw hF.old (fun j o' k hd hj hk=>hF.val j o' k hj hk (gK hd hr)) K' (fun v w' hb hv=>hK _ _ (hF.step hB hR ho hb hv)))
 ·obtain ⟨listed,hF,hall⟩:=h
  have e : a = { tmps:=cP ks (ks.map (fun k=>a.tmps.getD k undef)) a0.tmps,defers:=a0.defers }:=by
   have h1 : a.tmps = cP ks (ks.map (fun k=>a.tmps.getD k undef)) a0.tmps:=by
    have hnd : ks.Nodup:=by
     rw [← hks]
     refine List.pairwise_map.2 ((List.pairwise_lt_range).imp_of_mem fun {i j} hi hj hlt e=>?_)
     have hi:=List.mem_range.1 hi
     have hj:=List.mem_range.1 hj
     obtain ⟨k,e1,-,h3⟩:=kD hB (Array.getElem?_eq_getElem hi)
     obtain ⟨k',e2,-,-⟩:=kD hB (Array.getElem?_eq_getElem hj)
     simp only [Array.getElem?_eq_getElem hi,Array.getElem?_eq_getElem hj,Option.bind_some,e1,e2,Option.getD_some] at e
     exact h3 j _ (Array.getElem?_eq_getElem hj) (by omega) (by rw [e2,e])
    refine uH (by rw [jB];exact hF.ts) fun k hk=>?_
    by_cases hm : k ∈ ks
    ·obtain ⟨i,hi⟩:=List.getElem?_of_mem hm
     rw [lZ ks _ _ i k (a.tmps.getD k undef) hnd hi (by rw [List.getElem?_map,hi];rfl) (by rw [← hF.ts];exact hk)]
    ·rw [iQ ks _ _ hm]
     refine hF.old k fun i o ho hd=>hm ?_
     rw [← hks]
     refine List.mem_map.2 ⟨i,List.mem_range.2 (Array.getElem?_eq_some_iff.1 ho).1, ?_⟩
     rw [ho];simp [hd]
   obtain ⟨t,d⟩:=a
   have h2:=hF.df
   simp only at h1 h2
   rw [← h1,h2]
  rw [e]
  refine hend _ _ (by rw [List.length_map,← hks,List.length_map,List.length_range]) hF.bw fun i x hx=>?_
  rw [List.getElem?_map] at hx
  obtain ⟨k,hk,rfl⟩:=Option.map_eq_some_iff.1 hx
  rw [← hks,List.getElem?_map] at hk
  obtain ⟨i',hi',rfl⟩:=Option.map_eq_some_iff.1 hk
  have hi2:=(List.getElem?_eq_some_iff.1 hi').1
  simp only [List.length_range] at hi2
  have : i' = i:=by rw [List.getElem?_range hi2] at hi';cases hi';rfl
  subst this
  obtain ⟨k,e1,-,-⟩:=kD hB (Array.getElem?_eq_getElem hi2)
  simp only [Array.getElem?_eq_getElem hi2,Option.bind_some,e1,Option.getD_some]
  exact hF.val i' _ k (Array.getElem?_eq_getElem hi2) e1 (hall i' hi2)
theorem eT {id : Nat} {a0 : Act} {w0 : World} (ops' : Array Oper) (he : ops' = ops) (hm : P.follows .mixedOrders = true) (haf : jG .any ops' = true) (n : Nat) (hn : a0.tmps.size = n) (hB : xI ops' n = true) (ks : List Nat) (hks : (List.range ops'.size).map (fun i=>((ops'[i]?).bind (fun o=>o.dst)).getD 0) = ks)
  (R : Nat → Value → World → Prop) (hR : ∀ i v w w',R i v w → RowKit.Below w.heap.size w w' → R i v w') (rs : List Nat) (hrs : List.range ops'.size = rs) (hs : aB P ops' Q w0 a0 R rs)
  (hend : ∀ (x : Nat → Value) (w : World),RowKit.Below w0.heap.size w0 w → (∀ i,i < ops'.size → R i (x i) w) → Q .normal { tmps:=cP ks (rs.map x) a0.tmps,defers:=a0.defers } w) : (Code.region id ops true).wp P Q a0 w0:=by
 subst he
 refine wp_region_flow hm haf (by rw [hn];exact hB) ks hks R hR rs hrs hs fun xs w hl hb hx=>?_
 have e : xs = rs.map (fun i=>xs.getD i undef):=by
  apply List.ext_getElem
  ·rw [List.length_map,← hrs,List.length_range,hl]
  ·intro i h1 h2
   simp [← hrs,List.getD_eq_getElem?_getD,h1]
 rw [e]
 exact hend _ w hb fun i hi=>hx i _ (by rw [List.getD_eq_getElem?_getD,List.getElem?_eq_getElem (by rw [hl];exact hi)];rfl)
def yU (ops : Array Oper) (n q : Nat) : Bool:=(List.range ops.size).all fun i=>(i == q && (match ops[i]? with | some o=>o.dst.isNone | none=>false)) || (depB ops q i && match ops[i]? with
 | some o=>match o.dst with
  | some k=>decide (k < n) && (List.range ops.size).all fun j=>i == j || (match ops[j]? with | some o'=>!(o'.dst == some k) | none=>true)
  | none=>false
 | none=>false)
theorem iM {n q : Nat} (h : yU ops n q = true) {i : Nat} {o : Oper} (ho : ops[i]? = some o) (hi : i ≠ q) : depB ops q i = true ∧ ∃ k,o.dst = some k ∧ k < n ∧ ∀ j o',ops[j]? = some o' → i ≠ j → o'.dst ≠ some k:=by
 have hl:=(Array.getElem?_eq_some_iff.1 ho).1
 have h1:=List.all_eq_true.1 h i (List.mem_range.2 hl)
 rw [ho] at h1
 have hf : (i == q) = false:=by simpa using hi
 simp only [hf,Bool.false_and,Bool.false_or,Bool.and_eq_true] at h1
 refine ⟨h1.1, ?_⟩
 have h1:=h1.2
 cases e : o.dst with
 | none=>rw [e] at h1;cases h1
 | some k =>
  rw [e] at h1
  simp only [Bool.and_eq_true,decide_eq_true_eq] at h1
  refine ⟨k,rfl,h1.1,fun j o' hj hne e'=>?_⟩
  have h2:=List.all_eq_true.1 h1.2 j (List.mem_range.2 (Array.getElem?_eq_some_iff.1 hj).1)
  rw [hj] at h2
  simp only [Bool.or_eq_true,beq_iff_eq,Bool.not_eq_true',beq_eq_false_iff_ne] at h2
  rcases h2 with h2 | h2
  ·exact hne h2
  ·exact h2 e'
theorem Flow.stepK {W : World} {a0 : Act} {R : Nat → Value → World → Prop} {listed : Array Bool} {a : Act} {w w' : World}
  (hR : ∀ i v w w',R i v w → RowKit.Below w.heap.size w w' → R i v w') (h : Flow ops W a0 R listed a w) {i : Nat} {o : Oper} (ho : ops[i]? = some o) {k : Nat} (hk : o.dst = some k) (hlt : k < a0.tmps.size) (hap : ∀ j o',ops[j]? = some o' → i ≠ j → o'.dst ≠ some k) {v : Value} (hb : RowKit.Below w.heap.size w w') (hv : R i v w') :
  Flow ops W a0 R (listed.setIfInBounds i true) (a.put o.dst v) w':=by
 have hput : a.put o.dst v = { a with tmps:=a.tmps.setIfInBounds k v }:=by rw [hk];rfl
 rw [hput]
 refine ⟨by simpa using h.sz,h.bw.trans (hb.mono h.bw.size),h.df,by simpa using h.ts,fun j hj=>?_,fun j o' q hj hq hl=>?_⟩
 ·have : k ≠ j:=fun e=>hj i o ho (by rw [hk,e])
  show (a.tmps.setIfInBounds k v).getD j undef = _
  rw [gG this]
  exact h.old j hj
 ·show R j ((a.tmps.setIfInBounds k v).getD q undef) w'
  by_cases e : i = j
  ·subst e
   rw [ho] at hj;cases hj
   rw [hk] at hq;cases hq
   rw [lE (by rw [h.ts];exact hlt)]
   exact hv
  ·have : k ≠ q:=fun e2=>hap j o' hj e (by rw [hq,e2])
   rw [gG this]
   exact hR _ _ _ _ (h.val j o' q hj hq (kG hl e)) hb
theorem wp_region_flow_last {id : Nat} {a0 : Act} {w0 : World} (ops' : Array Oper) (he : ops' = ops) (hm : P.follows .mixedOrders = true) (haf : jG .any ops' = true) (n : Nat) (hn : a0.tmps.size = n) (q : Nat) (oq : Oper) (hq : ops'[q]? = some oq) (hqd : oq.dst = none) (hqg : oq.guard = none) (hB : yU ops' n q = true) (ks : List Nat) (rs : List Nat) (hrs : (List.range ops'.size).filter (fun i=>!(i == q)) = rs)
  (hks : rs.map (fun i=>((ops'[i]?).bind (fun o=>o.dst)).getD 0) = ks)
  (R : Nat → Value → World → Prop) (hR : ∀ i v w w',R i v w → RowKit.Below w.heap.size w w' → R i v w') (hs : aB P ops' Q w0 a0 R rs)
  (hend : ∀ (x : Nat → Value) (w : World),RowKit.Below w0.heap.size w0 w → (∀ i ∈ rs,R i (x i) w) → ∀ K : Act → World → Prop,Shut (∀ a w,Q .normal a w → K a w) → Oper.wp P oq { tmps:=cP ks (rs.map x) a0.tmps,defers:=a0.defers } w K Q) : (Code.region id ops true).wp P Q a0 w0:=by
 subst he
 refine jO (fun listed a w=>listed.size = ops'.size ∧ ((listed.getD q false = false ∧ Flow ops' w0 a0 R listed a w) ∨ ((∀ i,i < ops'.size → listed.getD i false = true) ∧ Q .normal a w))) hm haf (fun _ _ _ h=>h.1) ⟨by simp,.inl ⟨?_,by simp,(RowKit.Below.refl _ _).drew,rfl,rfl,fun _ _=>rfl,fun i o k _ _ h=>(eC h).elim⟩⟩ (List.range ops'.size) rfl (fun i hi listed a w hF hr=>?_) (fun a w h=>?_)
 ·cases e : (Array.replicate ops'.size false).getD q false with
  | false=>rfl
  | true=>exact (eC e).elim
 ·obtain ⟨hsz,hF⟩:=hF
  have hi':=List.mem_range.1 hi
  have hun : listed.getD i false = false:=by
   have h0:=(mem_ready.1 hr).1
   have hl : i < listed.size:=by rw [hsz];exact hi'
   simp only [Array.getD_eq_getD_getElem?,Array.getElem?_eq_getElem hl,Option.getD_some] at h0 ⊢
   exact h0
  rcases hF with ⟨hq0,hF⟩ | ⟨hall,-⟩
  ·obtain ⟨o,ho⟩ : ∃ o,ops'[i]? = some o:=⟨_,Array.getElem?_eq_getElem hi'⟩
   by_cases hiq : i = q
   ·subst hiq
    rw [hq] at ho;cases ho
    have hall : ∀ j,j < ops'.size → j ≠ i → listed.getD j false = true:=fun j hj hne=>gK (iM hB (Array.getElem?_eq_getElem hj) hne).1 hr
    have hnd : ks.Nodup:=by
     rw [← hks,← hrs]
     refine List.pairwise_map.2 (((List.pairwise_lt_range).filter _).imp_of_mem fun {i' j'} hi hj hlt e=>?_)
     obtain ⟨hi,hiq⟩:=List.mem_filter.1 hi
     obtain ⟨hj,hjq⟩:=List.mem_filter.1 hj
     have hi:=List.mem_range.1 hi
     have hj:=List.mem_range.1 hj
     obtain ⟨-,k,e1,-,h3⟩:=iM hB (Array.getElem?_eq_getElem hi) (by simpa using hiq)
     obtain ⟨-,k',e2,-,-⟩:=iM hB (Array.getElem?_eq_getElem hj) (by simpa using hjq)
     simp only [Array.getElem?_eq_getElem hi,Array.getElem?_eq_getElem hj,Option.bind_some,e1,e2,Option.getD_some] at e
     exact h3 j' _ (Array.getElem?_eq_getElem hj) (by omega) (by rw [e2,e])
    have e : a = { tmps:=cP ks (rs.map (fun i=>a.tmps.getD (((ops'[i]?).bind (fun o=>o.dst)).getD 0) undef)) a0.tmps,defers:=a0.defers }:=by
     have h1 : a.tmps = cP ks (ks.map (fun k=>a.tmps.getD k undef)) a0.tmps:=by
      refine uH (by rw [jB];exact hF.ts) fun k hk=>?_
      by_cases hm : k ∈ ks
      ·obtain ⟨j,hj⟩:=List.getElem?_of_mem hm
       rw [lZ ks _ _ j k (a.tmps.getD k undef) hnd hj (by rw [List.getElem?_map,hj];rfl) (by rw [← hF.ts];exact hk)]
      ·rw [iQ ks _ _ hm]
       refine hF.old k fun j o' ho' hd=>hm ?_
       rw [← hks]
       have hjq : j ≠ i:=fun e=>by subst e;rw [hq] at ho';cases ho';rw [hqd] at hd;cases hd
       refine List.mem_map.2 ⟨j, ?_, ?_⟩
       ·rw [← hrs];exact List.mem_filter.2 ⟨List.mem_range.2 (Array.getElem?_eq_some_iff.1 ho').1,by simpa using hjq⟩
       ·rw [ho'];simp [hd]
     obtain ⟨t,d⟩:=a
     have h2:=hF.df
     simp only at h1 h2
     rw [← hks,List.map_map] at h1
     rw [← hks]
     show Act.mk t d = _
     rw [Act.mk.injEq]
     exact ⟨h1,h2⟩
    refine wpOp_step hq (fun K' hK=>?_)
    rw [if_pos (by simp [Region.wanted,hqg])]
    have fin:=hend (fun i=>a.tmps.getD (((ops'[i]?).bind (fun o=>o.dst)).getD 0) undef) w hF.bw (fun j hj=>by
     rw [← hrs] at hj
     obtain ⟨hj,hjq⟩:=List.mem_filter.1 hj
     have hj:=List.mem_range.1 hj
     have hjq : j ≠ i:=by simpa using hjq
     obtain ⟨-,k,e1,-,-⟩:=iM hB (Array.getElem?_eq_getElem hj) hjq
     simp only [Array.getElem?_eq_getElem hj,Option.bind_some,e1,Option.getD_some]
     exact hF.val j _ k (Array.getElem?_eq_getElem hj) e1 (hall j hj hjq)) K' (fun a w hQ=>hK _ _ ⟨by simpa using hsz,.inr ⟨fun j hj=>by
      by_cases hne : j = i
      ·subst hne
       simp only [Array.getD_eq_getD_getElem?]
       rw [Array.getElem?_setIfInBounds_self_of_lt (by rw [hsz];exact hj)];rfl
      ·rw [getD_set_ne _ (fun e=>hne e.symm)];exact hall j hj hne,hQ⟩⟩)
    rw [← e] at fin
    exact fin
   ·obtain ⟨-,k,hk,hlt,hap⟩:=iM hB ho hiq
    refine wpOp_step ho (fun K' hK=>hs i (by rw [← hrs];exact List.mem_filter.2 ⟨hi,by simpa using hiq⟩) o ho a w hF.bw hF.old (fun j o' k hd hj hk=>hF.val j o' k hj hk (gK hd hr)) K' (fun v w' hb hv=>hK _ _ ⟨by simpa using hsz,.inl ⟨?_,hF.stepK hR ho hk (by rw [hn];exact hlt) hap hb hv⟩⟩))
    rw [getD_set_ne _ hiq];exact hq0
  ·rw [hall i hi'] at hun;cases hun
 ·obtain ⟨listed,⟨hsz,hF⟩,hall⟩:=h
  rcases hF with ⟨hq0,-⟩ | ⟨-,hQ⟩
  ·have:=hall q (Array.getElem?_eq_some_iff.1 hq).1
   rw [hq0] at this;cases this
  ·exact hQ
theorem wp_region_flow_end {id : Nat} {a0 : Act} {w0 : World} (ops' : Array Oper) (he : ops' = ops) (hm : P.follows .mixedOrders = true) (haf : jG .any ops' = true) (n : Nat) (hn : a0.tmps.size = n) (q : Nat) (opq : Op) (hq : (ops'[q]?).map (fun o=>(o.op,o.dst,o.guard)) = some (opq,none,none)) (hB : yU ops' n q = true) (ks : List Nat) (rs : List Nat) (hrs : (List.range ops'.size).filter (fun i=>!(i == q)) = rs)
  (hks : rs.map (fun i=>((ops'[i]?).bind (fun o=>o.dst)).getD 0) = ks)
  (R : Nat → Value → World → Prop) (hR : ∀ i v w w',R i v w → RowKit.Below w.heap.size w w' → R i v w') (hs : aB P ops' Q w0 a0 R rs)
  (hend : ∀ (x : Nat → Value) (w : World),RowKit.Below w0.heap.size w0 w → (∀ i ∈ rs,R i (x i) w) → ∀ oq : Oper,oq.op = opq → oq.dst = none → ∀ K : Act → World → Prop,Shut (∀ a w,Q .normal a w → K a w) → Oper.wp P oq { tmps:=cP ks (rs.map x) a0.tmps,defers:=a0.defers } w K Q) : (Code.region id ops true).wp P Q a0 w0:=by
 cases e : ops'[q]? with
 | none=>rw [e] at hq;cases hq
 | some oq =>
  rw [e] at hq
  simp only [Option.map_some,Option.some.injEq,Prod.mk.injEq] at hq
  exact wp_region_flow_last ops' he hm haf n hn q oq e hq.2.1 hq.2.2 hB ks rs hrs hks R hR hs fun x w hb hx K hK=>hend x w hb hx oq hq.1 hq.2.1 K hK
def zY (P : Program) (op : Op) (a : Act) (w : World) (S : Value → World → Prop) : Prop:=∀ (o : Oper),o.op = op → ∀ (K : Act → World → Prop) (Q : Exit → Act → World → Prop),(∀ v w',S v w' → K (a.put o.dst v) w') → Oper.wp P o a w K Q
def offB (ops : Array Oper) (k : Nat) : Bool:=ops.toList.all fun o=>!(o.dst == some k)
theorem tM {k : Nat} (h : offB ops k = true) : ∀ (i : Nat) (o : Oper),ops[i]? = some o → o.dst ≠ some k:=fun i o ho e=>by
 have:=List.all_eq_true.1 h o (Array.mem_toList_iff.2 (Array.mem_of_getElem? ho))
 rw [e] at this
 simp at this
structure Finds (ops : Array Oper) (W : World) (a0 : Act) (R : Nat → Value → World → Prop) (i : Nat) (a : Act) (w : World) : Prop where
 bw : RowKit.Below W.heap.size W w
 old : ∀ k,offB ops k = true → a.tmps[k]?.getD undef = a0.tmps.getD k undef
 dep : ∀ j k,depB ops i j = true → (ops[j]?).map (fun o=>o.dst) = some (some k) → R j (a.tmps[k]?.getD undef) w
theorem aB.step {W : World} {a0 : Act} {R : Nat → Value → World → Prop} {i : Nat} {rs : List Nat} (op : Op) (h1 : (ops[i]?).map (fun o=>(o.op,o.guard)) = some (op,none))
  (h : ∀ (a : Act) (w : World),Finds ops W a0 R i a w → zY P op a w (fun v w'=>RowKit.Below w.heap.size w w' ∧ R i v w')) (hs : aB P ops Q W a0 R rs) : aB P ops Q W a0 R (i :: rs):=by
 cases e : ops[i]? with
 | none=>rw [e] at h1;cases h1
 | some o =>
  rw [e] at h1
  simp only [Option.map_some,Option.some.injEq,Prod.mk.injEq] at h1
  refine aB.cons e (fun a w hb ho hd K hK=>?_) hs
  rw [if_pos (by simp [Region.wanted,h1.2])]
  refine h a w ⟨hb,fun k hk=>?_,fun j k hj hk=>?_⟩ o h1.1 K Q (fun v w' hv=>hK.out v w' hv.1 hv.2)
  ·rw [← Array.getD_eq_getD_getElem?];exact ho k (tM hk)
  ·cases e2 : ops[j]? with
   | none=>rw [e2] at hk;cases hk
   | some o' =>
    rw [e2] at hk
    rw [← Array.getD_eq_getD_getElem?]
    exact hd j o' k hj e2 (by simpa using hk)
theorem aB.stepIf {W : World} {a0 : Act} {R : Nat → Value → World → Prop} {i : Nat} {rs : List Nat} (op : Op) (g q : Nat) (b : Bool) (h1 : (ops[i]?).map (fun o=>(o.op,o.guard)) = some (op,some (g,b)))
  (hg : depB ops i g = true) (hq : (ops[g]?).map (fun o=>o.dst) = some (some q)) (hb : ∀ v w,R g v w → v = .bool b)
  (h : ∀ (a : Act) (w : World),Finds ops W a0 R i a w → zY P op a w (fun v w'=>RowKit.Below w.heap.size w w' ∧ R i v w')) (hs : aB P ops Q W a0 R rs) : aB P ops Q W a0 R (i :: rs):=by
 cases e : ops[i]? with
 | none=>rw [e] at h1;cases h1
 | some o =>
  rw [e] at h1
  simp only [Option.map_some,Option.some.injEq,Prod.mk.injEq] at h1
  cases eg : ops[g]? with
  | none=>rw [eg] at hq;cases hq
  | some og =>
   rw [eg] at hq
   refine aB.cons e (fun a w hw ho hd K hK=>?_) hs
   have hv:=hb _ _ (hd g og q hg eg (by simpa using hq))
   have hy : yielded ops a.tmps g = some b:=by
    have hd' : og.dst = some q:=by simpa using hq
    rw [Array.getD_eq_getD_getElem?] at hv
    unfold yielded
    rw [eg]
    simp only [Option.bind_some,hd']
    cases e3 : a.tmps[q]? with
    | none=>rw [e3] at hv;cases hv
    | some v=>rw [e3] at hv;simp only [Option.getD_some] at hv;subst hv;rfl
   rw [if_pos (by simp [Region.wanted,h1.2,hy])]
   refine h a w ⟨hw,fun k hk=>?_,fun j k hj hk=>?_⟩ o h1.1 K Q (fun v w' hv=>hK.out v w' hv.1 hv.2)
   ·rw [← Array.getD_eq_getD_getElem?];exact ho k (tM hk)
   ·cases e2 : ops[j]? with
    | none=>rw [e2] at hk;cases hk
    | some o' =>
     rw [e2] at hk
     rw [← Array.getD_eq_getD_getElem?]
     exact hd j o' k hj e2 (by simpa using hk)
def gV (r : Value → World → Prop) : Prop:=∀ v w w',r v w → RowKit.Below w.heap.size w w' → r v w'
def rAt (rs : List (Value → World → Prop)) (i : Nat) (v : Value) (w : World) : Prop:=match rs[i]? with
 | some r=>r v w
 | none=>True
theorem fZ {rs : List (Value → World → Prop)} (h : ∀ r ∈ rs,gV r) : ∀ i v w w',rAt rs i v w → RowKit.Below w.heap.size w w' → rAt rs i v w':=fun i v w w' hr hb=>by
 unfold rAt at hr ⊢
 cases e : rs[i]? with
 | none=>trivial
 | some r=>rw [e] at hr;exact h r (List.mem_of_getElem? e) v w w' hr hb
def isV (x : Value) : Value → World → Prop:=fun v _=>v = x
theorem aE (x : Value) : gV (isV x):=fun _ _ _ h _=>h
end
end Go
