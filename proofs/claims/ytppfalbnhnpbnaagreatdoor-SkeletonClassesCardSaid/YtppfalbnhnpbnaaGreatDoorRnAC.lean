/- A region in any order whose last operation, a call whose answer has a slot, waits for all others: those only read and make memory. Conditions: those of each statement. -/
import Derived.Test.YtppfalbnhnpbnaaGreatDoorFlwC
import Derived.Test.YtppfalbnhnpbnaaGreatDoorEaBC
import Derived.Test.YtppfalbnhnpbnaaGreatDoorNtDC
import Derived.Test.YtppfalbnhnpbnaaGreatDoorNtBC
set_option linter.unusedSimpArgs false
set_option linter.unusedVariables false
namespace Go
section
variable {P : Program} {ops : Array Oper} {Q : Exit → Act → World → Prop}
def xJ (ops : Array Oper) (n q kq : Nat) : Bool:=(List.range ops.size).all fun i=>(i == q && (match ops[i]? with | some o=>o.dst == some kq | none=>false)) || (((List.range ops.size).any fun k=>depB ops k i && (k == q || decide (i < k))) && match ops[i]? with
 | some o=>match o.dst with
  | some k=>decide (k < n) && (List.range ops.size).all fun j=>i == j || (match ops[j]? with | some o'=>!(o'.dst == some k) | none=>true)
  | none=>false
 | none=>false)
theorem gL {n q kq : Nat} (h : xJ ops n q kq = true) {i : Nat} {o : Oper} (ho : ops[i]? = some o) (hi : i ≠ q) : (∃ k,k < ops.size ∧ depB ops k i = true ∧ (k = q ∨ i < k)) ∧ ∃ k,o.dst = some k ∧ k < n ∧ ∀ j o',ops[j]? = some o' → i ≠ j → o'.dst ≠ some k:=by
 have hl:=(Array.getElem?_eq_some_iff.1 ho).1
 have h1:=List.all_eq_true.1 h i (List.mem_range.2 hl)
 rw [ho] at h1
 have hf : (i == q) = false:=by simpa using hi
 simp only [hf,Bool.false_and,Bool.false_or,Bool.and_eq_true] at h1
 refine ⟨?_, ?_⟩
 ·obtain ⟨k,hk,hk2⟩:=List.any_eq_true.1 h1.1
  simp only [Bool.and_eq_true,Bool.or_eq_true,beq_iff_eq,decide_eq_true_eq] at hk2
  exact ⟨k,List.mem_range.1 hk,hk2.1,hk2.2⟩
 have h1:=h1.2
 cases e : o.dst with
 | none=>rw [e] at h1;cases h1
 | some k =>
  rw [e] at h1
  simp only [Bool.and_eq_true,decide_eq_true_eq] at h1
  refine ⟨k,rfl,h1.1,fun j o' hj hne e'=>?_⟩
  have h2:=List.all_eq_true.1 h1.2 j (List.mem_range.2 (Array.getElem?_eq_some_iff.1 hj).1)
  rw [hj] at h2
  simp only [Bool.or_eq_true,beq_iff_eq,Bool.not_eq_true',beq_eq_false_iff_ne] at h2
  rcases h2 with h2 | h2
  ·exact hne h2
  ·exact h2 e'
def Clo (ops : Array Oper) (listed : Array Bool) : Prop:=∀ i j,listed.getD i false = true → depB ops i j = true → listed.getD j false = true
theorem wI {listed : Array Bool} {i j : Nat} (h : listed.getD j false = true) : (listed.setIfInBounds i true).getD j false = true:=by
 by_cases e : i = j
 ·subst e
  simp only [Array.getD_eq_getD_getElem?] at h ⊢
  by_cases hl : i < listed.size
  ·rw [Array.getElem?_setIfInBounds_self_of_lt hl];rfl
  ·rw [Array.getElem?_eq_none (by omega)] at h;cases h
 ·rw [getD_set_ne _ e];exact h
theorem Clo.step {listed : Array Bool} (h : Clo ops listed) {i : Nat} (hr : i ∈ Region.ready .any ops listed) : Clo ops (listed.setIfInBounds i true):=fun a j ha hd=>by
 by_cases e : i = a
 ·subst e;exact wI (gK hd hr)
 ·exact wI (h a j (kG ha e) hd)
theorem Clo.all {n q kq : Nat} (hB : xJ ops n q kq = true) {listed : Array Bool} (h : Clo ops listed) (hr : q ∈ Region.ready .any ops listed) : ∀ m i,ops.size - i = m → i < ops.size → i ≠ q → listed.getD i false = true:=by
 intro m
 induction m using Nat.strongRecOn with
 | ind m ih =>
  intro i hm hi hne
  obtain ⟨⟨k,hk,hd,hc⟩,-⟩:=gL hB (Array.getElem?_eq_getElem hi) hne
  by_cases e : k = q
  ·subst e;exact gK hd hr
  ·have hik : i < k:=by rcases hc with hc | hc;exact absurd hc e;exact hc
   exact h k i (ih (ops.size - k) (by omega) k rfl hk e) hd
theorem wp_region_flow_call {id : Nat} {a0 : Act} {w0 : World} (ops' : Array Oper) (he : ops' = ops) (hm : P.follows .mixedOrders = true) (haf : jG .any ops' = true) (n : Nat) (hn : a0.tmps.size = n) (q : Nat) (oq : Oper) (hq : ops'[q]? = some oq) (kq : Nat) (hqd : oq.dst = some kq) (hqg : oq.guard = none) (hB : xJ ops' n q kq = true) (ks : List Nat) (rs : List Nat) (hrs : (List.range ops'.size).filter (fun i=>!(i == q)) = rs)
  (hks : rs.map (fun i=>((ops'[i]?).bind (fun o=>o.dst)).getD 0) = ks)
  (R : Nat → Value → World → Prop) (hR : ∀ i v w w',R i v w → RowKit.Below w.heap.size w w' → R i v w') (hs : aB P ops' Q w0 a0 R rs)
  (hend : ∀ (x : Nat → Value) (y : Value) (w : World),RowKit.Below w0.heap.size w0 w → (∀ i ∈ rs,R i (x i) w) → ∀ K : Act → World → Prop,Shut (∀ a w,Q .normal a w → K a w) → Oper.wp P oq { tmps:=cP (kq :: ks) (y :: rs.map x) a0.tmps,defers:=a0.defers } w K Q) : (Code.region id ops true).wp P Q a0 w0:=by
 subst he
 refine jO (fun listed a w=>(listed.size = ops'.size ∧ Clo ops' listed) ∧ ((listed.getD q false = false ∧ Flow ops' w0 a0 R listed a w) ∨ ((∀ i,i < ops'.size → listed.getD i false = true) ∧ Q .normal a w))) hm haf (fun _ _ _ h=>h.1.1) ⟨⟨by simp,fun i j h=>(eC h).elim⟩,.inl ⟨?_,by simp,(RowKit.Below.refl _ _).drew,rfl,rfl,fun _ _=>rfl,fun i o k _ _ h=>(eC h).elim⟩⟩ (List.range ops'.size) rfl (fun i hi listed a w hF hr=>?_) (fun a w h=>?_)
 ·cases e : (Array.replicate ops'.size false).getD q false with
  | false=>rfl
  | true=>exact (eC e).elim
 ·obtain ⟨⟨hsz,hclo⟩,hF⟩:=hF
  have hi':=List.mem_range.1 hi
  have hun : listed.getD i false = false:=by
   have h0:=(mem_ready.1 hr).1
   have hl : i < listed.size:=by rw [hsz];exact hi'
   simp only [Array.getD_eq_getD_getElem?,Array.getElem?_eq_getElem hl,Option.getD_some] at h0 ⊢
   exact h0
  rcases hF with ⟨hq0,hF⟩ | ⟨hall,-⟩
  ·obtain ⟨o,ho⟩ : ∃ o,ops'[i]? = some o:=⟨_,Array.getElem?_eq_getElem hi'⟩
   by_cases hiq : i = q
   ·subst hiq
    rw [hq] at ho;cases ho
    have hall : ∀ j,j < ops'.size → j ≠ i → listed.getD j false = true:=fun j hj hne=>hclo.all hB hr _ j rfl hj hne
    have hnd : ks.Nodup:=by
     rw [← hks,← hrs]
     refine List.pairwise_map.2 (((List.pairwise_lt_range).filter _).imp_of_mem fun {i' j'} hi hj hlt e=>?_)
     obtain ⟨hi,hiq⟩:=List.mem_filter.1 hi
     obtain ⟨hj,hjq⟩:=List.mem_filter.1 hj
     have hi:=List.mem_range.1 hi
     have hj:=List.mem_range.1 hj
     obtain ⟨-,k,e1,-,h3⟩:=gL hB (Array.getElem?_eq_getElem hi) (by simpa using hiq)
     obtain ⟨-,k',e2,-,-⟩:=gL hB (Array.getElem?_eq_getElem hj) (by simpa using hjq)
     simp only [Array.getElem?_eq_getElem hi,Array.getElem?_eq_getElem hj,Option.bind_some,e1,e2,Option.getD_some] at e
     exact h3 j' _ (Array.getElem?_eq_getElem hj) (by omega) (by rw [e2,e])
    have hkq : kq ∉ ks:=fun hm=>by
     rw [← hks,← hrs] at hm
     obtain ⟨j,hj,e⟩:=List.mem_map.1 hm
     obtain ⟨hj,hjq⟩:=List.mem_filter.1 hj
     have hj:=List.mem_range.1 hj
     have hjq : j ≠ i:=by simpa using hjq
     obtain ⟨-,k,e1,-,h3⟩:=gL hB (Array.getElem?_eq_getElem hj) hjq
     simp only [Array.getElem?_eq_getElem hj,Option.bind_some,e1,Option.getD_some] at e
     exact h3 i _ hq hjq (by rw [hqd,e])
    have e : a = { tmps:=cP (kq :: ks) (a.tmps.getD kq undef :: rs.map (fun i=>a.tmps.getD (((ops'[i]?).bind (fun o=>o.dst)).getD 0) undef)) a0.tmps,defers:=a0.defers }:=by
     have h1 : a.tmps = cP (kq :: ks) ((kq :: ks).map (fun k=>a.tmps.getD k undef)) a0.tmps:=by
      refine uH (by rw [jB];exact hF.ts) fun k hk=>?_
      by_cases hm : k ∈ kq :: ks
      ·obtain ⟨j,hj⟩:=List.getElem?_of_mem hm
       rw [lZ (kq :: ks) _ _ j k (a.tmps.getD k undef) (List.nodup_cons.2 ⟨hkq,hnd⟩) hj (by rw [List.getElem?_map,hj];rfl) (by rw [← hF.ts];exact hk)]
      ·rw [iQ (kq :: ks) _ _ hm]
       refine hF.old k fun j o' ho' hd=>hm ?_
       by_cases hjq : j = i
       ·subst hjq;rw [hq] at ho';cases ho';rw [hqd] at hd;cases hd;simp
       refine List.mem_cons_of_mem _ ?_
       rw [← hks]
       refine List.mem_map.2 ⟨j, ?_, ?_⟩
       ·rw [← hrs];exact List.mem_filter.2 ⟨List.mem_range.2 (Array.getElem?_eq_some_iff.1 ho').1,by simpa using hjq⟩
       ·rw [ho'];simp [hd]
     obtain ⟨t,d⟩:=a
     have h2:=hF.df
     simp only at h1 h2
     rw [List.map_cons,← hks,List.map_map] at h1
     rw [← hks]
     show Act.mk t d = _
     rw [Act.mk.injEq]
     exact ⟨h1,h2⟩
    refine wpOp_step hq (fun K' hK=>?_)
    rw [if_pos (by simp [Region.wanted,hqg])]
    have fin:=hend (fun i=>a.tmps.getD (((ops'[i]?).bind (fun o=>o.dst)).getD 0) undef) (a.tmps.getD kq undef) w hF.bw (fun j hj=>by
     rw [← hrs] at hj
     obtain ⟨hj,hjq⟩:=List.mem_filter.1 hj
     have hj:=List.mem_range.1 hj
     have hjq : j ≠ i:=by simpa using hjq
     obtain ⟨-,k,e1,-,-⟩:=gL hB (Array.getElem?_eq_getElem hj) hjq
     simp only [Array.getElem?_eq_getElem hj,Option.bind_some,e1,Option.getD_some]
     exact hF.val j _ k (Array.getElem?_eq_getElem hj) e1 (hall j hj hjq)) K' (fun a w hQ=>hK _ _ ⟨⟨by simpa using hsz,hclo.step hr⟩,.inr ⟨fun j hj=>by
      by_cases hne : j = i
      ·subst hne
       simp only [Array.getD_eq_getD_getElem?]
       rw [Array.getElem?_setIfInBounds_self_of_lt (by rw [hsz];exact hj)];rfl
      ·rw [getD_set_ne _ (fun e=>hne e.symm)];exact hall j hj hne,hQ⟩⟩)
    rw [← e] at fin
    exact fin
   ·obtain ⟨-,k,hk,hlt,hap⟩:=gL hB ho hiq
    refine wpOp_step ho (fun K' hK=>hs i (by rw [← hrs];exact List.mem_filter.2 ⟨hi,by simpa using hiq⟩) o ho a w hF.bw hF.old (fun j o' k hd hj hk=>hF.val j o' k hj hk (gK hd hr)) K' (fun v w' hb hv=>hK _ _ ⟨⟨by simpa using hsz,hclo.step hr⟩,.inl ⟨?_,hF.stepK hR ho hk (by rw [hn];exact hlt) hap hb hv⟩⟩))
    rw [getD_set_ne _ hiq];exact hq0
  ·rw [hall i hi'] at hun;cases hun
 ·obtain ⟨listed,⟨⟨hsz,-⟩,hF⟩,hall⟩:=h
  rcases hF with ⟨hq0,-⟩ | ⟨-,hQ⟩
  ·have:=hall q (Array.getElem?_eq_some_iff.1 hq).1
   rw [hq0] at this;cases this
  ·exact hQ
theorem fT {id : Nat} {a0 : Act} {w0 : World} (ops' : Array Oper) (he : ops' = ops) (hm : P.follows .mixedOrders = true) (haf : jG .any ops' = true) (n : Nat) (hn : a0.tmps.size = n) (q kq : Nat) (opq : Op) (hq : (ops'[q]?).map (fun o=>(o.op,o.dst,o.guard)) = some (opq,some kq,none)) (hB : xJ ops' n q kq = true) (ks : List Nat) (rs : List Nat) (hrs : (List.range ops'.size).filter (fun i=>!(i == q)) = rs)
  (hks : rs.map (fun i=>((ops'[i]?).bind (fun o=>o.dst)).getD 0) = ks)
  (R : Nat → Value → World → Prop) (hR : ∀ i v w w',R i v w → RowKit.Below w.heap.size w w' → R i v w') (hs : aB P ops' Q w0 a0 R rs)
  (hend : ∀ (x : Nat → Value) (y : Value) (w : World),RowKit.Below w0.heap.size w0 w → (∀ i ∈ rs,R i (x i) w) → ∀ oq : Oper,oq.op = opq → oq.dst = some kq → ∀ K : Act → World → Prop,Shut (∀ a w,Q .normal a w → K a w) → Oper.wp P oq { tmps:=cP (kq :: ks) (y :: rs.map x) a0.tmps,defers:=a0.defers } w K Q) : (Code.region id ops true).wp P Q a0 w0:=by
 cases e : ops'[q]? with
 | none=>rw [e] at hq;cases hq
 | some oq =>
  rw [e] at hq
  simp only [Option.map_some,Option.some.injEq,Prod.mk.injEq] at hq
  exact wp_region_flow_call ops' he hm haf n hn q oq e kq hq.2.1 hq.2.2 hB ks rs hrs hks R hR hs fun x y w hb hx K hK=>hend x y w hb hx oq hq.1 hq.2.1 K hK
end
end Go
namespace Go.Proofs.YtppfalbnhnpbnaaGreatDoor
open Go Go.RowKit Ly
set_option maxRecDepth 10000
set_option maxHeartbeats 8000000 in
theorem each115_c {St : Type} (E : Nat → Prop) (nv : Value) (I : St → World → Prop) (f : St → Tm → Tm × St) (W : World) (ts : List Tm) (s0 : St) (a : Option Addr) (n c : Nat) (hx : bG W ts (.slice a n c)) (hn : ts.length ≤ 100000) (h0 : I s0 W) (hI : kU W.heap.size I)
  (hmap : ∀ s X,I s X → ∀ k,E k → ∃ es c,X.heap[k]? = some (.map es c)) (hE : ∀ k,E k → k < W.heap.size)
  (hf : ∀ j t,ts[j]? = some t → ∀ X x,I (stAt f s0 ts j) X → ButE E W X → dC X t x → Calls Tryz.prog 115 #[nv,x] X fun e w'=>∃ v,e = .returned v ∧ dC (hide (lo X) w') (f (stAt f s0 ts j) t).1 v ∧ I (f (stAt f s0 ts j) t).2 w' ∧ ButE E X w') :
  Calls Tryz.prog 114 #[.slice a n c,.func (.func 115) #[nv] #[]] W fun e w'=>∃ v,e = .returned v ∧ bG (hide (lo W) w') (aK f s0 ts).1 v ∧ I (aK f s0 ts).2 w' ∧ ButE E W w':=by
 have hl:=hx.len
 have L2:=Lib.hid hl.1
 have N0 : n ≤ 100000:=by rw [hl.1];exact hn
 have HX:=Lib.hid hx
 have H0:=Lib.hid h0
 have HI:=Lib.hid hI
 have HK : Hid (∀ X,ButE E W X → bI W X):=fun X hX=>hX.keeps (hmap s0 W h0)
 have HE:=Lib.hid hE
 have HF:=Lib.hid hf
 obtain ⟨i0,hi0,hz0,hs0,hb0⟩:=info_parts mQ
 clear hl hx hn h0 hI hmap hE hf
 go_enter Tryz.func114,Tryz.ntmps114
 by_cases hn0 : n = 0
 ·subst hn0
  go_wp2
  have e : ts = []:=List.eq_nil_of_length_eq_zero L2.out.symm
  go_ret
  subst e
  exact ⟨_,rfl,At.sl_nil (by unfold maxLen;omega),H0.out,ButE.refl _ _⟩
 ·go_wp2_with (at_make;refine wpList_make_full _ rfl _ _ 36 rfl W.heap.size 38 i0 (.agg #[.bool false,.string ⟨#[]⟩,.slice none 0 0]) 3 Tryz.underlying36 hi0 hz0 hs0 .i64 .i64 _ _ n rfl rfl (by first | rfl | omega) (by first | rfl | omega) (by rw [hb0];omega) (by unfold maxLen;omega) (Nat.le_refl _) ?_;intro w1 hown1 hgrow1)
  obtain ⟨G,hG⟩ : ∃ G,W.heap.size = G:=⟨_,rfl⟩
  have A0 : Hid (cF G n 3 38 (bS (aK f s0 (ts.take 0)).1) 0 w1 ∧ I (stAt f s0 ts 0) w1 ∧ ButE E W w1):=by
   have B : ButE E W w1:=⟨hgrow1.os,hgrow1.tape,hgrow1.output,hgrow1.size,fun k hk _=>hgrow1.block k hk (by simp)⟩
   refine ⟨?_,HI.out s0 W w1 H0.out (fun k hk=>hgrow1.block k hk (by simp)),B⟩
   rcases hown1.2 with ⟨e,-⟩ | ⟨g,cap,cur,e,-,h3,h4,h5,h6,h7⟩
   ·cases e
   ·simp only [Value.slice.injEq,Option.some.injEq,Addr.mk.injEq,and_true,true_and] at e
    obtain ⟨e1,rfl⟩:=e
    rw [← hG]
    rw [← e1] at h3
    exact ⟨cur.toList,by simpa using h3,by simpa using h6,by simpa [aK,bS] using aU.nil _⟩
  rw [hG]
  have HG:=Lib.hid hG
  clear hown1 hgrow1 hn0 hG H0
  go_loopw [16] (fun i wr=>∃ j : Nat,j ≤ n ∧ i = .int .i64 j ∧ Hid (cF G n 3 38 (bS (aK f s0 (ts.take j)).1) j wr ∧ I (stAt f s0 ts j) wr ∧ ButE E W wr)) (fun i _=>n - (intOf i).toNat)
  case atStart=>exact ⟨0,Nat.zero_le _,rfl,A0.out⟩
  case round =>
   obtain ⟨j,hj,rfl,hs⟩:=hrel
   clear A0
   by_cases hlt : j < n
   ·obtain ⟨T,hT⟩:=aT (l:=ts) (j:=j) (by rw [← L2.out];exact hlt)
    obtain ⟨bb,off,rfl,hc⟩:=HX.out.get (aX hT)
    obtain ⟨x0,x1,x2,hx⟩:=hc j _ hT
    have hK:=HK.out _ hs.out.2.2
    have c0:=hK _ _ hx.c0;have c1:=hK _ _ hx.c1;have c2:=hK _ _ hx.c2
    have HT:=Lib.hid hT
    have IC : Hid (∀ o,Calls Tryz.prog 115 #[nv,.agg #[.bool T.v,str T.name,.slice x0 x1 x2]] (wr.alloc o) fun e w'=>∃ v,e = .returned v ∧ dC (hide (lo (wr.alloc o)) w') (f (stAt f s0 ts j) T).1 v ∧ I (f (stAt f s0 ts j) T).2 w' ∧ ButE E (wr.alloc o) w'):=fun o =>
     HF.out j T HT.out _ _ (HI.out _ _ _ hs.out.2.1 (fun k hk=>((Below.refl _ wr).alloc (Nat.le_refl _) o).block k (by have:=hs.out.2.2.size;omega))) (hs.out.2.2.alloc o) ⟨_,_,_,rfl,(hx.at_.keep hK).keep (aA ((Below.refl _ _).alloc (Nat.le_refl _) _))⟩
    clear hc hx hT hK
    go_wp2_with (
           go_at_call 115
           refine (IC.out _).mono ?_
           rintro e w3 ⟨v3,rfl,⟨fa,fn,fc,rfl,h3⟩,i3,b3⟩
           have FA:=hs.out.1.keep (W':=w3) (fun k h1 h2=>(b3.block k (by simp;omega) (fun e=>by have:=HE.out k e;have:=HG.out;omega)).trans (((Below.refl _ wr).alloc (Nat.le_refl _) _).block k h2))
           obtain ⟨⟨p0,q0⟩,f0,p1,f1,p2,f2⟩:=FA.cells3 hlt
           obtain ⟨u1,q1⟩:=Classical.axiomOfChoice p1
           obtain ⟨u2,q2⟩ : ∃ u2 : Value → Value → Value,∀ a b,((w3.setCell ⟨G,j * 3,none⟩ a).setCell ⟨G,j * 3 + 1,none⟩ b).cell? ⟨G,j * 3 + 2,none⟩ = some (u2 a b):=⟨fun a b=>(p2 a b).choose,fun a b=>(p2 a b).choose_spec⟩
           clear p1 p2
           have H3:=Lib.hid (And.intro FA (And.intro i3 b3))
           have R3:=Lib.hid h3
           clear FA i3 b3 h3)
    go_roundw
    case rel =>
     refine ⟨j + 1,by omega,by go_num, ?_⟩
     obtain ⟨FA,i3,b3⟩:=H3.out
     have e:=gY f s0 HT.out
     have g:=HG.out
     have lg : G < wr.heap.size:=by obtain ⟨cs,h1,-,-⟩:=hs.out.1;exact (Array.getElem?_eq_some_iff.1 h1).1
     have K : ∀ o,bI (hide (lo (wr.alloc o)) w3) (hide (fun k=>decide (k < G + 1)) w3):=fun o=>aH fun k a b=>⟨by simp [lo] at b;simp;omega,rfl⟩
     refine ⟨?_, ?_, ?_⟩
     ·rw [e,oP]
      have:=cF.put3 FA hlt (fM (R3.out.keep (K _)))
      simpa [bS] using this
     ·have : stAt f s0 ts (j + 1) = (f (stAt f s0 ts j) T).2:=by unfold stAt;rw [e];rfl
      rw [this]
      exact HI.out _ w3 _ i3 (fun k hk=>by rw [Below.heap_setCell _ _ _ _ (by show k ≠ G;omega),Below.heap_setCell _ _ _ _ (by show k ≠ G;omega),Below.heap_setCell _ _ _ _ (by show k ≠ G;omega)])
     ·exact ((((hs.out.2.2.alloc _).trans b3).set (by omega) _ _).set (by omega) _ _).set (by omega) _ _
    case measure=>simp [intOf];omega
   ·have ej : j = n:=by omega
    obtain ⟨FA,i3,b3⟩:=hs.out
    have et : ts.take j = ts:=List.take_of_length_le (by rw [← L2.out];omega)
    rw [et] at FA
    have i4 : I (aK f s0 ts).2 wr:=by have:=i3;unfold stAt at this;rwa [et] at this
    have FE : Hid (bG (hide (lo W) wr) (aK f s0 ts).1 (.slice (some ⟨G,0,none⟩) n n) ∧ I (aK f s0 ts).2 wr ∧ ButE E W wr):=by
     refine ⟨?_,i4,b3⟩
     have le : (aK f s0 ts).1.length = n:=by rw [gO,← L2.out]
     show At _ (.sl 3 (aK f s0 ts).1.length (bS (aK f s0 ts).1)) _
     rw [le]
     rw [ej] at FA
     have ld : (bS (aK f s0 ts).1).length = n * 3:=by rw [lM,le]
     exact cF.at FA ld (by unfold maxLen;omega) (by have:=HG.out;omega)
    clear FA i3 b3 i4 et ej hs
    go_wp2_with fail
    go_ret
    exact ⟨_,rfl,FE.out⟩
end Go.Proofs.YtppfalbnhnpbnaaGreatDoor
namespace Ly
open Go.Lib (itoa decDigits)
theorem nT {A B : List Bs} (h : ∀ x,x ∈ A → x ∈ B) : dO A ≤ dO B:=by
 rcases Nat.lt_or_ge (dO B) (dO A) with h1 | h1
 ·exact absurd (h _ (nS A _ (rE B) h1)) (mT B)
 ·exact h1
theorem pN {A B : List Bs} (h : ∀ x,x ∈ A ↔ x ∈ B) : least A = least B:=by
 unfold least
 rw [Nat.le_antisymm (nT fun x=>(h x).1) (nT fun x=>(h x).2)]
/- The free variables stay. -/
theorem oC {ar : List (Bs × Bs)} {x : Bs} : arOf ar x = none ↔ x ∉ ar.map (·.1):=by
 unfold arOf
 rw [Option.map_eq_none_iff,List.find?_eq_none]
 simp only [List.mem_map,beq_iff_eq]
 constructor
 ·rintro h ⟨p,hp,rfl⟩;exact h p hp rfl
 ·intro h p hp e;exact h ⟨p,hp,e⟩
end Ly
namespace Ly
open Go.Lib (itoa decDigits)
/- The places of symbols. -/
def cnt : List Sy → Sy → Nat
 | [],_=>0
 | x :: σ,s=>if x = s then 0 else (if x.kind = s.kind then 1 else 0) + cnt σ s
/- What begins with x. -/
def hx (n : Bs) : Prop:=n.head? = some 120
theorem yZ (k : Nat) : hx (xN k):=rfl
theorem cR (g : Bs → Option Bs) : ∀ l : List Tm,(aO g l).length = l.length
 | []=>rfl
 | t :: ts=>by simp [aO,cR g ts]
theorem fA (b : List Bs) : ∀ (l : List Tm) (σ : List Sy),(aM b σ l).1.length = l.length
 | [],_=>rfl
 | t :: ts,σ=>by simp [aM,fA b ts]
theorem sK {ar : List (Bs × Bs)} {x : Bs} (h : x ∈ ar.map (·.1)) : ∃ p ∈ ar,arOf ar x = some p.2:=by
 cases e : arOf ar x with
 | none=>exact absurd h (oC.1 e)
 | some m =>
  obtain ⟨p,hp,rfl⟩:=qK e
  exact ⟨p,hp,rfl⟩
mutual
theorem Fm.norm_binds {fr : List Bs} : ∀ (ar : List (Bs × Bs)) (f : Fm),∀ x ∈ (f.norm fr ar).binds,hx x ∧ x ∉ fr
 | ar,.mk op n ts fs,x,h=>by
  rw [Fm.norm] at h
  by_cases hq : quant op = true
  ·rw [if_pos hq,Fm.binds,if_pos hq] at h
   rcases List.mem_append.1 h with h | h
   ·rw [List.mem_singleton] at h
    subst h
    exact ⟨yZ _,fun hm=>mT (fr ++ ar.map (·.2)) (List.mem_append_left _ hm)⟩
   ·exact jI _ fs x h
  ·rw [if_neg hq,Fm.binds,if_neg hq,List.nil_append] at h
   exact jI _ fs x h
theorem jI {fr : List Bs} : ∀ (ar : List (Bs × Bs)) (l : List Fm),∀ x ∈ cJ (bK fr ar l),hx x ∧ x ∉ fr
 | ar,[],x,h=>by simp [bK,cJ] at h
 | ar,f :: fs,x,h=>by
  rw [bK,cJ] at h
  rcases List.mem_append.1 h with h | h
  ·exact Fm.norm_binds ar f x h
  ·exact jI ar fs x h
end
theorem jR : ∀ (l : List Fm) (σ : List Sy),(dX σ l).1.length = l.length
 | [],_=>rfl
 | f :: fs,σ=>by simp [dX,jR fs]
theorem vU : ∀ (l : List Fm) (σ : List Sy),(∀ f ∈ l,f.right = true) → σ.length + l.length * 400 ≤ 900000 → (dX σ l).2.length ≤ σ.length + l.length * 400
 | [],σ,_,_=>by simp [dX]
 | f :: fs,σ,h,hs=>by
  simp only [List.length_cons] at hs ⊢
  obtain ⟨-,-,-,hl⟩:=Fm.mid_right (σ:=σ) (h f (by simp)) (by omega)
  have:=vU fs (f.sk σ).2 (fun g hg=>h g (by simp [hg])) (by omega)
  simp only [dX];omega
end Ly
namespace Ly
open Go.Lib (itoa decDigits)
mutual
def Tm.alike : Tm → Tm → Bool
 | .mk v n ts,.mk v' n' ts'=>v == v' && (if v then n'.head? == some 117 || n'.head? == some 120 else n'.head? == some 97) && iR ts ts'
def iR : List Tm → List Tm → Bool
 | [],[]=>true
 | t :: ts,u :: us=>t.alike u && iR ts us
 | _,_=>false
end
mutual
def Fm.alike : Fm → Fm → Bool
 | .mk op n ts fs,.mk op' n' ts' fs'=>decide (op = op') && iR ts ts' && (if op = 1 then n'.head? == some 80 else true) && (if quant op then n'.head? == some 120 else true) && nM fs fs'
def nM : List Fm → List Fm → Bool
 | [],[]=>true
 | f :: fs,g :: gs=>f.alike g && nM fs gs
 | _,_=>false
end
/- The shape of a term stays in the normal form; the names are told. A variable may be bound (D) or begin with u. -/
theorem head_var (σ : List Sy) (n : Bs) : (Sy.told σ ⟨117,n,0⟩).head? = some 117:=by simp [Sy.told,Sy.kind]
theorem vX (σ : List Sy) (c : UInt8) (n : Bs) (k : Nat) (h : c ≠ 117) : (Sy.told σ ⟨c,n,k⟩).head? = some c:=by simp [Sy.told,Sy.kind,h]
mutual
theorem Tm.sk_alike {g1 g2 : Bs → Option Bs} {b : List Bs} (h1 : ∀ x y,g1 x = some y → hx y) (h2 : ∀ x y,g2 x = some y → hx y) (hb : ∀ x ∈ b,hx x) : ∀ (t : Tm) (σ : List Sy),t.ok = true → t.alike (((t.swap g1).told b σ).1.swap g2) = true
 | .mk v n ts,σ,h=>by
  rw [Tm.ok] at h
  cases v with
  | true =>
   simp only [if_true,Bool.and_eq_true,List.isEmpty_iff] at h
   obtain ⟨rfl,-⟩:=h
   have key : ∀ m : Bs,((Tm.mk true n []).alike (((Tm.mk true m []).told b σ).1.swap g2)) = true:=fun m=>by
    have hm : (eB b σ true m 0).1.head? = some 117 ∨ (eB b σ true m 0).1.head? = some 120:=by
     unfold eB
     rw [if_pos rfl]
     split
     ·rename_i hm;exact .inr (hb _ hm)
     ·exact .inl (head_var σ m)
    simp only [Tm.told,aM,List.length_nil,Tm.swap,if_true]
    cases e : g2 (eB b σ true m 0).1 with
    | none=>simp only [aO,Tm.alike,iR];rcases hm with hm | hm <;> simp [hm]
    | some y=>have:=h2 _ _ e;unfold hx at this;simp [Tm.alike,iR,this]
   rw [Tm.swap]
   simp only [if_true]
   cases e : g1 n with
   | none=>exact key n
   | some m=>exact key m
  | false =>
   simp only [Bool.false_eq_true,if_false,Bool.and_eq_true] at h
   have ih:=jD h1 h2 hb ts (eB b σ false n (aO g1 ts).length).2 h.2
   have hm : (eB b σ false n (aO g1 ts).length).1.head? = some 97:=by
    unfold eB
    simp only [Bool.false_eq_true,if_false]
    exact vX σ 97 n _ (by decide)
   simp only [Tm.swap,Bool.false_eq_true,if_false,Tm.told,Tm.alike,ih,hm]
   simp
theorem jD {g1 g2 : Bs → Option Bs} {b : List Bs} (h1 : ∀ x y,g1 x = some y → hx y) (h2 : ∀ x y,g2 x = some y → hx y) (hb : ∀ x ∈ b,hx x) : ∀ (l : List Tm) (σ : List Sy),cE l = true → iR l (aO g2 (aM b σ (aO g1 l)).1) = true
 | [],σ,_=>rfl
 | t :: ts,σ,h=>by
  simp only [cE,Bool.and_eq_true] at h
  simp only [aO,aM,iR,Tm.sk_alike h1 h2 hb t σ h.1,jD h1 h2 hb ts _ h.2]
  rfl
end
theorem qA {ar : List (Bs × Bs)} (h : ∀ p ∈ ar,hx p.2) (x y : Bs) (e : arOf ar x = some y) : hx y:=by
 obtain ⟨p,hp,rfl⟩:=qK e;exact h p hp
mutual
theorem Fm.sk_alike {f1 f2 b : List Bs} (hb : ∀ x ∈ b,hx x) : ∀ (f : Fm) (σ : List Sy) (a1 a2 : List (Bs × Bs)),f.ok = true → (∀ p ∈ a1,hx p.2) → (∀ p ∈ a2,hx p.2) → f.alike (((f.norm f1 a1).told b σ).1.norm f2 a2) = true
 | .mk op n ts fs,σ,a1,a2,h,k1,k2=>by
  simp only [Fm.ok,Bool.and_eq_true,decide_eq_true_eq] at h
  by_cases hq : quant op = true
  ·have h1 : ¬ op = 1:=by rintro rfl;simp [quant] at hq
   rw [Fm.norm,if_pos hq]
   simp only [Fm.told,dT,if_neg h1]
   rw [Fm.norm,if_pos hq]
   have t:=jD (qA k1) (qA k2) hb ts σ h.1.2
   have c:=kY (f1:=f1) (f2:=f2) hb fs (aM b σ (aO (arOf a1) ts)).2 ((n,least (f1 ++ a1.map (·.2))) :: a1) ((least (f1 ++ a1.map (·.2)),least (f2 ++ a2.map (·.2))) :: a2) h.2 (fun p hp=>by
    rcases List.mem_cons.1 hp with rfl | hp
    ·exact yZ _
    ·exact k1 p hp) (fun p hp=>by
    rcases List.mem_cons.1 hp with rfl | hp
    ·exact yZ _
    ·exact k2 p hp)
   have hl : (least (f2 ++ a2.map (·.2))).head? = some 120:=rfl
   simp only [Fm.alike,t,c,hq,hl,if_neg h1]
   simp
  ·rw [Fm.norm,if_neg hq]
   simp only [Fm.told]
   rw [Fm.norm,if_neg hq]
   have t:=jD (qA k1) (qA k2) hb ts (dT σ op n (aO (arOf a1) ts).length).2 h.1.2
   have c:=kY (f1:=f1) (f2:=f2) hb fs (aM b (dT σ op n (aO (arOf a1) ts).length).2 (aO (arOf a1) ts)).2 a1 a2 h.2 k1 k2
   have hn : (if op = 1 then (dT σ op n (aO (arOf a1) ts).length).1.head? == some 80 else true) = true:=by
    by_cases h1 : op = 1
    ·rw [if_pos h1]
     unfold dT
     rw [if_pos h1]
     simp only []
     rw [vX σ 80 n _ (by decide)];rfl
    ·rw [if_neg h1]
   have hq' : quant op = false:=by simpa using hq
   simp only [Fm.alike,t,c,hn,hq']
   simp
theorem kY {f1 f2 b : List Bs} (hb : ∀ x ∈ b,hx x) : ∀ (l : List Fm) (σ : List Sy) (a1 a2 : List (Bs × Bs)),bW l = true → (∀ p ∈ a1,hx p.2) → (∀ p ∈ a2,hx p.2) → nM l (bK f2 a2 (bM b σ (bK f1 a1 l)).1) = true
 | [],σ,a1,a2,_,_,_=>rfl
 | f :: fs,σ,a1,a2,h,k1,k2=>by
  simp only [bW,Bool.and_eq_true] at h
  simp only [bK,bM,nM,Fm.sk_alike hb f σ a1 a2 h.1 k1 k2,kY hb fs _ a1 a2 h.2 k1 k2]
  rfl
end
theorem Fm.alike_sk {f : Fm} {σ : List Sy} (h : f.right = true) : f.alike (f.sk σ).1 = true:=by
 simp only [Fm.right,Bool.and_eq_true,decide_eq_true_eq] at h
 exact Fm.sk_alike (fun x hx'=>(Fm.norm_binds _ _ x hx').1) f σ [] [] h.1.1 (fun p hp=>by cases hp) (fun p hp=>by cases hp)
end Ly
namespace Ly
open Go.Lib (itoa decDigits)
def jJ (n : Bs) : UInt8:=if cW n then 80 else if eS n then 97 else if bU n then 117 else 0
mutual
def Tm.funs : Tm → List (Bs × Nat)
 | .mk v n ts=>(if v then [] else [(n,ts.length)]) ++ uY ts
def uY : List Tm → List (Bs × Nat)
 | []=>[]
 | t :: ts=>t.funs ++ uY ts
end
mutual
def Fm.funs : Fm → List (Bs × Nat)
 | .mk op n ts fs=>uY ts ++ xK fs
def xK : List Fm → List (Bs × Nat)
 | []=>[]
 | f :: fs=>f.funs ++ xK fs
end
mutual
def Fm.preds : Fm → List (Bs × Nat)
 | .mk op n ts fs=>(if op = 1 then [(n,ts.length)] else []) ++ eX fs
def eX : List Fm → List (Bs × Nat)
 | []=>[]
 | f :: fs=>f.preds ++ eX fs
end
mutual
def Tm.ren (s : Sy) (tz : Bs) : Tm → Tm
 | .mk v n ts=>.mk v (if (if v then (⟨117,n,0⟩ : Sy) else ⟨97,n,ts.length⟩) = s then tz else n) (kK s tz ts)
def kK (s : Sy) (tz : Bs) : List Tm → List Tm
 | []=>[]
 | t :: ts=>t.ren s tz :: kK s tz ts
end
mutual
def Fm.ren (s : Sy) (tz : Bs) : Fm → Fm
 | .mk op n ts fs =>
  if op = 1 ∧ s = ⟨80,n,ts.length⟩ then .mk op tz (kK s tz ts) (iN s tz fs)
  else if quant op = true ∧ s = ⟨117,n,0⟩ then .mk op n ts fs
  else .mk op n (kK s tz ts) (iN s tz fs)
def iN (s : Sy) (tz : Bs) : List Fm → List Fm
 | []=>[]
 | f :: fs=>f.ren s tz :: iN s tz fs
end
/- What awake asks. -/
def aP : Fm:=.mk 1 [80] [] []
def aQ : Fm:=.mk 1 [81] [] []
def aR : Fm:=.mk 1 [82] [] []
theorem wT {n : Nat} (h : n < 10) : itoa (n : Int) = [UInt8.ofNat (48 + n)]:=by rw [jS,Go.Lib.decDigits_one h]
theorem xP : itoa 0 = [48]:=wT (n:=0) (by decide)
theorem xQ : itoa 1 = [49]:=wT (n:=1) (by decide)
theorem xR : itoa 2 = [50]:=wT (n:=2) (by decide)
theorem aw2 : skOf [] [.mk 4 [] [] [aP,aQ]] = skOf [] [.mk 4 [] [] [aQ,aP]]:=by
 simp [skOf,dX,Fm.sk,Fm.normal,aP,aQ,Fm.norm,bK,quant,aO,Fm.told,bM,aM,dT,Sy.told,Sy.add,Sy.kind,Sy.place,xP,xQ,xR]
theorem aw3 : skOf [] [.mk 4 [] [] [aP,aQ]] ≠ skOf [] [.mk 4 [] [] [aP,aP]]:=by
 simp [skOf,dX,Fm.sk,Fm.normal,aP,aQ,Fm.norm,bK,quant,aO,Fm.told,bM,aM,dT,Sy.told,Sy.add,Sy.kind,Sy.place,xP,xQ,xR]
theorem aw4 : skOf [.mk 6 [] [] [aP,aQ],aP] [aQ] ≠ skOf [aP,.mk 6 [] [] [aP,aQ]] [aQ]:=by
 simp [skOf,dX,Fm.sk,Fm.normal,aP,aQ,Fm.norm,bK,quant,aO,Fm.told,bM,aM,dT,Sy.told,Sy.add,Sy.kind,Sy.place,xP,xQ,xR]
def aS : Fm:=.mk 9 [121] [] [.mk 1 [83] [.mk true [121] [],.mk false [102] [.mk true [122] []]] []]
def aW : Fm:=.mk 9 [120,49] [] [.mk 1 [80,50,49] [.mk true [120,49] [],.mk false [97,49,49] [.mk true [117,49] []]] []]
theorem aw1 : skOf [.mk 6 [] [] [aQ,aR]] [aS] = ([.mk 6 [] [] [.mk 1 [80,48,49] [] [],.mk 1 [80,48,50] [] []]],[aW]):=by
 simp [skOf,dX,Fm.sk,Fm.normal,aQ,aR,aS,aW,Fm.norm,bK,Fm.free,bZ,Tm.vars,bP,quant,Tm.swap,aO,arOf,Fm.binds,cJ,least,dO,dB,xN,Fm.told,bM,Tm.told,aM,dT,eB,Sy.told,Sy.add,Sy.kind,Sy.place,xP,xQ,xR]
end Ly
namespace Go.Proofs.YtppfalbnhnpbnaaGreatDoor
open Go Go.RowKit Ly
set_option maxRecDepth 10000
def renV (s : Sy) (tn : Bs) : Value:=.agg #[str [s.sort],str s.name,.int .i64 s.ar,str tn]
theorem ButE.toBelow {A X : World} (h : ButE (fun _=>False) A X) : Below A.heap.size A X:=⟨h.os,h.tape,h.output,h.size,fun k hk=>h.block k hk (fun e=>e)⟩
theorem rC (s : Sy) (tn : Bs) : ∀ ts : List Tm,(aK (fun (_ : Unit) t=>(Tm.ren s tn t,())) () ts).1 = kK s tn ts
 | []=>rfl
 | t :: ts=>by simp [aK,kK,rC s tn ts]
theorem jA (s : Sy) (tn : Bs) : ∀ fs : List Fm,(aK (fun (_ : Unit) f=>(Fm.ren s tn f,())) () fs).1 = iN s tn fs
 | []=>rfl
 | t :: ts=>by simp [aK,iN,jA s tn ts]
def RT (s : Sy) (tn : Bs) (t : Tm) : Prop:=∀ (W : World) (x : Value),dC W t x → t.nodes ≤ 1000 → Calls Tryz.prog 115 #[renV s tn,x] W (RetH (t.ren s tn) W)
theorem uA (s : Sy) (tn : Bs) (ts : List Tm) (ih : ∀ t ∈ ts,RT s tn t) (W : World) (a : Option Addr) (n c : Nat) (hx : bG W ts (.slice a n c)) (hn : aF ts ≤ 1000) :
  Calls Tryz.prog 114 #[.slice a n c,.func (.func 115) #[renV s tn] #[]] W fun e w'=>∃ v,e = .returned v ∧ bG (hide (lo W) w') (kK s tn ts) v ∧ Below W.heap.size W w':=by
 refine (each115_c (fun _=>False) (renV s tn) (fun (_ : Unit) _=>True) (fun _ t=>(Tm.ren s tn t,())) W ts () a n c hx (by have:=eO ts;omega) trivial (fun _ _ _ _ _=>trivial) (fun _ _ _ k hk=>absurd hk (fun e=>e)) (fun k hk=>absurd hk (fun e=>e)) (fun j t ht X x hI hX hv=>?_)).mono ?_
 ·have hm:=List.mem_of_getElem? ht
  refine (ih t hm X x hv (by have:=eH hm;omega)).mono ?_
  rintro e w' ⟨v,rfl,h1,h2⟩
  exact ⟨v,rfl,h1,trivial,.of_below h2⟩
 ·rintro e w' ⟨v,rfl,h1,-,h3⟩
  rw [rC] at h1
  exact ⟨v,rfl,h1,h3.toBelow⟩
end Go.Proofs.YtppfalbnhnpbnaaGreatDoor
