/- format.join at formulas, writer. Conditions: those of each statement; the table of operators lies as laid. -/
import Derived.Test.YtppfalbnhnpbnaaGreatDoorWtFC
import Derived.Test.YtppfalbnhnpbnaaGreatDoorRightC
import Derived.Test.YtppfalbnhnpbnaaGreatDoorWtBC
import Derived.Test.YtppfalbnhnpbnaaGreatDoorClAC
import Derived.Test.YtppfalbnhnpbnaaGreatDoorRnAC
import Derived.Test.YtppfalbnhnpbnaaGreatDoorRdCC
set_option linter.unusedSimpArgs false
set_option linter.unusedVariables false
namespace Go.Proofs.YtppfalbnhnpbnaaGreatDoor
open Go Go.RowKit Ly
set_option maxRecDepth 10000
mutual
theorem zV : ∀ f : Fm,f.ok = true → W9 f
 | .mk op nm ts sub,h=>w9_step op nm ts sub h (yL sub (by unfold Fm.ok at h;simp only [Bool.and_eq_true] at h;exact h.2))
theorem yL : ∀ l : List Fm,bW l = true → ∀ g ∈ l,W9 g
 | [],_,_,h=>by cases h
 | x :: l,ho,g,h=>(List.mem_cons.1 h).elim (fun e=>e ▸ zV x (by unfold bW at ho;simp only [Bool.and_eq_true] at ho;exact ho.1)) (fun h=>yL l (by unfold bW at ho;simp only [Bool.and_eq_true] at ho;exact ho.2) g h)
end
theorem oG : ∀ l : List Fm,dS l = l.map Fm.ft
 | []=>rfl
 | t :: l=>by rw [dS,oG l];rfl
set_option maxHeartbeats 4000000 in
theorem jf_c (ls : List Fm) (ih : ∀ t ∈ ls,W9 t) (B b c1 c3 c4 : Nat) (bs : Bs) (W : World) (a : Option Addr) (n c : Nat) (ho : iJ (hide (up B) W)) (hc : Wc b c1 c3 c4 W) (hB : Bld B b bs W) (hx : aN (hide (up B) W) ls (.slice a n c)) (hl : bs.length + (cB (dS ls)).length ≤ 300000000) :
  Calls Tryz.prog 170 #[one b,.slice a n c,str [44,32],.func (.func 209) #[] #[one c4]] W fun e w'=>e = .returned (.tuple #[]) ∧ Wrote B b (bs ++ cB (dS ls)) W w':=by
 have hlen:=hx.len
 have N1 : n ≤ 9223372036854775807:=le63 (Nat.le_trans hlen.2.1 hlen.2.2)
 have L2:=Lib.hid hlen.1
 have HX:=Lib.hid hx
 have IH:=Lib.hid ih
 have HL:=Lib.hid hl
 have HO:=Lib.hid ho
 have HC:=Lib.hid hc
 have A0 : Hid (Wrote B b (bs ++ cB ((dS ls).take 0)) W W):=by
  rw [Hid,List.take_zero,cB,List.append_nil];exact .refl hB
 have STEP : Hid (∀ (j : Nat) (T : Fm),ls[j]? = some T → ∀ X x q,Wrote B b q W X → q = bs ++ cB ((dS ls).take j) ++ (if j = 0 then [] else [44,32]) → aV (hide (up B) X) T x → Calls Tryz.prog 209 #[one b,x,one c4] X fun e w'=>e = .returned (.tuple #[]) ∧ Wrote B b (bs ++ cB ((dS ls).take (j + 1))) W w'):=fun j T hT X x q hX e hv=>by
  have g : (dS ls)[j]? = some T.ft:=by rw [oG,List.getElem?_map,hT];rfl
  have k:=pF g
  have le:=lT (dS ls) (j + 1)
  refine (IH.out T (List.mem_of_getElem? hT) B b q X x c1 c3 c4 (HO.out.keep (dJ hX.bw)) hX.bld (HC.out.wrote hX) hv ?_).mono ?_
  ·rw [e];rw [k] at le;simp only [List.length_append] at le ⊢;have:=HL.out;omega
  ·rintro e2 w' ⟨rfl,h⟩
   refine ⟨rfl, ?_⟩
   have h2:=hX.trans h
   rw [e] at h2
   rw [k]
   simpa only [List.append_assoc] using h2
 have LB : Hid (∀ j,(bs ++ cB ((dS ls).take j)).length + 2 ≤ 1000000000):=fun j=>by have:=lT (dS ls) j;have:=HL.out;simp only [List.length_append];omega
 clear hx ih hl hlen hB ho hc
 go_enter Tryz.func170,Tryz.ntmps170
 go_wp2
 go_loopw [12] (fun i wr=>∃ j : Nat,j ≤ n ∧ i = .int .i64 j ∧ Hid (Wrote B b (bs ++ cB ((dS ls).take j)) W wr)) (fun i _=>n - (intOf i).toNat)
 case atStart=>exact ⟨0,Nat.zero_le _,rfl,A0.out⟩
 case round =>
  obtain ⟨j,hj,rfl,HS⟩:=hrel
  clear A0
  by_cases hlt : j < n
  ·obtain ⟨T,hT⟩:=aT (l:=ls) (j:=j) (by rw [← L2.out];exact hlt)
   have hx2:=HX.out.keep (dJ HS.out.bw)
   obtain ⟨bb,off,rfl,hc⟩:=hx2.get (aX hT)
   obtain ⟨x0,x1,x2,x3,x4,x5,hx⟩:=hc j _ hT
   have c0:=bL _ _ hx.c0;have c1':=bL _ _ hx.c1;have c2:=bL _ _ hx.c2;have c3':=bL _ _ hx.c3
   have HV:=Lib.hid (And.intro hx.at_ hx.at')
   have ST:=Lib.hid (STEP.out j T hT)
   have LT:=HS.out.bld.lt
   have LT2 : b < wr.heap.size:=LT.2
   obtain ⟨wn,hwn⟩ : ∃ wn,wr.alloc (.cells #[.int .u8 T.op,str T.name,.slice x0 x1 x2,.slice x3 x4 x5] 40) = wn:=⟨_,rfl⟩
   have SN : Hid (Wrote B b (bs ++ cB ((dS ls).take j)) W wn):=by rw [← hwn];exact HS.out.alloc _
   have RN : Hid (wn.heap[wr.heap.size]? = some (.cells #[.int .u8 T.op,str T.name,.slice x0 x1 x2,.slice x3 x4 x5] 40 (0,0))):=by rw [Hid,← hwn];exact heap_alloc_new _ _
   have VN : Hid (∀ X,Below B wr X → aV (hide (up B) X) T (.agg #[.int .u8 T.op,str T.name,.slice x0 x1 x2,.slice x3 x4 x5])):=fun X hX=>⟨_,_,_,_,_,_,rfl,HV.out.1.keep (dJ hX),HV.out.2.keep (dJ hX)⟩
   have BN : Hid (Below B wr wn):=by rw [Hid,← hwn];exact (Below.refl _ _).alloc (by omega) _
   clear hc hx hx2 hT LT
   rcases Nat.eq_zero_or_pos j with hz | hz
   ·have jz : ¬ (0 : Int) < (j : Int):=by omega
    have HZ:=Lib.hid hz
    clear hz
    obtain ⟨⟨d0,d1,d2,d3⟩,-⟩:=aL RN.out
    go_wp2_with (
           go_at_call 209
           refine (ST.out _ _ _ SN.out (by rw [if_pos HZ.out,List.append_nil]) (VN.out _ BN.out)).mono ?_
           rintro e w3 ⟨rfl,h3⟩
           have S3:=Lib.hid h3
           clear h3)
    go_roundw
    case rel=>exact ⟨j + 1,by omega,by go_num,S3.out⟩
    case measure=>simp [intOf];omega
   ·have jp : (0 : Int) < (j : Int):=by omega
    go_wp2_with (first
     | (
       have Z:=S2.out;clear Z;go_at_call 209
       refine (ST.out _ _ _ S2.out (by rw [if_neg (Nat.ne_of_gt hz)]) (VN.out _ B2.out)).mono ?_
       rintro e w3 ⟨rfl,h3⟩
       have S3:=Lib.hid h3
       clear h3)
     | (
       go_at_call 207
       refine (ws_c B b _ _ _ SN.out.bld (by exact LB.out j) SN.out.bld.le).mono ?_
       rintro e w2 ⟨⟨n2,rfl⟩,h2⟩
       have S2:=Lib.hid (SN.out.trans h2)
       have B2:=Lib.hid (BN.out.trans h2.bw)
       obtain ⟨⟨d0,d1,d2,d3⟩,-⟩:=aL (h2.box RN.out (by omega) (by decide))
       clear h2))
    go_roundw
    case rel=>exact ⟨j + 1,by omega,by go_num,S3.out⟩
    case measure=>simp [intOf];omega
  ·have e : (dS ls).take j = dS ls:=List.take_of_length_le (by rw [oG,List.length_map,← L2.out];omega)
   have h2:=HS.out
   rw [e] at h2
   have FF:=Lib.hid h2
   clear h2 e
   go_wp2
   go_end0
   exact ⟨rfl,FF.out⟩
set_option maxHeartbeats 4000000 in
theorem writer_c (b : Nat) (W : World) (hb : b < W.heap.size) : Calls Tryz.prog 171 #[.bool false] W fun e w'=>∃ c1 c3 c4,e = .returned (.func (.func 209) #[] #[one c4]) ∧ Wc b c1 c3 c4 w' ∧ Below W.heap.size W w':=by
 have LT:=Lib.hid hb
 clear hb
 go_enter Tryz.func171,Tryz.ntmps171
 go_wp2
 go_ret
 refine ⟨W.heap.size,W.heap.size + 1,W.heap.size + 1 + 1,rfl,⟨aI _ (aI _ (heap_alloc_new W _)), ?_, ?_,by have:=LT.out;omega,by have:=LT.out;omega,by have:=LT.out;omega⟩,(((Below.refl _ _).alloc (Nat.le_refl _) _).alloc (by simp) _).alloc (by simp;omega) _⟩
 ·have:=heap_alloc_new (W.alloc (.cells #[.bool false] 4)) (.cells #[.func (.func 209) #[] #[one (W.heap.size + 1 + 1)]] 198)
  rw [World.size_alloc] at this
  exact aI _ this
 ·have:=heap_alloc_new ((W.alloc (.cells #[.bool false] 4)).alloc (.cells #[.func (.func 209) #[] #[one (W.heap.size + 1 + 1)]] 198)) (.cells #[.func (.func 208) #[] #[one W.heap.size,one (W.heap.size + 1)]] 235)
  rw [World.size_alloc,World.size_alloc] at this
  exact this
end Go.Proofs.YtppfalbnhnpbnaaGreatDoor
namespace Go.Proofs.YtppfalbnhnpbnaaGreatDoor
open Go Go.RowKit Ly
structure cO (w : World) (b : Nat) (left : Int) : Prop where
 c0 : w.cell? ⟨b,0,none⟩ = some (.bool true)
 c1 : w.cell? ⟨b,1,none⟩ = some (.int .i64 left)
 c2 : w.cell? ⟨b,2,none⟩ = some (.int .i64 40)
 fz : w.frozen? ⟨b,1,none⟩ = false
theorem cO.lt {w : World} {b : Nat} {left : Int} (h : cO w b left) : b < w.heap.size:=World.block_lt_of_cell? w _ h.c0
theorem cO.below {w w' : World} {b : Nat} {left : Int} (h : cO w b left) (k : Below w.heap.size w w') : cO w' b left:=by
 have hl:=h.lt
 exact ⟨(k.cell (p:=⟨b,0,none⟩) hl).trans h.c0,(k.cell (p:=⟨b,1,none⟩) hl).trans h.c1,(k.cell (p:=⟨b,2,none⟩) hl).trans h.c2,(k.frozen (p:=⟨b,1,none⟩) hl).trans h.fz⟩
set_option maxHeartbeats 400000
theorem oL (b : Nat) (left depth : Int) (w : World) (h : cO w b left) (h1 : 1 ≤ left) (h2 : left ≤ 400) (h3 : depth ≤ 40) :
  Calls Tryz.prog 76 #[.pointer (some ⟨b,0,none⟩),.int .i64 depth] w fun e w'=>e = .returned (.bool true) ∧ w' = w.setCell ⟨b,1,none⟩ (.int .i64 (left - 1)):=by
 obtain ⟨c0,c1,c2,fz⟩:=h
 have d1 : (0 : Int) ≤ left - 1:=by omega
 go_enter Tryz.func76,Tryz.ntmps76
 go_wp2
 go_ret
 exact ⟨rfl,rfl⟩
theorem cO.set {w : World} {b : Nat} {left : Int} (h : cO w b left) (n : Int) : cO (w.setCell ⟨b,1,none⟩ (.int .i64 n)) b n:=by
 obtain ⟨c0,c1,c2,fz⟩:=h
 exact ⟨by simp [c0,go_sem],by simp [c1,go_sem],by simp [c2,go_sem],by simp [fz,go_sem]⟩
def uG (w0 : World) (b : Nat) (left : Int) (w : World) (e : Ending) (w' : World) : Prop :=
 e = .returned (.bool true) ∧ Below w0.heap.size w0 w' ∧ cO w' b left ∧ But b w w'
def TmJS (t : Tm) : Prop:=∀ (w0 w : World) (b : Nat) (left depth : Int) (x : Value),dC w0 t x → Below w0.heap.size w0 w → w0.heap.size ≤ b → cO w b left → t.ok = true →
 (t.nodes : Int) ≤ left → left ≤ 400 → 1 ≤ depth → depth + t.depth ≤ 41 → Calls Tryz.prog 132 #[.pointer (some ⟨b,0,none⟩),x,.int .i64 depth] w (uG w0 b (left - t.nodes) w)
def yQ (l : List Tm) : Prop:=∀ (w0 w : World) (b : Nat) (left depth : Int) (a : Option Addr) (k c : Nat),bG w0 l (.slice a k c) → Below w0.heap.size w0 w → w0.heap.size ≤ b → cO w b left → cE l = true →
 (aF l : Int) ≤ left → left ≤ 400 → 1 ≤ depth → depth + cC l ≤ 41 → Calls Tryz.prog 79 #[.pointer (some ⟨b,0,none⟩),.slice a k c,.int .i64 depth] w (uG w0 b (left - aF l) w)
theorem mR {w0 w w2 : World} {b : Nat} {left : Int} (n : Int) {o : Obj} (hw : Below w0.heap.size w0 w) (hb : w0.heap.size ≤ b) (hj : cO w b left)
  (h : Below ((w.setCell ⟨b,1,none⟩ (.int .i64 n)).alloc o).heap.size ((w.setCell ⟨b,1,none⟩ (.int .i64 n)).alloc o) w2) : Below w0.heap.size w0 w2 ∧ cO w2 b n ∧ But b w w2:=by
 have k : But b w w2:=(But.set b w 1 none _).trans (But.of_below (bV h))
 exact ⟨k.below hw hb,(hj.set n).below (bV h),k⟩
theorem term_stepS (v : Bool) (n : Bs) (ts : List Tm) (ih : yQ ts) : TmJS (.mk v n ts):=by
 intro w0 w b left depth x hx hw hb hj hok hn hl hd1 hd2
 obtain ⟨a,k,c,rfl,hx⟩:=hx
 simp only [Tm.v,Tm.name,Tm.args] at *
 have hk:=hx.len
 have hn' : (1 : Int) ≤ left:=by simp only [Tm.nodes] at hn;omega
 have hd : depth ≤ 40:=by simp only [Tm.depth] at hd2;omega
 have hbl : b < w.heap.size:=hj.lt
 cases v with
 | true =>
  have hts : ts = []:=by simp only [Tm.ok] at hok;simp_all
  have hv : bU n = true:=by simp only [Tm.ok] at hok;simp_all
  subst hts
  have hk0 : k = 0:=by simpa using hk.1
  subst hk0
  have HV:=Lib.hid hv
  have HJ:=Lib.hid hj
  have HW:=Lib.hid hw
  have hlen : Hid (n.length ≤ 9223372036854775807):=by
   have:=jT hv
   show n.length ≤ _;omega
  clear hx hk hv hok hn hj hw hd2
  go_enter Tryz.func132,Tryz.ntmps132
  go_wp2_with (first
   | (go_at_call 76;refine (oL b left depth _ (HJ.out.below (by exact (Below.refl _ _).alloc (Nat.le_refl _) _)) hn' hl hd).mono ?_;rintro e w1 ⟨rfl,rfl⟩)
   | (go_at_call 105;refine (kB n _ hlen.out).mono ?_;rintro e w2 ⟨he,hb2⟩;rw [show bU n = true from HV.out] at he;subst he))
  go_ret
  obtain ⟨q1,q2,q3⟩:=mR (left - 1) HW.out hb HJ.out hb2
  exact ⟨rfl,q1,q2,q3⟩
 | false =>
  have hf : eS n = true:=by simp only [Tm.ok] at hok;simp_all
  have h4 : ts.length ≤ 4:=by simp only [Tm.ok] at hok;simp_all
  have ho : cE ts = true:=by simp only [Tm.ok] at hok;simp_all
  have hkl : k ≤ 4:=by rw [hk.1];exact h4
  have HV:=Lib.hid hf
  have HJ:=Lib.hid hj
  have HW:=Lib.hid hw
  have HX:=Lib.hid hx
  have HN : Hid ((aF ts : Int) ≤ left - 1 ∧ depth + 1 + cC ts ≤ 41 ∧ cE ts = true ∧ left - (Tm.mk false n ts).nodes = left - 1 - aF ts):=by
   simp only [Tm.nodes,Tm.depth] at *
   refine ⟨?_, ?_,ho, ?_⟩ <;> omega
  have HI:=Lib.hid ih
  have hlen : Hid (n.length ≤ 9223372036854775807):=by
   have:=jT hf
   show n.length ≤ _;omega
  clear hx hk hf hok hn hj hw hd2 h4 ho ih
  go_enter Tryz.func132,Tryz.ntmps132
  go_wp2_with (first
   | (go_at_call 76;refine (oL b left depth _ (HJ.out.below (by exact (Below.refl _ _).alloc (Nat.le_refl _) _)) hn' hl hd).mono ?_;rintro e w1 ⟨rfl,rfl⟩)
   | (go_at_call 104;refine (mJ n _ hlen.out).mono ?_;rintro e w2 ⟨he,hb2⟩;rw [show eS n = true from HV.out] at he;subst he;obtain ⟨hc2,hf2⟩:=nG hb2;have q:=Lib.hid (mR (left - 1) HW.out hb HJ.out hb2))
   | (go_at_call 79;refine (HI.out w0 _ b (left - 1) (depth + 1) a k c HX.out q.out.1 hb q.out.2.1 HN.out.2.2.1 HN.out.1 (by omega) (by omega) HN.out.2.1).mono ?_;rintro e w3 ⟨rfl,r1,r2,r3⟩))
  go_ret
  exact ⟨rfl,r1,by rw [HN.out.2.2.2];exact r2,q.out.2.2.trans r3⟩
theorem tmsDepth_memS {l : List Tm} : ∀ t ∈ l,t.depth ≤ cC l:=by
 induction l with
 | nil=>intro t ht;cases ht
 | cons x xs ih =>
  intro t ht
  simp only [cC]
  rcases List.mem_cons.1 ht with e | e
  ·rw [e];omega
  ·have:=ih t e;omega
theorem tmsNodes_dropS {l : List Tm} {j : Nat} {T : Tm} (h : l[j]? = some T) : aF (l.drop j) = T.nodes + aF (l.drop (j + 1)):=by
 obtain ⟨h1,rfl⟩:=List.getElem?_eq_some_iff.1 h
 rw [List.drop_eq_getElem_cons h1,aF]
theorem tmsNodes_drop_leS (l : List Tm) (j : Nat) : aF (l.drop j) ≤ aF l:=by
 induction l generalizing j with
 | nil=>simp
 | cons x xs ih =>
  cases j with
  | zero=>simp
  | succ j=>simp only [List.drop_succ_cons,aF];have:=ih j;omega
theorem pS (l : List Tm) (hh : ∀ t ∈ l,TmJS t) : yQ l:=by
 intro w0 w b left depth a k c hx hw hb hj hok hn hl hd1 hd2
 have hk:=hx.len
 have hlen : k ≤ 9223372036854775807:=by have:=le63 hk.2.2;omega
 have L1:=Lib.hid hk.1
 have H:=Lib.hid hh
 have HX:=Lib.hid hx
 have HW:=Lib.hid hw
 have HJ:=Lib.hid hj
 have HO:=Lib.hid hok
 have HN:=Lib.hid hn
 have HD:=Lib.hid hd2
 clear hk hh hx hw hj hok hn hd2
 go_enter Tryz.func79,Tryz.ntmps79
 go_wp2_with fail
 go_loopw [11] (fun i wr=>∃ j : Nat,j ≤ k ∧ i = .int .i64 j ∧ Hid (Below w0.heap.size w0 wr ∧ cO wr b (left - aF l + aF (l.drop j)) ∧ But b w wr)) (fun i _=>k - (intOf i).toNat)
 case atStart=>exact ⟨0,Nat.zero_le _,rfl,HW.out,by have:=HJ.out;simpa using this,But.refl _ _⟩
 case round =>
  obtain ⟨j,hj,rfl,hs⟩:=hrel
  by_cases hlt : j < k
  ·obtain ⟨T,hT⟩:=aT (l:=l) (j:=j) (by rw [← L1.out];exact hlt)
   obtain ⟨bb,off,rfl,hc⟩:=HX.out.get (aX hT)
   obtain ⟨x0,x1,x2,hx⟩:=hc j _ hT
   have hK:=aA hs.out.1
   have c0:=hK _ _ hx.c0;have c1:=hK _ _ hx.c1;have c2:=hK _ _ hx.c2
   have X : Hid (dC w0 T (.agg #[.bool T.v,str T.name,.slice x0 x1 x2])):=⟨_,_,_,rfl,hx.at_⟩
   have HM:=Lib.hid (List.mem_of_getElem? hT)
   have N1:=Lib.hid (tmsNodes_dropS hT)
   have N2:=Lib.hid (tmsNodes_drop_leS l j)
   have D1:=Lib.hid (tmsDepth_memS T HM.out)
   have hal : Hid (∀ o,Below w0.heap.size w0 (wr.alloc o) ∧ cO (wr.alloc o) b (left - aF l + aF (l.drop j)) ∧ But b w (wr.alloc o)):=fun o=>by
    have hb1 : Below wr.heap.size wr (wr.alloc o):=(Below.refl _ _).alloc (Nat.le_refl _) _
    exact ⟨hs.out.1.trans (hb1.mono hs.out.1.size),hs.out.2.1.below hb1,hs.out.2.2.trans (But.of_below hb1)⟩
   clear hc hx hT hK
   go_wp2_with (go_at_call 132;refine (H.out T HM.out w0 _ b _ depth _ X.out (hal.out _).1 hb (hal.out _).2.1 (uB HO.out T HM.out) (by have:=N1.out;have:=HN.out;omega) (by have:=N2.out;omega) hd1 (by have:=D1.out;have:=HD.out;omega)).mono ?_;rintro e w3 ⟨rfl,r1,r2,r3⟩)
   go_roundw
   case rel=>exact ⟨j + 1,by omega,by go_num,r1,by have e:=N1.out;rw [e] at r2;rw [show left - (aF l : Int) + (aF (l.drop (j + 1)) : Int) = left - aF l + ((T.nodes + aF (l.drop (j + 1)) : Nat) : Int) - T.nodes by omega];exact r2,(hal.out _).2.2.trans r3⟩
   case measure=>simp [intOf];omega
  ·go_wp2_with fail
   go_ret
   have e : l.drop j = []:=List.drop_of_length_le (by rw [← L1.out];omega)
   have h2:=hs.out.2.1
   rw [e] at h2
   exact ⟨rfl,hs.out.1,by simpa [aF] using h2,hs.out.2.2⟩
mutual
theorem term_yesS : ∀ t : Tm,TmJS t
 | .mk v n ts=>term_stepS v n ts (pS ts (oO ts))
theorem oO : ∀ l : List Tm,∀ t ∈ l,TmJS t
 | [],_,h=>by cases h
 | x :: xs,t,h=>by
  rcases List.mem_cons.1 h with e | e
  ·rw [e];exact term_yesS x
  ·exact oO xs t e
end
theorem terms_yesS (l : List Tm) : yQ l:=pS l (oO l)
def FmJS (f : Fm) : Prop:=∀ (w0 w : World) (b : Nat) (left depth : Int) (x : Value),cU w0 → aV w0 f x → Below w0.heap.size w0 w → w0.heap.size ≤ b → cO w b left → f.ok = true →
 (f.nodes : Int) ≤ left → left ≤ 400 → 1 ≤ depth → depth + f.depth ≤ 41 → Calls Tryz.prog 42 #[.pointer (some ⟨b,0,none⟩),x,.int .i64 depth] w (uG w0 b (left - f.nodes) w)
theorem fmsDepth_memS {l : List Fm} : ∀ t ∈ l,t.depth ≤ cL l:=by
 induction l with
 | nil=>intro t ht;cases ht
 | cons x xs ih =>
  intro t ht
  simp only [cL]
  rcases List.mem_cons.1 ht with e | e
  ·rw [e];omega
  ·have:=ih t e;omega
theorem fmsNodes_dropS {l : List Fm} {j : Nat} {T : Fm} (h : l[j]? = some T) : aD (l.drop j) = T.nodes + aD (l.drop (j + 1)):=by
 obtain ⟨h1,rfl⟩:=List.getElem?_eq_some_iff.1 h
 rw [List.drop_eq_getElem_cons h1,aD]
theorem fmsNodes_drop_leS (l : List Fm) (j : Nat) : aD (l.drop j) ≤ aD l:=by
 induction l generalizing j with
 | nil=>simp
 | cons x xs ih =>
  cases j with
  | zero=>simp
  | succ j=>simp only [List.drop_succ_cons,aD];have:=ih j;omega
theorem nameFits_ofS {op : Int} {n : Bs} {ts : List Tm} {fs : List Fm} (h : (Fm.mk op n ts fs).ok = true) : lI (jJ op) n ∧ (ts.length : Int) ≤ iL op ∧ fs.length = arity op ∧ 1 ≤ op ∧ op ≤ 14 ∧ cE ts = true ∧ bW fs = true:=by
 have ho:=Fm.ok_op h
 simp only [Fm.ok,Bool.and_eq_true,decide_eq_true_eq] at h
 obtain ⟨⟨⟨⟨l1,_⟩,h2⟩,h3⟩,h4⟩:=h
 refine ⟨?_, ?_,l1,by omega,by omega,h3,h4⟩
 ·unfold lI jJ
  by_cases o1 : op = 1
  ·simp_all
  ·by_cases o8 : op = 8 ∨ op = 9
   ·simp_all
   ·simp_all
 ·unfold iL
  by_cases o1 : op = 1
  ·simp_all;omega
  ·simp_all
theorem judged_of2S {w0 w w2 : World} {b : Nat} {left : Int} (n : Int) {o o' : Obj} (hw : Below w0.heap.size w0 w) (hb : w0.heap.size ≤ b) (hj : cO w b left)
  (h : Below (((w.setCell ⟨b,1,none⟩ (.int .i64 n)).alloc o).alloc o').heap.size (((w.setCell ⟨b,1,none⟩ (.int .i64 n)).alloc o).alloc o') w2) : Below w0.heap.size w0 w2 ∧ cO w2 b n ∧ But b w w2 :=
 mR n hw hb hj (bV h)
set_option maxHeartbeats 1600000 in
theorem form_stepS (op : Int) (n : Bs) (ts : List Tm) (fs : List Fm) (hh : ∀ f ∈ fs,FmJS f) : FmJS (.mk op n ts fs):=by
 intro w0 w b left depth x hrows hx hw hb hj hok hn hl hd1 hd2
 obtain ⟨a,k,c,a',m,d,rfl,hx,hx2⟩:=hx
 simp only [Fm.op,Fm.name,Fm.args,Fm.sub] at *
 have hk:=hx.len
 have hm:=hx2.len
 have hlk : k ≤ 9223372036854775807:=by have:=le63 hk.2.2;omega
 have hlm : m ≤ 9223372036854775807:=by have:=le63 hm.2.2;omega
 obtain ⟨f1,f2,f3,o1,o2,f4,f5⟩:=nameFits_ofS hok
 have hkA : (k : Int) ≤ iL op:=by rw [hk.1];exact f2
 have hn' : (1 : Int) ≤ left:=by simp only [Fm.nodes] at hn;omega
 have hd : depth ≤ 40:=by simp only [Fm.depth] at hd2;omega
 have hbl : b < w.heap.size:=hj.lt
 have hcells : ∀ w',bI w0 w' → w'.cell? ⟨0,op.toNat * 5,none⟩ = some (.bool true) ∧ w'.cell? ⟨0,op.toNat * 5 + 1,none⟩ = some (.bool true) ∧ w'.cell? ⟨0,op.toNat * 5 + 2,none⟩ = some (.int .u8 (jJ op)) ∧
   w'.cell? ⟨0,op.toNat * 5 + 3,none⟩ = some (.int .i64 (iL op)) ∧ w'.cell? ⟨0,op.toNat * 5 + 4,none⟩ = some (.int .i64 m):=fun w' kk=>by
  have:=hrows.keep kk op o1 o2
  rw [← f3,← hm.1] at this;exact this
 have hW1 : Below w0.heap.size w0 ((w.setCell ⟨b,1,none⟩ (.int .i64 (left - 1))).alloc (.cells #[.int .u8 op,str n,.slice a k c,.slice a' m d] 40)) :=
  ((But.set b w 1 none _).below hw hb).alloc (by have:=hw.size;simpa [World.setCell] using this) _
 obtain ⟨g0,g1,g2,g3,g4⟩:=hcells _ (aA hW1)
 have F1:=Lib.hid f1
 have HJ:=Lib.hid hj
 have HW:=Lib.hid hw
 have HX:=Lib.hid hx
 have HX2:=Lib.hid hx2
 have HR:=Lib.hid hrows
 have L2:=Lib.hid hm.1
 have H:=Lib.hid hh
 have HN : Hid ((aF ts : Int) ≤ left - 1 ∧ depth + 1 + cC ts ≤ 41 ∧ cE ts = true ∧ left - (Fm.mk op n ts fs).nodes = left - 1 - aF ts - aD fs ∧ (aD fs : Int) ≤ left - 1 - aF ts ∧ depth + 1 + cL fs ≤ 41 ∧ bW fs = true):=by
  simp only [Fm.nodes,Fm.depth] at *
  refine ⟨?_, ?_,f4, ?_, ?_, ?_,f5⟩ <;> omega
 generalize jJ op = srt at *
 generalize iL op = mx at *
 clear hW1 hx hx2 hk hm hok hn hj hw hd2 hrows f1 f2 f3 f4 f5 hcells hh
 go_enter Tryz.func42,Tryz.ntmps42
 go_wp2_with (first
  | (go_at_call 76;refine (oL b left depth _ (HJ.out.below (by exact (Below.refl _ _).alloc (Nat.le_refl _) _)) hn' hl hd).mono ?_;rintro e w1 ⟨rfl,rfl⟩)
  | (go_at_call 77;refine (tJ _ n _ F1.out).mono ?_;rintro e w2 ⟨rfl,hb2⟩;obtain ⟨hc2,hf2⟩:=nG hb2;have q:=Lib.hid (judged_of2S (left - 1) HW.out hb HJ.out hb2);clear hf2)
  | (go_at_call 79;refine (terms_yesS ts w0 _ b (left - 1) (depth + 1) a k c HX.out q.out.1 hb q.out.2.1 HN.out.2.2.1 HN.out.1 (by omega) (by omega) HN.out.2.1).mono ?_;rintro e w3 ⟨rfl,r1,r2,r3⟩;have e3 : w3.cell? ⟨w.heap.size,3,none⟩ = some (.slice a' m d):=(by rw [r3.cell (by have:=hb2.size;simp at this;omega) (by omega),hc2 _ _ (by simp;omega)];simp [go_sem]);have R:=Lib.hid (And.intro r1 (And.intro r2 (q.out.2.2.trans r3)));clear hc2 q r1 r2 r3))
 go_loopw [79] (fun i wr=>∃ j : Nat,j ≤ m ∧ i = .int .i64 j ∧ Hid (Below w0.heap.size w0 wr ∧ cO wr b (left - 1 - aF ts - aD fs + aD (fs.drop j)) ∧ But b w wr)) (fun i _=>m - (intOf i).toNat)
 case atStart=>exact ⟨0,Nat.zero_le _,rfl,R.out.1,by have:=R.out.2.1;simpa using this,R.out.2.2⟩
 case round =>
  clear g0 g1 g2 g3 g4 e3 hb2
  obtain ⟨j,hj,rfl,hs⟩:=hrel
  by_cases hlt : j < m
  ·obtain ⟨T,hT⟩:=aT (l:=fs) (j:=j) (by rw [← L2.out];exact hlt)
   obtain ⟨bb,off,rfl,hc⟩:=HX2.out.get (aX hT)
   obtain ⟨x0,x1,x2,y0,y1,y2,hx⟩:=hc j _ hT
   have hK:=aA hs.out.1
   have c0:=hK _ _ hx.c0;have c1:=hK _ _ hx.c1;have c2:=hK _ _ hx.c2;have c3:=hK _ _ hx.c3
   have X : Hid (aV w0 T (.agg #[.int .u8 T.op,str T.name,.slice x0 x1 x2,.slice y0 y1 y2])):=⟨_,_,_,_,_,_,rfl,hx.at_,hx.at'⟩
   have HM:=Lib.hid (List.mem_of_getElem? hT)
   have N1:=Lib.hid (fmsNodes_dropS hT)
   have N2:=Lib.hid (fmsNodes_drop_leS fs j)
   have D1:=Lib.hid (fmsDepth_memS T HM.out)
   have hal : Hid (∀ o,Below w0.heap.size w0 (wr.alloc o) ∧ cO (wr.alloc o) b (left - 1 - aF ts - aD fs + aD (fs.drop j)) ∧ But b w (wr.alloc o)):=fun o=>by
    have hb1 : Below wr.heap.size wr (wr.alloc o):=(Below.refl _ _).alloc (Nat.le_refl _) _
    exact ⟨hs.out.1.trans (hb1.mono hs.out.1.size),hs.out.2.1.below hb1,hs.out.2.2.trans (But.of_below hb1)⟩
   clear hc hx hT hK
   go_wp2_with (go_at_call 42;refine (H.out T HM.out w0 _ b _ (depth + 1) _ HR.out X.out (hal.out _).1 hb (hal.out _).2.1 (sZ HN.out.2.2.2.2.2.2 T HM.out) (by have:=N1.out;have:=HN.out;omega) (by have:=N2.out;have:=HN.out;omega) (by omega) (by have:=D1.out;have:=HN.out.2.2.2.2.2.1;omega)).mono ?_;rintro e w3 ⟨rfl,r1,r2,r3⟩)
   go_roundw
   case rel=>exact ⟨j + 1,by omega,by go_num,r1,by have e:=N1.out;rw [e] at r2;rw [show left - 1 - (aF ts : Int) - (aD fs : Int) + (aD (fs.drop (j + 1)) : Int) = left - 1 - aF ts - aD fs + ((T.nodes + aD (fs.drop (j + 1)) : Nat) : Int) - T.nodes by omega];exact r2,(hal.out _).2.2.trans r3⟩
   case measure=>simp [intOf];omega
  ·go_wp2_with fail
   go_ret
   have e : fs.drop j = []:=List.drop_of_length_le (by rw [← L2.out];omega)
   have h2:=hs.out.2.1
   rw [e] at h2
   exact ⟨rfl,hs.out.1,by rw [HN.out.2.2.2.1];simpa [aD] using h2,hs.out.2.2⟩
mutual
theorem tE : ∀ t : Fm,FmJS t
 | .mk o n ts fs=>form_stepS o n ts fs (tD fs)
theorem tD : ∀ l : List Fm,∀ t ∈ l,FmJS t
 | [],_,h=>by cases h
 | x :: xs,t,h=>by
  rcases List.mem_cons.1 h with e | e
  ·rw [e];exact tE x
  ·exact tD xs t e
end
theorem Right_yesS (f : Fm) (x : Value) (w : World) (hr : cU w) (hx : aV w f x) (h : f.right = true) : Calls Tryz.prog 169 #[x] w fun e w'=>e = .returned (.bool true) ∧ Below w.heap.size w w':=by
 obtain ⟨a,k,c,a',m,d,rfl,h1,h2⟩:=hx
 have X : Hid (aV w f (.agg #[.int .u8 f.op,str f.name,.slice a k c,.slice a' m d])):=⟨_,_,_,_,_,_,rfl,h1,h2⟩
 have HR:=Lib.hid hr
 simp only [Fm.right,Bool.and_eq_true,decide_eq_true_eq] at h
 have HO:=Lib.hid h
 clear h h1 h2 hr
 go_enter Tryz.func169,Tryz.ntmps169
 go_wp2_with (go_at_call 42;refine (tE f w _ (w.heap.size + 1) 400 1 _ HR.out X.out (by exact ((Below.refl _ _).alloc (Nat.le_refl _) _).alloc (by simp) _) (by omega) ⟨by simp [go_sem],by simp [go_sem],by simp [go_sem],by simp [go_sem]⟩ HO.out.1.1 (by have:=HO.out.1.2;omega) (by omega) (by omega) (by have:=HO.out.2;omega)).mono ?_;rintro e w1 ⟨rfl,r1,_,_⟩)
 go_ret
 exact ⟨rfl,r1⟩
end Go.Proofs.YtppfalbnhnpbnaaGreatDoor
namespace Ly
theorem nJ {f o : UInt8 → Bool} {s : Bs} (h : cG f o s = true) : s.length ≤ 16:=by
 cases s with
 | nil=>simp
 | cons c r=>simp [cG] at h;simp;exact h.1.1.1
def jK : List Bs → Nat
 | []=>0
 | x :: l=>x.length + 2 + jK l
theorem lK : ∀ l : List Bs,(cN l).length = jK l
 | []=>rfl
 | x :: l=>by simp only [cN,List.length_cons,List.length_append,jK,lK l];omega
theorem commas_len (l : List Bs) : (cB l).length ≤ jK l:=by
 cases l with
 | nil=>exact Nat.le_refl _
 | cons x l=>simp only [cB,List.length_append,jK,lK];omega
theorem wM (l : List Bs) : (fS l).length ≤ jK l:=by
 cases l with
 | nil=>exact Nat.le_refl _
 | cons x l=>simp only [fS,cB,List.length_append,List.length_cons,List.length_nil,jK,lK];omega
mutual
theorem Tm.ft_len : ∀ t : Tm,t.ok = true → t.ft.length + 2 ≤ 20 * t.nodes
 | .mk v n az,h=>by
  obtain ⟨-,h2,h3,h4⟩:=Tm.ok_name h
  have hn : n.length ≤ 16:=by
   cases v
   ·exact nJ (h3 rfl)
   ·exact nJ (h2 rfl)
  have i:=oS az h4
  have k:=wM (cT az)
  simp only [Tm.ft,Tm.nodes,List.length_append]
  omega
theorem oS : ∀ l : List Tm,cE l = true → jK (cT l) ≤ 20 * aF l
 | [],_=>Nat.le_refl _
 | t :: l,h=>by
  simp only [cE,Bool.and_eq_true] at h
  have a:=Tm.ft_len t h.1
  have b:=oS l h.2
  simp only [cT,jK,aF]
  omega
end
theorem uJ (b : Bool) (x : Bs) : (brk b x).length ≤ x.length + 2:=by
 unfold brk
 split
 ·simp
 ·omega
theorem Fm.ft_len : ∀ f : Fm,f.ok = true → f.ft.length ≤ 40 * f.nodes
 | .mk op n ts sub,h=>by
  rcases Fm.shape h with ⟨rfl,rfl,h1,h2⟩ | ⟨rfl,rfl,rfl,rfl⟩ | ⟨g,rfl,rfl,hg,e⟩ | ⟨g,k,rfl,hb,rfl,rfl,hg,hk⟩
  ·have a:=oS ts h2
   have b:=wM (cT ts)
   have c : n.length ≤ 16:=nJ h1
   rw [nE,List.length_append]
   simp only [Fm.nodes,aD]
   omega
  ·rw [yV]
   show 5 ≤ 40 * (Fm.mk 2 [] [] []).nodes
   decide
  ·have i:=Fm.ft_len g hg
   have b:=uJ (decide (wStr g.op < 6)) g.ft
   have c : (jQ op n).length ≤ 30:=by
    rcases e with ⟨rfl | rfl,hv⟩ | ⟨rfl | rfl | rfl | rfl | rfl,rfl⟩
    ·have : n.length ≤ 16:=nJ hv
     simp [jQ,eK,wAll];omega
    ·have : n.length ≤ 16:=nJ hv
     simp [jQ,eK,mI];omega
    all_goals decide
   rw [kH,List.length_append]
   simp only [Fm.nodes,aF,aD,prTx]
   omega
  ·have i:=Fm.ft_len g hg
   have j:=Fm.ft_len k hk
   have b1:=uJ (bH op true g.op) g.ft
   have b2:=uJ (bH op false k.op) k.ft
   have c : (eK op).length ≤ 5:=by rcases hb with rfl | rfl | rfl | rfl | rfl <;> decide
   have e : (Fm.mk op [] [] [g,k]).ft = brk (bH op true g.op) g.ft ++ 32 :: (eK op ++ 32 :: brk (bH op false k.op) k.ft):=rfl
   rw [e]
   simp only [List.length_append,List.length_cons,Fm.nodes,aF,aD]
   omega
termination_by f=>sizeOf f
theorem gW {l : List Fm} (h : ∀ f ∈ l,f.right = true) : (gF l).length ≤ 16100 * l.length:=by
 refine Nat.le_trans (commas_len _) ?_
 induction l with
 | nil=>exact Nat.le_refl _
 | cons f l ih =>
  have hf:=h f (by simp)
  unfold Fm.right at hf
  simp only [Bool.and_eq_true,decide_eq_true_eq] at hf
  have a:=Fm.ft_len f hf.1.1
  have b:=ih fun g hg=>h g (by simp [hg])
  simp only [dS,jK,List.length_cons]
  omega
end Ly
namespace Go.Proofs.YtppfalbnhnpbnaaGreatDoor
open Go Go.RowKit Ly
set_option maxRecDepth 10000
theorem Bld.next {B b : Nat} {bs : Bs} {w w1 : World} (h : Bld B b bs w) (hb : Below w.heap.size w w1) : Bld B b bs w1:=((Wrote.refl h).next hb).bld
set_option maxHeartbeats 4000000 in
theorem wV (ls : List Fm) (hok : ∀ f ∈ ls,f.right = true) (W : World) (a : Option Addr) (n c : Nat) (hr : cU W) (ho : iJ W) (hx : aN W ls (.slice a n c)) (hl : ls.length ≤ 1000) :
  Calls Tryz.prog 117 #[.slice a n c] W fun e w'=>e = .returned (.tuple #[str (gF ls),.int .i64 0]) ∧ Below W.heap.size W w':=by
 have hlen:=hx.len
 have N1 : n ≤ 9223372036854775807:=le63 (Nat.le_trans hlen.2.1 hlen.2.2)
 have L2:=Lib.hid hlen.1
 have HX:=Lib.hid hx
 have HR:=Lib.hid hr
 have HO:=Lib.hid ho
 have OKF:=Lib.hid hok
 have TL : Hid ((cB (dS ls)).length ≤ 300000000):=by have:=gW hok;show _ ≤ _;show (gF ls).length ≤ _;omega
 have W9S : Hid (∀ t ∈ ls,W9 t):=fun t ht=>zV t (by have:=hok t ht;unfold Fm.right at this;simp only [Bool.and_eq_true] at this;exact this.1.1)
 clear hlen hx hr ho hok hl
 go_enter Tryz.func117,Tryz.ntmps117
 go_wp2
 go_loopw [9] (fun i wr=>∃ j : Nat,j ≤ n ∧ i = .int .i64 j ∧ Hid (Below W.heap.size W wr)) (fun i _=>n - (intOf i).toNat)
 case atStart=>exact ⟨0,Nat.zero_le _,rfl,Below.refl _ _⟩
 case round =>
  obtain ⟨j,hj,rfl,HS⟩:=hrel
  by_cases hlt : j < n
  ·obtain ⟨T,hT⟩:=aT (l:=ls) (j:=j) (by rw [← L2.out];exact hlt)
   obtain ⟨bb,off,rfl,hc⟩:=(HX.out.keep (aA HS.out)).get (aX hT)
   obtain ⟨x0,x1,x2,x3,x4,x5,hx⟩:=hc j _ hT
   have c0:=hx.c0;have c1:=hx.c1;have c2:=hx.c2;have c3:=hx.c3
   have SC : Hid (∀ o,Calls Tryz.prog 169 #[.agg #[.int .u8 T.op,str T.name,.slice x0 x1 x2,.slice x3 x4 x5]] (wr.alloc o) fun e w'=>e = .returned (.bool true) ∧ Below (wr.alloc o).heap.size (wr.alloc o) w'):=fun o=>by
    have ba : Below wr.heap.size wr (wr.alloc o):=aZ _ _
    exact Right_yesS T _ _ (HR.out.keep (aA (HS.out.trans (ba.mono HS.out.size)))) ⟨_,_,_,_,_,_,rfl,hx.at_.keep (aA ba),hx.at'.keep (aA ba)⟩ (OKF.out T (List.mem_of_getElem? hT))
   clear hc hx hT
   go_wp2_with (
          go_at_call 169
          refine (SC.out _).mono ?_
          rintro e w2 ⟨rfl,h2⟩
          have B2:=Lib.hid (HS.out.trans ((aG (aZ _ _) h2).mono HS.out.size))
          clear h2 SC)
   go_roundw
   case rel=>exact ⟨j + 1,by omega,by go_num,B2.out⟩
   case measure=>simp [intOf];omega
  ·obtain ⟨wb,hwb⟩ : ∃ wb,wr.alloc (.cells #[.pointer none,.slice none 0 0] 196) = wb:=⟨_,rfl⟩
   have BB : Hid (Below wr.heap.size wr wb):=by rw [← hwb];exact aZ _ _
   have D0 : Hid (Bld wr.heap.size wr.heap.size [] wb):=uI _ _ _ (Nat.le_refl _) (by rw [← hwb];exact heap_alloc_new _ _)
   have lb : wr.heap.size < wb.heap.size:=D0.out.lt.2
   go_wp2_with (first
    | (
      have Z:=S4.out;clear Z;go_at_call 172
      refine (rQ _ _ _ _ S4.out.bld).mono ?_
      rintro e w5 ⟨rfl,h5⟩
      have S5:=Lib.hid (HS.out.trans ((B3.out.trans (S4.out.bw.trans h5)).mono HS.out.size))
      clear h5)
    | (
      have Z:=D3.out;clear Z;go_at_call 170
      refine (jf_c ls W9S.out wr.heap.size wr.heap.size c1 c3 c4 [] _ _ _ _ ((HO.out.keep (aA HS.out)).keep (rG B3.out)) C3.out D3.out ((HX.out.keep (aA HS.out)).keep (rG B3.out)) (by show 0 + _ ≤ _;have:=TL.out;omega)).mono ?_
      rintro e w4 ⟨rfl,h4⟩
      have S4 : Hid (Wrote wr.heap.size wr.heap.size (gF ls) w3 w4):=h4
      clear h4)
    | (
      go_at_call 171
      refine (writer_c wr.heap.size _ lb).mono ?_
      rintro e w3 ⟨c1,c3,c4,rfl,hc,h3⟩
      have C3:=Lib.hid hc
      have B3:=Lib.hid (BB.out.trans (h3.mono BB.out.size))
      have D3:=Lib.hid (D0.out.next h3)
      clear hc h3))
   go_ret2
   exact ⟨rfl,S5.out⟩
end Go.Proofs.YtppfalbnhnpbnaaGreatDoor
namespace Ly
theorem tB : ∀ (l : List Fm) (σ : List Sy) (j : Nat) (T U : Fm),(∀ f ∈ l,f.right = true) → σ.length + l.length * 400 ≤ 900000 → l[j]? = some T → (dX σ l).1[j]? = some U → T.alike U = true ∧ U.right = true
 | [],_,j,T,U,_,_,h,_=>by simp at h
 | f :: fs,σ,0,T,U,hr,hs,h,h'=>by
  simp only [dX,List.getElem?_cons_zero,Option.some.injEq] at h h'
  subst h h'
  simp only [List.length_cons] at hs
  exact ⟨Fm.alike_sk (hr f (by simp)),(Fm.sk_right (hr f (by simp)) (by omega)).1⟩
 | f :: fs,σ,j + 1,T,U,hr,hs,h,h'=>by
  simp only [dX,List.getElem?_cons_succ] at h h'
  simp only [List.length_cons] at hs
  obtain ⟨-,-,-,hl⟩:=Fm.mid_right (σ:=σ) (hr f (by simp)) (by omega)
  exact tB fs (f.sk σ).2 j T U (fun g hg=>hr g (by simp [hg])) (by omega) h h'
theorem tA : ∀ (l : List Fm) (σ : List Sy),(∀ f ∈ l,f.right = true) → σ.length + l.length * 400 ≤ 900000 → ∀ U ∈ (dX σ l).1,U.right = true:=fun l σ hr hs U hU=>by
 obtain ⟨j,hj⟩:=List.getElem?_of_mem hU
 have hl:=(List.getElem?_eq_some_iff.1 hj).1
 rw [jR] at hl
 exact (tB l σ j l[j] U hr hs (List.getElem?_eq_getElem hl) hj).2
section
variable {L R : List Fm} (hL : ∀ f ∈ L,f.right = true) (hR : ∀ f ∈ R,f.right = true) (h : L.length + R.length ≤ 200)
include hL h
theorem wK : ∀ U ∈ (skOf L R).1,U.right = true:=tA L [] hL (by simp;omega)
include hR
theorem tU : ∀ U ∈ (skOf L R).2,U.right = true:=by
 have b:=vU L [] hL (by simp;omega)
 simp at b
 exact tA R (dX [] L).2 hR (by omega)
end
end Ly
namespace Go.Proofs.YtppfalbnhnpbnaaGreatDoor
open Go Go.RowKit Ly
set_option maxRecDepth 10000
theorem cl_tx (s t : Bs) : Value.string ({ data:=s.toArray } ++ { data:=#[32,47,32] } ++ { data:=t.toArray } : ByteArray) = str (s ++ 32 :: 47 :: 32 :: t):=by
 rw [show (⟨#[32,47,32]⟩ : ByteArray) = ⟨([32,47,32] : Bs).toArray⟩ from rfl,iB,iB]
 simp [str]
set_option maxHeartbeats 4000000 in
theorem text_c (L R : List Fm) (x : Value) (W : World) (hr : cU W) (hp : cK W) (ho : iJ W) (hx0 : cV W L R x) (k : okSq L R) :
  Calls Tryz.prog 66 #[x] W fun e w'=>e = .returned (.tuple #[str (kC (skOf L R).1 (skOf L R).2),.int .i64 0]) ∧ Below W.heap.size W w':=by
 obtain ⟨a,n,c,b,m,d,rfl,hx,hy⟩:=hx0
 have HO:=Lib.hid ho
 have HR:=Lib.hid hr
 have SL:=nZ L R
 have k1:=k.2.2.1
 have k2:=k.2.2.2
 obtain ⟨S1,hS1⟩ : ∃ S,(skOf L R).1 = S:=⟨_,rfl⟩
 obtain ⟨S2,hS2⟩ : ∃ S,(skOf L R).2 = S:=⟨_,rfl⟩
 have OK2 : Hid (okSq S1 S2):=⟨by rw [← hS1];exact wK k.1 (R:=R) (by omega),by rw [← hS2];exact tU k.1 k.2.1 (by omega),by rw [← hS1];omega,by rw [← hS2];omega⟩
 have OC : Hid (∀ X,Below W.heap.size W X → Calls Tryz.prog 11 #[.agg #[.slice a n c,.slice b m d]] X (RetR S1 S2 0 X)):=fun X hX=>by
  have:=Of_c L R _ X (hr.keep (aA hX)) (hp.below hX) ⟨_,_,_,_,_,_,rfl,hx.keep (aA hX),hy.keep (aA hX)⟩ k.1 k.2.1 k.2.2.1 k.2.2.2
  rw [hS1,hS2] at this
  exact this
 rw [hS1,hS2]
 have l1:=gW OK2.out.1
 have l2:=gW OK2.out.2.1
 obtain ⟨s1,hs1⟩ : ∃ s,gF S1 = s:=⟨_,rfl⟩
 obtain ⟨s2,hs2⟩ : ∃ s,gF S2 = s:=⟨_,rfl⟩
 have CT : Hid (kC S1 S2 = s1 ++ 32 :: 47 :: 32 :: s2):=by rw [Hid,kC,hs1,hs2]
 rw [hs1] at l1
 rw [hs2] at l2
 have o1:=OK2.out.2.2.1
 have o2:=OK2.out.2.2.2
 have n1 : ¬ 9223372036854775807 < s1.length + 3:=by omega
 have n2 : ¬ 9223372036854775807 < s1.length + 3 + s2.length:=by omega
 have F1 : Hid (∀ X a n c,Below W.heap.size W X → aN X S1 (.slice a n c) → Calls Tryz.prog 117 #[.slice a n c] X fun e w'=>e = .returned (.tuple #[str s1,.int .i64 0]) ∧ Below X.heap.size X w'):=fun X a n c hX hv=>by rw [← hs1];exact wV S1 OK2.out.1 X a n c (HR.out.keep (aA hX)) (HO.out.keep (aA hX)) hv (by have:=OK2.out.2.2.1;omega)
 have F2 : Hid (∀ X a n c,Below W.heap.size W X → aN X S2 (.slice a n c) → Calls Tryz.prog 117 #[.slice a n c] X fun e w'=>e = .returned (.tuple #[str s2,.int .i64 0]) ∧ Below X.heap.size X w'):=fun X a n c hX hv=>by rw [← hs2];exact wV S2 OK2.out.2.1 X a n c (HR.out.keep (aA hX)) (HO.out.keep (aA hX)) hv (by have:=OK2.out.2.2.2;omega)
 obtain ⟨W1,hW1⟩ : ∃ W1,W.alloc (.cells #[.slice a n c,.slice b m d] 26) = W1:=⟨_,rfl⟩
 have B1 : Hid (Below W.heap.size W W1):=by rw [← hW1];exact aZ _ _
 obtain ⟨p0,p1,-,-⟩:=row2 (show W1.heap[W.heap.size]? = some (.cells #[.slice a n c,.slice b m d] 26 (0,0)) by rw [← hW1];exact heap_alloc_new _ _)
 clear ho hr hp hx hy k k1 k2 hS1 hS2 hs1 hs2 l1 l2 o1 o2 SL HR HO
 go_enter Tryz.func66,Tryz.ntmps66
 go_wp2_with (first
  | (
    have Z:=B4.out;clear Z;go_at_call 117
    refine (F2.out _ _ _ _ B4.out V4.out).mono ?_
    rintro e w5 ⟨rfl,h5⟩
    have B5:=Lib.hid (B4.out.trans (h5.mono B4.out.size))
    clear h5 q0 q1)
  | (
    have Z:=B3.out;clear Z;go_at_call 117
    refine (F1.out _ _ _ _ B3.out V3.out.1).mono ?_
    rintro e w4 ⟨rfl,h4⟩
    have B4:=Lib.hid (B3.out.trans (h4.mono B3.out.size))
    have V4:=Lib.hid (V3.out.2.keep (aA h4))
    have R4:=Lib.hid (kc h4 R3.out)
    clear h4 q0 q1
    obtain ⟨q0,q1,-,-⟩:=row2 R4.out)
  | (
    go_at_call 11
    refine (OC.out _ B1.out).mono ?_
    rintro e w2 ⟨ya,yn,yc,yb,ym,yd,rfl,h1,h2,b2⟩
    obtain ⟨w3,hw3⟩ : ∃ w3,w2.alloc (.cells #[.slice ya yn yc,.slice yb ym yd] 26) = w3:=⟨_,rfl⟩
    have b3 : Below w2.heap.size w2 w3:=by rw [← hw3];exact aZ _ _
    have B3:=Lib.hid (B1.out.trans ((aG b2 b3).mono B1.out.size))
    have V3:=Lib.hid (And.intro ((h1.keep bL).keep (aA b3)) ((h2.keep bL).keep (aA b3)))
    have R3 : Hid (w3.heap[w2.heap.size]? = some (.cells #[.slice ya yn yc,.slice yb ym yd] 26 (0,0))):=by rw [Hid,← hw3];exact heap_alloc_new _ _
    clear h1 h2 b2 b3 p0 p1 OC hW1
    obtain ⟨q0,q1,-,-⟩:=row2 R3.out))
 go_ret2
 rw [CT.out]
 refine ⟨?_,B5.out⟩
 have:=cl_tx s1 s2
 rw [← this]
 rfl
end Go.Proofs.YtppfalbnhnpbnaaGreatDoor
