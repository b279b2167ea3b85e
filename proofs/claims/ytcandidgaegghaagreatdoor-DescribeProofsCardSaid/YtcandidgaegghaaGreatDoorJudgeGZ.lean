/- Contracts of package syntax's judge, at what is not right: it answers no. Conditions: names fit into memory. -/
import Derived.Test.YtcandidgaegghaaGreatDoorCpZ
import Derived.Test.YtcandidgaegghaaGreatDoorOvAZ
import Derived.Test.YtcandidgaegghaaGreatDoorWrAZ
set_option maxRecDepth 10000
set_option linter.unusedSimpArgs false
set_option linter.unusedVariables false
namespace Go.Proofs.YtcandidgaegghaaGreatDoor
open Go Go.RowKit Ly
set_option maxHeartbeats 800000
theorem JR (b : Nat) (left depth : Int) (w : World) (h : bO w b left) (h1 : 0 ≤ left) (h2 : left ≤ 400) (h4 : depth ≤ 50) (h0 : 0 ≤ depth) (h3 : ¬ (1 ≤ left ∧ depth ≤ 40)) :
  Calls Tryz.prog 233 #[.pointer (some ⟨b,0,none⟩),.int .i64 depth] w fun e w'=>e = .returned (.bool false) ∧ w' = w.setCell ⟨b,1,none⟩ (.int .i64 (left - 1)):=by
 obtain ⟨c0,c1,c2,fz⟩:=h
 rcases (show left = 0 ∨ (1 ≤ left ∧ 40 < depth) by omega) with rfl | ⟨h5,h6⟩
 ·clear h3
  go_enter Tryz.func233,Tryz.ntmps233
  go_wp2
  go_ret
  exact ⟨rfl,rfl⟩
 ·have d1 : (0 : Int) ≤ left - 1:=by omega
  have d2 : ¬ depth ≤ 40:=by omega
  clear h3
  go_enter Tryz.func233,Tryz.ntmps233
  go_wp2
  go_ret
  exact ⟨rfl,rfl⟩
def CQ (w0 : World) (b : Nat) (w : World) (e : Ending) (w' : World) : Prop:=e = .returned (.bool false) ∧ Below w0.heap.size w0 w' ∧ But b w w'
def KS (t : Tm) (left depth : Int) : Prop:=t.ok = true ∧ (t.nodes : Int) ≤ left ∧ depth + t.depth ≤ 41
def wC (l : List Tm) (left depth : Int) : Prop:=cJ l = true ∧ (aD l : Int) ≤ left ∧ depth + bG l ≤ 41
def TmN (t : Tm) : Prop:=∀ (w0 w : World) (b : Nat) (left depth : Int) (x : Value),iS w0 t x → Below w0.heap.size w0 w → w0.heap.size ≤ b → bO w b left → t.sz → ¬ KS t left depth →
 0 ≤ left → left ≤ 400 → 1 ≤ depth → depth ≤ 41 → Calls Tryz.prog 284 #[.pointer (some ⟨b,0,none⟩),x,.int .i64 depth] w (CQ w0 b w)
def TmsN (l : List Tm) : Prop:=∀ (w0 w : World) (b : Nat) (left depth : Int) (a : Option Addr) (k c : Nat),bI w0 l (.slice a k c) → Below w0.heap.size w0 w → w0.heap.size ≤ b → bO w b left → mZ l → ¬ wC l left depth →
 0 ≤ left → left ≤ 400 → 1 ≤ depth → depth ≤ 41 → Calls Tryz.prog 236 #[.pointer (some ⟨b,0,none⟩),.slice a k c,.int .i64 depth] w (CQ w0 b w)
theorem term_stepN (v : Bool) (n : Bs) (ts : List Tm) (ih : TmsN ts) : TmN (.mk v n ts):=by
 intro w0 w b left depth x hx hw hb hj hsz hno hl0 hl hd1 hd2
 obtain ⟨a,k,c,rfl,hx⟩:=hx
 simp only [Tm.v,Tm.name,Tm.args] at *
 have hk:=hx.len
 have hbl : b < w.heap.size:=hj.lt
 have hnl : n.length ≤ 9223372036854775807:=le63 hsz.1
 have hlen:=Hd hnl
 have hkl63 : k ≤ 9223372036854775807:=by have:=le63 hk.2.2;omega
 have HJ:=Hd hj
 have HW:=Hd hw
 have D1 : ∀ o,Hid (Below w0.heap.size w0 ((w.setCell ⟨b,1,none⟩ (.int .i64 (left - 1))).alloc o) ∧ But b w ((w.setCell ⟨b,1,none⟩ (.int .i64 (left - 1))).alloc o)):=fun o=>by
  have q : But b w ((w.setCell ⟨b,1,none⟩ (.int .i64 (left - 1))).alloc o):=(But.set b w 1 none _).trans (But.of_below bnew)
  exact ⟨q.below HW.out hb,q⟩
 by_cases hnode : 1 ≤ left ∧ depth ≤ 40
 case neg =>
  have HN:=Hd hnode
  clear hx hk hj hw hsz hno hnl hnode ih
  go_enter Tryz.func284,Tryz.ntmps284
  go_wp2_with (go_at_call 233;refine (JR b left depth _ (HJ.out.below (by exact bnew)) hl0 hl (by omega) (by omega) HN.out).mono ?_;rintro e w1 ⟨rfl,rfl⟩)
  go_ret
  exact ⟨rfl,(D1 _).out.1,(D1 _).out.2⟩
 case pos =>
 obtain ⟨hn',hd⟩:=hnode
 cases v with
 | true =>
  by_cases hk0 : k = 0
  ·subst hk0
   have hts : ts = []:=List.eq_nil_of_length_eq_zero (by omega)
   subst hts
   have hv : aZ n = false:=by
    cases h : aZ n with
    | false=>rfl
    | true =>
     exfalso
     apply hno
     refine ⟨by simp [Tm.ok,h], ?_, ?_⟩
     ·simp only [Tm.nodes,aD];omega
     ·simp only [Tm.depth,bG];omega
   have HV:=Hd hv
   clear hx hk hj hw hsz hno hnl ih hv
   go_enter Tryz.func284,Tryz.ntmps284
   go_wp2_with (first
    | (go_at_call 233;refine (eF b left depth _ (HJ.out.below (by exact bnew)) hn' hl hd).mono ?_;rintro e w1 ⟨rfl,rfl⟩)
    | (go_at_call 266;refine (eS n _ hlen.out).mono ?_;rintro e w2 ⟨he,hb2⟩;rw [show aZ n = false from HV.out] at he;subst he;have q:=Hd (kV (left - 1) HW.out hb HJ.out hb2);have c0:=q.out.2.1.c0))
   go_ret
   exact ⟨rfl,q.out.1,q.out.2.2⟩
  ·have hk1 : ((k : Int) == 0) = false:=by simp;omega
   clear hx hk hj hw hsz hno hnl ih
   go_enter Tryz.func284,Tryz.ntmps284
   go_wp2_with (go_at_call 233;refine (eF b left depth _ (HJ.out.below (by exact bnew)) hn' hl hd).mono ?_;rintro e w1 ⟨rfl,rfl⟩)
   go_ret
   exact ⟨rfl,(D1 _).out.1,(D1 _).out.2⟩
 | false =>
  by_cases hk4 : k ≤ 4
  ·cases hf : dO n with
   | false =>
    have HV:=Hd hf
    clear hx hk hj hw hsz hno hnl ih hf
    go_enter Tryz.func284,Tryz.ntmps284
    go_wp2_with (first
     | (go_at_call 233;refine (eF b left depth _ (HJ.out.below (by exact bnew)) hn' hl hd).mono ?_;rintro e w1 ⟨rfl,rfl⟩)
     | (go_at_call 307;refine (nC n _ hlen.out).mono ?_;rintro e w2 ⟨he,hb2⟩;rw [show dO n = false from HV.out] at he;subst he;obtain ⟨hc2,hf2⟩:=eP hb2;have q:=Hd (kV (left - 1) HW.out hb HJ.out hb2)))
    go_ret
    exact ⟨rfl,q.out.1,q.out.2.2⟩
   | true =>
    have HV:=Hd hf
    have HX:=Hd hx
    have HI:=Hd ih
    have HS:=Hd hsz.2
    have NO : Hid (¬ wC ts (left - 1) (depth + 1)):=fun h=>hno ⟨by simp only [Tm.ok,hf,Bool.true_and];simp [h.1];omega,by have:=h.2.1;simp only [Tm.nodes];omega,by have:=h.2.2;simp only [Tm.depth];omega⟩
    clear hx hk hj hw hsz hno hnl ih hf
    go_enter Tryz.func284,Tryz.ntmps284
    go_wp2_with (first
     | (go_at_call 233;refine (eF b left depth _ (HJ.out.below (by exact bnew)) hn' hl hd).mono ?_;rintro e w1 ⟨rfl,rfl⟩)
     | (go_at_call 307;refine (nC n _ hlen.out).mono ?_;rintro e w2 ⟨he,hb2⟩;rw [show dO n = true from HV.out] at he;subst he;obtain ⟨hc2,hf2⟩:=eP hb2;have q:=Hd (kV (left - 1) HW.out hb HJ.out hb2))
     | (go_at_call 236;refine (HI.out w0 _ b (left - 1) (depth + 1) a k c HX.out q.out.1 hb q.out.2.1 HS.out NO.out (by omega) (by omega) (by omega) (by omega)).mono ?_;rintro e w3 ⟨rfl,r1,r2⟩))
    go_ret
    exact ⟨rfl,r1,q.out.2.2.trans r2⟩
  ·have hk1 : ¬ (k : Int) ≤ 4:=by omega
   clear hx hk hj hw hsz hno hnl ih
   go_enter Tryz.func284,Tryz.ntmps284
   go_wp2_with (go_at_call 233;refine (eF b left depth _ (HJ.out.below (by exact bnew)) hn' hl hd).mono ?_;rintro e w1 ⟨rfl,rfl⟩)
   go_ret
   exact ⟨rfl,(D1 _).out.1,(D1 _).out.2⟩
theorem tmsSz_mem {l : List Tm} (h : mZ l) : ∀ t ∈ l,t.sz:=(lA l).1 h
theorem fmsSz_mem {l : List Fm} (h : sI l) : ∀ t ∈ l,t.sz:=(pW l).1 h
theorem vY (l : List Tm) (hh : ∀ t ∈ l,TmN t) : TmsN l:=by
 intro w0 w b left depth a k c hx hw hb hj hsz hno hl0 hl hd1 hd2
 have hk:=hx.len
 have hlen : k ≤ 9223372036854775807:=by have:=le63 hk.2.2;omega
 have L1:=Hd hk.1
 have H:=Hd hh
 have HX:=Hd hx
 have HW:=Hd hw
 have HJ:=Hd hj
 have HS:=Hd hsz
 have HNO:=Hd hno
 clear hk hh hx hw hj hsz hno
 go_enter Tryz.func236,Tryz.ntmps236
 go_wp2_with fail
 go_loopw [11] (fun i wr=>∃ (j : Nat) (lf : Int),j ≤ k ∧ i = .int .i64 j ∧ 0 ≤ lf ∧ lf ≤ 400 ∧ Hid (Below w0.heap.size w0 wr ∧ bO wr b lf ∧ But b w wr ∧ ¬ wC (l.drop j) lf depth)) (fun i _=>k - (intOf i).toNat)
 case atStart=>exact ⟨0,left,Nat.zero_le _,rfl,hl0,hl,HW.out,HJ.out,But.refl _ _,by simpa using HNO.out⟩
 case round =>
  obtain ⟨j,lf,hj,rfl,hf0,hf1,hs⟩:=hrel
  by_cases hlt : j < k
  ·obtain ⟨T,hT⟩:=aF (l:=l) (j:=j) (by rw [← L1.out];exact hlt)
   obtain ⟨bb,off,rfl,hc⟩:=HX.out.get (aJ hT)
   obtain ⟨x0,x1,x2,hx⟩:=hc j _ hT
   have hK:=aA hs.out.1
   have c0:=hK _ _ hx.c0;have c1:=hK _ _ hx.c1;have c2:=hK _ _ hx.c2
   have X : Hid (iS w0 T (.agg #[.bool T.v,str T.name,.slice x0 x1 x2])):=⟨_,_,_,rfl,hx.at_⟩
   have HM:=Hd (List.mem_of_getElem? hT)
   have DR : Hid (l.drop j = T :: l.drop (j + 1)):=by
    show _ = _
    obtain ⟨h1,h2⟩:=List.getElem?_eq_some_iff.1 hT
    rw [List.drop_eq_getElem_cons h1,h2]
   have hal : Hid (∀ o,Below w0.heap.size w0 (wr.alloc o) ∧ bO (wr.alloc o) b lf ∧ But b w (wr.alloc o)):=fun o=>by
    have hb1 : Below wr.heap.size wr (wr.alloc o):=bnew
    exact ⟨hs.out.1.trans (hb1.mono hs.out.1.size),hs.out.2.1.below hb1,hs.out.2.2.1.trans (But.of_below hb1)⟩
   by_cases hg : KS T lf depth
   ·have HG:=Hd hg
    clear hc hx hT hK hg
    go_wp2_with (go_at_call 284;refine (GM T w0 _ b lf depth _ X.out (hal.out _).1 hb (hal.out _).2.1 HG.out.1 HG.out.2.1 hf1 hd1 HG.out.2.2).mono ?_;rintro e w3 ⟨rfl,r1,r2,r3⟩)
    go_roundw
    case rel =>
     refine ⟨j + 1,lf - T.nodes,by omega,by go_num,by have:=HG.out.2.1;omega,by omega,r1,r2,(hal.out _).2.2.trans r3,fun h=>hs.out.2.2.2 ?_⟩
     rw [DR.out]
     refine ⟨by simp only [cJ,HG.out.1,h.1,Bool.and_self],by have:=h.2.1;simp only [aD];omega, ?_⟩
     have h1:=h.2.2
     have h2:=HG.out.2.2
     simp only [bG]
     omega
    case measure=>simp [intOf];omega
   ·have HG:=Hd hg
    clear hc hx hT hK hg
    go_wp2_with (go_at_call 284;refine (H.out T HM.out w0 _ b lf depth _ X.out (hal.out _).1 hb (hal.out _).2.1 (tmsSz_mem HS.out T HM.out) HG.out hf0 hf1 hd1 hd2).mono ?_;rintro e w3 ⟨rfl,r1,r2⟩)
    go_ret
    exact ⟨rfl,r1,(hal.out _).2.2.trans r2⟩
  ·exfalso
   have e : l.drop j = []:=List.drop_of_length_le (by rw [← L1.out];omega)
   apply hs.out.2.2.2
   rw [e]
   exact ⟨rfl,by simp only [aD];omega,by simp only [bG];omega⟩
mutual
theorem term_no : ∀ t : Tm,TmN t
 | .mk v n ts=>term_stepN v n ts (vY ts (uK ts))
theorem uK : ∀ l : List Tm,∀ t ∈ l,TmN t
 | [],_,h=>by cases h
 | x :: xs,t,h=>by
  rcases List.mem_cons.1 h with e | e
  ·rw [e];exact term_no x
  ·exact uK xs t e
end
theorem terms_no (l : List Tm) : TmsN l:=vY l (uK l)
theorem named_no (k : Int) (s : Bs) (w : World) (hk : k = 0 ∨ k = 1 ∨ k = 2) (hs : s.length ≤ 9223372036854775807) (h : ¬ kD k s) : Calls Tryz.prog 234 #[.int .u8 k,str s] w (Rt (.bool false) w):=by
 have hlen:=Hd hs
 clear hs
 rcases hk with rfl | rfl | rfl
 ·have hne : s ≠ []:=fun e=>h (.inr (.inr ⟨rfl,e⟩))
  have NE:=Hd hne
  clear hne
  clear h
  go_enter Tryz.func234,Tryz.ntmps234
  go_wp2_with fail
  go_ret
  cases s with
  | nil=>exact absurd rfl NE.out
  | cons c r=>exact ⟨rfl,Below.refl _ _⟩
 ·have HV : Hid (bN s = false):=by
   show _ = _
   cases h1 : bN s with
   | false=>rfl
   | true=>exact absurd (.inl ⟨rfl,h1⟩) h
  clear h
  go_enter Tryz.func234,Tryz.ntmps234
  go_wp2_with (go_at_call 198;refine (lT s _ hlen.out).mono ?_;rintro e w2 ⟨he,hb2⟩;rw [show bN s = false from HV.out] at he;subst he)
  go_ret
  exact ⟨rfl,hb2⟩
 ·have HV : Hid (aZ s = false):=by
   show _ = _
   cases h1 : aZ s with
   | false=>rfl
   | true=>exact absurd (.inr (.inl ⟨rfl,h1⟩)) h
  clear h
  go_enter Tryz.func234,Tryz.ntmps234
  go_wp2_with (go_at_call 266;refine (eS s _ hlen.out).mono ?_;rintro e w2 ⟨he,hb2⟩;rw [show aZ s = false from HV.out] at he;subst he)
  go_ret
  exact ⟨rfl,hb2⟩
def jG (w : World) : Prop:=∀ op : Int,op = 0 ∨ op = 15 ∨ op = 16 → ∃ (s : Bool) (x y z : Int),w.cell? ⟨0,op.toNat * 5,none⟩ = some (.bool false) ∧ w.cell? ⟨0,op.toNat * 5 + 1,none⟩ = some (.bool s) ∧ w.cell? ⟨0,op.toNat * 5 + 2,none⟩ = some (.int .u8 x) ∧
 w.cell? ⟨0,op.toNat * 5 + 3,none⟩ = some (.int .i64 y) ∧ w.cell? ⟨0,op.toNat * 5 + 4,none⟩ = some (.int .i64 z)
theorem jG.keep {w w' : World} (h : jG w) (k : aR w w') : jG w':=fun op ho=>by
 obtain ⟨s,x,y,z,a,b,c,d,e⟩:=h op ho
 exact ⟨s,x,y,z,k _ _ a,k _ _ b,k _ _ c,k _ _ d,k _ _ e⟩
theorem ok_of {op : Int} {n : Bs} {ts : List Tm} {fs : List Fm} (h1 : kD (jO op) n) (h2 : (ts.length : Int) ≤ mD op) (h3 : fs.length = arity op) (o1 : 1 ≤ op) (o2 : op ≤ 14) (h4 : cJ ts = true) (h5 : dR fs = true) : (Fm.mk op n ts fs).ok = true:=by
 simp only [Fm.ok,Bool.and_eq_true,decide_eq_true_eq]
 refine ⟨⟨⟨⟨h3,by rw [h3];rcases (show op = 1 ∨ op = 2 ∨ op = 3 ∨ op = 4 ∨ op = 5 ∨ op = 6 ∨ op = 7 ∨ op = 8 ∨ op = 9 ∨ op = 10 ∨ op = 11 ∨ op = 12 ∨ op = 13 ∨ op = 14 by omega) with rfl | rfl | rfl | rfl | rfl | rfl | rfl | rfl | rfl | rfl | rfl | rfl | rfl | rfl <;> decide⟩, ?_⟩,h4⟩,h5⟩
 unfold kD jO at h1
 unfold mD at h2
 by_cases e1 : op = 1
 ·subst e1
  simp at h1 h2 ⊢
  exact ⟨h1,by omega⟩
 ·rw [if_neg e1] at h1 h2 ⊢
  have : ts = []:=List.eq_nil_of_length_eq_zero (by omega)
  subst this
  by_cases e8 : op = 8 ∨ op = 9
  ·rw [if_pos e8] at h1 ⊢
   simp at h1 ⊢
   exact h1
  ·rw [if_neg e8] at h1 ⊢
   simp at h1 ⊢
   exact h1
def GV (f : Fm) (left depth : Int) : Prop:=f.ok = true ∧ (f.nodes : Int) ≤ left ∧ depth + f.depth ≤ 41
def IJ (l : List Fm) (left depth : Int) : Prop:=dR l = true ∧ (aK l : Int) ≤ left ∧ depth + dW l ≤ 41
def FmN (f : Fm) : Prop:=∀ (w0 w : World) (b : Nat) (left depth : Int) (x : Value),dV w0 → jG w0 → bV w0 f x → Below w0.heap.size w0 w → w0.heap.size ≤ b → bO w b left → f.sz → ¬ GV f left depth →
 0 ≤ left → left ≤ 400 → 1 ≤ depth → depth ≤ 41 → Calls Tryz.prog 160 #[.pointer (some ⟨b,0,none⟩),x,.int .i64 depth] w (CQ w0 b w)
set_option maxHeartbeats 1600000 in
theorem form_stepN (op : Int) (n : Bs) (ts : List Tm) (fs : List Fm) (hh : ∀ f ∈ fs,FmN f) : FmN (.mk op n ts fs):=by
 intro w0 w b left depth x hrows hrno hx hw hb hj hsz hno hl0 hl hd1 hd2
 obtain ⟨a,k,c,a',m,d,rfl,hx,hx2⟩:=hx
 simp only [Fm.op,Fm.name,Fm.args,Fm.sub] at *
 have hk:=hx.len
 have hm:=hx2.len
 have hlk : k ≤ 9223372036854775807:=by have:=le63 hk.2.2;omega
 have hlm : m ≤ 9223372036854775807:=by have:=le63 hm.2.2;omega
 have hbl : b < w.heap.size:=hj.lt
 have hop:=hsz.1
 have hlen : Hid (n.length ≤ 9223372036854775807):=le63 hsz.2.1
 have HJ:=Hd hj
 have HW:=Hd hw
 have HX:=Hd hx
 have HX2:=Hd hx2
 have HR:=Hd hrows
 have HRN:=Hd hrno
 have H:=Hd hh
 have SZ:=Hd hsz
 have NO:=Hd hno
 have LK:=Hd hk.1
 have LM:=Hd hm.1
 clear hk hm hx hx2 hj hw hrows hrno hh hsz hno
 have D1 : Hid (∀ o,Below w0.heap.size w0 ((w.setCell ⟨b,1,none⟩ (.int .i64 (left - 1))).alloc o) ∧ But b w ((w.setCell ⟨b,1,none⟩ (.int .i64 (left - 1))).alloc o)):=fun o=>by
  have q : But b w ((w.setCell ⟨b,1,none⟩ (.int .i64 (left - 1))).alloc o):=(But.set b w 1 none _).trans (But.of_below bnew)
  exact ⟨q.below HW.out hb,q⟩
 have D2 : Hid (∀ o o',Below w0.heap.size w0 (((w.setCell ⟨b,1,none⟩ (.int .i64 (left - 1))).alloc o).alloc o') ∧ But b w (((w.setCell ⟨b,1,none⟩ (.int .i64 (left - 1))).alloc o).alloc o')):=fun o o'=>by
  have q : But b w (((w.setCell ⟨b,1,none⟩ (.int .i64 (left - 1))).alloc o).alloc o'):=(D1.out o).2.trans (But.of_below bnew)
  exact ⟨q.below HW.out hb,q⟩
 by_cases hnode : 1 ≤ left ∧ depth ≤ 40
 case neg =>
  have HN:=Hd hnode
  clear hnode
  go_enter Tryz.func160,Tryz.ntmps160
  go_wp2_with (go_at_call 233;refine (JR b left depth _ (HJ.out.below (by exact bnew)) hl0 hl (by omega) (by omega) HN.out).mono ?_;rintro e w1 ⟨rfl,rfl⟩)
  go_ret
  exact ⟨rfl,(D1.out _).1,(D1.out _).2⟩
 case pos =>
 obtain ⟨hn',hd⟩:=hnode
 by_cases h17 : 17 ≤ op
 ·go_enter Tryz.func160,Tryz.ntmps160
  go_wp2_with (go_at_call 233;refine (eF b left depth _ (HJ.out.below (by exact bnew)) hn' hl hd).mono ?_;rintro e w1 ⟨rfl,rfl⟩)
  go_ret
  exact ⟨rfl,(D1.out _).1,(D1.out _).2⟩
 have h17' : op < 17:=by omega
 by_cases hin : 1 ≤ op ∧ op ≤ 14
 case neg =>
  obtain ⟨ss,xx,yy,zz,g0,g1,g2,g3,g4⟩:=HRN.out.keep (aA (D1.out (.cells #[.int .u8 op,str n,.slice a k c,.slice a' m d] 25)).1) op (by omega)
  have c0:=HJ.out.c0
  clear hin h17
  go_enter Tryz.func160,Tryz.ntmps160
  go_wp2_with (go_at_call 233;refine (eF b left depth _ (HJ.out.below (by exact bnew)) hn' hl hd).mono ?_;rintro e w1 ⟨rfl,rfl⟩)
  go_ret
  exact ⟨rfl,(D2.out _ _).1,(D2.out _ _).2⟩
 case pos =>
 obtain ⟨o1,o2⟩:=hin
 obtain ⟨g0,g1,g2,g3,g4⟩:=HR.out.keep (aA (D1.out (.cells #[.int .u8 op,str n,.slice a k c,.slice a' m d] 25)).1) op o1 o2
 clear h17
 have srt3 : Hid (jO op = 0 ∨ jO op = 1 ∨ jO op = 2):=by
  show _ ∨ _
  unfold jO
  repeat' split
  all_goals simp
 have OKF : Hid (kD (jO op) n → (k : Int) ≤ mD op → m = arity op → cJ ts = true → dR fs = true → (Fm.mk op n ts fs).ok = true):=fun h1 h2 h3 h4 h5=>ok_of h1 (by rw [← LK.out];exact h2) (by rw [← LM.out];exact h3) o1 o2 h4 h5
 generalize jO op = srt at *
 generalize mD op = mx at *
 generalize arity op = ar at *
 by_cases hnm : kD srt n
 case neg =>
  have F1:=Hd hnm
  clear hnm
  go_enter Tryz.func160,Tryz.ntmps160
  go_wp2_with (first
   | (go_at_call 233;refine (eF b left depth _ (HJ.out.below (by exact bnew)) hn' hl hd).mono ?_;rintro e w1 ⟨rfl,rfl⟩)
   | (go_at_call 234;refine (named_no _ n _ srt3.out hlen.out F1.out).mono ?_;rintro e w2 ⟨rfl,hb2⟩;obtain ⟨hc2,hf2⟩:=eP hb2;have q:=Hd (iI (left - 1) HW.out hb HJ.out hb2);clear hf2))
  go_ret
  exact ⟨rfl,q.out.1,q.out.2.2⟩
 case pos =>
 have F1:=Hd hnm
 clear hnm
 by_cases hka : (k : Int) ≤ mx
 case neg =>
  go_enter Tryz.func160,Tryz.ntmps160
  go_wp2_with (first
   | (go_at_call 233;refine (eF b left depth _ (HJ.out.below (by exact bnew)) hn' hl hd).mono ?_;rintro e w1 ⟨rfl,rfl⟩)
   | (go_at_call 234;refine (kX _ n _ F1.out).mono ?_;rintro e w2 ⟨rfl,hb2⟩;obtain ⟨hc2,hf2⟩:=eP hb2;have q:=Hd (iI (left - 1) HW.out hb HJ.out hb2);clear hf2))
  go_ret
  exact ⟨rfl,q.out.1,q.out.2.2⟩
 case pos =>
 by_cases hma : m = ar
 case neg =>
  have hma1 : ((m : Int) == (ar : Int)) = false:=by simp;omega
  have hma2 : ¬ (m : Int) = (ar : Int):=by omega
  have hma3 : ((m : Int) != (ar : Int)) = true:=by simp;omega
  clear hma
  go_enter Tryz.func160,Tryz.ntmps160
  go_wp2_with (first
   | (go_at_call 233;refine (eF b left depth _ (HJ.out.below (by exact bnew)) hn' hl hd).mono ?_;rintro e w1 ⟨rfl,rfl⟩)
   | (go_at_call 234;refine (kX _ n _ F1.out).mono ?_;rintro e w2 ⟨rfl,hb2⟩;obtain ⟨hc2,hf2⟩:=eP hb2;have q:=Hd (iI (left - 1) HW.out hb HJ.out hb2);clear hf2))
  go_ret
  exact ⟨rfl,q.out.1,q.out.2.2⟩
 case pos =>
 subst hma
 by_cases htg : wC ts (left - 1) (depth + 1)
 case neg =>
  have TG:=Hd htg
  clear htg
  go_enter Tryz.func160,Tryz.ntmps160
  go_wp2_with (first
   | (go_at_call 233;refine (eF b left depth _ (HJ.out.below (by exact bnew)) hn' hl hd).mono ?_;rintro e w1 ⟨rfl,rfl⟩)
   | (go_at_call 234;refine (kX _ n _ F1.out).mono ?_;rintro e w2 ⟨rfl,hb2⟩;obtain ⟨hc2,hf2⟩:=eP hb2;have q:=Hd (iI (left - 1) HW.out hb HJ.out hb2);clear hf2)
   | (go_at_call 236;refine (terms_no ts w0 _ b (left - 1) (depth + 1) a k c HX.out q.out.1 hb q.out.2.1 SZ.out.2.2.1 TG.out (by omega) (by omega) (by omega) (by omega)).mono ?_;rintro e w3 ⟨rfl,r1,r2⟩;have R:=Hd (And.intro r1 (q.out.2.2.trans r2))))
  go_ret
  exact ⟨rfl,R.out.1,R.out.2⟩
 case pos =>
 have TG:=Hd htg
 have SUB : Hid (¬ IJ fs (left - 1 - aD ts) (depth + 1)):=fun h=>NO.out ⟨OKF.out F1.out hka rfl TG.out.1 h.1,by have:=h.2.1;simp only [Fm.nodes];omega,by have h1:=h.2.2;have h2:=TG.out.2.2;simp only [Fm.depth];omega⟩
 clear htg OKF
 go_enter Tryz.func160,Tryz.ntmps160
 go_wp2_with (first
  | (go_at_call 233;refine (eF b left depth _ (HJ.out.below (by exact bnew)) hn' hl hd).mono ?_;rintro e w1 ⟨rfl,rfl⟩)
  | (go_at_call 234;refine (kX _ n _ F1.out).mono ?_;rintro e w2 ⟨rfl,hb2⟩;obtain ⟨hc2,hf2⟩:=eP hb2;have q:=Hd (iI (left - 1) HW.out hb HJ.out hb2);clear hf2)
  | (go_at_call 236;refine (uN ts w0 _ b (left - 1) (depth + 1) a k c HX.out q.out.1 hb q.out.2.1 TG.out.1 TG.out.2.1 (by omega) (by omega) TG.out.2.2).mono ?_;rintro e w3 ⟨rfl,r1,r2,r3⟩;have e3 : w3.cell? ⟨w.heap.size,3,none⟩ = some (.slice a' m d):=(by rw [r3.cell (by have:=hb2.size;simp at this;omega) (by omega),hc2 _ _ (by simp;omega)];simp [go_sem]);have R:=Hd (And.intro r1 (And.intro r2 (q.out.2.2.trans r3)));clear hc2 q r1 r2 r3))
 go_loopw [79] (fun i wr=>∃ (j : Nat) (lf : Int),j ≤ m ∧ i = .int .i64 j ∧ 0 ≤ lf ∧ lf ≤ 400 ∧ Hid (Below w0.heap.size w0 wr ∧ bO wr b lf ∧ But b w wr ∧ ¬ IJ (fs.drop j) lf (depth + 1))) (fun i _=>m - (intOf i).toNat)
 case atStart=>exact ⟨0,left - 1 - aD ts,Nat.zero_le _,rfl,by have:=TG.out.2.1;omega,by omega,R.out.1,R.out.2.1,R.out.2.2,by simpa using SUB.out⟩
 case round =>
  clear g0 g1 g2 g3 g4 e3 hb2
  obtain ⟨j,lf,hj,rfl,hf0,hf1,hs⟩:=hrel
  by_cases hlt : j < m
  ·obtain ⟨T,hT⟩:=aF (l:=fs) (j:=j) (by rw [← LM.out];exact hlt)
   obtain ⟨bb,off,rfl,hc⟩:=HX2.out.get (aJ hT)
   obtain ⟨x0,x1,x2,y0,y1,y2,hx⟩:=hc j _ hT
   have hK:=aA hs.out.1
   have c0:=hK _ _ hx.c0;have c1:=hK _ _ hx.c1;have c2:=hK _ _ hx.c2;have c3:=hK _ _ hx.c3
   have X : Hid (bV w0 T (.agg #[.int .u8 T.op,str T.name,.slice x0 x1 x2,.slice y0 y1 y2])):=⟨_,_,_,_,_,_,rfl,hx.at_,hx.at'⟩
   have HM:=Hd (List.mem_of_getElem? hT)
   have DR : Hid (fs.drop j = T :: fs.drop (j + 1)):=by
    show _ = _
    obtain ⟨h1,h2⟩:=List.getElem?_eq_some_iff.1 hT
    rw [List.drop_eq_getElem_cons h1,h2]
   have hal : Hid (∀ o,Below w0.heap.size w0 (wr.alloc o) ∧ bO (wr.alloc o) b lf ∧ But b w (wr.alloc o)):=fun o=>by
    have hb1 : Below wr.heap.size wr (wr.alloc o):=bnew
    exact ⟨hs.out.1.trans (hb1.mono hs.out.1.size),hs.out.2.1.below hb1,hs.out.2.2.1.trans (But.of_below hb1)⟩
   by_cases hg : GV T lf (depth + 1)
   ·have HG:=Hd hg
    clear hc hx hT hK hg
    go_wp2_with (go_at_call 160;refine (sM T w0 _ b lf (depth + 1) _ HR.out X.out (hal.out _).1 hb (hal.out _).2.1 HG.out.1 HG.out.2.1 hf1 (by omega) HG.out.2.2).mono ?_;rintro e w3 ⟨rfl,r1,r2,r3⟩)
    go_roundw
    case rel =>
     refine ⟨j + 1,lf - T.nodes,by omega,by go_num,by have:=HG.out.2.1;omega,by omega,r1,r2,(hal.out _).2.2.trans r3,fun h=>hs.out.2.2.2 ?_⟩
     rw [DR.out]
     refine ⟨by simp only [dR,HG.out.1,h.1,Bool.and_self],by have:=h.2.1;simp only [aK];omega, ?_⟩
     have h1:=h.2.2
     have h2:=HG.out.2.2
     simp only [dW]
     omega
    case measure=>simp [intOf];omega
   ·have HG:=Hd hg
    clear hc hx hT hK hg
    go_wp2_with (go_at_call 160;refine (H.out T HM.out w0 _ b lf (depth + 1) _ HR.out HRN.out X.out (hal.out _).1 hb (hal.out _).2.1 (fmsSz_mem SZ.out.2.2.2 T HM.out) HG.out hf0 hf1 (by omega) (by omega)).mono ?_;rintro e w3 ⟨rfl,r1,r2⟩)
    go_ret
    exact ⟨rfl,r1,(hal.out _).2.2.trans r2⟩
  ·exfalso
   have e : fs.drop j = []:=List.drop_of_length_le (by rw [← LM.out];omega)
   apply hs.out.2.2.2
   rw [e]
   exact ⟨rfl,by simp only [aK];omega,by simp only [dW];omega⟩
mutual
theorem JI : ∀ t : Fm,FmN t
 | .mk o n ts fs=>form_stepN o n ts fs (AA fs)
theorem AA : ∀ l : List Fm,∀ t ∈ l,FmN t
 | [],_,h=>by cases h
 | x :: xs,t,h=>by
  rcases List.mem_cons.1 h with e | e
  ·rw [e];exact JI x
  ·exact AA xs t e
end
end Go.Proofs.YtcandidgaegghaaGreatDoor
