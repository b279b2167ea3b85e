/- describe.isName and shaped at any text and step: what they answer is the plain test. Conditions: names and lists fit into memory. -/
import Derived.Test.YtcandidgaegghaaGreatDoorCpZ
import Derived.Test.YtcandidgaegghaaGreatDoorProofAZ
import Derived.Test.YtcandidgaegghaaGreatDoorProofBZ
import Derived.Test.YtcandidgaegghaaGreatDoorModBZ
import Derived.Outline
set_option maxRecDepth 10000
set_option linter.unusedSimpArgs false
set_option linter.unusedVariables false
namespace Go.Proofs.YtcandidgaegghaaGreatDoor
open Go Go.RowKit Ly
set_option maxHeartbeats 1600000
theorem DB {c : UInt8} (h : bR c = false) : c.toNat < 48 ∨ (57 < c.toNat ∧ c.toNat < 65) ∨ (90 < c.toNat ∧ c.toNat < 97) ∨ 122 < c.toNat:=by
 simp only [bR,small,cZ,digit,Bool.or_eq_false_iff,Bool.and_eq_false_iff,decide_eq_false_iff_not,UInt8.le_iff_toNat_le] at h
 simp at h
 omega
theorem isName_no (s : Bs) (hs : s.length ≤ maxLen) (h : bU s = false) (w : World) : Calls Tryz.prog 238 #[str s] w (Rt (.bool false) w):=by
 cases s with
 | nil =>
  go_enter Tryz.func238,Tryz.ntmps238
  go_wp2_with fail
  go_ret
  exact ⟨rfl,Below.refl _ _⟩
 | cons c r =>
  have hl2 : r.length ≤ 9223372036854775806:=by unfold maxLen at hs;simp at hs;omega
  have d1 : decide ((r.length : Int) + 1 < 1) = false:=by simp;omega
  have e0 : (⟨(c :: r).toArray⟩ : ByteArray)[0]'(by simp [ByteArray.size]) = c:=rfl
  by_cases hl : r.length ≤ 15
  rotate_left
  ·have d2 : decide (16 < (r.length : Int) + 1) = true:=by simp;omega
   clear h hs
   go_enter Tryz.func238,Tryz.ntmps238
   go_wp2_with fail
   go_ret
   exact ⟨rfl,Below.refl _ _⟩
  have d2 : decide (16 < (r.length : Int) + 1) = false:=by simp;omega
  by_cases hd : 48 ≤ c.toNat ∧ c.toNat ≤ 57
  ·obtain ⟨q1,q2⟩:=hd
   have d3 : decide ((48 : Int) ≤ c.toNat) = true:=by simp;omega
   have d4 : decide ((c.toNat : Int) ≤ 57) = true:=by simp;omega
   clear h hs
   go_enter Tryz.func238,Tryz.ntmps238
   go_wp2_with fail
   go_ret
   exact ⟨rfl,Below.refl _ _⟩
  obtain ⟨w1,cap,hrun,hb1,hcells⟩:=wZ (c :: r) w
  have HB:=Hd hb1
  have HC:=Hd hcells
  have AL : Hid ((∀ x ∈ c :: r,bR x = true) → False):=fun ha=>by
   have h1:=ha c (by simp)
   have h2 : r.all bR = true:=List.all_eq_true.2 fun x hx=>ha x (by simp [hx])
   have h3 : (small c || cZ c) = true:=by
    simp only [bR,small,cZ,digit,Bool.or_eq_true,Bool.and_eq_true,decide_eq_true_eq,UInt8.le_iff_toNat_le] at h1 ⊢
    simp at h1 ⊢
    omega
   have : bU (c :: r) = true:=by simp only [bU,h2,h3,Bool.and_eq_true,decide_eq_true_eq];exact ⟨⟨by omega,trivial⟩,trivial⟩
   rw [h] at this
   cases this
  have hc : c.toNat < 48 ∨ 57 < c.toNat:=by omega
  clear h hb1 hcells hs hd
  rcases hc with hc | hc
  ·have d3 : decide ((48 : Int) ≤ c.toNat) = false:=by simp;omega
   go_enter Tryz.func238,Tryz.ntmps238
   go_wp2_with fail
   go_loop [26] (fun i=>∃ k : Nat,k ≤ r.length + 1 ∧ i = .int .i64 k ∧ Hid (∀ (j : Nat) (x : UInt8),j < k → (c :: r)[j]? = some x → bR x = true)) (fun i=>r.length + 1 - (intOf i).toNat)
   case atStart=>exact ⟨0,Nat.zero_le _,rfl,fun j x hj _=>by omega⟩
   case round =>
    obtain ⟨k,hk,rfl,hA⟩:=hrel
    by_cases hlt : k < r.length + 1
    ·obtain ⟨x,hx⟩:=aF (l:=c :: r) (j:=k) (by simpa using hlt)
     have ck:=HC.out k x hx
     cases hax : bR x with
     | true =>
      have hA' : Hid (∀ (j : Nat) (x : UInt8),j < k + 1 → (c :: r)[j]? = some x → bR x = true):=fun j y hj hy=>by
       by_cases e : j = k
       ·subst e;rw [hx] at hy;cases hy;exact hax
       ·exact hA.out j y (by omega) hy
      have hx2:=sA hax
      clear hx hA
      rcases hx2 with ⟨q1,q2⟩ | ⟨q1,q2⟩ | ⟨q1,q2⟩
      all_goals
       go_wp2_with fail
       go_round
       case rel=>exact ⟨k + 1,by omega,by go_num,hA'.out⟩
       case measure=>simp [intOf];omega
     | false =>
      have hx2:=DB hax
      clear hx hA
      rcases hx2 with q1 | ⟨q1,q2⟩ | ⟨q1,q2⟩ | q1
      all_goals
       go_wp2_with fail
       go_ret
       exact ⟨rfl,HB.out⟩
    ·exfalso
     refine AL.out fun x hx=>?_
     obtain ⟨j,hj⟩:=List.getElem?_of_mem hx
     exact hA.out j x (by have:=(List.getElem?_eq_some_iff.1 hj).1;simp at this;omega) hj
  ·have d3 : decide ((c.toNat : Int) ≤ 57) = false:=by simp;omega
   have q:=Nat.lt_trans (by decide : 48 < 57) hc
   go_enter Tryz.func238,Tryz.ntmps238
   go_wp2_with fail
   go_loop [26] (fun i=>∃ k : Nat,k ≤ r.length + 1 ∧ i = .int .i64 k ∧ Hid (∀ (j : Nat) (x : UInt8),j < k → (c :: r)[j]? = some x → bR x = true)) (fun i=>r.length + 1 - (intOf i).toNat)
   case atStart=>exact ⟨0,Nat.zero_le _,rfl,fun j x hj _=>by omega⟩
   case round =>
    obtain ⟨k,hk,rfl,hA⟩:=hrel
    by_cases hlt : k < r.length + 1
    ·obtain ⟨x,hx⟩:=aF (l:=c :: r) (j:=k) (by simpa using hlt)
     have ck:=HC.out k x hx
     cases hax : bR x with
     | true =>
      have hA' : Hid (∀ (j : Nat) (x : UInt8),j < k + 1 → (c :: r)[j]? = some x → bR x = true):=fun j y hj hy=>by
       by_cases e : j = k
       ·subst e;rw [hx] at hy;cases hy;exact hax
       ·exact hA.out j y (by omega) hy
      have hx2:=sA hax
      clear hx hA
      rcases hx2 with ⟨q1,q2⟩ | ⟨q1,q2⟩ | ⟨q1,q2⟩
      all_goals
       go_wp2_with fail
       go_round
       case rel=>exact ⟨k + 1,by omega,by go_num,hA'.out⟩
       case measure=>simp [intOf];omega
     | false =>
      have hx2:=DB hax
      clear hx hA
      rcases hx2 with q1 | ⟨q1,q2⟩ | ⟨q1,q2⟩ | q1
      all_goals
       go_wp2_with fail
       go_ret
       exact ⟨rfl,HB.out⟩
    ·exfalso
     refine AL.out fun x hx=>?_
     obtain ⟨j,hj⟩:=List.getElem?_of_mem hx
     exact hA.out j x (by have:=(List.getElem?_eq_some_iff.1 hj).1;simp at this;omega) hj
theorem isName_any (s : Bs) (hs : s.length ≤ maxLen) (w : World) : Calls Tryz.prog 238 #[str s] w (Rt (.bool (bU s)) w):=by
 cases h : bU s with
 | true=>exact FB s h w
 | false=>exact isName_no s hs h w
theorem markBad_any (n : Int) (w : World) : Calls Tryz.prog 240 #[.int .i64 n] w fun e w'=>e = .returned (.bool (!cN n)) ∧ w = w':=by
 cases h : cN n with
 | true=>exact AQ n h w
 | false =>
  simp only [cN,decide_eq_false_iff_not] at h
  by_cases h0 : n < 0
  ·have d1 : decide (n < 0) = true:=by simpa using h0
   go_enter Tryz.func240,Tryz.ntmps240
   go_wp2_with fail
   go_ret
   exact ⟨rfl,rfl⟩
  ·have d1 : decide (n < 0) = false:=by simpa using h0
   have d2 : decide (999 < n) = true:=by simp;omega
   go_enter Tryz.func240,Tryz.ntmps240
   go_wp2_with fail
   go_ret
   exact ⟨rfl,rfl⟩
theorem indexFunc_no (l : List Int) (a : Option Addr) (n c : Nat) (w : World) (h : dZ w l (.slice a n c)) (hm : l.all cN = false) :
  Calls Tryz.prog 285 #[.slice a n c,.func (.func 240) #[] #[]] w fun e w'=>(∃ z : Nat,e = .returned (.int .i64 z)) ∧ w = w':=by
 have hn:=h.len
 have hlen : n ≤ 9223372036854775807:=by have:=le63 hn.2.2;omega
 have L:=Hd hn.1
 have H:=Hd h
 have NO : Hid ((∀ x ∈ l,cN x = true) → False):=fun ha=>by
  have:=List.all_eq_true.2 ha
  rw [hm] at this;cases this
 clear hn h hm
 go_enter Tryz.func285,Tryz.ntmps285
 go_wp2_with fail
 go_loop [8] (fun i=>∃ k : Nat,k ≤ n ∧ i = .int .i64 k ∧ Hid (∀ (j : Nat) (x : Int),j < k → l[j]? = some x → cN x = true)) (fun i=>n - (intOf i).toNat)
 case atStart=>exact ⟨0,Nat.zero_le _,rfl,fun j x hj _=>by omega⟩
 case round =>
  obtain ⟨k,hk,rfl,hA⟩:=hrel
  by_cases hlt : k < n
  ·obtain ⟨x,hx⟩:=aF (l:=l) (j:=k) (by rw [← L.out];exact hlt)
   obtain ⟨b,off,rfl,hc⟩:=H.out.get (aJ hx)
   have ck:=hc k x hx
   obtain ⟨z,hz⟩ : ∃ z,cN x = z:=⟨_,rfl⟩
   have MB : Hid (∀ W,Calls Tryz.prog 240 #[.int .i64 x] W fun e w'=>e = .returned (.bool (!z)) ∧ W = w'):=fun W=>by rw [← hz];exact markBad_any x W
   cases z
   ·clear hc hx hz hA
    go_wp2_with (go_at_call 240;refine (MB.out _).mono ?_;rintro e w' ⟨rfl,rfl⟩)
    go_ret
    exact ⟨⟨k,rfl⟩,rfl⟩
   ·have hA' : Hid (∀ (j : Nat) (x : Int),j < k + 1 → l[j]? = some x → cN x = true):=fun j y hj hy=>by
     by_cases e : j = k
     ·subst e;rw [hx] at hy;cases hy;exact hz
     ·exact hA.out j y (by omega) hy
    clear hc hx hz hA
    go_wp2_with (go_at_call 240;refine (MB.out _).mono ?_;rintro e w' ⟨rfl,rfl⟩)
    go_round
    case rel=>exact ⟨k + 1,by omega,by go_num,hA'.out⟩
    case measure=>simp [intOf];omega
  ·exfalso
   refine NO.out fun x hx=>?_
   obtain ⟨j,hj⟩:=List.getElem?_of_mem hx
   exact hA.out j x (by have:=(List.getElem?_eq_some_iff.1 hj).1;have:=L.out;omega) hj
theorem containsFunc_any (l : List Int) (a : Option Addr) (n c : Nat) (w : World) (h : dZ w l (.slice a n c)) :
  Calls Tryz.prog 239 #[.slice a n c,.func (.func 240) #[] #[]] w fun e w'=>e = .returned (.bool (!l.all cN)) ∧ w = w':=by
 cases hm : l.all cN with
 | true=>exact oL l a n c w h hm
 | false =>
  have H:=Hd (indexFunc_no l a n c w h hm)
  clear h hm
  go_enter Tryz.func239,Tryz.ntmps239
  go_wp2_with (go_at_call 285;refine H.out.mono ?_;rintro e w' ⟨⟨z,rfl⟩,rfl⟩;have d1 : decide ((0 : Int) ≤ (z : Int)) = true:=(by simp))
  go_ret
  exact ⟨rfl,rfl⟩
theorem shaped_no (p : Pf) (hr : p.rule.length ≤ maxLen) (x : Value) (w : World) (hx : cU w p x) (h : dF p.rule p.label p.sub.length p.marks = false) :
  Calls Tryz.prog 162 #[x] w (Rt (.bool false) w):=by
 obtain ⟨a,n,c,b,m,d,s,sn,sc,q,qn,qc,rfl,h1,h2,h3,h4⟩:=hx
 obtain ⟨rule,f,label,sub,marks⟩:=p
 simp only [Pf.rule,Pf.form,Pf.label,Pf.sub,Pf.marks] at *
 have hs:=h3.len
 have hq:=h4.len
 have hsl : sn ≤ 9223372036854775807:=by have:=le63 hs.2.2;omega
 have hql : qn ≤ 9223372036854775807:=by have:=le63 hq.2.2;omega
 unfold dF at h
 by_cases r0 : rule = []
 ·subst r0
  simp only [if_true] at h
  have hb : sn ≠ 0 ∨ (sn = 0 ∧ qn ≠ 0) ∨ (sn = 0 ∧ qn = 0 ∧ (label < 1 ∨ (1 ≤ label ∧ 999 < label))):=by
   by_cases e1 : sn = 0
   ·by_cases e2 : qn = 0
    ·refine .inr (.inr ⟨e1,e2, ?_⟩)
     have z1 : sub.length = 0:=by have:=hs.1;omega
     have z2 : marks = []:=List.eq_nil_of_length_eq_zero (by have:=hq.1;omega)
     subst z2
     simp [z1] at h
     omega
    ·exact .inr (.inl ⟨e1,e2⟩)
   ·exact .inl e1
  clear hs hq h1 h2 h3 h4 h
  rcases hb with e | ⟨rfl,e⟩ | ⟨rfl,rfl,e | ⟨e,e'⟩⟩
  ·have t1 : ((sn : Int) == 0) = false:=by simpa using e
   go_enter Tryz.func162,Tryz.ntmps162
   go_wp2_with fail
   go_ret
   exact ⟨rfl,bnew⟩
  ·have t1 : ((qn : Int) == 0) = false:=by simpa using e
   go_enter Tryz.func162,Tryz.ntmps162
   go_wp2_with fail
   go_ret
   exact ⟨rfl,bnew⟩
  ·have d1 : decide (1 ≤ label) = false:=by simp;omega
   go_enter Tryz.func162,Tryz.ntmps162
   go_wp2_with fail
   go_ret
   exact ⟨rfl,bnew⟩
  ·have d1 : decide (1 ≤ label) = true:=by simpa using e
   have d2 : decide (label ≤ 999) = false:=by simp;omega
   go_enter Tryz.func162,Tryz.ntmps162
   go_wp2_with fail
   go_ret
   exact ⟨rfl,bnew⟩
 ·by_cases r1 : rule = hole
  ·subst r1
   simp only [r0,if_true,if_false] at h
   have hb : sn ≠ 0 ∨ (sn = 0 ∧ qn ≠ 0) ∨ (sn = 0 ∧ qn = 0 ∧ label ≠ 0):=by
    by_cases e1 : sn = 0
    ·by_cases e2 : qn = 0
     ·refine .inr (.inr ⟨e1,e2, ?_⟩)
      have z1 : sub.length = 0:=by have:=hs.1;omega
      have z2 : marks = []:=List.eq_nil_of_length_eq_zero (by have:=hq.1;omega)
      subst z2
      simpa [z1] using h
     ·exact .inr (.inl ⟨e1,e2⟩)
    ·exact .inl e1
   clear hs hq h1 h2 h3 h4 h
   rcases hb with e | ⟨rfl,e⟩ | ⟨rfl,rfl,e⟩
   ·have t1 : ((sn : Int) == 0) = false:=by simpa using e
    go_enter Tryz.func162,Tryz.ntmps162
    unfold hole
    go_wp2_with fail
    go_ret
    exact ⟨rfl,bnew⟩
   ·have t1 : ((qn : Int) == 0) = false:=by simpa using e
    go_enter Tryz.func162,Tryz.ntmps162
    unfold hole
    go_wp2_with fail
    go_ret
    exact ⟨rfl,bnew⟩
   ·have d1 : (label == 0) = false:=by simpa using e
    go_enter Tryz.func162,Tryz.ntmps162
    unfold hole
    go_wp2_with fail
    go_ret
    exact ⟨rfl,bnew⟩
  ·simp only [r0,r1,if_false] at h
   have t0 : (rule == []) = false:=by simpa using r0
   have t1 : (rule == [63]) = false:=by simpa [hole] using r1
   have HM:=Hd h4
   have L:=Hd hq.1
   have LS:=Hd hs.1
   obtain ⟨rb,hrb⟩ : ∃ rb,bU rule = rb:=⟨_,rfl⟩
   have HN : Hid (∀ W,Calls Tryz.prog 238 #[str rule] W (Rt (.bool rb) W)):=fun W=>by rw [← hrb];exact isName_any rule hr W
   rw [hrb] at h
   obtain ⟨z1,hz1⟩ : ∃ z1,((sn : Int) == 0) = z1:=⟨_,rfl⟩
   obtain ⟨z2,hz2⟩ : ∃ z2,((qn : Int) == 0) = z2:=⟨_,rfl⟩
   obtain ⟨zl,hzl⟩ : ∃ zl,(label != 0) = zl:=⟨_,rfl⟩
   obtain ⟨zs,hzs⟩ : ∃ zs,decide ((4 : Int) < (sn : Int)) = zs:=⟨_,rfl⟩
   obtain ⟨zq,hzq⟩ : ∃ zq,((qn : Int) != (sn : Int)) = zq:=⟨_,rfl⟩
   have NO : Hid (rb = true → zl = false → zs = false → zq = false → marks.all (fun l=>decide (l.length ≤ 3) && l.all cN) = false):=by
    intro a1 a2 a3 a4
    subst a1 a2 a3 a4
    have b2 : label = 0:=by simpa using hzl
    have b3 : sub.length ≤ 4:=by have:=hs.1;simp at hzs;omega
    have b4 : marks.length = sub.length:=by have h5:=hs.1;have h6:=hq.1;simp at hzq;omega
    simpa [b2,b3,b4] using h
   clear hs hq h1 h2 h3 h4 h r0 r1 hrb hr
   have B0 : Hid (Below w.heap.size w (w.alloc (.cells #[str rule,.int .u8 f.op,str f.name,.slice a n c,.slice b m d,.int .i64 label,.slice s sn sc,.slice q qn qc] 53))):=bnew
   have C0 : Hid ((w.alloc (.cells #[str rule,.int .u8 f.op,str f.name,.slice a n c,.slice b m d,.int .i64 label,.slice s sn sc,.slice q qn qc] 53)).heap[w.heap.size]? = some (.cells #[str rule,.int .u8 f.op,str f.name,.slice a n c,.slice b m d,.int .i64 label,.slice s sn sc,.slice q qn qc] 53 (0,0))):=heap_alloc_new w _
   cases rb
   ·clear NO
    cases z1 <;> cases z2
    all_goals
     go_enter Tryz.func162,Tryz.ntmps162
     go_wp2_with fail
     refine (HN.out _).mono ?_
     rintro e w1 ⟨rfl,hb1⟩
     have B1:=Hd (bB hb1)
     clear hb1
     go_wp2_with fail
     go_ret
     exact ⟨rfl,B1.out⟩
   cases zl
   rotate_left
   ·clear NO
    cases z1 <;> cases z2
    all_goals
     go_enter Tryz.func162,Tryz.ntmps162
     go_wp2_with fail
     refine (HN.out _).mono ?_
     rintro e w1 ⟨rfl,hb1⟩
     obtain ⟨hc1,hf1⟩:=eP hb1
     have B1:=Hd (bB hb1)
     clear hb1
     go_wp2_with fail
     go_ret
     exact ⟨rfl,B1.out⟩
   cases zs
   rotate_left
   ·clear NO
    cases z1 <;> cases z2
    all_goals
     go_enter Tryz.func162,Tryz.ntmps162
     go_wp2_with fail
     refine (HN.out _).mono ?_
     rintro e w1 ⟨rfl,hb1⟩
     obtain ⟨hc1,hf1⟩:=eP hb1
     have B1:=Hd (bB hb1)
     clear hb1
     go_wp2_with fail
     go_ret
     exact ⟨rfl,B1.out⟩
   cases zq
   rotate_left
   ·clear NO
    cases z1 <;> cases z2
    all_goals
     go_enter Tryz.func162,Tryz.ntmps162
     go_wp2_with fail
     refine (HN.out _).mono ?_
     rintro e w1 ⟨rfl,hb1⟩
     obtain ⟨hc1,hf1⟩:=eP hb1
     have B1:=Hd (bB hb1)
     clear hb1
     go_wp2_with fail
     go_ret
     exact ⟨rfl,B1.out⟩
   have NX : Hid ((∀ l ∈ marks,(decide (l.length ≤ 3) && l.all cN) = true) → False):=fun ha=>by
    have h5:=List.all_eq_true.2 ha
    rw [NO.out rfl rfl rfl rfl] at h5
    cases h5
   clear NO
   cases z1 <;> cases z2
   all_goals
    go_enter Tryz.func162,Tryz.ntmps162
    go_wp2_with fail
    refine (HN.out _).mono ?_
    rintro e w1 ⟨rfl,hb1⟩
    obtain ⟨hc1,hf1⟩:=eP hb1
    have B1:=Hd (bB hb1)
    have HM1:=Hd (HM.out.keep (aA B1.out))
    clear hb1
    go_wp2_with fail
    go_loop [66] (fun i=>∃ k : Nat,k ≤ qn ∧ i = .int .i64 k ∧ Hid (∀ (j : Nat) (x : List Int),j < k → marks[j]? = some x → (decide (x.length ≤ 3) && x.all cN) = true)) (fun i=>qn - (intOf i).toNat)
    case atStart=>exact ⟨0,Nat.zero_le _,rfl,fun j x hj _=>by omega⟩
    case round =>
     obtain ⟨k,hk,rfl,hA⟩:=hrel
     by_cases hlt : k < qn
     ·obtain ⟨l,hl⟩:=aF (l:=marks) (j:=k) (by rw [← L.out];exact hlt)
      obtain ⟨b,off,rfl,hcs⟩:=HM1.out.get (aJ hl)
      obtain ⟨y,yn,yc,ck,hy⟩:=hcs k l hl
      have HY:=Hd hy
      have yl:=hy.len
      have y63 : yn ≤ 9223372036854775807:=by have:=le63 yl.2.2;omega
      by_cases y3 : 3 < yn
      ·have y4 : decide (3 < (yn : Int)) = true:=by simp;omega
       clear hcs hl hy yl hA
       go_wp2_with fail
       go_ret
       exact ⟨rfl,B1.out⟩
      ·have y4 : decide (3 < (yn : Int)) = false:=by simp;omega
       have l3 : l.length ≤ 3:=by have:=yl.1;omega
       obtain ⟨z,hz⟩ : ∃ z,l.all cN = z:=⟨_,rfl⟩
       have CF : Hid (∀ W,dZ W l (.slice y yn yc) → Calls Tryz.prog 239 #[.slice y yn yc,.func (.func 240) #[] #[]] W fun e w'=>e = .returned (.bool (!z)) ∧ W = w'):=fun W hW=>by rw [← hz];exact containsFunc_any l y yn yc W hW
       have hA' : Hid (z = true → ∀ (j : Nat) (x : List Int),j < k + 1 → marks[j]? = some x → (decide (x.length ≤ 3) && x.all cN) = true):=fun ez j x hj hx=>by
        by_cases e : j = k
        ·subst e;rw [hl] at hx;cases hx;rw [hz,ez];simp [l3]
        ·exact hA.out j x (by omega) hx
       clear hcs hl hy yl hA hz
       cases z
       ·clear hA'
        go_wp2_with (go_at_call 239;refine (CF.out _ HY.out).mono ?_;rintro e w' ⟨rfl,rfl⟩)
        go_ret
        exact ⟨rfl,B1.out⟩
       ·replace hA':=Hd (hA'.out rfl)
        go_wp2_with (go_at_call 239;refine (CF.out _ HY.out).mono ?_;rintro e w' ⟨rfl,rfl⟩)
        go_round
        case rel=>exact ⟨k + 1,by omega,by go_num,hA'.out⟩
        case measure=>simp [intOf];omega
     ·exfalso
      refine NX.out fun x hx=>?_
      obtain ⟨j,hj⟩:=List.getElem?_of_mem hx
      exact hA.out j x (by have:=(List.getElem?_eq_some_iff.1 hj).1;have:=L.out;omega) hj
theorem shaped_any (p : Pf) (hr : p.rule.length ≤ maxLen) (x : Value) (w : World) (hx : cU w p x) :
  Calls Tryz.prog 162 #[x] w (Rt (.bool (dF p.rule p.label p.sub.length p.marks)) w):=by
 cases h : dF p.rule p.label p.sub.length p.marks with
 | true=>exact GH p x w hx h
 | false=>exact shaped_no p hr x w hx h
open Go Go.RowKit Ly
set_option maxHeartbeats 1600000
theorem row53' {w : World} {b : Nat} {x0 x1 x2 x3 x4 x5 x6 x7 : Value} (h : w.heap[b]? = some (.cells #[x0,x1,x2,x3,x4,x5,x6,x7] 53 (0,0))) :
  w.cell? ⟨b,0,none⟩ = some x0 ∧ w.cell? ⟨b,1,none⟩ = some x1 ∧ w.cell? ⟨b,2,none⟩ = some x2 ∧ w.cell? ⟨b,3,none⟩ = some x3 ∧ w.cell? ⟨b,4,none⟩ = some x4 ∧ w.cell? ⟨b,5,none⟩ = some x5 ∧ w.cell? ⟨b,6,none⟩ = some x6 ∧ w.cell? ⟨b,7,none⟩ = some x7 :=
 ⟨(box_cell h 0).trans rfl,(box_cell h 1).trans rfl,(box_cell h 2).trans rfl,(box_cell h 3).trans rfl,(box_cell h 4).trans rfl,(box_cell h 5).trans rfl,(box_cell h 6).trans rfl,(box_cell h 7).trans rfl⟩
theorem Proof_no (a0 a1 a2 a3 a4 a5 a6 a7 : Value) (w : World) (h : ∀ w' g,Below w.heap.size w w' → w.heap.size ≤ g → dM w' g 300 → Calls Tryz.prog 87 #[.agg #[a0,a1,a2,a3,a4,a5,a6,a7],.int .i64 0,.pointer (some ⟨g,0,none⟩)] w' fun e w''=>e = .returned (.bool false) ∧ Below w.heap.size w w'') :
  Calls Tryz.prog 24 #[.agg #[a0,a1,a2,a3,a4,a5,a6,a7]] w (Rt (.tuple #[.slice none 0 0,.int .i64 2]) w):=by
 have H:=Hd h
 clear h
 have WB : Hid (Below w.heap.size w ((w.alloc (.cells #[a0,a1,a2,a3,a4,a5,a6,a7] 53)).alloc (.cells #[.int .i64 300] 3))):=bnew.alloc (by simp) _
 have LF : Hid (dM ((w.alloc (.cells #[a0,a1,a2,a3,a4,a5,a6,a7] 53)).alloc (.cells #[.int .i64 300] 3)) (w.heap.size + 1) 300):=⟨by simp [go_sem],by simp [go_sem]⟩
 go_enter Tryz.func24,Tryz.ntmps24
 go_wp2_with (go_at_call 87;refine (H.out _ _ WB.out (by omega) LF.out).mono ?_;rintro e w1 ⟨rfl,b1⟩)
 exact bodyPost_ret (v:=.tuple #[.slice none 0 0,.int .i64 2]) (by simp [results,Tryz.results24,go_sem]) rfl ⟨rfl,b1⟩
end Go.Proofs.YtcandidgaegghaaGreatDoor
