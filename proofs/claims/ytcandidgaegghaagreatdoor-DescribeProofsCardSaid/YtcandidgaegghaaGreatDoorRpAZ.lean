/- lyceumref41.name, steps and fits at any step: what they answer is the plain test. Conditions: names and lists fit into memory. -/
import Derived.Test.YtcandidgaegghaaGreatDoorCpZ
import Derived.Test.YtcandidgaegghaaGreatDoorRefDZ
import Derived.Test.YtcandidgaegghaaGreatDoorRefEZ
set_option maxRecDepth 10000
set_option linter.unusedSimpArgs false
set_option linter.unusedVariables false
namespace Ly
mutual
def Pf.few : Pf → Prop
 | .mk _ f _ ps _=>f.nodes ≤ 1000000 ∧ rI ps
def rI : List Pf → Prop
 | []=>True
 | p :: ps=>p.few ∧ rI ps
end
theorem yC : ∀ l : List Pf,rI l ↔ ∀ t ∈ l,t.few
 | []=>by simp [rI]
 | t :: ts=>by simp [rI,yC ts]
end Ly
namespace Go.Proofs.YtcandidgaegghaaGreatDoor
open Go Go.RowKit Ly
set_option maxHeartbeats 1600000
def okAt (j : Nat) (x : UInt8) : Bool:=small x || cZ x || (decide (1 ≤ j) && digit x)
theorem rn_at {s : Bs} {k : Nat} {x : UInt8} (h : bU s = true) (hx : s[k]? = some x) : okAt k x = true:=by
 cases s with
 | nil=>simp at hx
 | cons c r =>
  simp only [bU,Bool.and_eq_true,decide_eq_true_eq] at h
  cases k with
  | zero =>
   simp at hx;subst hx
   simp only [okAt,h.1.2,Bool.true_or]
  | succ k =>
   have hm : x ∈ r:=List.mem_of_getElem? (by simpa using hx)
   have:=List.all_eq_true.1 h.2 x hm
   simp only [okAt,bR] at this ⊢
   simpa [Bool.or_assoc] using this
theorem EA {s : Bs} (h : bU s = true) : 1 ≤ s.length ∧ s.length ≤ 16:=by
 cases s with
 | nil=>simp [bU] at h
 | cons c r =>
  simp only [bU,Bool.and_eq_true,decide_eq_true_eq] at h
  simp;omega
theorem rn_yes {s : Bs} (h1 : 1 ≤ s.length) (h2 : s.length ≤ 16) (h : ∀ (j : Nat) (x : UInt8),s[j]? = some x → okAt j x = true) : bU s = true:=by
 cases s with
 | nil=>simp at h1
 | cons c r =>
  have e0:=h 0 c rfl
  have e1 : r.all bR = true:=List.all_eq_true.2 fun x hx=>by
   obtain ⟨j,hj⟩:=List.getElem?_of_mem hx
   have:=h (j + 1) x (by simpa using hj)
   simp only [okAt,bR] at this ⊢
   simpa [Bool.or_assoc] using this
  have e2 : (small c || cZ c) = true:=by simpa [okAt] using e0
  simp only [bU,e1,e2,Bool.and_eq_true,decide_eq_true_eq]
  simp at h2
  exact ⟨⟨by omega,trivial⟩,trivial⟩
theorem ok_not {k : Nat} {x : UInt8} (h : okAt k x = false) : (x.toNat < 48 ∨ (57 < x.toNat ∧ x.toNat < 65) ∨ (90 < x.toNat ∧ x.toNat < 97) ∨ 122 < x.toNat) ∨ (k = 0 ∧ 48 ≤ x.toNat ∧ x.toNat ≤ 57):=by
 simp only [okAt,small,cZ,digit,Bool.or_eq_false_iff,Bool.and_eq_false_iff,decide_eq_false_iff_not,UInt8.le_iff_toNat_le] at h
 simp at h
 omega
theorem ok_cases {k : Nat} {x : UInt8} (h : okAt k x = true) : (97 ≤ x.toNat ∧ x.toNat ≤ 122) ∨ (65 ≤ x.toNat ∧ x.toNat ≤ 90) ∨ (1 ≤ k ∧ 48 ≤ x.toNat ∧ x.toNat ≤ 57):=by
 simp only [okAt,small,cZ,digit,Bool.or_eq_true,Bool.and_eq_true,decide_eq_true_eq,UInt8.le_iff_toNat_le] at h
 simp at h
 omega
def Six (x : UInt8) (a b c d e f : Bool) : Prop:=decide ((97 : Int) ≤ x.toNat) = a ∧ decide ((x.toNat : Int) ≤ 122) = b ∧ decide ((65 : Int) ≤ x.toNat) = c ∧ decide ((x.toNat : Int) ≤ 90) = d ∧ decide ((x.toNat : Int) < 48) = e ∧ decide ((57 : Int) < x.toNat) = f
theorem name41_c (s : Bs) (hs : s.length ≤ 9223372036854775807) (w : World) : Calls Tryz.prog 261 #[str s] w fun e w'=>e = .returned (.bool (bU s)) ∧ w = w':=by
 obtain ⟨Z,hZ⟩ : ∃ Z,bU s = Z:=⟨_,rfl⟩
 rw [hZ]
 have HZ:=Hd hZ
 clear hZ
 go_enter Tryz.func261,Tryz.ntmps261
 go_wp2_with fail
 go_loopw [3] (fun i wr=>∃ k : Nat,k ≤ s.length ∧ i = .int .i64 k ∧ w = wr ∧ Hid (∀ (j : Nat) (x : UInt8),j < k → s[j]? = some x → okAt j x = true)) (fun i _=>s.length - (intOf i).toNat)
 case atStart=>exact ⟨0,Nat.zero_le _,rfl,rfl,fun j x hj _=>by omega⟩
 case round =>
  obtain ⟨k,hk,rfl,rfl,hA⟩:=hrel
  by_cases hlt : k < s.length
  ·obtain ⟨x,hxk⟩ : ∃ x,s[k]'hlt = x:=⟨_,rfl⟩
   have hx : s[k]? = some x:=by rw [List.getElem?_eq_getElem hlt,hxk]
   have ek : (⟨s.toArray⟩ : ByteArray)[k]'(by simpa [ByteArray.size] using hlt) = x:=hxk
   clear hxk
   cases hax : okAt k x with
   | true =>
    have hA' : Hid (∀ (j : Nat) (x : UInt8),j < k + 1 → s[j]? = some x → okAt j x = true):=fun j y hj hy=>by
     by_cases e : j = k
     ·subst e;rw [hx] at hy;cases hy;exact hax
     ·exact hA.out j y (by omega) hy
    have hx2:=ok_cases hax
    clear hx hA hax
    rcases hx2 with ⟨q1,q2⟩ | ⟨q1,q2⟩ | ⟨q0,q1,q2⟩
    ·obtain ⟨f1,f2,f3,f4,f5,f6⟩ : Six x true true true false false true:=by refine ⟨?_, ?_, ?_, ?_, ?_, ?_⟩ <;> simp <;> omega
     clear q1 q2
     go_wp2_with fail
     go_roundw
     case rel=>exact ⟨k + 1,by omega,by go_num,trivial,hA'.out⟩
     case measure=>simp [intOf];omega
    ·obtain ⟨f1,f2,f3,f4,f5,f6⟩ : Six x false true true true false true:=by refine ⟨?_, ?_, ?_, ?_, ?_, ?_⟩ <;> simp <;> omega
     clear q1 q2
     go_wp2_with fail
     go_roundw
     case rel=>exact ⟨k + 1,by omega,by go_num,trivial,hA'.out⟩
     case measure=>simp [intOf];omega
    ·obtain ⟨f1,f2,f3,f4,f5,f6⟩ : Six x false true false true false false:=by refine ⟨?_, ?_, ?_, ?_, ?_, ?_⟩ <;> simp <;> omega
     have t0 : ((k : Int) == 0) = false:=by simp;omega
     clear q1 q2
     go_wp2_with fail
     go_roundw
     case rel=>exact ⟨k + 1,by omega,by go_num,trivial,hA'.out⟩
     case measure=>simp [intOf];omega
   | false =>
    have E : Hid (Z = false):=by
     show _ = _
     cases hz : Z with
     | false=>rfl
     | true =>
      have:=rn_at (HZ.out.trans hz) hx
      rw [hax] at this;cases this
    have hx2:=ok_not hax
    clear hx hA hax
    rcases hx2 with (q1 | ⟨q1,q2⟩ | ⟨q1,q2⟩ | q1) | ⟨rfl,q1,q2⟩
    ·obtain ⟨f1,f2,f3,f4,f5,f6⟩ : Six x false true false true true false:=by refine ⟨?_, ?_, ?_, ?_, ?_, ?_⟩ <;> simp <;> omega
     cases k with
     | zero =>
      go_wp2_with fail
      go_ret
      exact ⟨by rw [E.out];rfl,rfl⟩
     | succ k =>
      have t0 : ((k : Int) + 1 == 0) = false:=by simp;omega
      go_wp2_with fail
      go_ret
      exact ⟨by rw [E.out];rfl,rfl⟩
    ·obtain ⟨f1,f2,f3,f4,f5,f6⟩ : Six x false true false true false true:=by refine ⟨?_, ?_, ?_, ?_, ?_, ?_⟩ <;> simp <;> omega
     cases k with
     | zero =>
      go_wp2_with fail
      go_ret
      exact ⟨by rw [E.out];rfl,rfl⟩
     | succ k =>
      have t0 : ((k : Int) + 1 == 0) = false:=by simp;omega
      go_wp2_with fail
      go_ret
      exact ⟨by rw [E.out];rfl,rfl⟩
    ·obtain ⟨f1,f2,f3,f4,f5,f6⟩ : Six x false true true false false true:=by refine ⟨?_, ?_, ?_, ?_, ?_, ?_⟩ <;> simp <;> omega
     cases k with
     | zero =>
      go_wp2_with fail
      go_ret
      exact ⟨by rw [E.out];rfl,rfl⟩
     | succ k =>
      have t0 : ((k : Int) + 1 == 0) = false:=by simp;omega
      go_wp2_with fail
      go_ret
      exact ⟨by rw [E.out];rfl,rfl⟩
    ·obtain ⟨f1,f2,f3,f4,f5,f6⟩ : Six x true false true false false true:=by refine ⟨?_, ?_, ?_, ?_, ?_, ?_⟩ <;> simp <;> omega
     cases k with
     | zero =>
      go_wp2_with fail
      go_ret
      exact ⟨by rw [E.out];rfl,rfl⟩
     | succ k =>
      have t0 : ((k : Int) + 1 == 0) = false:=by simp;omega
      go_wp2_with fail
      go_ret
      exact ⟨by rw [E.out];rfl,rfl⟩
    ·obtain ⟨f1,f2,f3,f4,f5,f6⟩ : Six x false true false true false false:=by refine ⟨?_, ?_, ?_, ?_, ?_, ?_⟩ <;> simp <;> omega
     go_wp2_with fail
     go_ret
     exact ⟨by rw [E.out];rfl,rfl⟩
  ·have hk2 : k = s.length:=by omega
   have ALL : Hid (∀ (j : Nat) (x : UInt8),s[j]? = some x → okAt j x = true):=fun j x hj=>hA.out j x (by have:=(List.getElem?_eq_some_iff.1 hj).1;omega) hj
   clear hA
   obtain ⟨n,hn⟩ : ∃ n,s.length = n:=⟨_,rfl⟩
   by_cases d1 : 1 ≤ s.length
   ·by_cases d2 : s.length ≤ 16
    ·have E : Hid (Z = true):=by show _ = _;rw [← HZ.out];exact rn_yes d1 d2 ALL.out
     have t1 : decide ((1 : Int) ≤ (s.length : Int)) = true:=by simp;omega
     have t2 : decide ((s.length : Int) ≤ 16) = true:=by simp;omega
     clear hn
     go_wp2_with fail
     go_ret
     exact ⟨by rw [E.out];rfl,rfl⟩
    ·have E : Hid (Z = false):=by
      show _ = _
      cases hz : Z with
      | false=>rfl
      | true=>exact absurd (EA (HZ.out.trans hz)).2 d2
     have t1 : decide ((1 : Int) ≤ (s.length : Int)) = true:=by simp;omega
     have t2 : decide ((s.length : Int) ≤ 16) = false:=by simp;omega
     clear hn
     go_wp2_with fail
     go_ret
     exact ⟨by rw [E.out];rfl,rfl⟩
   ·have E : Hid (Z = false):=by
     show _ = _
     cases hz : Z with
     | false=>rfl
     | true=>exact absurd (EA (HZ.out.trans hz)).1 d1
    have t1 : decide ((1 : Int) ≤ (s.length : Int)) = false:=by simp;omega
    clear hn
    go_wp2_with fail
    go_ret
    exact ⟨by rw [E.out];rfl,rfl⟩
def fitB (p : Pf) (d : Int) : Bool:=p.ok && decide (d + p.depth ≤ 40)
theorem vM {l : List Pf} {n : Int} (h0 : 0 ≤ n) (h : ∀ t ∈ l,(t.depth : Int) + 1 ≤ n) : (dX l : Int) ≤ n:=by
 induction l with
 | nil=>simpa [dX] using h0
 | cons x xs ih =>
  have h1:=h x (by simp)
  have h2:=ih fun t ht=>h t (by simp [ht])
  simp only [dX]
  omega
def FitC (p : Pf) : Prop:=∀ (w : World) (d : Int) (x : Value),cU w p x → p.sz → p.few → 0 ≤ d → d ≤ 41 → Calls Tryz.prog 184 #[x,.int .i64 d] w (Rt (.bool (fitB p d)) w)
theorem fit_step (r : Bs) (f : Fm) (lb : Int) (ps : List Pf) (ms : List (List Int)) (hh : ∀ p ∈ ps,FitC p) : FitC (.mk r f lb ps ms):=by
 intro w dd x hx hsz hfew hd1 hd2
 obtain ⟨a,k,c,a',m,d,s,sn,sc,q,qn,qc,rfl,h1,h2,h3,h4⟩:=hx
 simp only [Pf.rule,Pf.form,Pf.label,Pf.sub,Pf.marks] at *
 have hs:=h3.len
 have hq:=h4.len
 have hsl : sn ≤ 9223372036854775807:=by have:=le63 hs.2.2;omega
 have hql : qn ≤ 9223372036854775807:=by have:=le63 hq.2.2;omega
 obtain ⟨zr,zf,zp⟩:=hsz
 obtain ⟨nf,np⟩:=hfew
 have L3:=Hd hs.1
 have L4:=Hd hq.1
 have H3:=Hd h3
 have H4:=Hd h4
 have H:=Hd hh
 have ZP:=Hd ((jM ps).1 zp)
 have NP:=Hd ((yC ps).1 np)
 obtain ⟨Z,hZ⟩ : ∃ Z,fitB (.mk r f lb ps ms) dd = Z:=⟨_,rfl⟩
 rw [hZ]
 have ZT : Hid (Z = true → f.right = true ∧ dF r lb ps.length ms = true ∧ iX ps = true ∧ dd + dX ps ≤ 40):=fun e=>by
  rw [e] at hZ
  simp only [fitB,Pf.ok,Pf.depth,Bool.and_eq_true,decide_eq_true_eq] at hZ
  exact ⟨hZ.1.1.1,hZ.1.1.2,hZ.1.2,of_decide_eq_true hZ.2⟩
 have ZY : Hid (f.right = true → dF r lb ps.length ms = true → iX ps = true → dd + dX ps ≤ 40 → Z = true):=fun e1 e2 e3 e4=>by
  rw [← hZ]
  simp only [fitB,Pf.ok,Pf.depth,e1,e2,e3,Bool.and_self,Bool.true_and]
  exact decide_eq_true e4
 have ZN : Hid ((Z = true → False) → Z = false):=fun h=>by
  cases hz : Z with
  | false=>rfl
  | true=>exact (h hz).elim
 obtain ⟨fr,hfr⟩ : ∃ fr,f.right = fr:=⟨_,rfl⟩
 have RG : Hid (∀ W,Below w.heap.size w W → Calls Tryz.prog 130 #[.agg #[.int .u8 f.op,str f.name,.slice a k c,.slice a' m d]] W (Rt (.bool fr) W)):=fun W hW=>by
  rw [← hfr]
  exact refRight_c f zf nf _ W ⟨_,_,_,_,_,_,rfl,h1.keep (aA hW),h2.keep (aA hW)⟩
 have RN : Hid (∀ W,Calls Tryz.prog 261 #[str r] W fun e w'=>e = .returned (.bool (bU r)) ∧ W = w'):=fun W=>name41_c r (by unfold maxLen at zr;omega) W
 have B0 : Hid (Below w.heap.size w (w.alloc (.cells #[str r,.int .u8 f.op,str f.name,.slice a k c,.slice a' m d,.int .i64 lb,.slice s sn sc,.slice q qn qc] 53))):=bnew
 have R0 : Hid ((w.alloc (.cells #[str r,.int .u8 f.op,str f.name,.slice a k c,.slice a' m d,.int .i64 lb,.slice s sn sc,.slice q qn qc] 53)).heap[w.heap.size]? = some (.cells #[str r,.int .u8 f.op,str f.name,.slice a k c,.slice a' m d,.int .i64 lb,.slice s sn sc,.slice q qn qc] 53 (0,0))):=heap_alloc_new w _
 clear hs hq zr zf zp nf np h1 h2 h3 h4 hh hZ
 by_cases t1 : dd ≤ 40
 rotate_left
 ·have b1 : decide (40 < dd) = true:=by simp;omega
  have E : Hid (Z = false):=ZN.out fun e=>by have:=(ZT.out e).2.2.2;omega
  clear ZN ZT ZY
  go_enter Tryz.func184,Tryz.ntmps184
  go_wp2_with fail
  go_ret
  exact ⟨by rw [E.out];rfl,B0.out⟩
 have b1 : decide (40 < dd) = false:=by simp;omega
 cases fr
 ·have E : Hid (Z = false):=ZN.out fun e=>by have:=(ZT.out e).1;rw [hfr] at this;cases this
  clear ZN ZT ZY hfr
  go_enter Tryz.func184,Tryz.ntmps184
  go_wp2_with (go_at_call 130;refine (RG.out _ B0.out).mono ?_;rintro e w1 ⟨rfl,v1⟩;have B1:=Hd (aB B0.out v1);clear v1)
  go_ret
  exact ⟨by rw [E.out];rfl,B1.out⟩
 go_enter Tryz.func184,Tryz.ntmps184
 by_cases t2 : sn ≤ 4
 rotate_left
 ·have b2 : decide ((4 : Int) < (sn : Int)) = true:=by simp;omega
  have E : Hid (Z = false):=ZN.out fun e=>by
   have h5:=(ZT.out e).2.1
   have h6:=L3.out
   unfold dF at h5
   split at h5
   ·simp only [Bool.and_eq_true,decide_eq_true_eq] at h5;omega
   ·split at h5
    ·simp only [Bool.and_eq_true,decide_eq_true_eq] at h5;omega
    ·simp only [Bool.and_eq_true,decide_eq_true_eq] at h5;omega
  clear ZN ZT ZY hfr
  go_wp2_with (go_at_call 130;refine (RG.out _ B0.out).mono ?_;rintro e w1 ⟨rfl,v1⟩;have B1:=Hd (aB B0.out v1);have R1:=Hd (kc v1 R0.out);clear v1;obtain ⟨c0,c1,c2,c3,c4,c5,c6,c7⟩:=row53' R1.out)
  go_ret
  exact ⟨by rw [E.out];rfl,B1.out⟩
 have b2 : decide ((4 : Int) < (sn : Int)) = false:=by simp;omega
 by_cases r0 : r = []
 ·subst r0
  have SH : Hid (dF [] lb ps.length ms = (decide (sn = 0) && decide (qn = 0) && decide (1 ≤ lb ∧ lb ≤ 999))):=by
   show _ = _
   unfold dF
   rw [if_pos rfl,L3.out,L4.out]
   congr 2
   cases ms <;> simp
  have b1':=b1
  rcases (show sn ≠ 0 ∨ (sn = 0 ∧ qn ≠ 0) ∨ (sn = 0 ∧ qn = 0 ∧ lb < 1) ∨ (sn = 0 ∧ qn = 0 ∧ 1 ≤ lb ∧ 999 < lb) ∨ (sn = 0 ∧ qn = 0 ∧ 1 ≤ lb ∧ lb ≤ 999) by omega) with h | ⟨rfl,h⟩ | ⟨rfl,rfl,h⟩ | ⟨rfl,rfl,h,h'⟩ | ⟨rfl,rfl,h,h'⟩
  ·have E : Hid (Z = false):=ZN.out fun e=>by have h5:=(ZT.out e).2.1;rw [SH.out] at h5;simp [h] at h5
   have g1 : ((sn : Int) == 0) = false:=by simpa using h
   clear ZN ZT ZY hfr SH h
   go_wp2_with (go_at_call 130;refine (RG.out _ B0.out).mono ?_;rintro e w1 ⟨rfl,v1⟩;have B1:=Hd (aB B0.out v1);have R1:=Hd (kc v1 R0.out);clear v1;obtain ⟨c0,c1,c2,c3,c4,c5,c6,c7⟩:=row53' R1.out)
   go_ret
   exact ⟨by rw [E.out];rfl,B1.out⟩
  ·have E : Hid (Z = false):=ZN.out fun e=>by have h5:=(ZT.out e).2.1;rw [SH.out] at h5;simp [h] at h5
   have g1 : ((qn : Int) == 0) = false:=by simpa using h
   clear ZN ZT ZY hfr SH h
   go_wp2_with (go_at_call 130;refine (RG.out _ B0.out).mono ?_;rintro e w1 ⟨rfl,v1⟩;have B1:=Hd (aB B0.out v1);have R1:=Hd (kc v1 R0.out);clear v1;obtain ⟨c0,c1,c2,c3,c4,c5,c6,c7⟩:=row53' R1.out)
   go_ret
   exact ⟨by rw [E.out];rfl,B1.out⟩
  ·have E : Hid (Z = false):=ZN.out fun e=>by have h5:=(ZT.out e).2.1;rw [SH.out] at h5;simp at h5;omega
   have g1 : decide (1 ≤ lb) = false:=by simp;omega
   clear ZN ZT ZY hfr SH
   go_wp2_with (go_at_call 130;refine (RG.out _ B0.out).mono ?_;rintro e w1 ⟨rfl,v1⟩;have B1:=Hd (aB B0.out v1);have R1:=Hd (kc v1 R0.out);clear v1;obtain ⟨c0,c1,c2,c3,c4,c5,c6,c7⟩:=row53' R1.out)
   go_ret
   exact ⟨by rw [E.out];rfl,B1.out⟩
  ·have E : Hid (Z = false):=ZN.out fun e=>by have h5:=(ZT.out e).2.1;rw [SH.out] at h5;simp at h5;omega
   have g1 : decide (1 ≤ lb) = true:=by simp;omega
   have g2 : decide (lb ≤ 999) = false:=by simp;omega
   clear ZN ZT ZY hfr SH
   go_wp2_with (go_at_call 130;refine (RG.out _ B0.out).mono ?_;rintro e w1 ⟨rfl,v1⟩;have B1:=Hd (aB B0.out v1);have R1:=Hd (kc v1 R0.out);clear v1;obtain ⟨c0,c1,c2,c3,c4,c5,c6,c7⟩:=row53' R1.out)
   go_ret
   exact ⟨by rw [E.out];rfl,B1.out⟩
  ·have E : Hid (Z = true):=by
    have hp : ps = []:=List.eq_nil_of_length_eq_zero L3.out.symm
    refine ZY.out hfr (by rw [SH.out];simp;omega) (by rw [hp];rfl) (by rw [hp];simp [dX];omega)
   have g1 : decide (1 ≤ lb) = true:=by simp;omega
   have g2 : decide (lb ≤ 999) = true:=by simp;omega
   clear ZN ZT ZY hfr SH
   go_wp2_with (go_at_call 130;refine (RG.out _ B0.out).mono ?_;rintro e w1 ⟨rfl,v1⟩;have B1:=Hd (aB B0.out v1);have R1:=Hd (kc v1 R0.out);clear v1;obtain ⟨c0,c1,c2,c3,c4,c5,c6,c7⟩:=row53' R1.out)
   go_ret
   exact ⟨by rw [E.out];rfl,B1.out⟩
 by_cases r1 : r = hole
 ·subst r1
  have SH : Hid (dF hole lb ps.length ms = (decide (sn = 0) && decide (qn = 0) && decide (lb = 0))):=by
   show _ = _
   unfold dF
   rw [if_neg r0,if_pos rfl,L3.out,L4.out]
   congr 2
   cases ms <;> simp
  rcases (show sn ≠ 0 ∨ (sn = 0 ∧ qn ≠ 0) ∨ (sn = 0 ∧ qn = 0 ∧ lb ≠ 0) ∨ (sn = 0 ∧ qn = 0 ∧ lb = 0) by omega) with h | ⟨rfl,h⟩ | ⟨rfl,rfl,h⟩ | ⟨rfl,rfl,rfl⟩
  ·have E : Hid (Z = false):=ZN.out fun e=>by have h5:=(ZT.out e).2.1;rw [SH.out] at h5;simp [h] at h5
   have g1 : ((sn : Int) == 0) = false:=by simpa using h
   clear ZN ZT ZY hfr SH h
   unfold hole at *
   go_wp2_with (go_at_call 130;refine (RG.out _ B0.out).mono ?_;rintro e w1 ⟨rfl,v1⟩;have B1:=Hd (aB B0.out v1);have R1:=Hd (kc v1 R0.out);clear v1;obtain ⟨c0,c1,c2,c3,c4,c5,c6,c7⟩:=row53' R1.out)
   go_ret
   exact ⟨by rw [E.out];rfl,B1.out⟩
  ·have E : Hid (Z = false):=ZN.out fun e=>by have h5:=(ZT.out e).2.1;rw [SH.out] at h5;simp [h] at h5
   have g1 : ((qn : Int) == 0) = false:=by simpa using h
   clear ZN ZT ZY hfr SH h
   unfold hole at *
   go_wp2_with (go_at_call 130;refine (RG.out _ B0.out).mono ?_;rintro e w1 ⟨rfl,v1⟩;have B1:=Hd (aB B0.out v1);have R1:=Hd (kc v1 R0.out);clear v1;obtain ⟨c0,c1,c2,c3,c4,c5,c6,c7⟩:=row53' R1.out)
   go_ret
   exact ⟨by rw [E.out];rfl,B1.out⟩
  ·have E : Hid (Z = false):=ZN.out fun e=>by have h5:=(ZT.out e).2.1;rw [SH.out] at h5;simp [h] at h5
   have g1 : (lb == 0) = false:=by simpa using h
   clear ZN ZT ZY hfr SH h
   unfold hole at *
   go_wp2_with (go_at_call 130;refine (RG.out _ B0.out).mono ?_;rintro e w1 ⟨rfl,v1⟩;have B1:=Hd (aB B0.out v1);have R1:=Hd (kc v1 R0.out);clear v1;obtain ⟨c0,c1,c2,c3,c4,c5,c6,c7⟩:=row53' R1.out)
   go_ret
   exact ⟨by rw [E.out];rfl,B1.out⟩
  ·have E : Hid (Z = true):=by
    have hp : ps = []:=List.eq_nil_of_length_eq_zero L3.out.symm
    refine ZY.out hfr (by rw [SH.out];simp) (by rw [hp];rfl) (by rw [hp];simp [dX];omega)
   clear ZN ZT ZY hfr SH
   unfold hole at *
   go_wp2_with (go_at_call 130;refine (RG.out _ B0.out).mono ?_;rintro e w1 ⟨rfl,v1⟩;have B1:=Hd (aB B0.out v1);have R1:=Hd (kc v1 R0.out);clear v1;obtain ⟨c0,c1,c2,c3,c4,c5,c6,c7⟩:=row53' R1.out)
   go_ret
   exact ⟨by rw [E.out];rfl,B1.out⟩
 have g0 : (r == []) = false:=by simpa using r0
 have g1 : (r == [63]) = false:=by simpa [hole] using r1
 have SH : Hid (dF r lb ps.length ms = (bU r && decide (lb = 0) && decide (ps.length ≤ 4) && decide (ms.length = ps.length) && ms.all fun l=>decide (l.length ≤ 3) && l.all cN)):=by
  show _ = _
  unfold dF
  rw [if_neg r0,if_neg r1]
 clear r0 r1
 obtain ⟨rb,hrb⟩ : ∃ rb,bU r = rb:=⟨_,rfl⟩
 rw [hrb] at RN SH
 clear hrb
 cases rb
 ·have E : Hid (Z = false):=ZN.out fun e=>by have h5:=(ZT.out e).2.1;rw [SH.out] at h5;simp at h5
  clear ZN ZT ZY hfr SH
  go_wp2_with (first | (go_at_call 130;refine (RG.out _ B0.out).mono ?_;rintro e w1 ⟨rfl,v1⟩;have B1:=Hd (aB B0.out v1);have R1:=Hd (kc v1 R0.out);clear v1;obtain ⟨c0,c1,c2,c3,c4,c5,c6,c7⟩:=row53' R1.out) | (go_at_call 261;refine (RN.out _).mono ?_;rintro e w2 ⟨rfl,rfl⟩))
  go_ret
  exact ⟨by rw [E.out];rfl,B1.out⟩
 by_cases hlb : lb = 0
 rotate_left
 ·have E : Hid (Z = false):=ZN.out fun e=>by have h5:=(ZT.out e).2.1;rw [SH.out] at h5;simp [hlb] at h5
  have g2 : (lb != 0) = true:=by simpa using hlb
  clear ZN ZT ZY hfr SH hlb
  go_wp2_with (first | (go_at_call 130;refine (RG.out _ B0.out).mono ?_;rintro e w1 ⟨rfl,v1⟩;have B1:=Hd (aB B0.out v1);have R1:=Hd (kc v1 R0.out);clear v1;obtain ⟨c0,c1,c2,c3,c4,c5,c6,c7⟩:=row53' R1.out) | (go_at_call 261;refine (RN.out _).mono ?_;rintro e w2 ⟨rfl,rfl⟩))
  go_ret
  exact ⟨by rw [E.out];rfl,B1.out⟩
 subst hlb
 by_cases hqs : qn = sn
 rotate_left
 ·have E : Hid (Z = false):=ZN.out fun e=>by
   have h5:=(ZT.out e).2.1
   have h6:=L3.out
   have h7:=L4.out
   rw [SH.out] at h5;simp at h5;omega
  have g3 : ((qn : Int) != (sn : Int)) = true:=by simp;omega
  clear ZN ZT ZY hfr SH hqs
  go_wp2_with (first | (go_at_call 130;refine (RG.out _ B0.out).mono ?_;rintro e w1 ⟨rfl,v1⟩;have B1:=Hd (aB B0.out v1);have R1:=Hd (kc v1 R0.out);clear v1;obtain ⟨c0,c1,c2,c3,c4,c5,c6,c7⟩:=row53' R1.out) | (go_at_call 261;refine (RN.out _).mono ?_;rintro e w2 ⟨rfl,rfl⟩))
  go_ret
  exact ⟨by rw [E.out];rfl,B1.out⟩
 subst hqs
 have g3 : ((qn : Int) != (qn : Int)) = false:=by simp
 have ZE : Hid ((∀ (j : Nat) (T : Pf) (l : List Int),ps[j]? = some T → ms[j]? = some l → l.length ≤ 3 ∧ fitB T (dd + 1) = true ∧ l.all cN = true) → Z = true):=fun ha=>by
  have hl : ms.length = ps.length:=by have:=L3.out;have:=L4.out;omega
  have each : ∀ T ∈ ps,fitB T (dd + 1) = true:=fun T hT=>by
   obtain ⟨j,hj⟩:=List.getElem?_of_mem hT
   obtain ⟨l,hl2⟩:=aF (l:=ms) (j:=j) (by have:=(List.getElem?_eq_some_iff.1 hj).1;omega)
   exact (ha j T l hj hl2).2.1
  refine ZY.out hfr ?_ ((BJ ps).2 fun T hT=>?_) ?_
  ·rw [SH.out]
   simp only [Bool.true_and,Bool.and_eq_true,decide_eq_true_eq]
   refine ⟨⟨⟨trivial,by have:=L3.out;omega⟩,hl⟩,List.all_eq_true.2 fun l hl2=>?_⟩
   obtain ⟨j,hj⟩:=List.getElem?_of_mem hl2
   obtain ⟨T,hT⟩:=aF (l:=ps) (j:=j) (by have:=(List.getElem?_eq_some_iff.1 hj).1;omega)
   have:=ha j T l hT hj
   simp only [this.2.2,Bool.and_true,decide_eq_true_eq]
   exact this.1
  ·have:=each T hT
   simp only [fitB,Bool.and_eq_true] at this
   exact this.1
  ·have:=vM (l:=ps) (n:=40 - dd) (by omega) fun T hT=>by
    have:=each T hT
    simp only [fitB,Bool.and_eq_true,decide_eq_true_eq] at this
    omega
   omega
 have ZF : Hid (∀ (j : Nat) (T : Pf) (l : List Int),ps[j]? = some T → ms[j]? = some l → ¬ (l.length ≤ 3 ∧ fitB T (dd + 1) = true ∧ l.all cN = true) → Z = false):=fun j T l hT hl hn=>by
  refine ZN.out fun e=>hn ?_
  obtain ⟨e1,e2,e3,e4⟩:=ZT.out e
  rw [SH.out] at e2
  simp only [Bool.and_eq_true,decide_eq_true_eq] at e2
  have h5:=List.all_eq_true.1 e2.2 l (List.mem_of_getElem? hl)
  simp only [Bool.and_eq_true,decide_eq_true_eq] at h5
  refine ⟨h5.1, ?_,h5.2⟩
  have hm:=List.mem_of_getElem? hT
  have h6:=qE e3 T hm
  have h7:=sZ T hm
  simp only [fitB,h6,Bool.true_and,decide_eq_true_eq]
  omega
 clear ZN ZT ZY hfr SH
 go_wp2_with (first | (go_at_call 130;refine (RG.out _ B0.out).mono ?_;rintro e w1 ⟨rfl,v1⟩;have B1:=Hd (aB B0.out v1);have R1:=Hd (kc v1 R0.out);clear v1;obtain ⟨c0,c1,c2,c3,c4,c5,c6,c7⟩:=row53' R1.out) | (go_at_call 261;refine (RN.out _).mono ?_;rintro e w2 ⟨rfl,rfl⟩))
 go_loopw [5] (fun i wr=>∃ j : Nat,j ≤ qn ∧ i = .int .i64 j ∧ Hid (Below w.heap.size w wr ∧ wr.heap[w.heap.size]? = some (.cells #[str r,.int .u8 f.op,str f.name,.slice a k c,.slice a' m d,.int .i64 0,.slice s qn sc,.slice q qn qc] 53 (0,0)) ∧ ∀ (i : Nat) (T : Pf) (l : List Int),i < j → ps[i]? = some T → ms[i]? = some l → l.length ≤ 3 ∧ fitB T (dd + 1) = true ∧ l.all cN = true)) (fun i _=>qn - (intOf i).toNat)
 case atStart=>exact ⟨0,Nat.zero_le _,rfl,B1.out,R1.out,fun i T l hi _ _=>by omega⟩
 case round =>
  clear B1 R1 c0 c1 c2 c3 c4 c5 c6 c7
  obtain ⟨j,hj,rfl,hs⟩:=hrel
  obtain ⟨c0,c1,c2,c3,c4,c5,c6,c7⟩:=row53' hs.out.2.1
  by_cases hlt : j < qn
  ·have g4 : decide ((j : Int) < (qn : Int)) = true:=by simp;omega
   obtain ⟨T,hT⟩:=aF (l:=ps) (j:=j) (by rw [← L3.out];exact hlt)
   obtain ⟨l,hl⟩:=aF (l:=ms) (j:=j) (by rw [← L4.out];exact hlt)
   obtain ⟨bb,off,rfl,hc⟩:=H3.out.get (aJ hT)
   obtain ⟨xa,xn,xc,xb,xm,xd,xs,xsn,xsc,xq,xqn,xqc,hx⟩:=hc j _ hT
   obtain ⟨mb,mo,rfl,hcm⟩:=H4.out.get (aJ hl)
   obtain ⟨y,yn,yc,ck,hy⟩:=hcm j l hl
   have hK:=aA hs.out.1
   have d0:=hK _ _ hx.c0;have d1:=hK _ _ hx.c1;have d2:=hK _ _ hx.c2;have d3:=hK _ _ hx.c3
   have d4:=hK _ _ hx.c4;have d5:=hK _ _ hx.c5;have d6:=hK _ _ hx.c6;have d7:=hK _ _ hx.c7
   have e0:=hK _ _ ck
   have X : Hid (cU wr T (.agg #[str T.rule,.int .u8 T.form.op,str T.form.name,.slice xa xn xc,.slice xb xm xd,.int .i64 T.label,.slice xs xsn xsc,.slice xq xqn xqc])):=cU.keep ⟨_,_,_,_,_,_,_,_,_,_,_,_,rfl,hx.args,hx.parts,hx.sub,hx.marks⟩ hK
   have HY:=Hd hy
   have YL:=Hd hy.len.1
   have y63 : yn ≤ 9223372036854775807:=by have h:=hy.len;have:=le63 h.2.2;omega
   have HM:=Hd (List.mem_of_getElem? hT)
   have F1:=Hd (ZF.out j T l hT hl)
   by_cases y3 : yn ≤ 3
   rotate_left
   ·have g5 : decide ((3 : Int) < (yn : Int)) = true:=by simp;omega
    have E : Hid (Z = false):=F1.out fun h=>by have:=YL.out;omega
    have BW:=Hd hs.out.1
    clear hc hcm hx hT hl hK hs hy
    go_wp2_with fail
    go_ret
    exact ⟨by rw [E.out];rfl,BW.out⟩
   have g5 : decide ((3 : Int) < (yn : Int)) = false:=by simp;omega
   obtain ⟨zb,hzb⟩ : ∃ zb,fitB T (dd + 1) = zb:=⟨_,rfl⟩
   have RC : Hid (Calls Tryz.prog 184 #[.agg #[str T.rule,.int .u8 T.form.op,str T.form.name,.slice xa xn xc,.slice xb xm xd,.int .i64 T.label,.slice xs xsn xsc,.slice xq xqn xqc],.int .i64 (dd + 1)] wr (Rt (.bool zb) wr)):=by
    rw [← hzb];exact H.out T HM.out wr (dd + 1) _ X.out (ZP.out T HM.out) (NP.out T HM.out) (by omega) (by omega)
   have BW:=Hd hs.out.1
   have RW:=Hd hs.out.2.1
   have AW:=Hd hs.out.2.2
   have HT:=Hd hT
   have HL:=Hd hl
   have HZB:=Hd hzb
   clear hc hcm hx hT hl hK hs hy hzb
   cases zb
   ·have E : Hid (Z = false):=F1.out fun h=>by have:=h.2.1;rw [HZB.out] at this;cases this
    go_wp2_with (go_at_call 184;refine RC.out.mono ?_;rintro e w3 ⟨rfl,v3⟩;have B3:=Hd (aB BW.out v3);clear v3)
    go_ret
    exact ⟨by rw [E.out];rfl,B3.out⟩
   ·go_wp2_with (go_at_call 184;refine RC.out.mono ?_;rintro e w3 ⟨rfl,v3⟩;have B3:=Hd (aB BW.out v3);have R3:=Hd (kc v3 RW.out);have E3:=Hd (aA v3 _ _ e0);clear v3 c0 c1 c2 c3 c4 c5 c6 c7 d0 d1 d2 d3 d4 d5 d6 d7 e0;obtain ⟨c0,c1,c2,c3,c4,c5,c6,c7⟩:=row53' R3.out;have e0:=E3.out)
    go_loopw [6] (fun i wx=>∃ t : Nat,t ≤ yn ∧ i = .int .i64 t ∧ w3 = wx ∧ Hid (∀ (i : Nat) (x : Int),i < t → l[i]? = some x → cN x = true)) (fun i _=>yn - (intOf i).toNat)
    case atStart=>exact ⟨0,Nat.zero_le _,rfl,rfl,fun i x hi _=>by omega⟩
    case round =>
     obtain ⟨t,ht,rfl,rfl,hA⟩:=hrel
     by_cases hlt2 : t < yn
     ·have g6 : decide ((t : Int) < (yn : Int)) = true:=by simp;omega
      obtain ⟨x,hxx⟩:=aF (l:=l) (j:=t) (by rw [← YL.out];exact hlt2)
      obtain ⟨yb,yo,rfl,hcy⟩:=HY.out.get (aJ hxx)
      have f0:=aA B3.out _ _ (hcy t x hxx)
      by_cases hx0 : x < 0
      ·have g7 : decide (x < 0) = true:=by simpa using hx0
       have E : Hid (Z = false):=F1.out fun h=>by
        have:=List.all_eq_true.1 h.2.2 x (List.mem_of_getElem? hxx)
        simp only [cN,decide_eq_true_eq] at this;omega
       clear hcy hxx hA
       go_wp2_with fail
       go_ret
       exact ⟨by rw [E.out];rfl,B3.out⟩
      have g7 : decide (x < 0) = false:=by simpa using hx0
      by_cases hx9 : 999 < x
      ·have g8 : decide (999 < x) = true:=by simpa using hx9
       have E : Hid (Z = false):=F1.out fun h=>by
        have:=List.all_eq_true.1 h.2.2 x (List.mem_of_getElem? hxx)
        simp only [cN,decide_eq_true_eq] at this;omega
       clear hcy hxx hA
       go_wp2_with fail
       go_ret
       exact ⟨by rw [E.out];rfl,B3.out⟩
      have g8 : decide (999 < x) = false:=by simpa using hx9
      have hA' : Hid (∀ (i : Nat) (z : Int),i < t + 1 → l[i]? = some z → cN z = true):=fun i z hi hz=>by
       by_cases e : i = t
       ·subst e;rw [hxx] at hz;cases hz;simp only [cN,decide_eq_true_eq];omega
       ·exact hA.out i z (by omega) hz
      clear hcy hxx hA
      go_wp2_with fail
      go_roundw
      case rel=>exact ⟨t + 1,by omega,by go_num,trivial,hA'.out⟩
      case measure=>simp [intOf];omega
     ·have g6 : decide ((t : Int) < (yn : Int)) = false:=by simp;omega
      have ML : Hid (l.all cN = true):=List.all_eq_true.2 fun x hx=>by
       obtain ⟨i,hi⟩:=List.getElem?_of_mem hx
       exact hA.out i x (by have:=(List.getElem?_eq_some_iff.1 hi).1;have:=YL.out;omega) hi
      have AN : Hid (∀ (i : Nat) (T : Pf) (l : List Int),i < j + 1 → ps[i]? = some T → ms[i]? = some l → l.length ≤ 3 ∧ fitB T (dd + 1) = true ∧ l.all cN = true):=fun i T' l' hi hT' hl'=>by
       by_cases e : i = j
       ·subst e
        have:=HT.out.symm.trans hT'
        cases this
        have:=HL.out.symm.trans hl'
        cases this
        exact ⟨by have:=YL.out;omega,HZB.out,ML.out⟩
       ·exact AW.out i T' l' (by omega) hT' hl'
      clear hA
      go_wp2_with fail
      go_roundw
      case rel=>exact ⟨j + 1,by omega,by go_num,B3.out,R3.out,AN.out⟩
      case measure=>simp [intOf];omega
  ·have g4 : decide ((j : Int) < (qn : Int)) = false:=by simp;omega
   have E : Hid (Z = true):=ZE.out fun i T l hT hl=>hs.out.2.2 i T l (by have:=(List.getElem?_eq_some_iff.1 hT).1;have:=L3.out;omega) hT hl
   have BW:=Hd hs.out.1
   clear hs
   go_wp2_with fail
   go_ret
   exact ⟨by rw [E.out];rfl,BW.out⟩
mutual
theorem KV : ∀ t : Pf,FitC t
 | .mk r f l ps ms=>fit_step r f l ps ms (EX ps)
theorem EX : ∀ l : List Pf,∀ t ∈ l,FitC t
 | [],_,h=>by cases h
 | x :: xs,t,h=>by
  rcases List.mem_cons.1 h with e | e
  ·rw [e];exact KV x
  ·exact EX xs t e
end
end Go.Proofs.YtcandidgaegghaaGreatDoor
