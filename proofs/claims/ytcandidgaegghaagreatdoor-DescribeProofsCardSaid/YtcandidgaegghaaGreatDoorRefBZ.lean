/- lyceumlaw10.Few: the number of parts and terms, as far as the limit. Conditions: none but those of each statement. -/
import Derived.Test.YtcandidgaegghaaGreatDoorCpZ
import Derived.Test.YtcandidgaegghaaGreatDoorOvAZ
import Derived.Test.YtcandidgaegghaaGreatDoorRdGZ
import Derived.Test.YtcandidgaegghaaGreatDoorAwakeZ
set_option maxRecDepth 10000
set_option linter.unusedSimpArgs false
set_option linter.unusedVariables false
namespace Go.Proofs.YtcandidgaegghaaGreatDoor
open Go Go.RowKit Ly
set_option maxHeartbeats 1600000
def upTo (most : Int) (n : Nat) : Int:=if (n : Int) ≤ most then n else most + 1
def TmZ (t : Tm) : Prop:=∀ (w0 w : World) (most : Int) (x : Value),iS w0 t x → Below w0.heap.size w0 w → 0 ≤ most → most ≤ 600 → Calls Tryz.prog 204 #[x,.int .i64 most] w (Rt (.int .i64 (upTo most t.nodes)) w)
theorem mJ {l : List Tm} : ∀ {j : Nat} {T : Tm},l[j]? = some T → aD (l.take (j + 1)) = aD (l.take j) + T.nodes:=by
 induction l with
 | nil=>intro j T h;simp at h
 | cons t ts ih =>
  intro j T h
  cases j with
  | zero=>simp at h;subst h;simp [aD]
  | succ j=>simp only [List.take_succ_cons,aD];have:=ih (j:=j) (by simpa using h);omega
theorem mE {l : List Fm} : ∀ {j : Nat} {T : Fm},l[j]? = some T → aK (l.take (j + 1)) = aK (l.take j) + T.nodes:=by
 induction l with
 | nil=>intro j T h;simp at h
 | cons t ts ih =>
  intro j T h
  cases j with
  | zero=>simp at h;subst h;simp [aK]
  | succ j=>simp only [List.take_succ_cons,aK];have:=ih (j:=j) (by simpa using h);omega
theorem jP (l : List Tm) (j : Nat) : aD (l.take j) ≤ aD l:=by
 induction l generalizing j with
 | nil=>simp
 | cons t ts ih =>
  cases j with
  | zero=>simp [aD]
  | succ j=>simp only [List.take_succ_cons,aD];have:=ih j;omega
theorem jI (l : List Fm) (j : Nat) : aK (l.take j) ≤ aK l:=by
 induction l generalizing j with
 | nil=>simp
 | cons t ts ih =>
  cases j with
  | zero=>simp [aK]
  | succ j=>simp only [List.take_succ_cons,aK];have:=ih j;omega
theorem zE {most : Int} {n m : Nat} (h : (n : Int) ≤ most) : (n : Int) + upTo (most - n) m = upTo most (n + m):=by
 unfold upTo
 by_cases h1 : (m : Int) ≤ most - n
 ·rw [if_pos h1,if_pos (by omega)];omega
 ·rw [if_neg h1,if_neg (by omega)];omega
theorem nX {most : Int} {n : Nat} (h : (n : Int) ≤ most) : upTo most n = n:=if_pos h
theorem zF {most : Int} {n m : Nat} (h : ¬ (n : Int) ≤ most) (h2 : n ≤ m) : upTo most n = upTo most m:=by
 unfold upTo
 rw [if_neg h,if_neg (by omega)]
theorem fI {most : Int} (n : Nat) (h : 0 ≤ most) : 0 ≤ upTo most n ∧ upTo most n ≤ most + 1 ∧ (upTo most n ≤ most → (n : Int) ≤ most):=by
 unfold upTo
 split <;> refine ⟨?_, ?_, ?_⟩ <;> omega
theorem term_stepZ (v : Bool) (n : Bs) (ts : List Tm) (hh : ∀ t ∈ ts,TmZ t) : TmZ (.mk v n ts):=by
 intro w0 w most x hx hw h0 h1
 obtain ⟨a,k,c,rfl,hx⟩:=hx
 simp only [Tm.v,Tm.name,Tm.args] at *
 have hk:=hx.len
 have hlk : k ≤ 9223372036854775807:=by have:=le63 hk.2.2;omega
 have L1:=Hd hk.1
 have H:=Hd hh
 have HX:=Hd hx
 have HW:=Hd hw
 clear hk hh hx hw
 have NEW:=Hd (heap_alloc_new w (.cells #[.bool v,str n,.slice a k c] 95))
 have HB : Hid (Below w.heap.size w (w.alloc (.cells #[.bool v,str n,.slice a k c] 95))):=bnew
 have hnod : (Tm.mk v n ts).nodes = 1 + aD ts:=by rw [Tm.nodes]
 have NOD:=Hd hnod
 clear hnod
 go_enter Tryz.func204,Tryz.ntmps204
 go_wp2_with fail
 go_loopw [5,6] (fun u i wr=>∃ (j : Nat) (z : Int),j ≤ k ∧ i = .int .i64 j ∧ u = .int .i64 z ∧ 0 ≤ z ∧ z ≤ 601 ∧ Hid (z = upTo most (1 + aD (ts.take j)) ∧ Below w.heap.size w wr ∧ wr.heap[w.heap.size]? = some (.cells #[.bool v,str n,.slice a k c] 95 (0,0)))) (fun _ i _=>k - (intOf i).toNat)
 case atStart =>
  have q : (1 : Int) = upTo most (1 + aD (ts.take 0)):=by
   simp only [List.take_zero,aD]
   unfold upTo
   split <;> omega
  exact ⟨0,1,Nat.zero_le _,rfl,rfl,by omega,by omega,q,HB.out,NEW.out⟩
 case round =>
  obtain ⟨j,z,hj,rfl,rfl,z0,z1,hs⟩:=hrel
  obtain ⟨x0,x1,x2,-,-,-⟩:=row95' hs.out.2.2
  have hgt : w.heap.size < wr.heap.size:=(Array.getElem?_eq_some_iff.1 hs.out.2.2).1
  by_cases hlt : j < k
  ·by_cases hz : z ≤ most
   ·obtain ⟨T,hT⟩:=aF (l:=ts) (j:=j) (by rw [← L1.out];exact hlt)
    obtain ⟨bb,off,rfl,hc⟩:=HX.out.get (aJ hT)
    obtain ⟨y0,y1,y2,hy⟩:=hc j _ hT
    have hK:=aA (aB HW.out hs.out.2.1)
    have c0:=hK _ _ hy.c0;have c1:=hK _ _ hy.c1;have c2:=hK _ _ hy.c2
    have X : Hid (iS w0 T (.agg #[.bool T.v,str T.name,.slice y0 y1 y2])):=⟨_,_,_,rfl,hy.at_⟩
    have HM:=Hd (List.mem_of_getElem? hT)
    have TK:=Hd (mJ hT)
    obtain ⟨q,hq⟩ : ∃ q,upTo (most - z) T.nodes = q:=⟨_,rfl⟩
    have q01:=fI T.nodes (show 0 ≤ most - z by omega)
    rw [hq] at q01
    obtain ⟨q0,q1,-⟩:=q01
    have HQ:=Hd hq
    clear hc hy hT hK hq
    go_wp2_with (go_at_call 204;refine (H.out T HM.out w0 _ (most - z) _ X.out (aB HW.out hs.out.2.1) (by omega) (by omega)).mono ?_;rintro e w3 ⟨rfl,b3⟩;rw [show upTo (most - z) T.nodes = q from HQ.out])
    go_roundw
    case rel =>
     have e1:=hs.out.1
     have r1:=fI (1 + aD (ts.take j)) h0
     have e2 : ((1 + aD (ts.take j) : Nat) : Int) ≤ most:=r1.2.2 (by omega)
     rw [nX e2] at e1
     have e3:=zE (m:=T.nodes) e2
     have r2:=fI (1 + aD (ts.take (j + 1))) h0
     have e4 : z + q = upTo most (1 + aD (ts.take (j + 1))):=by
      rw [TK.out,← HQ.out,e1,e3,Nat.add_assoc]
     refine ⟨j + 1,z + q,by omega,by go_num,by go_num,by omega,by omega,e4,aB hs.out.2.1 b3,kc b3 hs.out.2.2⟩
    case measure=>simp [intOf];omega
   ·go_wp2_with fail
    go_ret
    refine ⟨?_,hs.out.2.1⟩
    have e1:=hs.out.1
    have e2 : ¬ ((1 + aD (ts.take j) : Nat) : Int) ≤ most:=fun h=>by have:=nX h;omega
    rw [NOD.out,e1,zF e2 (m:=1 + aD ts) (by have:=jP ts j;omega)]
    rfl
  ·go_wp2_with fail
   go_ret
   refine ⟨?_,hs.out.2.1⟩
   have e1:=hs.out.1
   rw [List.take_of_length_le (by rw [← L1.out];omega)] at e1
   rw [NOD.out,e1]
   rfl
mutual
theorem CK : ∀ t : Tm,TmZ t
 | .mk v n ts=>term_stepZ v n ts (yX ts)
theorem yX : ∀ l : List Tm,∀ t ∈ l,TmZ t
 | [],_,h=>by cases h
 | x :: xs,t,h=>by
  rcases List.mem_cons.1 h with e | e
  ·rw [e];exact CK x
  ·exact yX xs t e
end
def FmZ (f : Fm) : Prop:=∀ (w0 w : World) (most : Int) (x : Value),bV w0 f x → Below w0.heap.size w0 w → 0 ≤ most → most ≤ 600 → Calls Tryz.prog 125 #[x,.int .i64 most] w (Rt (.int .i64 (upTo most f.nodes)) w)
theorem form_stepZ (op : Int) (n : Bs) (ts : List Tm) (fs : List Fm) (hh : ∀ f ∈ fs,FmZ f) : FmZ (.mk op n ts fs):=by
 intro w0 w most x hx hw h0 h1
 obtain ⟨a,k,c,a',m,d,rfl,hx,hx2⟩:=hx
 simp only [Fm.op,Fm.name,Fm.args,Fm.sub] at *
 have hk:=hx.len
 have hm:=hx2.len
 have hlk : k ≤ 9223372036854775807:=by have:=le63 hk.2.2;omega
 have hlm : m ≤ 9223372036854775807:=by have:=le63 hm.2.2;omega
 have L1:=Hd hk.1
 have L2:=Hd hm.1
 have H:=Hd hh
 have HX:=Hd hx
 have HX2:=Hd hx2
 have HW:=Hd hw
 clear hk hm hh hx hx2 hw
 have NEW:=Hd (heap_alloc_new w (.cells #[.int .u8 op,str n,.slice a k c,.slice a' m d] 25))
 have HB : Hid (Below w.heap.size w (w.alloc (.cells #[.int .u8 op,str n,.slice a k c,.slice a' m d] 25))):=bnew
 have hnod : (Fm.mk op n ts fs).nodes = 1 + aD ts + aK fs:=by rw [Fm.nodes]
 have NOD:=Hd hnod
 clear hnod
 go_enter Tryz.func125,Tryz.ntmps125
 go_wp2_with fail
 go_loopw [5,6] (fun u i wr=>∃ (j : Nat) (z : Int),j ≤ m ∧ i = .int .i64 j ∧ u = .int .i64 z ∧ 0 ≤ z ∧ z ≤ 601 ∧ Hid (z = upTo most (1 + aK (fs.take j)) ∧ Below w.heap.size w wr ∧ wr.heap[w.heap.size]? = some (.cells #[.int .u8 op,str n,.slice a k c,.slice a' m d] 25 (0,0)))) (fun _ i _=>m - (intOf i).toNat)
 case atStart =>
  have q : (1 : Int) = upTo most (1 + aK (fs.take 0)):=by
   simp only [List.take_zero,aK]
   unfold upTo
   split <;> omega
  exact ⟨0,1,Nat.zero_le _,rfl,rfl,by omega,by omega,q,HB.out,NEW.out⟩
 case round =>
  obtain ⟨j,z,hj,rfl,rfl,z0,z1,hs⟩:=hrel
  obtain ⟨x0,x1,x2,x3,-,-,-,-⟩:=row25' hs.out.2.2
  have hgt : w.heap.size < wr.heap.size:=(Array.getElem?_eq_some_iff.1 hs.out.2.2).1
  by_cases hgo : j < m ∧ z ≤ most
  ·obtain ⟨hlt,hz⟩:=hgo
   obtain ⟨T,hT⟩:=aF (l:=fs) (j:=j) (by rw [← L2.out];exact hlt)
   obtain ⟨bb,off,rfl,hc⟩:=HX2.out.get (aJ hT)
   obtain ⟨y0,y1,y2,y3,y4,y5,hy⟩:=hc j _ hT
   have hK:=aA (aB HW.out hs.out.2.1)
   have c0:=hK _ _ hy.c0;have c1:=hK _ _ hy.c1;have c2:=hK _ _ hy.c2;have c3:=hK _ _ hy.c3
   have X : Hid (bV w0 T (.agg #[.int .u8 T.op,str T.name,.slice y0 y1 y2,.slice y3 y4 y5])):=⟨_,_,_,_,_,_,rfl,hy.at_,hy.at'⟩
   have HM:=Hd (List.mem_of_getElem? hT)
   have TK:=Hd (mE hT)
   obtain ⟨q,hq⟩ : ∃ q,upTo (most - z) T.nodes = q:=⟨_,rfl⟩
   have q01:=fI T.nodes (show 0 ≤ most - z by omega)
   rw [hq] at q01
   obtain ⟨q0,q1,-⟩:=q01
   have HQ:=Hd hq
   clear hc hy hT hK hq
   go_wp2_with (go_at_call 125;refine (H.out T HM.out w0 _ (most - z) _ X.out (aB HW.out hs.out.2.1) (by omega) (by omega)).mono ?_;rintro e w3 ⟨rfl,b3⟩;rw [show upTo (most - z) T.nodes = q from HQ.out])
   go_roundw
   case rel =>
    have e1:=hs.out.1
    have r1:=fI (1 + aK (fs.take j)) h0
    have e2 : ((1 + aK (fs.take j) : Nat) : Int) ≤ most:=r1.2.2 (by omega)
    rw [nX e2] at e1
    have e3:=zE (m:=T.nodes) e2
    have r2:=fI (1 + aK (fs.take (j + 1))) h0
    have e4 : z + q = upTo most (1 + aK (fs.take (j + 1))):=by
     rw [TK.out,← HQ.out,e1,e3,Nat.add_assoc]
    refine ⟨j + 1,z + q,by omega,by go_num,by go_num,by omega,by omega,e4,aB hs.out.2.1 b3,kc b3 hs.out.2.2⟩
   case measure=>simp [intOf];omega
  ·have Z : Hid (z = upTo most (1 + aK fs)):=by
    show _ = _
    have e1:=hs.out.1
    by_cases hlt : j < m
    ·have e2 : ¬ ((1 + aK (fs.take j) : Nat) : Int) ≤ most:=fun h=>by have:=nX h;omega
     rw [e1]
     exact zF e2 (by have:=jI fs j;omega)
    ·rw [List.take_of_length_le (by rw [← L2.out];omega)] at e1
     exact e1
   have BW:=Hd hs.out.2.1
   have NW:=Hd hs.out.2.2
   clear hs HX2 H
   have ex : (j < m ∧ most < z) ∨ ¬ j < m:=by omega
   rcases ex with ⟨e1,e2⟩ | e1
   all_goals
    clear x0 x1
    go_wp2_with fail
    clear x2 x3 hgt hj
    go_loopw [5,7] (fun u i wx=>∃ (i2 : Nat) (y : Int),i2 ≤ k ∧ i = .int .i64 i2 ∧ u = .int .i64 y ∧ 0 ≤ y ∧ y ≤ 601 ∧ Hid (y = upTo most (1 + aK fs + aD (ts.take i2)) ∧ Below w.heap.size w wx ∧ wx.heap[w.heap.size]? = some (.cells #[.int .u8 op,str n,.slice a k c,.slice a' m d] 25 (0,0)))) (fun _ i _=>k - (intOf i).toNat)
    case atStart =>
     exact ⟨0,z,Nat.zero_le _,rfl,rfl,by omega,by omega,by simpa [aD] using Z.out,BW.out,NW.out⟩
    case round =>
     obtain ⟨i2,y,hi2,rfl,rfl,w0',w1',hs⟩:=hrel
     clear Z BW NW
     obtain ⟨x0,x1,x2,x3,-,-,-,-⟩:=row25' hs.out.2.2
     by_cases hgo2 : i2 < k ∧ y ≤ most
     ·obtain ⟨hlt,hz⟩:=hgo2
      obtain ⟨T,hT⟩:=aF (l:=ts) (j:=i2) (by rw [← L1.out];exact hlt)
      obtain ⟨bb,off,rfl,hc⟩:=HX.out.get (aJ hT)
      obtain ⟨y0,y1,y2,hy⟩:=hc i2 _ hT
      have hK:=aA (aB HW.out hs.out.2.1)
      have c0:=hK _ _ hy.c0;have c1:=hK _ _ hy.c1;have c2:=hK _ _ hy.c2
      have X : Hid (iS w0 T (.agg #[.bool T.v,str T.name,.slice y0 y1 y2])):=⟨_,_,_,rfl,hy.at_⟩
      have TK:=Hd (mJ hT)
      obtain ⟨q,hq⟩ : ∃ q,upTo (most - y) T.nodes = q:=⟨_,rfl⟩
      have q01:=fI T.nodes (show 0 ≤ most - y by omega)
      rw [hq] at q01
      obtain ⟨q0,q1,-⟩:=q01
      have HQ:=Hd hq
      clear hc hy hT hK hq
      go_wp2_with (go_at_call 204;refine (CK T w0 _ (most - y) _ X.out (aB HW.out hs.out.2.1) (by omega) (by omega)).mono ?_;rintro e w3 ⟨rfl,b3⟩;rw [show upTo (most - y) T.nodes = q from HQ.out])
      go_roundw
      case rel =>
       have e1:=hs.out.1
       have r1:=fI (1 + aK fs + aD (ts.take i2)) h0
       have e2 : ((1 + aK fs + aD (ts.take i2) : Nat) : Int) ≤ most:=r1.2.2 (by omega)
       rw [nX e2] at e1
       have e3:=zE (m:=T.nodes) e2
       have r2:=fI (1 + aK fs + aD (ts.take (i2 + 1))) h0
       have e4 : y + q = upTo most (1 + aK fs + aD (ts.take (i2 + 1))):=by
        rw [TK.out,← HQ.out,e1,e3,Nat.add_assoc]
       refine ⟨i2 + 1,y + q,by omega,by go_num,by go_num,by omega,by omega,e4,aB hs.out.2.1 b3,kc b3 hs.out.2.2⟩
      case measure=>simp [intOf];omega
     ·have Y : Hid (y = upTo most (Fm.mk op n ts fs).nodes):=by
       show _ = _
       have e1:=hs.out.1
       rw [NOD.out,show 1 + aD ts + aK fs = 1 + aK fs + aD ts by omega]
       by_cases hlt : i2 < k
       ·have e2 : ¬ ((1 + aK fs + aD (ts.take i2) : Nat) : Int) ≤ most:=fun h=>by have:=nX h;omega
        rw [e1]
        exact zF e2 (by have:=jP ts i2;omega)
       ·rw [List.take_of_length_le (by rw [← L1.out];omega)] at e1
        exact e1
      have ex : (i2 < k ∧ most < y) ∨ ¬ i2 < k:=by omega
      rcases ex with ⟨e1,e2⟩ | e1
      all_goals
       go_wp2_with fail
       go_ret
       exact ⟨by rw [← Y.out];rfl,hs.out.2.1⟩
mutual
theorem tW : ∀ t : Fm,FmZ t
 | .mk o n ts fs=>form_stepZ o n ts fs (xE fs)
theorem xE : ∀ l : List Fm,∀ t ∈ l,FmZ t
 | [],_,h=>by cases h
 | x :: xs,t,h=>by
  rcases List.mem_cons.1 h with e | e
  ·rw [e];exact tW x
  ·exact xE xs t e
end
theorem fewForms_c (l : List Fm) (a : Option Addr) (k c : Nat) (w : World) (hx : cD w l (.slice a k c)) : Calls Tryz.prog 49 #[.slice a k c] w (Rt (.bool (decide (aK l ≤ 600))) w):=by
 have hk:=hx.len
 have hlk : k ≤ 9223372036854775807:=by have:=le63 hk.2.2;omega
 have L1:=Hd hk.1
 have HX:=Hd hx
 clear hk hx
 go_enter Tryz.func49,Tryz.ntmps49
 go_wp2_with fail
 go_loopw [3,4] (fun u i wr=>∃ (j : Nat) (z : Int),j ≤ k ∧ i = .int .i64 j ∧ u = .int .i64 z ∧ 0 ≤ z ∧ z ≤ 600 ∧ Hid (z = aK (l.take j) ∧ Below w.heap.size w wr)) (fun _ i _=>k - (intOf i).toNat)
 case atStart=>exact ⟨0,0,Nat.zero_le _,rfl,rfl,by omega,by omega,by simp [aK],Below.refl _ _⟩
 case round =>
  obtain ⟨j,z,hj,rfl,rfl,z0,z1,hs⟩:=hrel
  by_cases hlt : j < k
  ·obtain ⟨T,hT⟩:=aF (l:=l) (j:=j) (by rw [← L1.out];exact hlt)
   obtain ⟨bb,off,rfl,hc⟩:=HX.out.get (aJ hT)
   obtain ⟨y0,y1,y2,y3,y4,y5,hy⟩:=hc j _ hT
   have hK:=aA hs.out.2
   have c0:=hK _ _ hy.c0;have c1:=hK _ _ hy.c1;have c2:=hK _ _ hy.c2;have c3:=hK _ _ hy.c3
   have X : Hid (bV w T (.agg #[.int .u8 T.op,str T.name,.slice y0 y1 y2,.slice y3 y4 y5])):=⟨_,_,_,_,_,_,rfl,hy.at_,hy.at'⟩
   have TK:=Hd (mE hT)
   have TL:=Hd (jI l (j + 1))
   obtain ⟨q,hq⟩ : ∃ q,upTo 600 T.nodes = q:=⟨_,rfl⟩
   have q01:=fI T.nodes (show (0 : Int) ≤ 600 by omega)
   rw [hq] at q01
   obtain ⟨q0,q1,q2⟩:=q01
   have Q2:=Hd q2
   have HQ:=Hd hq
   clear hc hy hT hK hq q2
   by_cases hbig : z + q ≤ 600
   ·have hb' : ¬ 600 < z + q:=by omega
    go_wp2_with (go_at_call 125;refine (tW T w _ 600 _ X.out hs.out.2 (by omega) (by omega)).mono ?_;rintro e w3 ⟨rfl,b3⟩;rw [show upTo 600 T.nodes = q from HQ.out])
    go_roundw
    case rel =>
     have e1:=hs.out.1
     have e2:=HQ.out
     rw [nX (Q2.out (by omega))] at e2
     exact ⟨j + 1,z + q,by omega,by go_num,by go_num,by omega,by omega,by rw [TK.out];omega,aB hs.out.2 b3⟩
    case measure=>simp [intOf];omega
   ·have hb' : 600 < z + q:=by omega
    have HBIG:=Hd hbig
    clear hbig
    go_wp2_with (go_at_call 125;refine (tW T w _ 600 _ X.out hs.out.2 (by omega) (by omega)).mono ?_;rintro e w3 ⟨rfl,b3⟩;rw [show upTo 600 T.nodes = q from HQ.out])
    go_ret
    refine ⟨?_,aB hs.out.2 b3⟩
    have e1:=hs.out.1
    have : ¬ aK l ≤ 600:=fun h=>by
     have e2:=HQ.out
     have e3:=TK.out
     have e4:=TL.out
     unfold upTo at e2
     split at e2 <;> omega
    rw [decide_eq_false this]
    rfl
  ·go_wp2_with fail
   go_ret
   refine ⟨?_,hs.out.2⟩
   have e1:=hs.out.1
   rw [List.take_of_length_le (by rw [← L1.out];omega)] at e1
   rw [decide_eq_true (show aK l ≤ 600 by omega)]
   rfl
theorem few_c (l : List Fm) (a : Option Addr) (k c : Nat) (w : World) (hx : cD w l (.slice a k c)) : Calls Tryz.prog 12 #[.slice a k c] w (Rt (.bool (decide (aK l ≤ 600))) w):=by
 obtain ⟨b,hb⟩ : ∃ b,decide (aK l ≤ 600) = b:=⟨_,rfl⟩
 have H:=Hd (fewForms_c l a k c w hx)
 rw [hb] at H
 rw [hb]
 clear hx hb
 go_enter Tryz.func12,Tryz.ntmps12
 go_wp2_with (go_at_call 49;refine H.out.mono ?_;rintro e w3 ⟨rfl,b3⟩)
 go_ret
 exact ⟨rfl,b3⟩
open Go Go.RowKit Ly
set_option maxHeartbeats 1600000
def TmsR (l : List Tm) : Prop:=∀ (w0 w : World) (a : Option Addr) (k c : Nat),bI w0 l (.slice a k c) → Below w0.heap.size w0 w → aD l ≤ 1000000 → Calls Tryz.prog 275 #[.slice a k c] w (Rt (.int .i64 (aD l)) w)
theorem CA (l : List Tm) (hh : ∀ t ∈ l,TmsR t.args) : TmsR l:=by
 intro w0 w a k c hx hw hn
 have hk:=hx.len
 have hlk : k ≤ 9223372036854775807:=by have:=le63 hk.2.2;omega
 have L1:=Hd hk.1
 have H:=Hd hh
 have HX:=Hd hx
 have HW:=Hd hw
 have HN:=Hd hn
 clear hk hh hx hw hn
 go_enter Tryz.func275,Tryz.ntmps275
 go_wp2_with fail
 go_loopw [3,4] (fun u i wr=>∃ (j : Nat) (z : Int),j ≤ k ∧ i = .int .i64 j ∧ u = .int .i64 z ∧ 0 ≤ z ∧ z ≤ 1000000 ∧ Hid (z = aD (l.take j) ∧ Below w.heap.size w wr)) (fun _ i _=>k - (intOf i).toNat)
 case atStart=>exact ⟨0,0,Nat.zero_le _,rfl,rfl,by omega,by omega,by simp [aD],Below.refl _ _⟩
 case round =>
  obtain ⟨j,z,hj,rfl,rfl,z0,z1,hs⟩:=hrel
  by_cases hlt : j < k
  ·obtain ⟨T,hT⟩:=aF (l:=l) (j:=j) (by rw [← L1.out];exact hlt)
   obtain ⟨bb,off,rfl,hc⟩:=HX.out.get (aJ hT)
   obtain ⟨y0,y1,y2,hy⟩:=hc j _ hT
   have hK:=aA (aB HW.out hs.out.2)
   have c0:=hK _ _ hy.c0;have c1:=hK _ _ hy.c1;have c2:=hK _ _ hy.c2
   have X : Hid (bI w0 T.args (.slice y0 y1 y2)):=hy.at_
   have HM:=Hd (List.mem_of_getElem? hT)
   have TK : Hid (aD (l.take (j + 1)) = aD (l.take j) + (1 + aD T.args)):=by
    show _ = _
    rw [mJ hT]
    cases T
    rw [Tm.nodes];rfl
   have TL:=Hd (jP l (j + 1))
   obtain ⟨q,hq⟩ : ∃ q,aD T.args = q:=⟨_,rfl⟩
   have HQ:=Hd hq
   have q1 : (z + 1 + q : Int) ≤ 1000000:=by have e1:=hs.out.1;have e2:=TK.out;have e3:=TL.out;have e4:=HN.out;omega
   clear hc hy hT hK hq
   go_wp2_with (go_at_call 275;refine (H.out T HM.out w0 _ _ _ _ X.out (aB HW.out hs.out.2) (by rw [HQ.out];omega)).mono ?_;rintro e w3 ⟨rfl,b3⟩;rw [show aD T.args = q from HQ.out])
   go_roundw
   case rel=>exact ⟨j + 1,z + 1 + q,by omega,by go_num,by go_num,by omega,by omega,by rw [TK.out,HQ.out];have:=hs.out.1;omega,aB hs.out.2 b3⟩
   case measure=>simp [intOf];omega
  ·go_wp2_with fail
   go_ret
   refine ⟨?_,hs.out.2⟩
   have e1:=hs.out.1
   rw [List.take_of_length_le (by rw [← L1.out];omega)] at e1
   rw [← e1]
   rfl
mutual
theorem size_tm : ∀ t : Tm,TmsR t.args
 | .mk v n ts=>CA ts (yQ ts)
theorem yQ : ∀ l : List Tm,∀ t ∈ l,TmsR t.args
 | [],_,h=>by cases h
 | x :: xs,t,h=>by
  rcases List.mem_cons.1 h with e | e
  ·rw [e];exact size_tm x
  ·exact yQ xs t e
end
theorem size_c (l : List Tm) : TmsR l:=CA l (yQ l)
def FmR (f : Fm) : Prop:=∀ (w0 w : World) (x : Value),bV w0 f x → Below w0.heap.size w0 w → f.nodes ≤ 1000000 → Calls Tryz.prog 210 #[x] w (Rt (.int .i64 f.nodes) w)
theorem nodes_step (op : Int) (n : Bs) (ts : List Tm) (fs : List Fm) (hh : ∀ f ∈ fs,FmR f) : FmR (.mk op n ts fs):=by
 intro w0 w x hx hw hn
 obtain ⟨a,k,c,a',m,d,rfl,hx,hx2⟩:=hx
 simp only [Fm.op,Fm.name,Fm.args,Fm.sub] at *
 have hm:=hx2.len
 have hlm : m ≤ 9223372036854775807:=by have:=le63 hm.2.2;omega
 have L2:=Hd hm.1
 have H:=Hd hh
 have HX:=Hd hx
 have HX2:=Hd hx2
 have HW:=Hd hw
 clear hm hh hx hx2 hw
 have NEW:=Hd (heap_alloc_new w (.cells #[.int .u8 op,str n,.slice a k c,.slice a' m d] 25))
 have HB : Hid (Below w.heap.size w (w.alloc (.cells #[.int .u8 op,str n,.slice a k c,.slice a' m d] 25))):=bnew
 have hnod : (Fm.mk op n ts fs).nodes = 1 + aD ts + aK fs:=by rw [Fm.nodes]
 rw [hnod] at hn
 have NOD:=Hd hnod
 obtain ⟨tn,htn⟩ : ∃ q,aD ts = q:=⟨_,rfl⟩
 have TN:=Hd htn
 have HN:=Hd hn
 have hq : (tn : Int) ≤ 999999:=by omega
 clear hnod htn hn
 go_enter Tryz.func210,Tryz.ntmps210
 go_wp2_with (go_at_call 275;refine (size_c ts w0 _ a k c HX.out (aB HW.out HB.out) (by rw [TN.out];omega)).mono ?_;rintro e w1 ⟨rfl,b1⟩;rw [show aD ts = tn from TN.out];have B1:=Hd (aB HB.out b1);have NW:=Hd (kc b1 NEW.out);clear b1;obtain ⟨x0,x1,x2,x3,-,-,-,-⟩:=row25' NW.out)
 clear x0 x1 x2 x3
 go_loopw [3,4] (fun u i wr=>∃ (j : Nat) (z : Int),j ≤ m ∧ i = .int .i64 j ∧ u = .int .i64 z ∧ 0 ≤ z ∧ z ≤ 1000000 ∧ Hid (z = 1 + tn + aK (fs.take j) ∧ Below w.heap.size w wr ∧ wr.heap[w.heap.size]? = some (.cells #[.int .u8 op,str n,.slice a k c,.slice a' m d] 25 (0,0)))) (fun _ i _=>m - (intOf i).toNat)
 case atStart=>exact ⟨0,1 + tn,Nat.zero_le _,rfl,by go_num,by omega,by omega,by simp [aK],B1.out,NW.out⟩
 case round =>
  clear B1 NW
  obtain ⟨j,z,hj,rfl,rfl,z0,z1,hs⟩:=hrel
  obtain ⟨x0,x1,x2,x3,-,-,-,-⟩:=row25' hs.out.2.2
  by_cases hlt : j < m
  ·obtain ⟨T,hT⟩:=aF (l:=fs) (j:=j) (by rw [← L2.out];exact hlt)
   obtain ⟨bb,off,rfl,hc⟩:=HX2.out.get (aJ hT)
   obtain ⟨y0,y1,y2,y3,y4,y5,hy⟩:=hc j _ hT
   have hK:=aA (aB HW.out hs.out.2.1)
   have c0:=hK _ _ hy.c0;have c1:=hK _ _ hy.c1;have c2:=hK _ _ hy.c2;have c3:=hK _ _ hy.c3
   have X : Hid (bV w0 T (.agg #[.int .u8 T.op,str T.name,.slice y0 y1 y2,.slice y3 y4 y5])):=⟨_,_,_,_,_,_,rfl,hy.at_,hy.at'⟩
   have HM:=Hd (List.mem_of_getElem? hT)
   have TK:=Hd (mE hT)
   have TL:=Hd (jI fs (j + 1))
   obtain ⟨q,hq⟩ : ∃ q,T.nodes = q:=⟨_,rfl⟩
   have HQ:=Hd hq
   have q1 : (z + q : Int) ≤ 1000000:=by have e1:=hs.out.1;have e2:=TK.out;have e3:=TL.out;have e4:=HN.out;have e5:=TN.out;omega
   clear hc hy hT hK hq
   go_wp2_with (go_at_call 210;refine (H.out T HM.out w0 _ _ X.out (aB HW.out hs.out.2.1) (by rw [HQ.out];omega)).mono ?_;rintro e w3 ⟨rfl,b3⟩;rw [show T.nodes = q from HQ.out])
   go_roundw
   case rel=>exact ⟨j + 1,z + q,by omega,by go_num,by go_num,by omega,by omega,by rw [TK.out,HQ.out];have:=hs.out.1;omega,aB hs.out.2.1 b3,kc b3 hs.out.2.2⟩
   case measure=>simp [intOf];omega
  ·go_wp2_with fail
   go_ret
   refine ⟨?_,hs.out.2.1⟩
   have e1:=hs.out.1
   rw [List.take_of_length_le (by rw [← L2.out];omega)] at e1
   rw [NOD.out,TN.out]
   have e2 : z = ((1 + tn + aK fs : Nat) : Int):=by omega
   rw [← e2]
   rfl
mutual
theorem JS : ∀ t : Fm,FmR t
 | .mk o n ts fs=>nodes_step o n ts fs (AV fs)
theorem AV : ∀ l : List Fm,∀ t ∈ l,FmR t
 | [],_,h=>by cases h
 | x :: xs,t,h=>by
  rcases List.mem_cons.1 h with e | e
  ·rw [e];exact JS x
  ·exact AV xs t e
end
open Go Go.RowKit Ly
set_option maxHeartbeats 1600000
theorem tmsDepth_take {l : List Tm} : ∀ {j : Nat} {T : Tm},l[j]? = some T → bG (l.take (j + 1)) = max (bG (l.take j)) T.depth:=by
 induction l with
 | nil=>intro j T h;simp at h
 | cons t ts ih =>
  intro j T h
  cases j with
  | zero=>simp at h;subst h;simp [bG]
  | succ j=>simp only [List.take_succ_cons,bG];have:=ih (j:=j) (by simpa using h);omega
theorem fmsDepth_take {l : List Fm} : ∀ {j : Nat} {T : Fm},l[j]? = some T → dW (l.take (j + 1)) = max (dW (l.take j)) T.depth:=by
 induction l with
 | nil=>intro j T h;simp at h
 | cons t ts ih =>
  intro j T h
  cases j with
  | zero=>simp at h;subst h;simp [dW]
  | succ j=>simp only [List.take_succ_cons,dW];have:=ih (j:=j) (by simpa using h);omega
def TmsE (l : List Tm) : Prop:=∀ (w0 w : World) (a : Option Addr) (k c : Nat),bI w0 l (.slice a k c) → Below w0.heap.size w0 w → bG l ≤ 1000000 → Calls Tryz.prog 276 #[.slice a k c] w (Rt (.int .i64 (bG l)) w)
theorem zX (l : List Tm) (hh : ∀ t ∈ l,TmsE t.args) : TmsE l:=by
 intro w0 w a k c hx hw hn
 have hk:=hx.len
 have hlk : k ≤ 9223372036854775807:=by have:=le63 hk.2.2;omega
 have L1:=Hd hk.1
 have H:=Hd hh
 have HX:=Hd hx
 have HW:=Hd hw
 have HN:=Hd hn
 clear hk hh hx hw hn
 go_enter Tryz.func276,Tryz.ntmps276
 go_wp2_with fail
 go_loopw [3,4] (fun u i wr=>∃ (j : Nat) (z : Int),j ≤ k ∧ i = .int .i64 j ∧ u = .int .i64 z ∧ 0 ≤ z ∧ z ≤ 1000000 ∧ Hid (z = bG (l.take j) ∧ Below w.heap.size w wr)) (fun _ i _=>k - (intOf i).toNat)
 case atStart=>exact ⟨0,0,Nat.zero_le _,rfl,rfl,by omega,by omega,by simp [bG],Below.refl _ _⟩
 case round =>
  obtain ⟨j,z,hj,rfl,rfl,z0,z1,hs⟩:=hrel
  by_cases hlt : j < k
  ·obtain ⟨T,hT⟩:=aF (l:=l) (j:=j) (by rw [← L1.out];exact hlt)
   obtain ⟨bb,off,rfl,hc⟩:=HX.out.get (aJ hT)
   obtain ⟨y0,y1,y2,hy⟩:=hc j _ hT
   have hK:=aA (aB HW.out hs.out.2)
   have c0:=hK _ _ hy.c0;have c1:=hK _ _ hy.c1;have c2:=hK _ _ hy.c2
   have X : Hid (bI w0 T.args (.slice y0 y1 y2)):=hy.at_
   have HM:=Hd (List.mem_of_getElem? hT)
   have TD : T.depth = 1 + bG T.args:=by cases T;rw [Tm.depth];rfl
   have TK : Hid (bG (l.take (j + 1)) = max (bG (l.take j)) (1 + bG T.args)):=by
    show _ = _
    rw [tmsDepth_take hT,TD]
   have TL:=tQ T HM.out
   rw [TD] at TL
   obtain ⟨q,hq⟩ : ∃ q,bG T.args = q:=⟨_,rfl⟩
   have HQ:=Hd hq
   have q1 : (q : Int) ≤ 999999:=by have e4:=HN.out;omega
   clear hc hy hT hK hq TL TD
   have ex : (z < q + 1 ∧ z ≤ q) ∨ (¬ z < q + 1 ∧ q < z):=by omega
   rcases ex with ⟨e1,e2⟩ | ⟨e1,e2⟩
   all_goals
    clear e1
    go_wp2_with (go_at_call 276;refine (H.out T HM.out w0 _ _ _ _ X.out (aB HW.out hs.out.2) (by rw [HQ.out];omega)).mono ?_;rintro e w3 ⟨rfl,b3⟩;rw [show bG T.args = q from HQ.out])
    go_roundw
    case rel=>exact ⟨j + 1,_,by omega,by go_num,rfl,by omega,by omega,by rw [TK.out,HQ.out];have:=hs.out.1;omega,aB hs.out.2 b3⟩
    case measure=>simp [intOf];omega
  ·go_wp2_with fail
   go_ret
   refine ⟨?_,hs.out.2⟩
   have e1:=hs.out.1
   rw [List.take_of_length_le (by rw [← L1.out];omega)] at e1
   rw [← e1]
   rfl
mutual
theorem deep_tm : ∀ t : Tm,TmsE t.args
 | .mk v n ts=>zX ts (xA ts)
theorem xA : ∀ l : List Tm,∀ t ∈ l,TmsE t.args
 | [],_,h=>by cases h
 | x :: xs,t,h=>by
  rcases List.mem_cons.1 h with e | e
  ·rw [e];exact deep_tm x
  ·exact xA xs t e
end
theorem deep_c (l : List Tm) : TmsE l:=zX l (xA l)
def FmE (f : Fm) : Prop:=∀ (w0 w : World) (x : Value),bV w0 f x → Below w0.heap.size w0 w → f.depth ≤ 1000000 → Calls Tryz.prog 211 #[x] w (Rt (.int .i64 f.depth) w)
theorem depth_step (op : Int) (n : Bs) (ts : List Tm) (fs : List Fm) (hh : ∀ f ∈ fs,FmE f) : FmE (.mk op n ts fs):=by
 intro w0 w x hx hw hn
 obtain ⟨a,k,c,a',m,d,rfl,hx,hx2⟩:=hx
 simp only [Fm.op,Fm.name,Fm.args,Fm.sub] at *
 have hm:=hx2.len
 have hlm : m ≤ 9223372036854775807:=by have:=le63 hm.2.2;omega
 have L2:=Hd hm.1
 have H:=Hd hh
 have HX:=Hd hx
 have HX2:=Hd hx2
 have HW:=Hd hw
 clear hm hh hx hx2 hw
 have NEW:=Hd (heap_alloc_new w (.cells #[.int .u8 op,str n,.slice a k c,.slice a' m d] 25))
 have HB : Hid (Below w.heap.size w (w.alloc (.cells #[.int .u8 op,str n,.slice a k c,.slice a' m d] 25))):=bnew
 have hdep : (Fm.mk op n ts fs).depth = 1 + max (bG ts) (dW fs):=by rw [Fm.depth]
 rw [hdep] at hn
 have NOD:=Hd hdep
 obtain ⟨tn,htn⟩ : ∃ q,bG ts = q:=⟨_,rfl⟩
 rw [htn] at hn
 have TN:=Hd htn
 have HN:=Hd hn
 have hq : (tn : Int) ≤ 999999:=by omega
 clear hdep htn hn
 go_enter Tryz.func211,Tryz.ntmps211
 go_wp2_with (go_at_call 276;refine (deep_c ts w0 _ a k c HX.out (aB HW.out HB.out) (by rw [TN.out];omega)).mono ?_;rintro e w1 ⟨rfl,b1⟩;rw [show bG ts = tn from TN.out];have B1:=Hd (aB HB.out b1);have NW:=Hd (kc b1 NEW.out);clear b1;obtain ⟨x0,x1,x2,x3,-,-,-,-⟩:=row25' NW.out)
 clear x0 x1 x2 x3
 go_loopw [3,4] (fun u i wr=>∃ (j : Nat) (z : Int),j ≤ m ∧ i = .int .i64 j ∧ u = .int .i64 z ∧ 0 ≤ z ∧ z ≤ 999999 ∧ Hid (z = max (tn : Int) (dW (fs.take j)) ∧ Below w.heap.size w wr ∧ wr.heap[w.heap.size]? = some (.cells #[.int .u8 op,str n,.slice a k c,.slice a' m d] 25 (0,0)))) (fun _ i _=>m - (intOf i).toNat)
 case atStart=>exact ⟨0,tn,Nat.zero_le _,rfl,by go_num,by omega,by omega,by simp [dW],B1.out,NW.out⟩
 case round =>
  clear B1 NW
  obtain ⟨j,z,hj,rfl,rfl,z0,z1,hs⟩:=hrel
  obtain ⟨x0,x1,x2,x3,-,-,-,-⟩:=row25' hs.out.2.2
  by_cases hlt : j < m
  ·obtain ⟨T,hT⟩:=aF (l:=fs) (j:=j) (by rw [← L2.out];exact hlt)
   obtain ⟨bb,off,rfl,hc⟩:=HX2.out.get (aJ hT)
   obtain ⟨y0,y1,y2,y3,y4,y5,hy⟩:=hc j _ hT
   have hK:=aA (aB HW.out hs.out.2.1)
   have c0:=hK _ _ hy.c0;have c1:=hK _ _ hy.c1;have c2:=hK _ _ hy.c2;have c3:=hK _ _ hy.c3
   have X : Hid (bV w0 T (.agg #[.int .u8 T.op,str T.name,.slice y0 y1 y2,.slice y3 y4 y5])):=⟨_,_,_,_,_,_,rfl,hy.at_,hy.at'⟩
   have HM:=Hd (List.mem_of_getElem? hT)
   have TK:=Hd (fmsDepth_take hT)
   have TL:=nH T HM.out
   obtain ⟨q,hq⟩ : ∃ q,T.depth = q:=⟨_,rfl⟩
   have HQ:=Hd hq
   have q1 : (q : Int) ≤ 999999:=by have e4:=HN.out;omega
   clear hc hy hT hK hq TL
   have ex : z < q ∨ ¬ z < q:=by omega
   rcases ex with e1 | e1
   all_goals
    go_wp2_with (go_at_call 211;refine (H.out T HM.out w0 _ _ X.out (aB HW.out hs.out.2.1) (by rw [HQ.out];omega)).mono ?_;rintro e w3 ⟨rfl,b3⟩;rw [show T.depth = q from HQ.out])
    go_roundw
    case rel=>exact ⟨j + 1,_,by omega,by go_num,rfl,by omega,by omega,by rw [TK.out,HQ.out];have:=hs.out.1;omega,aB hs.out.2.1 b3,kc b3 hs.out.2.2⟩
    case measure=>simp [intOf];omega
  ·go_wp2_with fail
   go_ret
   refine ⟨?_,hs.out.2.1⟩
   have e1:=hs.out.1
   rw [List.take_of_length_le (by rw [← L2.out];omega)] at e1
   rw [NOD.out,TN.out]
   have e2 : z + 1 = ((1 + max tn (dW fs) : Nat) : Int):=by omega
   rw [← e2]
   rfl
mutual
theorem JD : ∀ t : Fm,FmE t
 | .mk o n ts fs=>depth_step o n ts fs (zZ fs)
theorem zZ : ∀ l : List Fm,∀ t ∈ l,FmE t
 | [],_,h=>by cases h
 | x :: xs,t,h=>by
  rcases List.mem_cons.1 h with e | e
  ·rw [e];exact JD x
  ·exact zZ xs t e
end
end Go.Proofs.YtcandidgaegghaaGreatDoor
