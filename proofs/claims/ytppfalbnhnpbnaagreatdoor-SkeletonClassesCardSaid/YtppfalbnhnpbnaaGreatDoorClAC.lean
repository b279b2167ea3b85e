/- Contracts of syntax.Same, Compare, compareTerms, compareLists and cmp.Compare at uint8: nought exactly at equals. Conditions: none but that the values read as said. Printed by gen/cmp.py. -/
import Derived.Test.YtppfalbnhnpbnaaGreatDoorShelfC
import Derived.Test.YtppfalbnhnpbnaaGreatDoorSameBC
import Derived.Deep.RegionWith
import Derived.Lib.Hide
import Derived.Lib.Bytealg
import Derived.Test.YtppfalbnhnpbnaaGreatDoorOfAC
set_option linter.unusedSimpArgs false
set_option linter.unusedVariables false
namespace Go.Proofs.YtppfalbnhnpbnaaGreatDoor
open Go Go.RowKit Ly
set_option maxRecDepth 10000
theorem fD : ∀ a b : List UInt8,Lib.compareBytes a b = 0 ↔ a = b
 | [],[]=>by simp [Lib.compareBytes]
 | [],_ :: _=>by simp [Lib.compareBytes]
 | _ :: _,[]=>by simp [Lib.compareBytes]
 | a :: x,b :: y=>by
  unfold Lib.compareBytes
  split
  ·rename_i h;simp;intro e;subst e;exact absurd h (UInt8.lt_irrefl a)
  ·split
   ·rename_i h;simp;intro e;subst e;exact absurd h (UInt8.lt_irrefl a)
   ·rename_i h1 h2
    have e : a = b:=UInt8.le_antisymm (UInt8.not_lt.1 h2) (UInt8.not_lt.1 h1)
    simp [e,fD x y]
theorem compareInt_iff (x y : Int) : Lib.compareInt x y = 0 ↔ x = y:=by
 unfold Lib.compareInt
 split
 ·simp;omega
 ·split
  ·simp;omega
  ·simp;omega
def CmpR (P : Prop) (w : World) (e : Ending) (w' : World) : Prop:=∃ c : Int,e = .returned (.int .i64 c) ∧ (c = 0 ↔ P) ∧ Below w.heap.size w w'
def CmpS (P : Prop) (w : World) (e : Ending) (w' : World) : Prop:=∃ c : Int,e = .returned (.int .i64 c) ∧ (c = 0 ↔ P) ∧ w = w'
theorem qP (a b : Bs) (w : World) : Calls Tryz.prog 125 #[str a,str b] w (CmpS (a = b) w) :=
 (Tryz.strings_Compare ⟨a.toArray⟩ ⟨b.toArray⟩ w).mono fun e w' ⟨h1,h2⟩=>⟨_,h1,by rw [fD],h2.symm⟩
theorem uO (a b : Int) (w : World) : Calls Tryz.prog 179 #[.int .i64 a,.int .i64 b] w (CmpS (a = b) w) :=
 (Tryz.cmp_Compare_int a b w).mono fun e w' ⟨h1,h2⟩=>⟨_,h1,compareInt_iff a b,h2.symm⟩
theorem rD (a : Int) (w : World) : Calls Tryz.prog 177 #[.int .u8 a] w fun e w'=>e = .returned (.bool false) ∧ w = w':=by
 go_enter Tryz.func177,Tryz.ntmps177
 go_wp2_with fail
 go_ret
 exact ⟨rfl,rfl⟩
theorem uM (a b : Int) (w : World) : Calls Tryz.prog 124 #[.int .u8 a,.int .u8 b] w (CmpS (a = b) w):=by
 rcases Int.lt_trichotomy a b with h | h | h
 ·have h1 : ¬ b < a:=by omega
  have h2 : ¬ a = b:=by omega
  have H2:=Lib.hid h2
  clear h2
  go_enter Tryz.func124,Tryz.ntmps124
  go_wp2_with (go_at_call 177;refine (rD _ _).mono ?_;rintro e w1 ⟨rfl,rfl⟩)
  go_ret
  exact ⟨_,rfl,by simp [H2.out],rfl⟩
 ·subst h
  go_enter Tryz.func124,Tryz.ntmps124
  go_wp2_with (go_at_call 177;refine (rD _ _).mono ?_;rintro e w1 ⟨rfl,rfl⟩)
  go_ret
  exact ⟨_,rfl,by simp,rfl⟩
 ·have h1 : ¬ a < b:=by omega
  have h2 : ¬ a = b:=by omega
  have H2:=Lib.hid h2
  clear h2
  go_enter Tryz.func124,Tryz.ntmps124
  go_wp2_with (go_at_call 177;refine (rD _ _).mono ?_;rintro e w1 ⟨rfl,rfl⟩)
  go_ret
  exact ⟨_,rfl,by simp [H2.out],rfl⟩
def CmpV {α : Type} (f : FuncId) (A : World → α → Value → Prop) (t : α) : Prop :=
 ∀ (u : α) (x y : Value) (w : World),A w t x → A w u y → Calls Tryz.prog f #[x,y] w (CmpR (t = u) w)
def CmpC {α : Type} (f g : FuncId) (A : World → List α → Value → Prop) (l : List α) : Prop :=
 ∀ (m : List α) (a a' : Option Addr) (k c k' c' : Nat) (w : World),A w l (.slice a k c) → A w m (.slice a' k' c') →
  Calls Tryz.prog f #[.slice a k c,.slice a' k' c',.func (.func g) #[] #[]] w (CmpR (l = m) w)
theorem vO {α : Type} {l m : List α} {j : Nat} {T : α} (h : l[j]? = some T) (h' : m[j]? = some T) : (l.drop j = m.drop j) ↔ (l.drop (j + 1) = m.drop (j + 1)):=by
 obtain ⟨h1,rfl⟩:=List.getElem?_eq_some_iff.1 h
 obtain ⟨h2,e⟩:=List.getElem?_eq_some_iff.1 h'
 rw [List.drop_eq_getElem_cons h1,List.drop_eq_getElem_cons h2,e]
 exact ⟨fun q=>(List.cons.inj q).2,fun q=>by rw [q]⟩
theorem xH {α : Type} {l m : List α} {j : Nat} {T U : α} (h : l[j]? = some T) (h' : m[j]? = some U) (hne : T ≠ U) : l.drop j ≠ m.drop j:=by
 obtain ⟨h1,rfl⟩:=List.getElem?_eq_some_iff.1 h
 obtain ⟨h2,rfl⟩:=List.getElem?_eq_some_iff.1 h'
 rw [List.drop_eq_getElem_cons h1,List.drop_eq_getElem_cons h2]
 intro e;exact hne (List.cons.inj e).1
set_option maxHeartbeats 1600000 in
theorem nK (l : List Tm) (hh : ∀ t ∈ l,CmpV 127 dC t) : CmpC 126 127 bG l:=by
 intro m a a' k c k' c' w ha hb
 have hla:=ha.len
 have hlb:=hb.len
 by_cases hkk : k = k'
 ·subst hkk
  have hlen : k ≤ 9223372036854775807:=by have:=le63 hla.2.2;omega
  have L1:=Lib.hid hla.1;have L2:=Lib.hid hlb.1
  clear hla hlb
  have H:=Lib.hid hh;clear hh
  have HA:=Lib.hid ha;clear ha
  have HB:=Lib.hid hb;clear hb
  go_enter Tryz.func126,Tryz.ntmps126
  go_wp2_with (go_at_call 179;refine (uO _ _ _).mono ?_;rintro e w0 ⟨c0,rfl,hc0,rfl⟩;obtain rfl : c0 = 0:=hc0.2 rfl;clear hc0)
  go_loopw [20] (fun i wr=>∃ j : Nat,j ≤ k ∧ i = .int .i64 j ∧ Below w.heap.size w wr ∧ Hid ((l = m) ↔ (l.drop j = m.drop j))) (fun i _=>k - (intOf i).toNat)
  case atStart=>exact ⟨0,Nat.zero_le _,rfl,Below.refl _ _,by simp [Hid]⟩
  case round =>
   obtain ⟨j,hj,rfl,hbl,hs⟩:=hrel
   by_cases hlt : j < k
   ·obtain ⟨T,hT⟩:=aT (l:=l) (j:=j) (by rw [← L1.out];exact hlt)
    obtain ⟨U,hU⟩:=aT (l:=m) (j:=j) (by rw [← L2.out];exact hlt)
    obtain ⟨b,off,rfl,hc⟩:=HA.out.get (aX hT)
    obtain ⟨b',off',rfl,hc'⟩:=HB.out.get (aX hU)
    have hK:=aA hbl
    have hbd:=aA hbl.drew
    obtain ⟨x0,x1,x2,hx⟩:=hc j _ hT
    obtain ⟨y0,y1,y2,hy⟩:=hc' j _ hU
    have c0:=hK _ _ hx.c0
    have d0:=hK _ _ hy.c0
    have c1:=hK _ _ hx.c1
    have d1:=hK _ _ hy.c1
    have c2:=hK _ _ hx.c2
    have d2:=hK _ _ hy.c2
    have X:=Lib.hid hx;have Y:=Lib.hid hy
    have HM:=Lib.hid (List.mem_of_getElem? hT)
    have HT:=Lib.hid (And.intro hT hU)
    clear hc hc' hx hy hT hU hK
    by_cases hTU : T = U
    ·have HTU:=Lib.hid hTU
     clear hTU
     go_wp2_with fail
     go_region_with (go_at_call 127;refine (H.out T HM.out U _ _ _ (by exact ⟨_,_,_,rfl,X.out.at_.keep hbd⟩) (by exact ⟨_,_,_,rfl,Y.out.at_.keep hbd⟩)).mono ?_;rintro e w1 ⟨c1,rfl,hc1,hb1⟩;obtain rfl : c1 = 0:=hc1.2 HTU.out;clear hc1)
     all_goals
      go_wp2_with fail
      go_roundw
      case rel=>exact ⟨j + 1,by omega,by go_num,(hbl.drew).trans (hb1.mono (by have:=hbl.size;simpa using this)),hs.out.trans (vO HT.out.1 (by rw [HTU.out];exact HT.out.2))⟩
      case measure=>simp [intOf];omega
    ·have HTU:=Lib.hid hTU
     clear hTU
     go_wp2_with fail
     go_region_with (go_at_call 127;refine (H.out T HM.out U _ _ _ (by exact ⟨_,_,_,rfl,X.out.at_.keep hbd⟩) (by exact ⟨_,_,_,rfl,Y.out.at_.keep hbd⟩)).mono ?_;rintro e w1 ⟨c1,rfl,hc1,hb1⟩;have t1 : (c1 == 0) = false:=beq_eq_false_iff_ne.2 fun e=>HTU.out (hc1.1 e);have t2 : (c1 != 0) = true:=bne_iff_ne.2 fun e=>HTU.out (hc1.1 e);have HC:=Lib.hid hc1;clear hc1)
     all_goals
      go_wp2_with fail
      go_ret
      exact ⟨c1,rfl,⟨fun e=>absurd (HC.out.1 e) HTU.out,fun e=>absurd (hs.out.1 e) (xH HT.out.1 HT.out.2 HTU.out)⟩,(hbl.drew).trans (hb1.mono (by have:=hbl.size;simpa using this))⟩
   ·go_wp2_with fail
    go_ret
    exact ⟨0,rfl,⟨fun _=>hs.out.2 (by rw [List.drop_of_length_le (by rw [← L1.out];omega),List.drop_of_length_le (by rw [← L2.out];omega)]),fun _=>rfl⟩,hbl⟩
 ·have hne : l ≠ m:=fun e=>hkk (by rw [hla.1,hlb.1,e])
  have HN:=Lib.hid hne
  have HK:=Lib.hid hkk
  have h1 : k ≤ 9223372036854775807:=by have:=le63 hla.2.2;omega
  have h2 : k' ≤ 9223372036854775807:=by have:=le63 hlb.2.2;omega
  clear hne hkk ha hb hla hlb hh
  go_enter Tryz.func126,Tryz.ntmps126
  go_wp2_with (go_at_call 179;refine (uO _ _ _).mono ?_;rintro e w0 ⟨c0,rfl,hc0,rfl⟩;have t1 : (c0 == 0) = false:=beq_eq_false_iff_ne.2 fun e=>HK.out (by have:=hc0.1 e;omega);have t2 : (c0 != 0) = true:=bne_iff_ne.2 fun e=>HK.out (by have:=hc0.1 e;omega);have HC:=Lib.hid hc0;clear hc0)
  go_ret
  exact ⟨c0,rfl,⟨fun e=>absurd (HC.out.1 e) (fun e=>HK.out (by omega)),fun e=>absurd e HN.out⟩,Below.refl _ _⟩
set_option maxHeartbeats 1600000 in
theorem cmpFmss_step (l : List Fm) (hh : ∀ t ∈ l,CmpV 74 aV t) : CmpC 128 74 aN l:=by
 intro m a a' k c k' c' w ha hb
 have hla:=ha.len
 have hlb:=hb.len
 by_cases hkk : k = k'
 ·subst hkk
  have hlen : k ≤ 9223372036854775807:=by have:=le63 hla.2.2;omega
  have L1:=Lib.hid hla.1;have L2:=Lib.hid hlb.1
  clear hla hlb
  have H:=Lib.hid hh;clear hh
  have HA:=Lib.hid ha;clear ha
  have HB:=Lib.hid hb;clear hb
  go_enter Tryz.func128,Tryz.ntmps128
  go_wp2_with (go_at_call 179;refine (uO _ _ _).mono ?_;rintro e w0 ⟨c0,rfl,hc0,rfl⟩;obtain rfl : c0 = 0:=hc0.2 rfl;clear hc0)
  go_loopw [20] (fun i wr=>∃ j : Nat,j ≤ k ∧ i = .int .i64 j ∧ Below w.heap.size w wr ∧ Hid ((l = m) ↔ (l.drop j = m.drop j))) (fun i _=>k - (intOf i).toNat)
  case atStart=>exact ⟨0,Nat.zero_le _,rfl,Below.refl _ _,by simp [Hid]⟩
  case round =>
   obtain ⟨j,hj,rfl,hbl,hs⟩:=hrel
   by_cases hlt : j < k
   ·obtain ⟨T,hT⟩:=aT (l:=l) (j:=j) (by rw [← L1.out];exact hlt)
    obtain ⟨U,hU⟩:=aT (l:=m) (j:=j) (by rw [← L2.out];exact hlt)
    obtain ⟨b,off,rfl,hc⟩:=HA.out.get (aX hT)
    obtain ⟨b',off',rfl,hc'⟩:=HB.out.get (aX hU)
    have hK:=aA hbl
    have hbd:=aA hbl.drew
    obtain ⟨x0,x1,x2,x3,x4,x5,hx⟩:=hc j _ hT
    obtain ⟨y0,y1,y2,y3,y4,y5,hy⟩:=hc' j _ hU
    have c0:=hK _ _ hx.c0
    have d0:=hK _ _ hy.c0
    have c1:=hK _ _ hx.c1
    have d1:=hK _ _ hy.c1
    have c2:=hK _ _ hx.c2
    have d2:=hK _ _ hy.c2
    have c3:=hK _ _ hx.c3
    have d3:=hK _ _ hy.c3
    have X:=Lib.hid hx;have Y:=Lib.hid hy
    have HM:=Lib.hid (List.mem_of_getElem? hT)
    have HT:=Lib.hid (And.intro hT hU)
    clear hc hc' hx hy hT hU hK
    by_cases hTU : T = U
    ·have HTU:=Lib.hid hTU
     clear hTU
     go_wp2_with fail
     go_region_with (go_at_call 74;refine (H.out T HM.out U _ _ _ (by exact ⟨_,_,_,_,_,_,rfl,X.out.at_.keep hbd,X.out.at'.keep hbd⟩) (by exact ⟨_,_,_,_,_,_,rfl,Y.out.at_.keep hbd,Y.out.at'.keep hbd⟩)).mono ?_;rintro e w1 ⟨c1,rfl,hc1,hb1⟩;obtain rfl : c1 = 0:=hc1.2 HTU.out;clear hc1)
     all_goals
      go_wp2_with fail
      go_roundw
      case rel=>exact ⟨j + 1,by omega,by go_num,(hbl.drew).trans (hb1.mono (by have:=hbl.size;simpa using this)),hs.out.trans (vO HT.out.1 (by rw [HTU.out];exact HT.out.2))⟩
      case measure=>simp [intOf];omega
    ·have HTU:=Lib.hid hTU
     clear hTU
     go_wp2_with fail
     go_region_with (go_at_call 74;refine (H.out T HM.out U _ _ _ (by exact ⟨_,_,_,_,_,_,rfl,X.out.at_.keep hbd,X.out.at'.keep hbd⟩) (by exact ⟨_,_,_,_,_,_,rfl,Y.out.at_.keep hbd,Y.out.at'.keep hbd⟩)).mono ?_;rintro e w1 ⟨c1,rfl,hc1,hb1⟩;have t1 : (c1 == 0) = false:=beq_eq_false_iff_ne.2 fun e=>HTU.out (hc1.1 e);have t2 : (c1 != 0) = true:=bne_iff_ne.2 fun e=>HTU.out (hc1.1 e);have HC:=Lib.hid hc1;clear hc1)
     all_goals
      go_wp2_with fail
      go_ret
      exact ⟨c1,rfl,⟨fun e=>absurd (HC.out.1 e) HTU.out,fun e=>absurd (hs.out.1 e) (xH HT.out.1 HT.out.2 HTU.out)⟩,(hbl.drew).trans (hb1.mono (by have:=hbl.size;simpa using this))⟩
   ·go_wp2_with fail
    go_ret
    exact ⟨0,rfl,⟨fun _=>hs.out.2 (by rw [List.drop_of_length_le (by rw [← L1.out];omega),List.drop_of_length_le (by rw [← L2.out];omega)]),fun _=>rfl⟩,hbl⟩
 ·have hne : l ≠ m:=fun e=>hkk (by rw [hla.1,hlb.1,e])
  have HN:=Lib.hid hne
  have HK:=Lib.hid hkk
  have h1 : k ≤ 9223372036854775807:=by have:=le63 hla.2.2;omega
  have h2 : k' ≤ 9223372036854775807:=by have:=le63 hlb.2.2;omega
  clear hne hkk ha hb hla hlb hh
  go_enter Tryz.func128,Tryz.ntmps128
  go_wp2_with (go_at_call 179;refine (uO _ _ _).mono ?_;rintro e w0 ⟨c0,rfl,hc0,rfl⟩;have t1 : (c0 == 0) = false:=beq_eq_false_iff_ne.2 fun e=>HK.out (by have:=hc0.1 e;omega);have t2 : (c0 != 0) = true:=bne_iff_ne.2 fun e=>HK.out (by have:=hc0.1 e;omega);have HC:=Lib.hid hc0;clear hc0)
  go_ret
  exact ⟨c0,rfl,⟨fun e=>absurd (HC.out.1 e) (fun e=>HK.out (by omega)),fun e=>absurd e HN.out⟩,Below.refl _ _⟩
theorem kV {c : Int} {P : Prop} (h : c = 0 ↔ P) (hP : Hid P) : c = 0:=h.2 hP.out
theorem c_ne {c : Int} {P : Prop} (h : c = 0 ↔ P) (hP : Hid (¬ P)) : (c == 0) = false ∧ (c != 0) = true:=⟨beq_eq_false_iff_ne.2 fun e=>hP.out (h.1 e),bne_iff_ne.2 fun e=>hP.out (h.1 e)⟩
set_option maxHeartbeats 1600000 in
theorem cmpTm_step (v : Bool) (nm : Bs) (ts : List Tm) (h : CmpC 126 127 bG ts) : CmpV 127 dC (.mk v nm ts):=by
 intro u x y w hx hy
 obtain ⟨v',nm',us⟩:=u
 obtain ⟨a,n,c,rfl,hx⟩:=hx
 obtain ⟨a',n',c',rfl,hy⟩:=hy
 simp only [Tm.v,Tm.name,Tm.args] at *
 have H:=Lib.hid h;clear h
 have X:=Lib.hid hx;have Y:=Lib.hid hy
 clear hx hy
 by_cases hv : v = v'
 ·subst hv
  by_cases hn : nm = nm'
  ·have HN:=Lib.hid hn;clear hn
   cases v
   all_goals
    go_enter Tryz.func127,Tryz.ntmps127
    go_wp2_with (first
     | (go_at_call 125;refine (qP _ _ _).mono ?_;rintro e w1 ⟨c1,rfl,hc1,rfl⟩;obtain rfl:=kV hc1 HN;clear hc1)
     | (go_at_call 126;refine (H.out us _ _ _ _ _ _ _ (X.out.keep (by exact aA (((Below.refl _ _).alloc (Nat.le_refl _) _).alloc (by simp) _))) (Y.out.keep (by exact aA (((Below.refl _ _).alloc (Nat.le_refl _) _).alloc (by simp) _)))).mono ?_;rintro e w1 ⟨c2,rfl,hc2,hb1⟩))
    go_ret
    have e1:=HN.out
    exact ⟨c2,rfl,by rw [hc2];simp [e1],hO hb1⟩
  ·have HN:=Lib.hid hn;clear hn
   cases v
   all_goals
    go_enter Tryz.func127,Tryz.ntmps127
    go_wp2_with (first
     | (go_at_call 125;refine (qP _ _ _).mono ?_;rintro e w1 ⟨c1,rfl,hc1,rfl⟩;obtain ⟨t1,t2⟩:=c_ne hc1 HN;have HC:=Lib.hid hc1;clear hc1))
    go_ret
    have e1:=HN.out
    exact ⟨c1,rfl,by rw [HC.out];simp [e1],((Below.refl _ _).alloc (Nat.le_refl _) _).alloc (by simp) _⟩
 ·have HV:=Lib.hid hv
  cases v <;> cases v'
  ·exact absurd rfl hv
  ·clear hv
   go_enter Tryz.func127,Tryz.ntmps127
   go_wp2_with fail
   go_ret
   exact ⟨_,rfl,by simp,((Below.refl _ _).alloc (Nat.le_refl _) _).alloc (by simp) _⟩
  ·clear hv
   go_enter Tryz.func127,Tryz.ntmps127
   go_wp2_with fail
   go_ret
   exact ⟨_,rfl,by simp,((Below.refl _ _).alloc (Nat.le_refl _) _).alloc (by simp) _⟩
  ·exact absurd rfl hv
mutual
theorem cmpTm_c : ∀ t : Tm,CmpV 127 dC t
 | .mk v n ts=>cmpTm_step v n ts (nK ts (oF ts))
theorem oF : ∀ l : List Tm,∀ t ∈ l,CmpV 127 dC t
 | [],_,h=>by cases h
 | x :: xs,t,h=>by
  rcases List.mem_cons.1 h with e | e
  ·rw [e];exact cmpTm_c x
  ·exact oF xs t e
end
theorem vN (l : List Tm) : CmpC 126 127 bG l:=nK l (oF l)
set_option maxHeartbeats 3200000 in
theorem cmpFm_step (o : Int) (nm : Bs) (ts : List Tm) (fs : List Fm) (h : CmpC 128 74 aN fs) : CmpV 74 aV (.mk o nm ts fs):=by
 intro u x y w hx hy
 obtain ⟨o',nm',us,gs⟩:=u
 obtain ⟨a,n,c,b,m,d,rfl,hx,hx2⟩:=hx
 obtain ⟨a',n',c',b',m',d',rfl,hy,hy2⟩:=hy
 simp only [Fm.op,Fm.name,Fm.args,Fm.sub] at *
 have H:=Lib.hid h;clear h
 have X:=Lib.hid hx;have Y:=Lib.hid hy
 have X2:=Lib.hid hx2;have Y2:=Lib.hid hy2
 clear hx hy hx2 hy2
 by_cases ho : o = o'
 ·have HO:=Lib.hid ho;clear ho
  by_cases hn : nm = nm'
  ·have HN:=Lib.hid hn;clear hn
   by_cases ha : ts = us
   ·have HA:=Lib.hid ha;clear ha
    go_enter Tryz.func74,Tryz.ntmps74
    go_wp2_with (first
     | (go_at_call 124;refine (uM _ _ _).mono ?_;rintro e w1 ⟨c1,rfl,hc1,rfl⟩;obtain rfl:=kV hc1 HO;clear hc1)
     | (go_at_call 125;refine (qP _ _ _).mono ?_;rintro e w1 ⟨c1,rfl,hc1,rfl⟩;obtain rfl:=kV hc1 HN;clear hc1)
     | (go_at_call 126;refine (vN ts us _ _ _ _ _ _ _ (X.out.keep (by exact aA (((Below.refl _ _).alloc (Nat.le_refl _) _).alloc (by simp) _))) (Y.out.keep (by exact aA (((Below.refl _ _).alloc (Nat.le_refl _) _).alloc (by simp) _)))).mono ?_;rintro e w1 ⟨c1,rfl,hc1,hb1⟩;obtain rfl:=kV hc1 HA;clear hc1;obtain ⟨q1,q2⟩:=nG hb1;have B1:=Lib.hid hb1;clear hb1)
     | (go_at_call 128;refine (H.out gs _ _ _ _ _ _ _ (X2.out.keep (by exact (aA (((Below.refl _ _).alloc (Nat.le_refl _) _).alloc (by simp) _)).trans (aA B1.out))) (Y2.out.keep (by exact (aA (((Below.refl _ _).alloc (Nat.le_refl _) _).alloc (by simp) _)).trans (aA B1.out)))).mono ?_;rintro e w2 ⟨c2,rfl,hc2,hb2⟩))
    go_ret
    have e1:=HO.out;have e2:=HN.out;have e3:=HA.out
    exact ⟨c2,rfl,by rw [hc2];simp [e1,e2,e3],hO (aG B1.out hb2)⟩
   ·have HA:=Lib.hid ha;clear ha
    go_enter Tryz.func74,Tryz.ntmps74
    go_wp2_with (first
     | (go_at_call 124;refine (uM _ _ _).mono ?_;rintro e w1 ⟨c1,rfl,hc1,rfl⟩;obtain rfl:=kV hc1 HO;clear hc1)
     | (go_at_call 125;refine (qP _ _ _).mono ?_;rintro e w1 ⟨c1,rfl,hc1,rfl⟩;obtain rfl:=kV hc1 HN;clear hc1)
     | (go_at_call 126;refine (vN ts us _ _ _ _ _ _ _ (X.out.keep (by exact aA (((Below.refl _ _).alloc (Nat.le_refl _) _).alloc (by simp) _))) (Y.out.keep (by exact aA (((Below.refl _ _).alloc (Nat.le_refl _) _).alloc (by simp) _)))).mono ?_;rintro e w1 ⟨c1,rfl,hc1,hb1⟩;obtain ⟨t1,t2⟩:=c_ne hc1 HA;have HC:=Lib.hid hc1;clear hc1;have B1:=Lib.hid hb1;clear hb1))
    go_ret
    have e3:=HA.out
    exact ⟨c1,rfl,by rw [HC.out];simp [e3],hO B1.out⟩
  ·have HN:=Lib.hid hn;clear hn
   go_enter Tryz.func74,Tryz.ntmps74
   go_wp2_with (first
    | (go_at_call 124;refine (uM _ _ _).mono ?_;rintro e w1 ⟨c1,rfl,hc1,rfl⟩;obtain rfl:=kV hc1 HO;clear hc1)
    | (go_at_call 125;refine (qP _ _ _).mono ?_;rintro e w1 ⟨c1,rfl,hc1,rfl⟩;obtain ⟨t1,t2⟩:=c_ne hc1 HN;have HC:=Lib.hid hc1;clear hc1))
   go_ret
   have e3:=HN.out
   exact ⟨c1,rfl,by rw [HC.out];simp [e3],((Below.refl _ _).alloc (Nat.le_refl _) _).alloc (by simp) _⟩
 ·have HO:=Lib.hid ho;clear ho
  go_enter Tryz.func74,Tryz.ntmps74
  go_wp2_with (go_at_call 124;refine (uM _ _ _).mono ?_;rintro e w1 ⟨c1,rfl,hc1,rfl⟩;obtain ⟨t1,t2⟩:=c_ne hc1 HO;have HC:=Lib.hid hc1;clear hc1)
  go_ret
  have e3:=HO.out
  exact ⟨c1,rfl,by rw [HC.out];simp [e3],((Below.refl _ _).alloc (Nat.le_refl _) _).alloc (by simp) _⟩
mutual
theorem uN : ∀ t : Fm,CmpV 74 aV t
 | .mk o n ts fs=>cmpFm_step o n ts fs (cmpFmss_step fs (sT fs))
theorem sT : ∀ l : List Fm,∀ t ∈ l,CmpV 74 aV t
 | [],_,h=>by cases h
 | x :: xs,t,h=>by
  rcases List.mem_cons.1 h with e | e
  ·rw [e];exact uN x
  ·exact sT xs t e
end
set_option maxHeartbeats 1600000 in
theorem synSame_c (f g : Fm) (x y : Value) (w : World) (hx : aV w f x) (hy : aV w g y) : Calls Tryz.prog 40 #[x,y] w fun e w'=>e = .returned (.bool (f.same g)) ∧ Below w.heap.size w w':=by
 obtain ⟨a,n,c,b,m,d,rfl,hx,hx2⟩:=hx
 obtain ⟨a',n',c',b',m',d',rfl,hy,hy2⟩:=hy
 have X:=Lib.hid hx;have Y:=Lib.hid hy
 have X2:=Lib.hid hx2;have Y2:=Lib.hid hy2
 clear hx hy hx2 hy2
 have hs : f.same g = true ↔ f = g:=Fm.same_iff f g
 cases he : f.same g with
 | true =>
  have HE:=Lib.hid (hs.1 he)
  clear hs he
  go_enter Tryz.func40,Tryz.ntmps40
  go_wp2_with (go_at_call 74;refine (uN f g _ _ _ ⟨_,_,_,_,_,_,rfl,X.out.keep (by exact aA (((Below.refl _ _).alloc (Nat.le_refl _) _).alloc (by simp) _)),X2.out.keep (by exact aA (((Below.refl _ _).alloc (Nat.le_refl _) _).alloc (by simp) _))⟩ ⟨_,_,_,_,_,_,rfl,Y.out.keep (by exact aA (((Below.refl _ _).alloc (Nat.le_refl _) _).alloc (by simp) _)),Y2.out.keep (by exact aA (((Below.refl _ _).alloc (Nat.le_refl _) _).alloc (by simp) _))⟩).mono ?_;rintro e w1 ⟨c1,rfl,hc1,hb1⟩;obtain rfl:=kV hc1 HE;clear hc1)
  go_ret
  exact ⟨rfl,hO hb1⟩
 | false =>
  have HE:=Lib.hid (show ¬ f = g from fun e=>by rw [hs.2 e] at he;cases he)
  clear hs he
  go_enter Tryz.func40,Tryz.ntmps40
  go_wp2_with (go_at_call 74;refine (uN f g _ _ _ ⟨_,_,_,_,_,_,rfl,X.out.keep (by exact aA (((Below.refl _ _).alloc (Nat.le_refl _) _).alloc (by simp) _)),X2.out.keep (by exact aA (((Below.refl _ _).alloc (Nat.le_refl _) _).alloc (by simp) _))⟩ ⟨_,_,_,_,_,_,rfl,Y.out.keep (by exact aA (((Below.refl _ _).alloc (Nat.le_refl _) _).alloc (by simp) _)),Y2.out.keep (by exact aA (((Below.refl _ _).alloc (Nat.le_refl _) _).alloc (by simp) _))⟩).mono ?_;rintro e w1 ⟨c1,rfl,hc1,hb1⟩;obtain ⟨t1,t2⟩:=c_ne hc1 HE;clear hc1)
  go_ret
  exact ⟨rfl,hO hb1⟩
end Go.Proofs.YtppfalbnhnpbnaaGreatDoor
namespace Go.Proofs.YtppfalbnhnpbnaaGreatDoor
open Go Go.RowKit Ly
set_option maxRecDepth 10000
set_option maxHeartbeats 4000000 in
theorem EqualFunc_c (l l' : List Fm) (a b : Option Addr) (n c m d : Nat) (w : World) (hx : aN w l (.slice a n c)) (hy : aN w l' (.slice b m d)) (hn : n ≤ 1000) (hm : m ≤ 1000) :
  Calls Tryz.prog 39 #[.slice a n c,.slice b m d,.func (.func 40) #[] #[]] w fun e w'=>e = .returned (.bool (cA l l')) ∧ Below w.heap.size w w':=by
 have hlx:=hx.len
 have hly:=hy.len
 have LX:=Lib.hid hlx.1
 have LY:=Lib.hid hly.1
 have HX:=Lib.hid hx
 have HY:=Lib.hid hy
 clear hx hy hlx hly
 go_enter Tryz.func39,Tryz.ntmps39
 by_cases hnm : n = m
 ·subst hnm
  go_wp2_with fail
  go_loopw [17] (fun i wr=>∃ j : Nat,j ≤ n ∧ i = .int .i64 j ∧ Hid (l.take j = l'.take j ∧ Below w.heap.size w wr)) (fun i _=>n - (intOf i).toNat)
  case atStart=>exact ⟨0,Nat.zero_le _,rfl,by simp,Below.refl _ _⟩
  case round =>
   obtain ⟨j,hj,rfl,hs⟩:=hrel
   by_cases hlt : j < n
   ·obtain ⟨T,hT⟩:=aT (l:=l) (j:=j) (by rw [← LX.out];exact hlt)
    obtain ⟨T2,hT2⟩:=aT (l:=l') (j:=j) (by rw [← LY.out];exact hlt)
    obtain ⟨bb,off,rfl,hc⟩:=HX.out.get (aX hT)
    obtain ⟨b2,o2,rfl,hc2⟩:=HY.out.get (aX hT2)
    obtain ⟨x0,x1,x2,x3,x4,x5,hx⟩:=hc j _ hT
    obtain ⟨v0,v1,v2,v3,v4,v5,hy⟩:=hc2 j _ hT2
    have hK:=aA hs.out.2
    have c0:=hK _ _ hx.c0;have c1:=hK _ _ hx.c1;have c2:=hK _ _ hx.c2;have c3:=hK _ _ hx.c3
    have KA : ∀ o,bI wr (wr.alloc o):=fun o=>aA ((Below.refl _ _).alloc (Nat.le_refl _) _)
    have d0:=KA (.cells #[.int .u8 T.op,str T.name,.slice x0 x1 x2,.slice x3 x4 x5] 40) _ _ (hK _ _ hy.c0)
    have d1:=KA (.cells #[.int .u8 T.op,str T.name,.slice x0 x1 x2,.slice x3 x4 x5] 40) _ _ (hK _ _ hy.c1)
    have d2:=KA (.cells #[.int .u8 T.op,str T.name,.slice x0 x1 x2,.slice x3 x4 x5] 40) _ _ (hK _ _ hy.c2)
    have d3:=KA (.cells #[.int .u8 T.op,str T.name,.slice x0 x1 x2,.slice x3 x4 x5] 40) _ _ (hK _ _ hy.c3)
    have SC : Hid (∀ X,Below w.heap.size w X → Calls Tryz.prog 40 #[.agg #[.int .u8 T.op,str T.name,.slice x0 x1 x2,.slice x3 x4 x5],.agg #[.int .u8 T2.op,str T2.name,.slice v0 v1 v2,.slice v3 v4 v5]] X fun e w'=>e = .returned (.bool (T.same T2)) ∧ Below X.heap.size X w'):=fun X hb =>
     synSame_c T T2 _ _ X ⟨_,_,_,_,_,_,rfl,hx.at_.keep (aA hb),hx.at'.keep (aA hb)⟩ ⟨_,_,_,_,_,_,rfl,hy.at_.keep (aA hb),hy.at'.keep (aA hb)⟩
    have HT:=Lib.hid (And.intro hT hT2)
    have AB : Hid (∀ o o',Below w.heap.size w ((wr.alloc o).alloc o')):=fun o o'=>(hs.out.2.alloc hs.out.2.size _).alloc (by have:=hs.out.2.size;simp;omega) _
    clear hc hc2 hx hy hT hT2 hK KA
    by_cases he : T.same T2 = true
    ·have HE:=Lib.hid he
     rw [he] at SC
     clear he
     go_wp2_with (go_at_call 40;refine (SC.out _ (AB.out _ _)).mono ?_;rintro e w2 ⟨rfl,q2⟩;have Q2:=Lib.hid q2;clear q2 SC)
     go_roundw
     case rel =>
      refine ⟨j + 1,by omega,by go_num, ?_,((AB.out _ _).trans (Q2.out.mono (AB.out _ _).size))⟩
      rw [List.take_add_one,List.take_add_one,hs.out.1,HT.out.1,HT.out.2,(Fm.same_iff _ _).1 HE.out]
     case measure=>simp [intOf];omega
    ·have he2 : T.same T2 = false:=by simpa using he
     have FE : Hid (cA l l' = false):=by
      show _ = _
      rw [← Bool.not_eq_true]
      intro h
      have:=(cY _ _).1 h
      subst this
      have h1:=HT.out.1
      have h2:=HT.out.2
      rw [h1] at h2
      cases h2
      exact he ((Fm.same_iff _ _).2 rfl)
     rw [he2] at SC
     clear he he2
     go_wp2_with (go_at_call 40;refine (SC.out _ (AB.out _ _)).mono ?_;rintro e w2 ⟨rfl,q2⟩;have Q2:=Lib.hid q2;clear q2 SC)
     go_ret
     exact ⟨by rw [FE.out] <;> rfl,(AB.out _ _).trans (Q2.out.mono (AB.out _ _).size)⟩
   ·have FE : Hid (cA l l' = true):=by
     have h:=hs.out.1
     rw [List.take_of_length_le (by rw [← LX.out];omega),List.take_of_length_le (by rw [← LY.out];omega)] at h
     exact (cY _ _).2 h
    go_wp2_with fail
    go_ret
    exact ⟨by rw [FE.out] <;> rfl,hs.out.2⟩
 ·have FE : Hid (cA l l' = false):=by
   show _ = _
   rw [← Bool.not_eq_true]
   intro h
   have:=(cY _ _).1 h
   subst this
   exact hnm (LX.out.trans LY.out.symm)
  have hn2 : ¬ ((n : Int) = m):=by omega
  go_wp2_with fail
  go_ret
  exact ⟨by rw [FE.out] <;> rfl,Below.refl _ _⟩
end Go.Proofs.YtppfalbnhnpbnaaGreatDoor
namespace Go.Proofs.YtppfalbnhnpbnaaGreatDoor
open Go Go.RowKit Ly
set_option maxRecDepth 10000
def okSq (L R : List Fm) : Prop:=(∀ f ∈ L,f.right = true) ∧ (∀ f ∈ R,f.right = true) ∧ L.length ≤ 64 ∧ R.length ≤ 64
def fQ (L R L2 R2 : List Fm) : Bool:=cA (skOf L R).1 (skOf L2 R2).1 && cA (skOf L R).2 (skOf L2 R2).2
theorem kE : ∀ (σ : List Sy) (l : List Fm),(dX σ l).1.length = l.length
 | _,[]=>rfl
 | σ,f :: l=>by simp [dX,kE _ l]
theorem nZ (L R : List Fm) : (skOf L R).1.length = L.length ∧ (skOf L R).2.length = R.length:=⟨kE _ _,kE _ _⟩
theorem res12 (tmps : Array Value) (w : World) (x z : Value) (h3 : tmps.getD 4 undef = x) (h4 : tmps.getD 5 undef = z) : (results Tryz.f12 tmps).run Tryz.prog w = .ok (.tuple #[x,z]) w:=by
 have e3 : tmps[4]?.getD undef = x:=by simpa using h3
 have e4 : tmps[5]?.getD undef = z:=by simpa using h4
 simp [results,Tryz.results12,e3,e4]
set_option maxHeartbeats 8000000 in
theorem qH (L R L2 R2 : List Fm) (x y : Value) (W : World) (hr : cU W) (hp : cK W) (hx0 : cV W L R x) (hy0 : cV W L2 R2 y) (h1 : okSq L R) (h2 : okSq L2 R2) :
  Calls Tryz.prog 12 #[x,y] W fun e w'=>e = .returned (.tuple #[.bool (fQ L R L2 R2),.int .i64 0]) ∧ Below W.heap.size W w':=by
 obtain ⟨a,n,c,b,m,d,rfl,hx,hy⟩:=hx0
 obtain ⟨a2,n2,c2,b2,m2,d2,rfl,hx2,hy2⟩:=hy0
 obtain ⟨W0,hW0⟩ : ∃ W0,(W.alloc (.cells #[.slice a n c,.slice b m d] 26)).alloc (.cells #[.slice a2 n2 c2,.slice b2 m2 d2] 26) = W0:=⟨_,rfl⟩
 have bw : Below W.heap.size W W0:=by rw [← hW0];exact ((Below.refl _ _).alloc (Nat.le_refl _) _).alloc (by simp) _
 have r0 : W0.heap[W.heap.size]? = some (.cells #[.slice a n c,.slice b m d] 26 (0,0)):=by rw [← hW0];exact aI _ (heap_alloc_new W _)
 have r1 : W0.heap[W.heap.size + 1]? = some (.cells #[.slice a2 n2 c2,.slice b2 m2 d2] 26 (0,0)):=by
  rw [← hW0]
  have:=heap_alloc_new (W.alloc (.cells #[.slice a n c,.slice b m d] 26)) (.cells #[.slice a2 n2 c2,.slice b2 m2 d2] 26)
  rwa [World.size_alloc] at this
 obtain ⟨A1,hA1⟩ : ∃ A1,(skOf L R).1 = A1:=⟨_,rfl⟩
 obtain ⟨A2,hA2⟩ : ∃ A2,(skOf L R).2 = A2:=⟨_,rfl⟩
 obtain ⟨B1,hB1⟩ : ∃ B1,(skOf L2 R2).1 = B1:=⟨_,rfl⟩
 obtain ⟨B2,hB2⟩ : ∃ B2,(skOf L2 R2).2 = B2:=⟨_,rfl⟩
 have lA:=nZ L R
 have lB:=nZ L2 R2
 have OC1 : Hid (Calls Tryz.prog 11 #[.agg #[.slice a n c,.slice b m d]] W0 (RetS A1 A2 W0)):=by
  rw [← hA1,← hA2]
  exact Of_c L R _ W0 (hr.keep (aA bw)) (hp.below bw) ⟨_,_,_,_,_,_,rfl,hx.keep (aA bw),hy.keep (aA bw)⟩ h1.1 h1.2.1 h1.2.2.1 h1.2.2.2
 have OC2 : Hid (∀ X,Below W.heap.size W X → Calls Tryz.prog 11 #[.agg #[.slice a2 n2 c2,.slice b2 m2 d2]] X (RetS B1 B2 X)):=by
  rw [← hB1,← hB2]
  exact fun X hb=>Of_c L2 R2 _ X (hr.keep (aA hb)) (hp.below hb) ⟨_,_,_,_,_,_,rfl,hx2.keep (aA hb),hy2.keep (aA hb)⟩ h2.1 h2.2.1 h2.2.2.1 h2.2.2.2
 rw [show fQ L R L2 R2 = (cA A1 B1 && cA A2 B2) by unfold fQ;rw [hA1,hA2,hB1,hB2]]
 rw [hA1,hA2] at lA
 rw [hB1,hB2] at lB
 have LL : Hid (A1.length ≤ 64 ∧ A2.length ≤ 64 ∧ B1.length ≤ 64 ∧ B2.length ≤ 64):=⟨by have:=h1.2.2.1;omega,by have:=h1.2.2.2;omega,by have:=h2.2.2.1;omega,by have:=h2.2.2.2;omega⟩
 have BW:=Lib.hid bw
 have R0:=Lib.hid r0
 have R1:=Lib.hid r1
 obtain ⟨y0,y1,-,-⟩:=row2 r0
 clear hx hy hx2 hy2 h1 h2 hr hp bw r0 r1 hA1 hA2 hB1 hB2 lA lB
 have EQ : Hid (∀ l l' a n c b m d X,l.length ≤ 64 → l'.length ≤ 64 → aN X l (.slice a n c) → aN X l' (.slice b m d) → Calls Tryz.prog 39 #[.slice a n c,.slice b m d,.func (.func 40) #[] #[]] X fun e w'=>e = .returned (.bool (cA l l')) ∧ Below X.heap.size X w'):=fun l l' a n c b m d X h1 h2 hx hy=>EqualFunc_c l l' a b n c m d X hx hy (by have:=hx.len.1;omega) (by have:=hy.len.1;omega)
 obtain ⟨q1,hq1⟩ : ∃ q,cA A1 B1 = q:=⟨_,rfl⟩
 obtain ⟨q2,hq2⟩ : ∃ q,cA A2 B2 = q:=⟨_,rfl⟩
 have Q1:=Lib.hid hq1
 have Q2:=Lib.hid hq2
 rw [hq1,hq2]
 clear hq1 hq2
 cases q1 <;> cases q2
 all_goals go_enter Tryz.func12,Tryz.ntmps12
 all_goals go_wp2_with (first
  | (
    go_at_call 11
    refine OC1.out.mono ?_
    rintro e w2 ⟨fa,fn,fc,fb,fm,fd,rfl,h3,h4,b3⟩
    have I2:=Lib.hid (And.intro (h3.keep pU) (h4.keep pU))
    have BB2:=Lib.hid (BW.out.trans (b3.mono BW.out.size))
    have G1:=Lib.hid ((b3.block _ (Array.getElem?_eq_some_iff.1 R1.out).1).trans R1.out)
    have N2 : Hid ((w2.alloc (.cells #[.slice fa fn fc,.slice fb fm fd] 26)).heap[w2.heap.size]? = some (.cells #[.slice fa fn fc,.slice fb fm fd] 26 (0,0))):=heap_alloc_new w2 _
    clear h3 h4 b3 OC1 y0 y1 hW0
    obtain ⟨y0,y1,-,-⟩:=row2 (aI (.cells #[.slice fa fn fc,.slice fb fm fd] 26) G1.out))
  | (
    go_at_call 11
    refine (OC2.out _ (BB2.out.alloc BB2.out.size _)).mono ?_
    rintro e w4 ⟨ga,gn,gc,gb,gm,gd,rfl,h3,h4,b3⟩
    have I4:=Lib.hid (And.intro (h3.keep pU) (h4.keep pU))
    have BX : Below w2.heap.size w2 w4:=((Below.refl _ _).alloc (Nat.le_refl _) _).trans (b3.mono (by simp))
    have BB4:=Lib.hid (BB2.out.trans (BX.mono BB2.out.size))
    have K4:=Lib.hid (aA BX)
    have G2:=Lib.hid ((b3.block _ (by simp)).trans N2.out)
    clear h3 h4 b3 BX OC2 y0 y1
    have N4 : Hid ((w4.alloc (.cells #[.slice ga gn gc,.slice gb gm gd] 26)).heap[w4.heap.size]? = some (.cells #[.slice ga gn gc,.slice gb gm gd] 26 (0,0))):=heap_alloc_new w4 _
    have KK : Hid (bI w4 (w4.alloc (.cells #[.slice ga gn gc,.slice gb gm gd] 26))):=aA ((Below.refl _ _).alloc (Nat.le_refl _) _)
    obtain ⟨y0,y1,-,-⟩:=row2 (aI (.cells #[.slice ga gn gc,.slice gb gm gd] 26) G2.out)
    obtain ⟨z0,z1,-,-⟩:=row2 N4.out)
  | (
    go_at_call 39
    refine (EQ.out _ _ _ _ _ _ _ _ _ LL.out.1 LL.out.2.2.1 (I2.out.1.keep (K4.out.trans KK.out)) (I4.out.1.keep KK.out)).mono ?_
    rintro e w6 ⟨he,b6⟩
    rw [Q1.out] at he
    subst he
    have KQ:=Lib.hid (aA b6)
    have BB6:=Lib.hid ((BB4.out.alloc BB4.out.size _).trans (b6.mono (BB4.out.alloc BB4.out.size (.cells #[.slice ga gn gc,.slice gb gm gd] 26)).size))
    have e2:=EQ.out _ _ _ _ _ _ _ _ w6 LL.out.2.1 LL.out.2.2.2 (I2.out.2.keep ((K4.out.trans KK.out).trans KQ.out)) (I4.out.2.keep (KK.out.trans KQ.out))
    rw [Q2.out] at e2
    have E2:=Lib.hid e2
    clear e2
    clear Q1 y0 y1 z0 z1
    obtain ⟨y0,y1,-,-⟩:=row2 ((b6.block _ (by have:=(Array.getElem?_eq_some_iff.1 G2.out).1;simp;omega)).trans (aI (.cells #[.slice ga gn gc,.slice gb gm gd] 26) G2.out))
    obtain ⟨z0,z1,-,-⟩:=row2 ((b6.block _ (by simp)).trans N4.out)
    clear b6 EQ LL I2 I4 K4 KK KQ BB4 BB2 G1 G2 N2 N4 R0 R1 BW Q2)
  | (
    go_at_call 39
    refine E2.out.mono ?_
    rintro e w7 ⟨rfl,b7⟩
    have BB7:=Lib.hid (BB6.out.trans (b7.mono BB6.out.size))
    clear b7))
 all_goals refine bodyPost_ret (res12 _ _ _ _ rfl rfl) rfl ?_
 all_goals first | exact ⟨rfl,BB7.out⟩ | exact ⟨rfl,BB6.out⟩
end Go.Proofs.YtppfalbnhnpbnaaGreatDoor
namespace Go.Proofs.YtppfalbnhnpbnaaGreatDoor
open Go Go.RowKit Ly
set_option maxRecDepth 10000
theorem fs_c (v : Value) (w : World) : Calls Tryz.prog 21 #[v] w fun e w'=>e = .returned v ∧ w' = w:=by
 go_enter Tryz.func21,Tryz.ntmps21
 go_wp2
 go_ret
 exact ⟨rfl,rfl⟩
theorem sq_c (a b : Option Addr) (n c m d : Nat) (w : World) : Calls Tryz.prog 20 #[.slice a n c,.slice b m d] w fun e w'=>e = .returned (.agg #[.slice a n c,.slice b m d]) ∧ Below w.heap.size w w':=by
 go_enter Tryz.func20,Tryz.ntmps20
 go_wp2
 refine bodyPost_ret (results_cell_row rfl _ _ w.heap.size 26 _ (0,0) _ rfl (heap_alloc_new w _) Tryz.underlying26 rfl iSq) rfl ?_
 exact ⟨rfl,(Below.refl _ _).alloc (Nat.le_refl _) _⟩
end Go.Proofs.YtppfalbnhnpbnaaGreatDoor
