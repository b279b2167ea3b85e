/- Contracts of lyceumkit.SameInts, SameMarks, SameTexts, SameTerm(s), SameForm(s), SameProof(s), SameSeq: they tell equality, and write nothing that was there. Printed by gen/same.py. -/
import Derived.Test.YtppfalbnhnpbnaaGreatDoorMakeC
import Derived.Deep.RegionWith
import Derived.Lib.Hide
import Derived.Test.YtppfalbnhnpbnaaGreatDoorProg
set_option linter.unusedSimpArgs false
set_option linter.unusedVariables false
namespace Go.Proofs.YtppfalbnhnpbnaaGreatDoor
open Go Go.RowKit Ly
theorem tmsSame_drop {l m : List Tm} {j : Nat} {T U : Tm} (h : l[j]? = some T) (h' : m[j]? = some U) : dI (l.drop j) (m.drop j) = (T.same U && dI (l.drop (j+1)) (m.drop (j+1))):=by
 obtain ⟨h1,rfl⟩:=List.getElem?_eq_some_iff.1 h
 obtain ⟨h2,rfl⟩:=List.getElem?_eq_some_iff.1 h'
 rw [List.drop_eq_getElem_cons h1,List.drop_eq_getElem_cons h2,dI]
theorem fmsSame_drop {l m : List Fm} {j : Nat} {T U : Fm} (h : l[j]? = some T) (h' : m[j]? = some U) : cA (l.drop j) (m.drop j) = (T.same U && cA (l.drop (j+1)) (m.drop (j+1))):=by
 obtain ⟨h1,rfl⟩:=List.getElem?_eq_some_iff.1 h
 obtain ⟨h2,rfl⟩:=List.getElem?_eq_some_iff.1 h'
 rw [List.drop_eq_getElem_cons h1,List.drop_eq_getElem_cons h2,cA]
def sH {α : Type} (f : FuncId) (A : World → List α → Value → Prop) (s : List α → List α → Bool) (l : List α) : Prop :=
 ∀ (m : List α) (a a' : Option Addr) (k c k' c' : Nat) (w : World),A w l (.slice a k c) → A w m (.slice a' k' c') →
  Calls Tryz.prog f #[.slice a k c,.slice a' k' c'] w fun e w'=>e = .returned (.bool (s l m)) ∧ Below w.heap.size w w'
def pB {α : Type} (f : FuncId) (A : World → α → Value → Prop) (s : α → α → Bool) (t : α) : Prop :=
 ∀ (u : α) (x y : Value) (w : World),A w t x → A w u y → Calls Tryz.prog f #[x,y] w fun e w'=>e = .returned (.bool (s t u)) ∧ Below w.heap.size w w'
set_option maxHeartbeats 800000 in
theorem kT (l : List Tm) (hh : ∀ t ∈ l,pB 180 dC Tm.same t) : sH 129 bG dI l:=by
 intro m a a' k c k' c' w ha hb
 have hla:=ha.len
 have hlb:=hb.len
 by_cases hkk : k = k'
 ·subst hkk
  have hlen : k ≤ 9223372036854775807:=by have:=le63 hla.2.2;omega
  have L1:=Lib.hid hla.1;have L2:=Lib.hid hlb.1
  clear hla hlb
  have H:=Lib.hid hh;clear hh
  have HA:=Lib.hid ha;clear ha
  have HB:=Lib.hid hb;clear hb
  go_enter Tryz.func129,Tryz.ntmps129
  go_wp2_with fail
  go_loopw [5] (fun i wr=>∃ j : Nat,j ≤ k ∧ i = .int .i64 j ∧ Below w.heap.size w wr ∧ Hid (dI l m = dI (l.drop j) (m.drop j))) (fun i _=>k - (intOf i).toNat)
  case atStart=>exact ⟨0,Nat.zero_le _,rfl,Below.refl _ _,rfl⟩
  case round =>
   obtain ⟨j,hj,rfl,hbl,hs⟩:=hrel
   by_cases hlt : j < k
   ·obtain ⟨T,hT⟩:=aT (l:=l) (j:=j) (by rw [← L1.out];exact hlt)
    obtain ⟨U,hU⟩:=aT (l:=m) (j:=j) (by rw [← L2.out];exact hlt)
    obtain ⟨b,off,rfl,hc⟩:=HA.out.get (aX hT)
    obtain ⟨b',off',rfl,hc'⟩:=HB.out.get (aX hU)
    have hK:=aA hbl
    have hbd:=aA hbl.drew
    have S:=Lib.hid (tmsSame_drop hT hU)
    obtain ⟨x0,x1,x2,hx⟩:=hc j _ hT
    obtain ⟨y0,y1,y2,hy⟩:=hc' j _ hU
    have c0:=hK _ _ hx.c0
    have c1:=hK _ _ hx.c1
    have c2:=hK _ _ hx.c2
    have d0:=hK _ _ hy.c0
    have d1:=hK _ _ hy.c1
    have d2:=hK _ _ hy.c2
    have X:=Lib.hid hx;have Y:=Lib.hid hy
    have HM:=Lib.hid (List.mem_of_getElem? hT)
    clear hc hc' hx hy hT hU hK
    generalize hb : T.same U = B at S
    have HBB:=Lib.hid hb
    clear hb
    go_wp2_with fail
    go_region_with (go_at_call 180;refine (H.out T HM.out U _ _ _ (by exact ⟨_,_,_,rfl,X.out.at_.keep hbd⟩) (by exact ⟨_,_,_,rfl,Y.out.at_.keep hbd⟩)).mono ?_;rintro e w1 ⟨he,hb1⟩;obtain rfl : e = .returned (.bool B):=by rw [he,← HBB.out])
    all_goals
     cases B
     ·go_wp2_with fail
      go_ret
      exact ⟨by rw [hs.out,S.out];rfl,(hbl.drew).trans (hb1.mono (by have:=hbl.size;simpa using this))⟩
     ·go_wp2_with fail
      go_roundw
      case rel=>exact ⟨j + 1,by omega,by go_num,(hbl.drew).trans (hb1.mono (by have:=hbl.size;simpa using this)),by have q:=hs.out.trans S.out;simp only [Bool.true_and] at q;exact q⟩
      case measure=>simp [intOf];omega
   ·go_wp2_with fail
    go_ret
    exact ⟨by rw [hs.out,List.drop_of_length_le (by rw [← L1.out];omega),List.drop_of_length_le (by rw [← L2.out];omega)];rfl,hbl⟩
 ·have hne : l.length ≠ m.length:=by rw [← hla.1,← hlb.1];exact hkk
  have S:=Lib.hid (tmsSame_len hne)
  have t1 : ((k : Int) == (k' : Int)) = false:=beq_eq_false_iff_ne.2 (by omega)
  have t2 : ((k : Int) != (k' : Int)) = true:=by rw [bne_iff_ne];omega
  clear hla hlb ha hb hne
  go_enter Tryz.func129,Tryz.ntmps129
  go_wp2_with fail
  go_ret
  exact ⟨by rw [S.out];rfl,Below.refl _ _⟩
set_option maxHeartbeats 800000 in
theorem kS (l : List Fm) (hh : ∀ t ∈ l,pB 75 aV Fm.same t) : sH 41 aN cA l:=by
 intro m a a' k c k' c' w ha hb
 have hla:=ha.len
 have hlb:=hb.len
 by_cases hkk : k = k'
 ·subst hkk
  have hlen : k ≤ 9223372036854775807:=by have:=le63 hla.2.2;omega
  have L1:=Lib.hid hla.1;have L2:=Lib.hid hlb.1
  clear hla hlb
  have H:=Lib.hid hh;clear hh
  have HA:=Lib.hid ha;clear ha
  have HB:=Lib.hid hb;clear hb
  go_enter Tryz.func41,Tryz.ntmps41
  go_wp2_with fail
  go_loopw [5] (fun i wr=>∃ j : Nat,j ≤ k ∧ i = .int .i64 j ∧ Below w.heap.size w wr ∧ Hid (cA l m = cA (l.drop j) (m.drop j))) (fun i _=>k - (intOf i).toNat)
  case atStart=>exact ⟨0,Nat.zero_le _,rfl,Below.refl _ _,rfl⟩
  case round =>
   obtain ⟨j,hj,rfl,hbl,hs⟩:=hrel
   by_cases hlt : j < k
   ·obtain ⟨T,hT⟩:=aT (l:=l) (j:=j) (by rw [← L1.out];exact hlt)
    obtain ⟨U,hU⟩:=aT (l:=m) (j:=j) (by rw [← L2.out];exact hlt)
    obtain ⟨b,off,rfl,hc⟩:=HA.out.get (aX hT)
    obtain ⟨b',off',rfl,hc'⟩:=HB.out.get (aX hU)
    have hK:=aA hbl
    have hbd:=aA hbl.drew
    have S:=Lib.hid (fmsSame_drop hT hU)
    obtain ⟨x0,x1,x2,x3,x4,x5,hx⟩:=hc j _ hT
    obtain ⟨y0,y1,y2,y3,y4,y5,hy⟩:=hc' j _ hU
    have c0:=hK _ _ hx.c0
    have c1:=hK _ _ hx.c1
    have c2:=hK _ _ hx.c2
    have c3:=hK _ _ hx.c3
    have d0:=hK _ _ hy.c0
    have d1:=hK _ _ hy.c1
    have d2:=hK _ _ hy.c2
    have d3:=hK _ _ hy.c3
    have X:=Lib.hid hx;have Y:=Lib.hid hy
    have HM:=Lib.hid (List.mem_of_getElem? hT)
    clear hc hc' hx hy hT hU hK
    generalize hb : T.same U = B at S
    have HBB:=Lib.hid hb
    clear hb
    go_wp2_with fail
    go_region_with (go_at_call 75;refine (H.out T HM.out U _ _ _ (by exact ⟨_,_,_,_,_,_,rfl,X.out.at_.keep hbd,X.out.at'.keep hbd⟩) (by exact ⟨_,_,_,_,_,_,rfl,Y.out.at_.keep hbd,Y.out.at'.keep hbd⟩)).mono ?_;rintro e w1 ⟨he,hb1⟩;obtain rfl : e = .returned (.bool B):=by rw [he,← HBB.out])
    all_goals
     cases B
     ·go_wp2_with fail
      go_ret
      exact ⟨by rw [hs.out,S.out];rfl,(hbl.drew).trans (hb1.mono (by have:=hbl.size;simpa using this))⟩
     ·go_wp2_with fail
      go_roundw
      case rel=>exact ⟨j + 1,by omega,by go_num,(hbl.drew).trans (hb1.mono (by have:=hbl.size;simpa using this)),by have q:=hs.out.trans S.out;simp only [Bool.true_and] at q;exact q⟩
      case measure=>simp [intOf];omega
   ·go_wp2_with fail
    go_ret
    exact ⟨by rw [hs.out,List.drop_of_length_le (by rw [← L1.out];omega),List.drop_of_length_le (by rw [← L2.out];omega)];rfl,hbl⟩
 ·have hne : l.length ≠ m.length:=by rw [← hla.1,← hlb.1];exact hkk
  have S:=Lib.hid (fmsSame_len hne)
  have t1 : ((k : Int) == (k' : Int)) = false:=beq_eq_false_iff_ne.2 (by omega)
  have t2 : ((k : Int) != (k' : Int)) = true:=by rw [bne_iff_ne];omega
  clear hla hlb ha hb hne
  go_enter Tryz.func41,Tryz.ntmps41
  go_wp2_with fail
  go_ret
  exact ⟨by rw [S.out];rfl,Below.refl _ _⟩
set_option maxHeartbeats 800000 in
theorem SameTerm_step (v : Bool) (nm : Bs) (ts : List Tm) (h : sH 129 bG dI ts) : pB 180 dC Tm.same (.mk v nm ts):=by
 intro u x y w hx hy
 obtain ⟨v',nm',us⟩:=u
 obtain ⟨a,n,c,rfl,hx⟩:=hx
 obtain ⟨a',n',c',rfl,hy⟩:=hy
 simp only [Tm.v,Tm.name,Tm.args] at *
 have H:=Lib.hid h;clear h
 have X:=Lib.hid hx;have Y:=Lib.hid hy
 clear hx hy
 go_enter Tryz.func180,Tryz.ntmps180
 go_wp2_with (go_at_call 129;refine (H.out us _ _ _ _ _ _ _ (X.out.keep (by exact aA (((Below.refl _ _).alloc (Nat.le_refl _) _).alloc (by simp) _))) (Y.out.keep (by exact aA (((Below.refl _ _).alloc (Nat.le_refl _) _).alloc (by simp) _)))).mono ?_;rintro e w1 ⟨rfl,hb1⟩)
 all_goals go_ret
 ·exact ⟨by simp [Tm.same, *],hO hb1⟩
 ·exact ⟨by simp [Tm.same, *],((Below.refl _ _).alloc (Nat.le_refl _) _).alloc (by simp) _⟩
 ·exact ⟨by simp [Tm.same, *],((Below.refl _ _).alloc (Nat.le_refl _) _).alloc (by simp) _⟩
mutual
theorem SameTerm_c : ∀ t : Tm,pB 180 dC Tm.same t
 | .mk v n ts=>SameTerm_step v n ts (kT ts (kA ts))
theorem kA : ∀ l : List Tm,∀ t ∈ l,pB 180 dC Tm.same t
 | [],_,h=>by cases h
 | x :: xs,t,h=>by
  rcases List.mem_cons.1 h with e | e
  ·rw [e];exact SameTerm_c x
  ·exact kA xs t e
end
theorem SameTerms_c (l : List Tm) : sH 129 bG dI l:=kT l (kA l)
end Go.Proofs.YtppfalbnhnpbnaaGreatDoor
namespace Go.Proofs.YtppfalbnhnpbnaaGreatDoor
open Go Go.RowKit Ly
set_option maxHeartbeats 800000 in
theorem SameForm_step (o : Int) (nm : Bs) (ts : List Tm) (fs : List Fm) (h : sH 41 aN cA fs) : pB 75 aV Fm.same (.mk o nm ts fs):=by
 intro u x y w hx hy
 obtain ⟨o',nm',us,gs⟩:=u
 obtain ⟨a,n,c,b,m,d,rfl,hx,hx2⟩:=hx
 obtain ⟨a',n',c',b',m',d',rfl,hy,hy2⟩:=hy
 simp only [Fm.op,Fm.name,Fm.args,Fm.sub] at *
 have H:=Lib.hid h;clear h
 have X:=Lib.hid hx;have Y:=Lib.hid hy
 have X2:=Lib.hid hx2;have Y2:=Lib.hid hy2
 clear hx hy hx2 hy2
 have es : Hid (Fm.same (.mk o nm ts fs) (.mk o' nm' us gs) = ((o == o') && (nm == nm') && dI ts us && cA fs gs)):=rfl
 generalize hF : dI ts us = F at es
 have HF:=Lib.hid hF;clear hF
 generalize hP : cA fs gs = P at es
 have HP:=Lib.hid hP;clear hP
 have fin : ∀ e w',(e = .returned (.bool ((o == o') && (nm == nm') && F && P)) ∧ Below w.heap.size w w') → (e = Ending.returned (.bool (Fm.same (.mk o nm ts fs) (.mk o' nm' us gs))) ∧ Below w.heap.size w w'):=fun e w' h=>⟨by rw [h.1,← es.out],h.2⟩
 refine Calls.mono ?_ fin
 clear fin es
 cases F <;> cases P
 all_goals
  go_enter Tryz.func75,Tryz.ntmps75
  go_wp2_with (first
   | (go_at_call 129;refine (SameTerms_c ts us _ _ _ _ _ _ _ (X.out.keep (by exact aA (((Below.refl _ _).alloc (Nat.le_refl _) _).alloc (by simp) _))) (Y.out.keep (by exact aA (((Below.refl _ _).alloc (Nat.le_refl _) _).alloc (by simp) _)))).mono ?_;rintro e w1 ⟨he,hb1⟩;rw [HF.out] at he;subst he;obtain ⟨hc1,hf1⟩:=nG hb1)
   | (go_at_call 41;refine (H.out gs _ _ _ _ _ _ _ (X2.out.keep (by exact (aA (((Below.refl _ _).alloc (Nat.le_refl _) _).alloc (by simp) _)).trans (aA hb1))) (Y2.out.keep (by exact (aA (((Below.refl _ _).alloc (Nat.le_refl _) _).alloc (by simp) _)).trans (aA hb1)))).mono ?_;rintro e w2 ⟨he,hb2⟩;rw [HP.out] at he;subst he;obtain ⟨hc2,hf2⟩:=nG (aG hb1 hb2)))
  all_goals go_ret
  all_goals exact ⟨by simp [*],by
   first
   | exact hO (aG hb1 hb2)
   | exact hO hb1
   | exact ((Below.refl _ _).alloc (Nat.le_refl _) _).alloc (by simp) _⟩
mutual
theorem SameForm_c : ∀ t : Fm,pB 75 aV Fm.same t
 | .mk o n ts fs=>SameForm_step o n ts fs (kS fs (jZ fs))
theorem jZ : ∀ l : List Fm,∀ t ∈ l,pB 75 aV Fm.same t
 | [],_,h=>by cases h
 | x :: xs,t,h=>by
  rcases List.mem_cons.1 h with e | e
  ·rw [e];exact SameForm_c x
  ·exact jZ xs t e
end
theorem pA (l : List Fm) : sH 41 aN cA l:=kS l (jZ l)
def cV (w : World) (l r : List Fm) (u : Value) : Prop:=∃ a n c b m d,u = .agg #[.slice a n c,.slice b m d] ∧ aN w l (.slice a n c) ∧ aN w r (.slice b m d)
set_option maxHeartbeats 800000 in
theorem sI (l r l' r' : List Fm) (x y : Value) (w : World) (hx : cV w l r x) (hy : cV w l' r' y) :
  Calls Tryz.prog 13 #[x,y] w fun e w'=>e = .returned (.bool (cA l l' && cA r r')) ∧ Below w.heap.size w w':=by
 obtain ⟨a,n,c,b,m,d,rfl,hx,hx2⟩:=hx
 obtain ⟨a',n',c',b',m',d',rfl,hy,hy2⟩:=hy
 have X:=Lib.hid hx;have Y:=Lib.hid hy
 have X2:=Lib.hid hx2;have Y2:=Lib.hid hy2
 clear hx hy hx2 hy2
 generalize hF : cA l l' = F
 have HF:=Lib.hid hF;clear hF
 generalize hP : cA r r' = P
 have HP:=Lib.hid hP;clear hP
 cases F <;> cases P
 all_goals
  go_enter Tryz.func13,Tryz.ntmps13
  go_wp2_with fail
  refine (pA l l' _ _ _ _ _ _ _ (X.out.keep (by exact aA (((Below.refl _ _).alloc (Nat.le_refl _) _).alloc (by simp) _))) (Y.out.keep (by exact aA (((Below.refl _ _).alloc (Nat.le_refl _) _).alloc (by simp) _)))).mono ?_
  rintro e w1 ⟨he,hb1⟩;rw [HF.out] at he;subst he;obtain ⟨hc1,hf1⟩:=nG hb1
  go_wp2_with (go_at_call 41;refine (pA r r' _ _ _ _ _ _ _ (X2.out.keep (by exact (aA (((Below.refl _ _).alloc (Nat.le_refl _) _).alloc (by simp) _)).trans (aA hb1))) (Y2.out.keep (by exact (aA (((Below.refl _ _).alloc (Nat.le_refl _) _).alloc (by simp) _)).trans (aA hb1)))).mono ?_;rintro e w2 ⟨he,hb2⟩;rw [HP.out] at he;subst he;obtain ⟨hc2,hf2⟩:=nG (aG hb1 hb2))
  go_ret
  exact ⟨by simp,by first | exact hO (aG hb1 hb2) | exact hO hb1⟩
end Go.Proofs.YtppfalbnhnpbnaaGreatDoor
