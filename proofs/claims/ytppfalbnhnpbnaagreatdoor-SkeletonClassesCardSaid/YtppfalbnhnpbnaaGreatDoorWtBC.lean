/- Plain law: right formulas, and claims, with the same text (with as few brackets as needed) are the same. Nothing of the program is imported. -/
import Derived.Test.YtppfalbnhnpbnaaGreatDoorFtBC
import Derived.Test.YtppfalbnhnpbnaaGreatDoorWtAC
import Derived.Test.YtppfalbnhnpbnaaGreatDoorShBC
import Derived.Test.YtppfalbnhnpbnaaGreatDoorNtBC
set_option linter.unusedSimpArgs false
set_option linter.unusedVariables false
namespace Ly
def iU (s : Bs) : Prop:=s = [] ∨ (∃ r,s = 41 :: r) ∨ (∃ r,s = 44 :: r) ∨ ∃ r,s = 32 :: 47 :: r
theorem iU.stop {s : Bs} (h : iU s) : Stop s:=by
 rcases h with rfl | ⟨r,rfl⟩ | ⟨r,rfl⟩ | ⟨r,rfl⟩
 ·exact .nil
 ·exact .cons (.inr (.inl rfl))
 ·exact .cons (.inr (.inr rfl))
 ·exact .cons (.inl rfl)
theorem nV (l : List (Int × Pr)) {s : Bs} (h : iU s) : Stop (fL l ++ s):=by
 cases l with
 | nil=>exact h.stop
 | cons x l=>exact .cons (.inl rfl)
theorem yA {x : Int × Pr} {X s : Bs} (hx : bin x.1) (h : iU s) (e : 32 :: (eK x.1 ++ X) = s) : False:=by
 obtain ⟨o,p⟩:=x
 rcases h with rfl | ⟨r,rfl⟩ | ⟨r,rfl⟩ | ⟨r,rfl⟩
 ·cases e
 ·exact absurd (List.cons.inj e).1 (by decide)
 ·exact absurd (List.cons.inj e).1 (by decide)
 ·have e2:=(List.cons.inj e).2
  rcases hx with hx | hx | hx | hx | hx <;> simp only at hx <;> subst hx <;> exact absurd (List.cons.inj e2).1 (by decide)
theorem sign_inj {a b : Int} (ha : bin a) (hb : bin b) {X Y : Bs} (e : eK a ++ 32 :: X = eK b ++ 32 :: Y) : a = b ∧ X = Y:=by
 rcases ha with rfl | rfl | rfl | rfl | rfl <;> rcases hb with rfl | rfl | rfl | rfl | rfl <;> simp [eK,oX] at e <;> first | exact ⟨rfl,e⟩ | (exact e.elim)
def wX (N : Nat) : Prop:=∀ (p q : Pr) (s t : Bs) (M : Nat),PrOk N p → PrOk M q → Stop s → Stop t → prTx p ++ s = prTx q ++ t → p = q ∧ s = t
theorem xZ {N M : Nat} (ih : wX N) : ∀ (l l' : List (Int × Pr)) (s t : Bs),(∀ x ∈ l,bin x.1 ∧ PrOk N x.2) → (∀ x ∈ l',bin x.1 ∧ PrOk M x.2) → iU s → iU t → fL l ++ s = fL l' ++ t → l = l' ∧ s = t
 | [],[],s,t,_,_,_,_,h=>⟨rfl,h⟩
 | [],y :: l',s,t,_,h2,hs,_,h=>by
  simp only [fL,List.nil_append,List.cons_append,List.append_assoc] at h
  exact (yA (h2 y (by simp)).1 hs h.symm).elim
 | x :: l,[],s,t,h1,_,_,ht,h=>by
  simp only [fL,List.nil_append,List.cons_append,List.append_assoc] at h
  exact (yA (h1 x (by simp)).1 ht h).elim
 | x :: l,y :: l',s,t,h1,h2,hs,ht,h=>by
  simp only [fL,List.cons_append,List.append_assoc,List.cons.injEq,true_and] at h
  obtain ⟨e1,e2⟩:=sign_inj (h1 x (by simp)).1 (h2 y (by simp)).1 h
  obtain ⟨e3,e4⟩:=ih x.2 y.2 _ _ M (h1 x (by simp)).2 (h2 y (by simp)).2 (nV l hs) (nV l' ht) e2
  obtain ⟨e5,e6⟩:=xZ ih l l' s t (fun z hz=>h1 z (by simp [hz])) (fun z hz=>h2 z (by simp [hz])) hs ht e4
  exact ⟨by rw [e5,show x = y from Prod.ext e1 e3],e6⟩
theorem vQ {N : Nat} (ih : wX N) (f g : Fm) (s t : Bs) (hf : f.ok = true) (hg : g.ok = true) (hn : 2 * f.nodes ≤ N) (hs : iU s) (ht : iU t) (h : f.ft ++ s = g.ft ++ t) : f = g ∧ s = t:=by
 rw [lD f hf,lD g hg,List.append_assoc,List.append_assoc] at h
 have a:=eU f hf
 have b:=eU g hg
 obtain ⟨e1,e2⟩:=ih _ _ _ _ (2 * g.nodes) (a.p.mono hn) b.p (nV _ hs) (nV _ ht) h
 obtain ⟨e3,e4⟩:=xZ (M:=2 * g.nodes) ih _ _ s t (fun x hx=>⟨(a.l x hx).1,(a.l x hx).2.2.mono hn⟩) (fun x hx=>⟨(b.l x hx).1,(b.l x hx).2.2⟩) hs ht e2
 exact ⟨oE f g hf hg (Prod.ext e1 e3),e4⟩
theorem qN {c : UInt8} (h : dZ c = true) : c ≠ 102 ∧ c ≠ 126 ∧ c ≠ 97 ∧ c ≠ 115 ∧ c ≠ 91 ∧ c ≠ 60 ∧ c ≠ 110 ∧ c ≠ 40 ∧ c ≠ 32:=by
 unfold dZ at h
 simp only [Bool.and_eq_true,decide_eq_true_eq] at h
 refine ⟨?_, ?_, ?_, ?_, ?_, ?_, ?_, ?_, ?_⟩ <;> (rintro rfl;revert h;decide)
inductive Six : Fm → Prop
 | atom {n : Bs} {az : List Tm} : cW n = true → cE az = true → Six (.mk 1 n az [])
 | fls : Six (.mk 2 [] [] [])
 | one {op : Int} {g : Fm} : g.ok = true → op = 3 ∨ op = 10 ∨ op = 11 ∨ op = 12 ∨ op = 13 → Six (.mk op [] [] [g])
 | quant {op : Int} {n : Bs} {g : Fm} : g.ok = true → op = 8 ∨ op = 9 → bU n = true → Six (.mk op n [] [g])
theorem rP {f : Fm} (h : f.ok = true) (h6 : wStr f.op = 6) : Six f:=by
 obtain ⟨op,n,az,sub⟩:=f
 rcases Fm.shape h with ⟨rfl,rfl,h1,h2⟩ | ⟨rfl,rfl,rfl,rfl⟩ | ⟨g,rfl,rfl,hg,e⟩ | ⟨g,k,rfl,hb,-⟩
 ·exact .atom h1 h2
 ·exact .fls
 ·rcases e with ⟨e,hn⟩ | ⟨e,rfl⟩
  ·exact .quant hg e hn
  ·exact .one hg e
 ·have:=wStr_bin hb
  simp only [Fm.op] at h6
  omega
theorem nE (n : Bs) (az : List Tm) : (Fm.mk 1 n az []).ft = n ++ fS (cT az):=rfl
theorem yV : (Fm.mk 2 [] [] []).ft = [102,97,108,115,101]:=rfl
theorem kH (op : Int) (n : Bs) (g : Fm) : (Fm.mk op n [] [g]).ft = jQ op n ++ prTx (decide (wStr g.op < 6),g):=rfl
theorem rO {f : Fm} (h : Six f) : ∃ c r,f.ft = c :: r ∧ c ≠ 40 ∧ c ≠ 32:=by
 cases h with
 | atom h1 _ =>
  obtain ⟨⟨c,r,rfl,hc⟩,-⟩:=lW h1
  obtain ⟨-,-,-,-,-,-,-,k1,k2⟩:=qN hc
  exact ⟨c,_,rfl,k1,k2⟩
 | fls=>exact ⟨_,_,rfl,by decide,by decide⟩
 | one _ e=>rcases e with rfl | rfl | rfl | rfl | rfl <;> exact ⟨_,_,rfl,by decide,by decide⟩
 | quant _ e _=>rcases e with rfl | rfl <;> exact ⟨_,_,rfl,by decide,by decide⟩
theorem wStr_le (op : Int) : wStr op ≤ 6:=by
 unfold wStr
 repeat' split
 all_goals omega
theorem nX {N : Nat} {g : Fm} (h : g.ok = true) (hn : 2 * g.nodes + 1 ≤ N) : PrOk N (decide (wStr g.op < 6),g):=by
 refine ⟨h,fun e=>?_, ?_⟩
 ·have:=wStr_le g.op
  simp only [decide_eq_false_iff_not] at e
  show wStr g.op = 6
  omega
 ·show 2 * g.nodes + _ ≤ N
  split <;> omega
theorem var_sp {n m X Y : Bs} (hn : bU n = true) (hm : bU m = true) (h : n ++ 32 :: X = m ++ 32 :: Y) : n = m ∧ X = Y:=by
 obtain ⟨e1,e2⟩:=nD n m _ _ (vA hn).2 (vA hm).2 (NA.cons (by decide)) (NA.cons (by decide)) h
 exact ⟨e1,(List.cons.inj e2).2⟩
theorem six_inj {N : Nat} (ih : wX N) {f g : Fm} (hf : Six f) (hg : Six g) (hn : 2 * f.nodes ≤ N + 1) {s t : Bs} (hs : Stop s) (ht : Stop t) (h : f.ft ++ s = g.ft ++ t) : f = g ∧ s = t:=by
 cases hf with
 | @atom n az h1 h2 =>
  obtain ⟨⟨c,r,rfl,hc⟩,ha⟩:=lW h1
  obtain ⟨k1,k2,k3,k4,k5,k6,k7,k8,k9⟩:=qN hc
  cases hg with
  | @atom m bs h1' h2' =>
   rw [nE,nE] at h
   have:=Tm.ft_inj (.mk false [97] az) (.mk false [97] bs) s t
   rw [List.append_assoc,List.append_assoc] at h
   obtain ⟨e1,e2⟩:=nD _ _ _ _ ha (lW h1').2 (mB hs) (mB ht) h
   subst e1
   clear h this
   cases az with
   | nil =>
    cases bs with
    | nil=>exact ⟨rfl,e2⟩
    | cons b br=>rcases hs _ _ e2 with e | e | e <;> cases e
   | cons a ar =>
    cases bs with
    | nil=>rcases ht _ _ e2.symm with e | e | e <;> cases e
    | cons b br =>
     simp only [cE,Bool.and_eq_true] at h2 h2'
     simp only [cT,fS,cB,List.cons_append,List.append_assoc,List.cons.injEq,true_and,List.nil_append] at e2
     obtain ⟨e1,i1⟩:=Tm.ft_inj a b _ _ h2.1 h2'.1 (gR _ _) (gR _ _) e2
     obtain ⟨e3,i2⟩:=oR ar br s t h2.2 h2'.2 i1
     exact ⟨by rw [e1,e3],i2⟩
  | fls=>exact absurd (List.cons.inj h).1 k1
  | one _ e =>
   rcases e with rfl | rfl | rfl | rfl | rfl
   ·exact absurd (List.cons.inj h).1 k2
   ·exact absurd (List.cons.inj h).1 k5
   ·exact absurd (List.cons.inj h).1 k6
   ·exact absurd (List.cons.inj h).1 k7
   ·exact absurd (List.cons.inj h).1 k3
  | quant _ e _ =>
   rcases e with rfl | rfl
   ·exact absurd (List.cons.inj h).1 k3
   ·exact absurd (List.cons.inj h).1 k4
 | fls =>
  cases hg with
  | atom h1' _ =>
   obtain ⟨⟨c,r,rfl,hc⟩,-⟩:=lW h1'
   exact absurd (List.cons.inj h).1.symm (qN hc).1
  | fls=>exact ⟨rfl,List.append_cancel_left h⟩
  | one _ e=>rcases e with rfl | rfl | rfl | rfl | rfl <;> exact absurd (List.cons.inj h).1 (by decide)
  | quant _ e _=>rcases e with rfl | rfl <;> exact absurd (List.cons.inj h).1 (by decide)
 | @one op g1 hg1 e =>
  have n1 : 2 * g1.nodes + 1 ≤ N:=by simp only [Fm.nodes,aF,aD] at hn;omega
  cases hg with
  | atom h1' _ =>
   obtain ⟨⟨c,r,rfl,hc⟩,-⟩:=lW h1'
   obtain ⟨k1,k2,k3,k4,k5,k6,k7,k8,k9⟩:=qN hc
   rcases e with rfl | rfl | rfl | rfl | rfl
   ·exact absurd (List.cons.inj h).1.symm k2
   ·exact absurd (List.cons.inj h).1.symm k5
   ·exact absurd (List.cons.inj h).1.symm k6
   ·exact absurd (List.cons.inj h).1.symm k7
   ·exact absurd (List.cons.inj h).1.symm k3
  | fls=>rcases e with rfl | rfl | rfl | rfl | rfl <;> exact absurd (List.cons.inj h).1 (by decide)
  | @one op' g2 hg2 e' =>
   rw [kH,kH,List.append_assoc,List.append_assoc] at h
   have k : op = op' ∧ prTx (decide (wStr g1.op < 6),g1) ++ s = prTx (decide (wStr g2.op < 6),g2) ++ t:=by
    rcases e with rfl | rfl | rfl | rfl | rfl <;> rcases e' with rfl | rfl | rfl | rfl | rfl <;> simp [jQ,eK,mH,gU] at h <;> first | exact ⟨rfl,h⟩ | exact h.elim
   obtain ⟨e1,e2⟩:=ih _ _ _ _ _ (nX hg1 n1) (nX hg2 (Nat.le_refl _)) hs ht k.2
   have e3 : g1 = g2:=congrArg Prod.snd e1
   rw [k.1,e3]
   exact ⟨rfl,e2⟩
  | @quant op' n g2 hg2 e' hv =>
   rw [kH,kH,List.append_assoc,List.append_assoc] at h
   rcases e with rfl | rfl | rfl | rfl | rfl <;> rcases e' with rfl | rfl <;> simp [jQ,eK,mH,gU,wAll,mI] at h
 | @quant op n g1 hg1 e hv =>
  have n1 : 2 * g1.nodes + 1 ≤ N:=by simp only [Fm.nodes,aF,aD] at hn;omega
  cases hg with
  | atom h1' _ =>
   obtain ⟨⟨c,r,rfl,hc⟩,-⟩:=lW h1'
   obtain ⟨k1,k2,k3,k4,k5,k6,k7,k8,k9⟩:=qN hc
   rcases e with rfl | rfl
   ·exact absurd (List.cons.inj h).1.symm k3
   ·exact absurd (List.cons.inj h).1.symm k4
  | fls=>rcases e with rfl | rfl <;> exact absurd (List.cons.inj h).1 (by decide)
  | @one op' g2 hg2 e' =>
   rw [kH,kH,List.append_assoc,List.append_assoc] at h
   rcases e with rfl | rfl <;> rcases e' with rfl | rfl | rfl | rfl | rfl <;> simp [jQ,eK,mH,gU,wAll,mI] at h
  | @quant op' m g2 hg2 e' hv' =>
   rw [kH,kH,List.append_assoc,List.append_assoc] at h
   have k : op = op' ∧ n ++ 32 :: (prTx (decide (wStr g1.op < 6),g1) ++ s) = m ++ 32 :: (prTx (decide (wStr g2.op < 6),g2) ++ t):=by
    rcases e with rfl | rfl <;> rcases e' with rfl | rfl <;> simp [jQ,eK,wAll,mI] at h <;> first | exact ⟨rfl,h⟩ | exact h.elim
   obtain ⟨e0,k2⟩:=var_sp hv hv' k.2
   obtain ⟨e1,e2⟩:=ih _ _ _ _ _ (nX hg1 n1) (nX hg2 (Nat.le_refl _)) hs ht k2
   have e3 : g1 = g2:=congrArg Prod.snd e1
   rw [k.1,e0,e3]
   exact ⟨rfl,e2⟩
theorem wU : ∀ N,wX N
 | 0=>fun p q s t M hp _ _ _ _=>by
  have:=hp.le
  have h1 : 1 ≤ p.2.nodes:=by cases p.2;simp only [Fm.nodes];omega
  omega
 | N + 1=>fun p q s t M hp hq hs ht h=>by
  obtain ⟨b,f⟩:=p
  obtain ⟨b',g⟩:=q
  have l:=hp.le
  cases b with
  | true =>
   cases b' with
   | true =>
    simp only [prTx,brk,if_true,List.cons_append,List.append_assoc,List.cons.injEq,true_and,List.nil_append] at h
    simp only [if_true] at l
    obtain ⟨e1,e2⟩:=vQ (wU N) f g (41 :: s) (41 :: t) hp.ok hq.ok (by omega) (.inr (.inl ⟨s,rfl⟩)) (.inr (.inl ⟨t,rfl⟩)) h
    exact ⟨by rw [e1],(List.cons.inj e2).2⟩
   | false =>
    obtain ⟨c,r,e,hc,-⟩:=rO (rP hq.ok (hq.six rfl))
    simp only [prTx,brk,if_true,Bool.false_eq_true,if_false] at h
    rw [show (false,g).2.ft = g.ft from rfl] at h
    simp only at e
    rw [e] at h
    exact absurd (List.cons.inj h).1.symm hc
  | false =>
   cases b' with
   | true =>
    obtain ⟨c,r,e,hc,-⟩:=rO (rP hp.ok (hp.six rfl))
    simp only [prTx,brk,if_true,Bool.false_eq_true,if_false] at h
    simp only at e
    rw [e] at h
    exact absurd (List.cons.inj h).1 hc
   | false =>
    simp only [prTx,brk,Bool.false_eq_true,if_false] at h
    simp only [Bool.false_eq_true,if_false,Nat.add_zero] at l
    obtain ⟨e1,e2⟩:=six_inj (wU N) (rP hp.ok (hp.six rfl)) (rP hq.ok (hq.six rfl)) l hs ht h
    exact ⟨by rw [show f = g from e1],e2⟩
theorem ft_inj {f g : Fm} (hf : f.ok = true) (hg : g.ok = true) {s t : Bs} (hs : iU s) (ht : iU t) (h : f.ft ++ s = g.ft ++ t) : f = g ∧ s = t:=vQ (wU _) f g s t hf hg (Nat.le_refl _) hs ht h
theorem lY (l : List Bs) {s : Bs} (h : iU s) : iU (cN l ++ s):=by
 cases l with
 | nil=>exact h
 | cons x r=>exact .inr (.inr (.inl ⟨_,rfl⟩))
theorem wH : ∀ (l k : List Fm) (s t : Bs),bW l = true → bW k = true → (s = [] ∨ ∃ r,s = 32 :: 47 :: r) → (t = [] ∨ ∃ r,t = 32 :: 47 :: r) → cN (dS l) ++ s = cN (dS k) ++ t → l = k ∧ s = t
 | [],[],s,t,_,_,_,_,h=>⟨rfl,h⟩
 | [],g :: k,s,t,_,_,hs,_,h=>by
  simp only [dS,cN,List.nil_append,List.cons_append] at h
  rcases hs with rfl | ⟨r,rfl⟩
  ·cases h
  ·exact absurd (List.cons.inj h).1 (by decide)
 | f :: l,[],s,t,_,_,_,ht,h=>by
  simp only [dS,cN,List.nil_append,List.cons_append] at h
  rcases ht with rfl | ⟨r,rfl⟩
  ·cases h
  ·exact absurd (List.cons.inj h).1 (by decide)
 | f :: l,g :: k,s,t,hl,hk,hs,ht,h=>by
  simp only [bW,Bool.and_eq_true] at hl hk
  have es : ∀ {s : Bs},(s = [] ∨ ∃ r,s = 32 :: 47 :: r) → iU s:=fun h=>by
   rcases h with rfl | ⟨r,rfl⟩
   ·exact .inl rfl
   ·exact .inr (.inr (.inr ⟨r,rfl⟩))
  simp only [dS,cN,List.cons_append,List.append_assoc,List.cons.injEq,true_and] at h
  obtain ⟨e1,i1⟩:=ft_inj hl.1 hk.1 (lY _ (es hs)) (lY _ (es ht)) h
  obtain ⟨e2,i2⟩:=wH l k s t hl.2 hk.2 hs ht i1
  exact ⟨by rw [e1,e2],i2⟩
def gF (l : List Fm) : Bs:=cB (dS l)
theorem xO {f : Fm} (h : f.ok = true) : ∃ c r,f.ft = c :: r ∧ c ≠ 32:=by
 have a:=(eU f h).p
 rw [lD f h]
 cases e : f.chain.1.1 with
 | true=>exact ⟨40,f.chain.1.2.ft ++ 41 :: fL f.chain.2,by simp [prTx,brk,e],by decide⟩
 | false =>
  obtain ⟨c,r,e2,-,hc⟩:=rO (rP a.ok (a.six e))
  exact ⟨c,r ++ fL f.chain.2,by simp only [prTx,brk,e,Bool.false_eq_true,if_false,e2,List.cons_append],hc⟩
theorem pL {l k : List Fm} {s t : Bs} (hl : bW l = true) (hk : bW k = true) (hs : s = [] ∨ ∃ r,s = 32 :: 47 :: r) (ht : t = [] ∨ ∃ r,t = 32 :: 47 :: r) (h : gF l ++ s = gF k ++ t) : l = k ∧ s = t:=by
 unfold gF at h
 cases l with
 | nil =>
  cases k with
  | nil=>exact ⟨rfl,h⟩
  | cons g k =>
   simp only [bW,Bool.and_eq_true] at hk
   obtain ⟨c,r,e,hc⟩:=xO hk.1
   simp only [dS,cB,e,List.nil_append,List.cons_append] at h
   rcases hs with rfl | ⟨q,rfl⟩
   ·cases h
   ·exact absurd (List.cons.inj h).1.symm hc
 | cons f l =>
  cases k with
  | nil =>
   simp only [bW,Bool.and_eq_true] at hl
   obtain ⟨c,r,e,hc⟩:=xO hl.1
   simp only [dS,cB,e,List.nil_append,List.cons_append] at h
   rcases ht with rfl | ⟨q,rfl⟩
   ·cases h
   ·exact absurd (List.cons.inj h).1 hc
  | cons g k =>
   have es : ∀ {s : Bs},(s = [] ∨ ∃ r,s = 32 :: 47 :: r) → iU s:=fun h=>by
    rcases h with rfl | ⟨r,rfl⟩
    ·exact .inl rfl
    ·exact .inr (.inr (.inr ⟨r,rfl⟩))
   simp only [bW,Bool.and_eq_true] at hl hk
   simp only [dS,cB,List.append_assoc] at h
   obtain ⟨e1,i1⟩:=ft_inj hl.1 hk.1 (lY _ (es hs)) (lY _ (es ht)) h
   obtain ⟨e2,i2⟩:=wH l k s t hl.2 hk.2 hs ht i1
   exact ⟨by rw [e1,e2],i2⟩
def kC (L R : List Fm) : Bs:=gF L ++ 32 :: 47 :: 32 :: gF R
theorem claimTx_inj {L R L' R' : List Fm} (hL : bW L = true) (hR : bW R = true) (hL' : bW L' = true) (hR' : bW R' = true) (h : kC L R = kC L' R') : L = L' ∧ R = R':=by
 obtain ⟨e1,e2⟩:=pL hL hL' (.inr ⟨_,rfl⟩) (.inr ⟨_,rfl⟩) h
 simp only [List.cons.injEq,true_and] at e2
 obtain ⟨e3,-⟩:=pL (s:=[]) (t:=[]) hR hR' (.inl rfl) (.inl rfl) (by simpa using e2)
 exact ⟨e1,e3⟩
end Ly
namespace Go.Proofs.YtppfalbnhnpbnaaGreatDoor
open Go Go.RowKit Ly
set_option maxRecDepth 10000
def up (B : Nat) (k : Nat) : Bool:=decide (B ≤ k)
theorem dJ {B : Nat} {w w' : World} (h : Below B w w') : bI (hide (up B) w) (hide (up B) w'):=aH fun k h1 h2=>⟨h2,h.block k (by simpa [up] using h2)⟩
theorem bL {p : Nat → Bool} {w : World} : bI (hide p w) w:=fun a v h=>by
 rw [cD (eA h)] at h
 exact h
theorem Bld.lt {B b : Nat} {bs : Bs} {w : World} (h : Bld B b bs w) : B ≤ b ∧ b < w.heap.size:=by
 rcases h with h | h <;> exact ⟨h.1,h.lt⟩
theorem Bld.alloc {B b : Nat} {bs : Bs} {w : World} (h : Bld B b bs w) (o : Obj) : Bld B b bs (w.alloc o):=by
 rcases h with h | h
 ·exact .inl (h.alloc o)
 ·exact .inr (h.alloc o)
theorem Bld.le {B b : Nat} {bs : Bs} {w : World} (h : Bld B b bs w) : B ≤ w.heap.size:=by have:=h.lt;omega
theorem own_below {B n : Nat} {v : Value} {xs : List Value} {w w' : World} (h : w.ownsRowF B 5 1 v n xs) (hb : Below w.heap.size w w') : w'.ownsRowF B 5 1 v n xs:=by
 refine ⟨h.1, ?_⟩
 rcases h.2 with h0 | ⟨g,cap,cur,fz,e,h1,h2,rest⟩
 ·exact .inl h0
 ·exact .inr ⟨g,cap,cur,fz,e,h1,(hb.block _ (Array.getElem?_eq_some_iff.1 h2).1).trans h2,rest⟩
section
variable {B b : Nat} {bs bs' : Bs} {w w1 w2 : World}
theorem Wrote.refl (h : Bld B b bs w) : Wrote B b bs w w:=⟨h,Below.refl _ _,Lib.OthersKept.refl _ _ _⟩
theorem Wrote.trans (h : Wrote B b bs w w1) (k : Wrote B b bs' w1 w2) : Wrote B b bs' w w2:=⟨k.bld,h.bw.trans k.bw,h.ok.trans k.ok⟩
theorem Wrote.alloc (h : Wrote B b bs w w1) (o : Obj) : Wrote B b bs w (w1.alloc o):=⟨h.bld.alloc o,h.bw.alloc h.bld.le o,h.ok.alloc o⟩
theorem Wrote.box (h : Wrote B b bs w w1) {g : Nat} {cs : Array Value} {t : TypeId} {fr : Nat × Nat} (hg : w.heap[g]? = some (.cells cs t fr)) (ne : g ≠ b) (ht : t ≠ 5) : w1.heap[g]? = some (.cells cs t fr) :=
 h.ok g _ hg (fun e=>ne (Option.some.inj e)) fun c fz e=>ht (by cases e;rfl)
theorem Wrote.next (h : Wrote B b bs w w1) (hb : Below w1.heap.size w1 w2) : Wrote B b bs w w2:=by
 refine ⟨?_,h.bw.trans (hb.mono h.bld.le),fun k o hk hne ho=>(hb.block k (Array.getElem?_eq_some_iff.1 (h.ok k o hk hne ho)).1).trans (h.ok k o hk hne ho)⟩
 have hl:=h.bld.lt
 rcases h.bld with ⟨h1,v,h2,h3,h4⟩ | ⟨h1,v,h2,h3,h4⟩
 ·exact .inl ⟨h1,v,(hb.block _ hl.2).trans h2,own_below h3 hb,h4⟩
 ·exact .inr ⟨h1,v,(hb.block _ hl.2).trans h2,own_below h3 hb,h4⟩
end
theorem oT : ∀ l : List Tm,cT l = l.map Tm.ft
 | []=>rfl
 | t :: l=>by rw [cT,oT l];rfl
theorem pQ : ∀ l m : List Bs,cN (l ++ m) = cN l ++ cN m
 | [],m=>rfl
 | x :: l,m=>by simp only [List.cons_append,cN,pQ l m,List.append_assoc]
theorem pF {l : List Bs} {j : Nat} {x : Bs} (h : l[j]? = some x) : cB (l.take (j + 1)) = cB (l.take j) ++ ((if j = 0 then [] else [44,32]) ++ x):=by
 rw [List.take_add_one,h]
 cases l with
 | nil=>cases h
 | cons y l =>
  cases j with
  | zero=>simp at h;subst h;simp [cB,cN]
  | succ j=>simp [cB,pQ,cN]
theorem rN : ∀ (l : List Bs) (j : Nat),(cN (l.take j)).length ≤ (cN l).length
 | [],_=>by simp
 | x :: l,0=>by simp [cN]
 | x :: l,j + 1=>by have:=rN l j;simp only [List.take_succ_cons,cN,List.length_cons,List.length_append];omega
theorem lT (l : List Bs) (j : Nat) : (cB (l.take j)).length ≤ (cB l).length:=by
 cases l with
 | nil=>simp
 | cons x l =>
  cases j with
  | zero=>simp [cB]
  | succ j=>have:=rN l j;simp only [List.take_succ_cons,cB,List.length_append];omega
theorem rowT {w : World} {b : Nat} {x y z : Value} {ty : TypeId} (h : w.heap[b]? = some (.cells #[x,y,z] ty (0,0))) : w.cell? ⟨b,0,none⟩ = some x ∧ w.cell? ⟨b,1,none⟩ = some y ∧ w.cell? ⟨b,2,none⟩ = some z :=
 ⟨(bE h 0).trans rfl,(bE h 1).trans rfl,(bE h 2).trans rfl⟩
def WT (t : Tm) : Prop:=∀ (B b : Nat) (bs : Bs) (W : World) (x : Value),Bld B b bs W → dC (hide (up B) W) t x → bs.length + t.ft.length ≤ 500000000 →
 Calls Tryz.prog 237 #[one b,x] W fun e w'=>e = .returned (.tuple #[]) ∧ Wrote B b (bs ++ t.ft) W w'
set_option maxHeartbeats 4000000 in
theorem jt_c (ls : List Tm) (ih : ∀ t ∈ ls,WT t) (B b : Nat) (bs : Bs) (W : World) (a : Option Addr) (n c : Nat) (hB : Bld B b bs W) (hx : bG (hide (up B) W) ls (.slice a n c)) (hl : bs.length + (cB (cT ls)).length ≤ 500000000) :
  Calls Tryz.prog 258 #[one b,.slice a n c,str [44,32],.func (.func 237) #[] #[]] W fun e w'=>e = .returned (.tuple #[]) ∧ Wrote B b (bs ++ cB (cT ls)) W w':=by
 have hlen:=hx.len
 have N1 : n ≤ 9223372036854775807:=le63 (Nat.le_trans hlen.2.1 hlen.2.2)
 have L2:=Lib.hid hlen.1
 have HX:=Lib.hid hx
 have IH:=Lib.hid ih
 have HL:=Lib.hid hl
 have A0 : Hid (Wrote B b (bs ++ cB ((cT ls).take 0)) W W):=by
  rw [Hid,List.take_zero,cB,List.append_nil];exact .refl hB
 have STEP : Hid (∀ (j : Nat) (T : Tm),ls[j]? = some T → ∀ X x q,Wrote B b q W X → q = bs ++ cB ((cT ls).take j) ++ (if j = 0 then [] else [44,32]) → dC (hide (up B) X) T x → Calls Tryz.prog 237 #[one b,x] X fun e w'=>e = .returned (.tuple #[]) ∧ Wrote B b (bs ++ cB ((cT ls).take (j + 1))) W w'):=fun j T hT X x q hX e hv=>by
  have g : (cT ls)[j]? = some T.ft:=by rw [oT,List.getElem?_map,hT];rfl
  have k:=pF g
  have le:=lT (cT ls) (j + 1)
  refine (IH.out T (List.mem_of_getElem? hT) B b q X x hX.bld hv ?_).mono ?_
  ·rw [e];rw [k] at le;simp only [List.length_append] at le ⊢;have:=HL.out;omega
  ·rintro e2 w' ⟨rfl,h⟩
   refine ⟨rfl, ?_⟩
   have h2:=hX.trans h
   rw [e] at h2
   rw [k]
   simpa only [List.append_assoc] using h2
 have LB : Hid (∀ j,(bs ++ cB ((cT ls).take j)).length + 2 ≤ 1000000000):=fun j=>by have:=lT (cT ls) j;have:=HL.out;simp only [List.length_append];omega
 clear hx ih hl hlen hB
 go_enter Tryz.func258,Tryz.ntmps258
 go_wp2
 go_loopw [12] (fun i wr=>∃ j : Nat,j ≤ n ∧ i = .int .i64 j ∧ Hid (Wrote B b (bs ++ cB ((cT ls).take j)) W wr)) (fun i _=>n - (intOf i).toNat)
 case atStart=>exact ⟨0,Nat.zero_le _,rfl,A0.out⟩
 case round =>
  obtain ⟨j,hj,rfl,HS⟩:=hrel
  clear A0
  by_cases hlt : j < n
  ·obtain ⟨T,hT⟩:=aT (l:=ls) (j:=j) (by rw [← L2.out];exact hlt)
   have hx2:=HX.out.keep (dJ HS.out.bw)
   obtain ⟨bb,off,rfl,hc⟩:=hx2.get (aX hT)
   obtain ⟨x0,x1,x2,hx⟩:=hc j _ hT
   have c0:=bL _ _ hx.c0;have c1:=bL _ _ hx.c1;have c2:=bL _ _ hx.c2
   have HV:=Lib.hid hx.at_
   have ST:=Lib.hid (STEP.out j T hT)
   have LT:=HS.out.bld.lt
   have LT2 : b < wr.heap.size:=LT.2
   obtain ⟨wn,hwn⟩ : ∃ wn,wr.alloc (.cells #[.bool T.v,str T.name,.slice x0 x1 x2] 38) = wn:=⟨_,rfl⟩
   have SN : Hid (Wrote B b (bs ++ cB ((cT ls).take j)) W wn):=by rw [← hwn];exact HS.out.alloc _
   have RN : Hid (wn.heap[wr.heap.size]? = some (.cells #[.bool T.v,str T.name,.slice x0 x1 x2] 38 (0,0))):=by rw [Hid,← hwn];exact heap_alloc_new _ _
   have VN : Hid (∀ X,Wrote B b (bs ++ cB ((cT ls).take j)) W X ∨ Wrote B b (bs ++ cB ((cT ls).take j) ++ [44,32]) W X → Below B wr X → dC (hide (up B) X) T (.agg #[.bool T.v,str T.name,.slice x0 x1 x2])):=fun X _ hX=>⟨_,_,_,rfl,HV.out.keep (dJ hX)⟩
   have BN : Hid (Below B wr wn):=by rw [Hid,← hwn];exact (Below.refl _ _).alloc (by omega) _
   clear hc hx hx2 hT LT
   rcases Nat.eq_zero_or_pos j with hz | hz
   ·have jz : ¬ (0 : Int) < (j : Int):=by omega
    have HZ:=Lib.hid hz
    clear hz
    obtain ⟨d0,d1,d2⟩:=rowT RN.out
    go_wp2_with (
           go_at_call 237
           refine (ST.out _ _ _ SN.out (by rw [if_pos HZ.out,List.append_nil]) (VN.out _ (.inl SN.out) BN.out)).mono ?_
           rintro e w3 ⟨rfl,h3⟩
           have S3:=Lib.hid h3
           clear h3)
    go_roundw
    case rel=>exact ⟨j + 1,by omega,by go_num,S3.out⟩
    case measure=>simp [intOf];omega
   ·have jp : (0 : Int) < (j : Int):=by omega
    go_wp2_with (first
     | (
       have Z:=S2.out;clear Z;go_at_call 237
       refine (ST.out _ _ _ S2.out (by rw [if_neg (Nat.ne_of_gt hz)]) (VN.out _ (.inr S2.out) B2.out)).mono ?_
       rintro e w3 ⟨rfl,h3⟩
       have S3:=Lib.hid h3
       clear h3)
     | (
       go_at_call 207
       refine (ws_c B b _ _ _ SN.out.bld (by exact LB.out j) SN.out.bld.le).mono ?_
       rintro e w2 ⟨⟨n2,rfl⟩,h2⟩
       have S2:=Lib.hid (SN.out.trans h2)
       have B2:=Lib.hid (BN.out.trans h2.bw)
       obtain ⟨d0,d1,d2⟩:=rowT (h2.box RN.out (by omega) (by decide))
       clear h2))
    go_roundw
    case rel=>exact ⟨j + 1,by omega,by go_num,S3.out⟩
    case measure=>simp [intOf];omega
  ·have e : (cT ls).take j = cT ls:=List.take_of_length_le (by rw [oT,List.length_map,← L2.out];omega)
   have h2:=HS.out
   rw [e] at h2
   have FF:=Lib.hid h2
   clear h2 e
   go_wp2
   go_end0
   exact ⟨rfl,FF.out⟩
set_option maxHeartbeats 4000000 in
theorem wt_step (v : Bool) (nm : Bs) (ls : List Tm) (ih : ∀ t ∈ ls,WT t) : WT (.mk v nm ls):=by
 intro B b bs W x hB hx hl
 obtain ⟨a,n,c,rfl,hx⟩ : ∃ a n c,x = .agg #[.bool v,str nm,.slice a n c] ∧ bG (hide (up B) W) ls (.slice a n c):=hx
 have hlen:=hx.len
 have N1 : n ≤ 9223372036854775807:=le63 (Nat.le_trans hlen.2.1 hlen.2.2)
 have L2:=Lib.hid hlen.1
 have LT:=hB.lt
 have BL:=Lib.hid hB.le
 have LTb : b < W.heap.size:=LT.2
 have e0 : (Tm.mk v nm ls).ft = nm ++ fS (cT ls):=rfl
 rw [e0] at hl ⊢
 obtain ⟨W1,hW1⟩ : ∃ W1,W.alloc (.cells #[.bool v,str nm,.slice a n c] 38) = W1:=⟨_,rfl⟩
 have S1 : Hid (Wrote B b bs W W1):=by rw [← hW1];exact (Wrote.refl hB).alloc _
 have R1 : Hid (W1.heap[W.heap.size]? = some (.cells #[.bool v,str nm,.slice a n c] 38 (0,0))):=by rw [Hid,← hW1];exact heap_alloc_new _ _
 have HX:=Lib.hid hx
 have HL : Hid (bs.length + nm.length + (fS (cT ls)).length ≤ 500000000):=by rw [List.length_append] at hl;show _ ≤ _;omega
 obtain ⟨p0,p1,p2⟩:=rowT R1.out
 clear hx hl hlen hB e0 LT
 go_enter Tryz.func237,Tryz.ntmps237
 cases ls with
 | nil =>
  have n0 : n = 0:=by rw [L2.out];rfl
  subst n0
  go_wp2_with (
         go_at_call 207
         refine (ws_c B b _ _ _ S1.out.bld (by have:=HL.out;omega) S1.out.bld.le).mono ?_
         rintro e w2 ⟨⟨n2,rfl⟩,h2⟩
         have S2:=Lib.hid (S1.out.trans h2)
         obtain ⟨d0,d1,d2⟩:=rowT (h2.box R1.out (by omega) (by decide))
         clear h2)
  go_end0
  refine ⟨rfl, ?_⟩
  have : nm ++ fS (cT []) = nm:=by simp [cT,fS]
  rw [this]
  exact S2.out
 | cons t ts =>
  have np : (0 : Int) < (n : Int):=by have:=L2.out;simp at this;omega
  obtain ⟨cm,hcm⟩ : ∃ cm,cB (cT (t :: ts)) = cm:=⟨_,rfl⟩
  have TE : Hid (fS (cT (t :: ts)) = 40 :: (cm ++ [41])):=by rw [Hid,← hcm];rfl
  have HL2 : Hid (bs.length + nm.length + (cm.length + 2) ≤ 500000000):=by have:=HL.out;rw [TE.out] at this;simp only [List.length_cons,List.length_append,List.length_nil] at this;show _ ≤ _;omega
  have JC : Hid (∀ X q,Wrote B b q W X → q.length + cm.length ≤ 500000000 → Calls Tryz.prog 258 #[one b,.slice a n c,str [44,32],.func (.func 237) #[] #[]] X fun e w'=>e = .returned (.tuple #[]) ∧ Wrote B b (q ++ cm) X w'):=fun X q hX hq=>by
   have:=jt_c (t :: ts) ih B b q X a n c hX.bld (HX.out.keep (dJ hX.bw)) (by rw [hcm];exact hq)
   rwa [hcm] at this
  clear ih HL hcm
  go_wp2_with (first
   | (
     have Z:=S4.out;clear Z;go_at_call 207
     refine (ws_c B b _ _ _ S4.out.bld (by have:=HL2.out;simp only [List.length_append,List.length_cons,List.length_nil];omega) S4.out.bld.le).mono ?_
     rintro e w5 ⟨⟨n2,rfl⟩,h2⟩
     have S5:=Lib.hid (S4.out.trans h2)
     clear h2)
   | (
     have Z:=S3.out;clear Z;go_at_call 258
     refine (JC.out _ _ S3.out (by have:=HL2.out;simp only [List.length_append,List.length_cons,List.length_nil];omega)).mono ?_
     rintro e w4 ⟨rfl,h2⟩
     have S4:=Lib.hid (S3.out.trans h2)
     clear h2)
   | (
     have Z:=S2.out;clear Z;go_at_call 207
     refine (ws_c B b _ _ _ S2.out.bld (by have:=HL2.out;simp only [List.length_append,List.length_cons,List.length_nil];omega) S2.out.bld.le).mono ?_
     rintro e w3 ⟨⟨n2,rfl⟩,h2⟩
     have S3:=Lib.hid (S2.out.trans h2)
     have R3:=Lib.hid (h2.box R2.out (by omega) (by decide))
     clear h2 p0 p1 p2
     obtain ⟨p0,p1,p2⟩:=rowT R3.out)
   | (
     go_at_call 207
     refine (ws_c B b _ _ _ S1.out.bld (by have:=HL2.out;omega) S1.out.bld.le).mono ?_
     rintro e w2 ⟨⟨n2,rfl⟩,h2⟩
     have S2:=Lib.hid (S1.out.trans h2)
     have R2:=Lib.hid (h2.box R1.out (by omega) (by decide))
     clear h2 p0 p1 p2
     obtain ⟨p0,p1,p2⟩:=rowT R2.out))
  go_end0
  refine ⟨rfl, ?_⟩
  rw [TE.out]
  have:=S5.out
  simpa only [List.append_assoc,List.cons_append,List.nil_append] using this
mutual
theorem zX : ∀ t : Tm,WT t
 | .mk v n ls=>wt_step v n ls (yM ls)
theorem yM : ∀ l : List Tm,∀ t ∈ l,WT t
 | [],_,h=>by cases h
 | x :: l,t,h=>(List.mem_cons.1 h).elim (fun e=>e ▸ zX x) (fun h=>yM l t h)
end
theorem rQ (B b : Nat) (bs : Bs) (w : World) (h : Bld B b bs w) : Calls Tryz.prog 172 #[one b] w fun e w'=>e = .returned (str bs) ∧ Below B w w' :=
 (Tryz.Builder_String_any_f B b bs w h h.le).mono fun e w' ⟨h1,_,h2⟩=>⟨h1,h2⟩
end Go.Proofs.YtppfalbnhnpbnaaGreatDoor
