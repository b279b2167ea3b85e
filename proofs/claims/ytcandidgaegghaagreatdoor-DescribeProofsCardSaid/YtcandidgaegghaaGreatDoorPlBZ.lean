/- Plain laws: reading words back; what the statements build out of bytes is right; claims are told by their words. Nothing of the program is imported. -/
import Derived.Test.YtcandidgaegghaaGreatDoorPlZ
set_option maxRecDepth 10000
set_option linter.unusedSimpArgs false
set_option linter.unusedVariables false
/- Plain law: reading words back. What the reader of words answers, and that it reads the words of a right formula. Nothing of the program is imported. -/
namespace Ly

inductive PR (α : Type) where
 | bad (rest : List Bs)
 | good (x : α) (rest : List Bs)

mutual
def fE : Nat → List Bs → PR Tm
 | 0,ws=>.bad ws
 | _ + 1,[]=>.bad []
 | n + 1,w :: ws =>
  if aZ w = true then .good (.mk true w []) ws
  else if dO w = true then
   match eM n ws with
   | .bad r=>.bad r
   | .good as r=>.good (.mk false w as) r
  else .bad (w :: ws)
def eM : Nat → List Bs → PR (List Tm)
 | 0,ws=>.bad ws
 | _ + 1,[]=>.good [] []
 | n + 1,w :: ws=>if w = wOf then eQ n ws else .good [] (w :: ws)
def eQ : Nat → List Bs → PR (List Tm)
 | 0,ws=>.bad ws
 | n + 1,ws =>
  match fE n ws with
  | .bad r=>.bad r
  | .good _ []=>.bad []
  | .good t (x :: r) =>
   if x = wAnd then
    match eQ n r with
    | .bad s=>.bad s
    | .good ts s=>.good (t :: ts) s
   else if x = cB then .good [t] r else .bad (x :: r)
end

def iF (w : Bs) : Int:=if w = wNot then 3 else if w = wNec then 10 else if w = wPos then 11 else if w = iZ then 12 else if w = eO then 13 else 0
def iO (w : Bs) : Int:=if w = nA then 4 else if w = hH then 5 else if w = wIf then 6 else if w = wAs then 7 else if w = jQ then 14 else 0

def bJ : Nat → List Bs → PR Fm
 | 0,ws=>.bad ws
 | _ + 1,[]=>.bad []
 | n + 1,w :: ws =>
  if w = cF then .good (.mk 2 [] [] []) ws
  else if iF w ≠ 0 then
   match bJ n ws with
   | .bad r=>.bad r
   | .good f r=>.good (.mk (iF w) [] [] [f]) r
  else if iO w ≠ 0 then
   match bJ n ws with
   | .bad r=>.bad r
   | .good _ []=>.bad []
   | .good f (x :: r) =>
    if x = aG (iO w) then
     match bJ n r with
     | .bad s=>.bad s
     | .good g s=>.good (.mk (iO w) [] [] [f,g]) s
    else .bad (x :: r)
  else if w = wFor then
   match ws with
   | []=>.bad []
   | q :: ws' =>
    if q = wAll ∨ q = eA then
     match ws' with
     | []=>.bad []
     | v :: r =>
      if aZ v = true then
       match bJ n r with
       | .bad s=>.bad s
       | .good f s=>.good (.mk (if q = eA then 9 else 8) v [] [f]) s
      else .bad (v :: r)
    else .bad (q :: ws')
  else if bN w = true then
   match eM n ws with
   | .bad r=>.bad r
   | .good as r=>.good (.mk 1 w as []) r
  else .bad (w :: ws)

/- What is left is shorter. -/
mutual
theorem uE : ∀ (n : Nat) (ws : List Bs) (t : Tm) (r : List Bs),fE n ws = .good t r → r.length < ws.length
 | 0,ws,t,r,h=>by simp [fE] at h
 | n + 1,[],t,r,h=>by simp [fE] at h
 | n + 1,w :: ws,t,r,h=>by
  simp only [fE] at h
  split at h
  ·simp at h;obtain ⟨_,rfl⟩:=h;simp
  ·split at h
   ·split at h
    ·cases h
    ·rename_i as r' e
     have:=xZ n ws as r' e
     simp at h;obtain ⟨_,rfl⟩:=h;simp;omega
   ·cases h
theorem xZ : ∀ (n : Nat) (ws : List Bs) (t : List Tm) (r : List Bs),eM n ws = .good t r → r.length ≤ ws.length
 | 0,ws,t,r,h=>by simp [eM] at h
 | n + 1,[],t,r,h=>by simp [eM] at h;obtain ⟨_,rfl⟩:=h;simp
 | n + 1,w :: ws,t,r,h=>by
  simp only [eM] at h
  split at h
  ·have:=BE n ws t r h;simp;omega
  ·simp at h;obtain ⟨_,rfl⟩:=h;simp
theorem BE : ∀ (n : Nat) (ws : List Bs) (t : List Tm) (r : List Bs),eQ n ws = .good t r → r.length < ws.length
 | 0,ws,t,r,h=>by simp [eQ] at h
 | n + 1,ws,t,r,h=>by
  simp only [eQ] at h
  split at h
  ·cases h
  ·cases h
  ·rename_i t' x r' e
   have h1:=uE n ws t' _ e
   simp at h1
   split at h
   ·split at h
    ·cases h
    ·rename_i ts s e2
     have h2:=BE n r' ts s e2
     simp at h;obtain ⟨_,rfl⟩:=h;omega
   ·split at h
    ·simp at h;obtain ⟨_,rfl⟩:=h;omega
    ·cases h
end

theorem kY : ∀ (n : Nat) (ws : List Bs) (t : Fm) (r : List Bs),bJ n ws = .good t r → r.length < ws.length
 | 0,ws,t,r,h=>by simp [bJ] at h
 | n + 1,[],t,r,h=>by simp [bJ] at h
 | n + 1,w :: ws,t,r,h=>by
  simp only [bJ] at h
  split at h
  ·simp at h;obtain ⟨_,rfl⟩:=h;simp
  split at h
  ·split at h
   ·cases h
   ·rename_i f r' e
    have:=kY n ws f r' e
    simp at h;obtain ⟨_,rfl⟩:=h;simp;omega
  split at h
  ·split at h
   ·cases h
   ·cases h
   ·rename_i f x r' e
    have h1:=kY n ws f _ e
    simp at h1
    split at h
    ·split at h
     ·cases h
     ·rename_i g s e2
      have h2:=kY n r' g s e2
      simp at h;obtain ⟨_,rfl⟩:=h;simp;omega
    ·cases h
  split at h
  ·split at h
   ·cases h
   ·rename_i q ws'
    split at h
    ·split at h
     ·cases h
     ·rename_i v r'
      split at h
      ·split at h
       ·cases h
       ·rename_i f s e
        have:=kY n r' f s e
        simp at h;obtain ⟨_,rfl⟩:=h;simp;omega
      ·cases h
    ·cases h
  split at h
  ·split at h
   ·cases h
   ·rename_i as r' e
    have:=xZ n ws as r' e
    simp at h;obtain ⟨_,rfl⟩:=h;simp;omega
  ·cases h

/- The words of what is right are read. -/
mutual
theorem FQ : ∀ (t : Tm) (n : Nat) (r : List Bs),t.ok = true → zH r → 3 * (t.words ++ r).length + 1 ≤ n → fE n (t.words ++ r) = .good t r
 | .mk v nm as,n,r,h,hr,hn=>by
  rw [Tm.words_eq,List.cons_append] at hn ⊢
  obtain ⟨m,rfl⟩ : ∃ m,n = m + 1:=⟨n - 1,by omega⟩
  simp only [fE]
  simp only [Tm.ok] at h
  cases v with
  | true =>
   simp only [if_true,Bool.and_eq_true] at h
   have : as = []:=by simpa using h.1
   subst this
   simp [h.2,aQ,jS]
  | false =>
   simp only [Bool.false_eq_true,if_false,Bool.and_eq_true] at h
   have nv : aZ nm ≠ true:=fun e=>var_not_fun e h.1.2
   simp only [List.length_cons] at hn
   rw [if_neg nv,if_pos h.1.2,BG as m r h.2 hr (by omega)]
theorem BG : ∀ (as : List Tm) (n : Nat) (r : List Bs),cJ as = true → zH r → 3 * ((aQ true as ++ jS as) ++ r).length + 1 ≤ n → eM n ((aQ true as ++ jS as) ++ r) = .good as r
 | [],n,r,h,hr,hn=>by
  obtain ⟨m,rfl⟩ : ∃ m,n = m + 1:=⟨n - 1,by omega⟩
  cases r with
  | nil=>simp [aQ,jS,eM]
  | cons x r=>have:=hr x r rfl;simp [aQ,jS,eM,this]
 | a :: as,n,r,h,hr,hn=>by
  obtain ⟨m,rfl⟩ : ∃ m,n = m + 1:=⟨n - 1,by omega⟩
  have e : (aQ true (a :: as) ++ jS (a :: as)) ++ r = wOf :: (a.words ++ (aQ false as ++ cB :: r)):=by simp [aQ,jS]
  rw [e] at hn ⊢
  simp only [eM,if_true]
  simp only [List.length_cons] at hn
  exact FP a as m r h hr (by omega)
theorem FP : ∀ (a : Tm) (as : List Tm) (n : Nat) (r : List Bs),cJ (a :: as) = true → zH r → 3 * (a.words ++ (aQ false as ++ cB :: r)).length + 2 ≤ n → eQ n (a.words ++ (aQ false as ++ cB :: r)) = .good (a :: as) r
 | a,[],n,r,h,hr,hn=>by
  obtain ⟨m,rfl⟩ : ∃ m,n = m + 1:=⟨n - 1,by omega⟩
  simp only [cJ,Bool.and_eq_true] at h
  simp only [aQ,List.nil_append] at hn ⊢
  simp only [eQ]
  rw [FQ a m (cB :: r) h.1 (rG (by decide)) (by omega)]
  simp [show cB ≠ wAnd by decide]
 | a,b :: bs,n,r,h,hr,hn=>by
  obtain ⟨m,rfl⟩ : ∃ m,n = m + 1:=⟨n - 1,by omega⟩
  have h0:=h
  simp only [cJ,Bool.and_eq_true] at h
  have e : aQ false (b :: bs) ++ cB :: r = wAnd :: (b.words ++ (aQ false bs ++ cB :: r)):=by simp [aQ]
  rw [e] at hn ⊢
  simp only [eQ]
  rw [FQ a m _ h.1 (rG (by decide)) (by omega)]
  simp only [List.length_append,List.length_cons] at hn
  simp only [if_true]
  rw [FP b bs m r (by simp only [cJ,Bool.and_eq_true];exact h.2) hr (by simp only [List.length_append,List.length_cons];omega)]
end

theorem qP {w : Bs} (h : bN w = true) : w ≠ cF ∧ iF w = 0 ∧ iO w = 0 ∧ w ≠ wFor:=by
 have e : ∀ k : Bs,(∀ c r,k = c :: r → cZ c = false) → w ≠ k:=fun k hk=>vO h hk
 have h2:=e cF (by intro c r e;cases e;decide)
 have h3:=e wNot (by intro c r e;cases e;decide)
 have h10:=e wNec (by intro c r e;cases e;decide)
 have h11:=e wPos (by intro c r e;cases e;decide)
 have h12:=e iZ (by intro c r e;cases e;decide)
 have h13:=e eO (by intro c r e;cases e;decide)
 have h4:=e nA (by intro c r e;cases e;decide)
 have h5:=e hH (by intro c r e;cases e;decide)
 have h6:=e wIf (by intro c r e;cases e;decide)
 have h7:=e wAs (by intro c r e;cases e;decide)
 have h14:=e jQ (by intro c r e;cases e;decide)
 have h8:=e wFor (by intro c r e;cases e;decide)
 refine ⟨h2, ?_, ?_,h8⟩
 ·simp [iF,h3,h10,h11,h12,h13]
 ·simp [iO,h4,h5,h6,h7,h14]

theorem len0 {α : Type} {l : List α} (h : l.length = 0) : l = []:=List.eq_nil_of_length_eq_zero h
theorem len1 {α : Type} {l : List α} (h : l.length = 1) : ∃ x,l = [x]:=by
 match l,h with
 | [x],_=>exact ⟨x,rfl⟩
theorem len2 {α : Type} {l : List α} (h : l.length = 2) : ∃ x y,l = [x,y]:=by
 match l,h with
 | [x,y],_=>exact ⟨x,y,rfl⟩

set_option linter.unusedSimpArgs false in
set_option maxRecDepth 4000 in
theorem mW : ∀ (n : Nat) (f : Fm) (r : List Bs),f.ok = true → zH r → 3 * (f.toks ++ r).length + 1 ≤ n → bJ n (f.toks ++ r) = .good f r
 | 0,f,r,h,hr,hn=>by omega
 | n + 1,.mk op nm as sub,r,h,hr,hn=>by
  have ho:=Fm.ok_op h
  have hk:=h
  simp only [Fm.ok,Bool.and_eq_true,decide_eq_true_eq] at h
  obtain ⟨⟨⟨⟨l1,_⟩,h2⟩,h3⟩,h4⟩:=h
  by_cases o1 : op = 1
  ·subst o1
   have z : sub = []:=len0 (by simpa [arity] using l1)
   subst z
   simp only [Fm.toks,if_true,termWords_eq,List.cons_append] at hn ⊢
   have hp : bN nm = true:=by simp_all
   obtain ⟨e1,e2,e3,e4⟩:=qP hp
   simp only [List.length_cons] at hn
   simp only [bJ,e1,e2,e3,e4,if_false,ne_eq,not_true_eq_false,hp,if_true]
   rw [BG as n r h3 hr (by omega)]
  ·rw [if_neg o1] at h2
   have as0 : as = []:=by simp_all
   subst as0
   by_cases o2 : op = 2
   ·subst o2
    have z : sub = []:=len0 (by simpa [arity] using l1)
    have en : nm = []:=by simp_all
    subst z en
    simp [Fm.toks,bJ]
   ·have h2n : op ≠ 8 → op ≠ 9 → nm = []:=by intro a b;simp_all
    have h2v : op = 8 ∨ op = 9 → aZ nm = true:=by intro a;simp_all
    simp only [Fm.toks,o1,o2,if_false,List.append_assoc] at hn ⊢
    rcases ho with ho | ho | rfl | rfl | rfl | rfl | rfl | rfl | rfl | rfl | rfl | rfl | rfl | rfl
    ·exact absurd ho o1
    ·exact absurd ho o2
    case inr.inr.inr.inr.inr.inr.inr.inl =>
     obtain ⟨x,rfl⟩:=len1 (by simpa [arity] using l1)
     simp only [dR,Bool.and_eq_true] at h4
     simp [dI,dL] at hn
     simp [dI,dL,bJ,iF,iO,wFor,cF,wNot,wNec,wPos,iZ,eO,nA,hH,wIf,wAs,jQ,wAll,eA,h2v (.inl rfl)]
     rw [mW n x r h4.1 hr (by simp;omega)]
    case inr.inr.inr.inr.inr.inr.inr.inr.inl =>
     obtain ⟨x,rfl⟩:=len1 (by simpa [arity] using l1)
     simp only [dR,Bool.and_eq_true] at h4
     simp [dI,dL] at hn
     simp [dI,dL,bJ,iF,iO,wFor,cF,wNot,wNec,wPos,iZ,eO,nA,hH,wIf,wAs,jQ,wAll,eA,h2v (.inr rfl)]
     rw [mW n x r h4.1 hr (by simp;omega)]
    all_goals
     obtain rfl:=h2n (by decide) (by decide)
    all_goals first
     | (
       obtain ⟨x,rfl⟩:=len1 (by simpa [arity] using l1)
       simp only [dR,Bool.and_eq_true] at h4
       simp [dI,aM,dL] at hn
       simp [dI,aM,dL,bJ,iF,iO,wFor,cF,wNot,wNec,wPos,iZ,eO,nA,hH,wIf,wAs,jQ,wAll,eA]
       rw [mW n x r h4.1 hr (by simp;omega)]
       done)
     | (
       obtain ⟨x,y,rfl⟩:=len2 (by simpa [arity] using l1)
       simp only [dR,Bool.and_eq_true] at h4
       simp [dI,aM,dL] at hn
       simp [dI,aM,dL,bJ,iF,iO,wFor,cF,wNot,wNec,wPos,iZ,eO,nA,hH,wIf,wAs,jQ,wAll,eA]
       rw [mW n x (_ :: (y.toks ++ r)) h4.1 (rG (signBetween_ne _)) (by simp;omega)]
       simp
       rw [mW n y r h4.2.1 hr (by simp;omega)]
       done)
end Ly
/- Plain law: the formulas and proofs that the statements build out of bytes (lyceumlaw30.Built, lyceumlaw41.Proved), and that they are right. Nothing of the program is imported. -/
namespace Ly

theorem ok_one {op : Int} {n : Bs} {f : Fm} (h : f.ok = true) (ho : op = 3 ∨ op = 10 ∨ op = 12 ∨ op = 8 ∨ op = 9) (hn : if op = 8 ∨ op = 9 then aZ n = true else n = []) : (Fm.mk op n [] [f]).ok = true:=by
 simp only [Fm.ok,dR,cJ,h]
 rcases ho with rfl | rfl | rfl | rfl | rfl <;> simp [arity] at hn ⊢ <;> simp [hn]
def marksOf (b k : Nat) : List Int:=(List.range ((b + k) % 4)).map fun j=>(((b * j * 7 + k) % 1000 : Nat) : Int)
theorem BJ (l : List Pf) : iX l = true ↔ ∀ f ∈ l,f.ok = true:=by
 induction l with
 | nil=>simp [iX]
 | cons x l ih=>simp [iX,ih]
theorem vM {l : List Pf} {B : Nat} (h : ∀ p ∈ l,p.depth + 1 ≤ B) : dX l ≤ B:=by
 induction l with
 | nil=>simp [dX]
 | cons x l ih =>
  simp only [dX]
  have h1:=h x (by simp)
  have h2:=ih (fun p hp=>h p (by simp [hp]))
  omega

end Ly
/- Plain law: claims are told by their words. Nothing of the program is imported. -/
namespace Ly
def gT : Bs:=[103,105,118,101,110,32]
def qZ : Bs:=[115,104,111,119,32]
def fT (G S : List Fm) : List Bs:=G.map (fun g=>gT ++ g.text) ++ S.map (fun g=>qZ ++ g.text)
def tT (G S : List Fm) : Bs:=aT [44,32] (fT G S)

theorem fD {f : Fm} (h : f.right = true) : f.ok = true:=by
 simp only [Fm.right,Bool.and_eq_true,decide_eq_true_eq] at h
 exact h.1.1

end Ly
