/- Plain laws: reading words back; what the statements build out of bytes is right; claims are told by their words. Nothing of the program is imported. -/
import Derived.Test.YtcandidgaegghaaGreatDoorPlZ
set_option maxRecDepth 10000
set_option linter.unusedSimpArgs false
set_option linter.unusedVariables false
/- Plain law: reading words back. What the reader of words answers, and that it reads the words of a right formula. Nothing of the program is imported. -/
namespace Ly

inductive PR (α : Type) where
 | bad (rest : List Bs)
 | good (x : α) (rest : List Bs)

mutual
def iP : Nat → List Bs → PR Tm
 | 0,ws=>.bad ws
 | _ + 1,[]=>.bad []
 | n + 1,w :: ws =>
  if bR w = true then .good (.mk true w []) ws
  else if bZ w = true then
   match iT n ws with
   | .bad r=>.bad r
   | .good as r=>.good (.mk false w as) r
  else .bad (w :: ws)
def iT : Nat → List Bs → PR (List Tm)
 | 0,ws=>.bad ws
 | _ + 1,[]=>.good [] []
 | n + 1,w :: ws=>if w = wOf then gX n ws else .good [] (w :: ws)
def gX : Nat → List Bs → PR (List Tm)
 | 0,ws=>.bad ws
 | n + 1,ws =>
  match iP n ws with
  | .bad r=>.bad r
  | .good _ []=>.bad []
  | .good t (x :: r) =>
   if x = wAnd then
    match gX n r with
    | .bad s=>.bad s
    | .good ts s=>.good (t :: ts) s
   else if x = fV then .good [t] r else .bad (x :: r)
end

def mB (w : Bs) : Int:=if w = wNot then 3 else if w = wNec then 10 else if w = wPos then 11 else if w = lC then 12 else if w = gO then 13 else 0
def mD (w : Bs) : Int:=if w = sW then 4 else if w = lY then 5 else if w = wIf then 6 else if w = wAs then 7 else if w = oM then 14 else 0

def dN : Nat → List Bs → PR Fm
 | 0,ws=>.bad ws
 | _ + 1,[]=>.bad []
 | n + 1,w :: ws =>
  if w = eE then .good (.mk 2 [] [] []) ws
  else if mB w ≠ 0 then
   match dN n ws with
   | .bad r=>.bad r
   | .good f r=>.good (.mk (mB w) [] [] [f]) r
  else if mD w ≠ 0 then
   match dN n ws with
   | .bad r=>.bad r
   | .good _ []=>.bad []
   | .good f (x :: r) =>
    if x = aP (mD w) then
     match dN n r with
     | .bad s=>.bad s
     | .good g s=>.good (.mk (mD w) [] [] [f,g]) s
    else .bad (x :: r)
  else if w = wFor then
   match ws with
   | []=>.bad []
   | q :: ws' =>
    if q = wAll ∨ q = fS then
     match ws' with
     | []=>.bad []
     | v :: r =>
      if bR v = true then
       match dN n r with
       | .bad s=>.bad s
       | .good f s=>.good (.mk (if q = fS then 9 else 8) v [] [f]) s
      else .bad (v :: r)
    else .bad (q :: ws')
  else if aY w = true then
   match iT n ws with
   | .bad r=>.bad r
   | .good as r=>.good (.mk 1 w as []) r
  else .bad (w :: ws)

/- What is left is shorter. -/
mutual
theorem uI : ∀ (n : Nat) (ws : List Bs) (t : Tm) (r : List Bs),iP n ws = .good t r → r.length < ws.length
 | 0,ws,t,r,h=>by simp [iP] at h
 | n + 1,[],t,r,h=>by simp [iP] at h
 | n + 1,w :: ws,t,r,h=>by
  simp only [iP] at h
  split at h
  ·simp at h;obtain ⟨_,rfl⟩:=h;simp
  ·split at h
   ·split at h
    ·cases h
    ·rename_i as r' e
     have:=sB n ws as r' e
     simp at h;obtain ⟨_,rfl⟩:=h;simp;omega
   ·cases h
theorem sB : ∀ (n : Nat) (ws : List Bs) (t : List Tm) (r : List Bs),iT n ws = .good t r → r.length ≤ ws.length
 | 0,ws,t,r,h=>by simp [iT] at h
 | n + 1,[],t,r,h=>by simp [iT] at h;obtain ⟨_,rfl⟩:=h;simp
 | n + 1,w :: ws,t,r,h=>by
  simp only [iT] at h
  split at h
  ·have:=uH n ws t r h;simp;omega
  ·simp at h;obtain ⟨_,rfl⟩:=h;simp
theorem uH : ∀ (n : Nat) (ws : List Bs) (t : List Tm) (r : List Bs),gX n ws = .good t r → r.length < ws.length
 | 0,ws,t,r,h=>by simp [gX] at h
 | n + 1,ws,t,r,h=>by
  simp only [gX] at h
  split at h
  ·cases h
  ·cases h
  ·rename_i t' x r' e
   have h1:=uI n ws t' _ e
   simp at h1
   split at h
   ·split at h
    ·cases h
    ·rename_i ts s e2
     have h2:=uH n r' ts s e2
     simp at h;obtain ⟨_,rfl⟩:=h;omega
   ·split at h
    ·simp at h;obtain ⟨_,rfl⟩:=h;omega
    ·cases h
end

theorem lA : ∀ (n : Nat) (ws : List Bs) (t : Fm) (r : List Bs),dN n ws = .good t r → r.length < ws.length
 | 0,ws,t,r,h=>by simp [dN] at h
 | n + 1,[],t,r,h=>by simp [dN] at h
 | n + 1,w :: ws,t,r,h=>by
  simp only [dN] at h
  split at h
  ·simp at h;obtain ⟨_,rfl⟩:=h;simp
  split at h
  ·split at h
   ·cases h
   ·rename_i f r' e
    have:=lA n ws f r' e
    simp at h;obtain ⟨_,rfl⟩:=h;simp;omega
  split at h
  ·split at h
   ·cases h
   ·cases h
   ·rename_i f x r' e
    have h1:=lA n ws f _ e
    simp at h1
    split at h
    ·split at h
     ·cases h
     ·rename_i g s e2
      have h2:=lA n r' g s e2
      simp at h;obtain ⟨_,rfl⟩:=h;simp;omega
    ·cases h
  split at h
  ·split at h
   ·cases h
   ·rename_i q ws'
    split at h
    ·split at h
     ·cases h
     ·rename_i v r'
      split at h
      ·split at h
       ·cases h
       ·rename_i f s e
        have:=lA n r' f s e
        simp at h;obtain ⟨_,rfl⟩:=h;simp;omega
      ·cases h
    ·cases h
  split at h
  ·split at h
   ·cases h
   ·rename_i as r' e
    have:=sB n ws as r' e
    simp at h;obtain ⟨_,rfl⟩:=h;simp;omega
  ·cases h

theorem pForm_ok_pred {w : Bs} (h : aY w = true) : w ≠ eE ∧ mB w = 0 ∧ mD w = 0 ∧ w ≠ wFor:=by
 have e : ∀ k : Bs,(∀ c r,k = c :: r → eA c = false) → w ≠ k:=fun k hk=>predName_ne h hk
 have h2:=e eE (by intro c r e;cases e;decide)
 have h3:=e wNot (by intro c r e;cases e;decide)
 have h10:=e wNec (by intro c r e;cases e;decide)
 have h11:=e wPos (by intro c r e;cases e;decide)
 have h12:=e lC (by intro c r e;cases e;decide)
 have h13:=e gO (by intro c r e;cases e;decide)
 have h4:=e sW (by intro c r e;cases e;decide)
 have h5:=e lY (by intro c r e;cases e;decide)
 have h6:=e wIf (by intro c r e;cases e;decide)
 have h7:=e wAs (by intro c r e;cases e;decide)
 have h14:=e oM (by intro c r e;cases e;decide)
 have h8:=e wFor (by intro c r e;cases e;decide)
 refine ⟨h2, ?_, ?_,h8⟩
 ·simp [mB,h3,h10,h11,h12,h13]
 ·simp [mD,h4,h5,h6,h7,h14]

end Ly
/- Plain law: the formulas and proofs that the statements build out of bytes (lyceumlaw30.Built, lyceumlaw41.Proved), and that they are right. Nothing of the program is imported. -/
namespace Ly

theorem ok_one {op : Int} {n : Bs} {f : Fm} (h : f.ok = true) (ho : op = 3 ∨ op = 10 ∨ op = 12 ∨ op = 8 ∨ op = 9) (hn : if op = 8 ∨ op = 9 then bR n = true else n = []) : (Fm.mk op n [] [f]).ok = true:=by
 simp only [Fm.ok,mK,kM,h]
 rcases ho with rfl | rfl | rfl | rfl | rfl <;> simp [arity] at hn ⊢ <;> simp [hn]
def marksOf (b k : Nat) : List Int:=(List.range ((b + k) % 4)).map fun j=>(((b * j * 7 + k) % 1000 : Nat) : Int)
theorem pfsOk_iff (l : List Pf) : uL l = true ↔ ∀ f ∈ l,f.ok = true:=by
 induction l with
 | nil=>simp [uL]
 | cons x l ih=>simp [uL,ih]
end Ly
/- Plain law: claims are told by their words. Nothing of the program is imported. -/
namespace Ly
def gH : Bs:=[103,105,118,101,110,32]
def nX : Bs:=[115,104,111,119,32]
def fJ (G S : List Fm) : List Bs:=G.map (fun g=>gH ++ g.text) ++ S.map (fun g=>nX ++ g.text)
def pT (G S : List Fm) : Bs:=bS [44,32] (fJ G S)

theorem jD {f : Fm} (h : f.right = true) : f.ok = true:=by
 simp only [Fm.right,Bool.and_eq_true,decide_eq_true_eq] at h
 exact h.1.1

end Ly
