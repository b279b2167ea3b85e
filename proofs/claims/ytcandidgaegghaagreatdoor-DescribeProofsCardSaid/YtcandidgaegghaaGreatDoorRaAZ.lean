/- What describe.readLine and describe.ReadProof make of texts, plainly; the lines of a right proof are read as that proof. Nothing of the program is walked. -/
import Derived.Test.YtcandidgaegghaaGreatDoorBuiltC0Z
import Derived.Test.YtcandidgaegghaaGreatDoorStFZ
import Derived.Lib.AtoiTie
import Derived.Shelf.Strings.Builder1
import Derived.Shelf.Strings.Builder2
import Derived.Shelf.Strings.OnBuilder
import Derived.Shelf.Small.Strs
import Derived.Shelf.Small.Wraps
import Derived.Shelf.Strings.BuilderF
import Derived.Shelf.Strconv.Atoi
import Derived.Shelf.Strconv.Itoa0
import Derived.Shelf.Strconv.Itoa1
import Derived.Shelf.LaysM
import Derived.Shelf.Strconv.Itoa2
import Derived.Shelf.Strconv.Itoa3
import Derived.Shelf.Strconv.AtoiErrFast
import Derived.Shelf.Strconv.ParseIntEmpty
import Derived.Shelf.Strconv.AtoiFail
import Derived.Shelf.Strconv.Clone
import Derived.Shelf.Strconv.SyntaxError
import Derived.Shelf.LaysC
import Derived.Shelf.Strconv.ToError
import Derived.Shelf.Strconv.AtoiErr
import Derived.Shelf.Strconv.ErrVar
import Derived.Shelf.Strconv.Lower
import Derived.Shelf.Strconv.ParseUint10
import Derived.Shelf.Strconv.ParseUint10Empty
import Derived.Shelf.Strconv.ParseUint10Any
import Derived.Shelf.Strconv.ParseInt10
import Derived.Shelf.Strconv.AtoiLong
import Derived.Shelf.Strconv.AtoiInnerAll
import Derived.Shelf.Strconv.RangeError
import Derived.Shelf.Strconv.ToErrorRange
import Derived.Shelf.Strconv.AtoiAll
import Derived.Shelf.Strconv.ErrVarAll
import Derived.Shelf.Strings.Search1
import Derived.Shelf.Strings.Search2
import Derived.Shelf.Strings.Search3
import Derived.Shelf.Strings.Cut
import Derived.Shelf.Strings.Count
import Derived.Shelf.Strings.Shaped
import Derived.Shelf.Strings.Prefix
import Derived.Shelf.Strings.Split
import Derived.Shelf.Strings.SplitShaped
import Derived.Shelf.Bits.Mul64
import Derived.Shelf.Strings.Repeat
import Derived.Shelf.Unicode.DecodeSlow
import Derived.Shelf.Slices.Turned
import Derived.Shelf.Slices.Equal
import Derived.Shelf.Slices.Empties2
import Derived.Test.YtcandidgaegghaaGreatDoorProg
import Derived.Test.YtcandidgaegghaaGreatDoorCpZ
import Derived.Test.YtcandidgaegghaaGreatDoorStAZ
set_option maxRecDepth 10000
set_option linter.unusedSimpArgs false
set_option linter.unusedVariables false
namespace Go.Proofs.YtcandidgaegghaaGreatDoor
open Go Go.RowKit Ly
set_option maxHeartbeats 1600000
def iC (s : Bs) : Option Int:=match Lib.atoiAll s with
 | .ok v=>some v
 | _=>none
theorem wV {n : Int} (h0 : 0 ≤ n) (h1 : n ≤ 1000000) : iC (Lib.itoa n) = some n:=by
 obtain ⟨k,rfl⟩ : ∃ k : Nat,n = (k : Int):=⟨n.toNat,by omega⟩
 have hl : (Lib.itoa (k : Int)).length ≤ 18:=by
  have:=eT (n:=(k : Int)) (by omega) (by omega)
  omega
 unfold iC
 rw [Lib.atoiAll_short _ hl,atoi_itoa]
 rfl
def bZ {α β : Type} (f : α → Option β) : List α → Option (List β)
 | []=>some []
 | x :: l=>match f x,bZ f l with
  | some y,some ys=>some (y :: ys)
  | _,_=>none
theorem oI {α β : Type} (f : α → Option β) : ∀ (l : List α) (x : α),bZ f (l ++ [x]) = match bZ f l,f x with
  | some ys,some y=>some (ys ++ [y])
  | _,_=>none
 | [],x=>by
  simp only [List.nil_append,bZ]
  cases f x <;> rfl
 | z :: l,x=>by
  simp only [List.cons_append,bZ,oI f l x]
  cases f z <;> cases bZ f l <;> cases f x <;> rfl
theorem oH {α β : Type} (f : α → Option β) : ∀ (l r : List α),bZ f l = none → bZ f (l ++ r) = none
 | [],r,h=>by simp [bZ] at h
 | z :: l,r,h=>by
  simp only [List.cons_append,bZ] at h ⊢
  cases e : f z with
  | none=>rfl
  | some y =>
   rw [e] at h
   cases e2 : bZ f l with
   | none=>rw [oH f l r e2]
   | some ys=>rw [e2] at h;cases h
theorem nF {α β : Type} (f : α → Option β) : ∀ (l : List α) (ys : List β),bZ f l = some ys → ys.length = l.length
 | [],ys,h=>by simp only [bZ,Option.some.injEq] at h;subst h;rfl
 | z :: l,ys,h=>by
  simp only [bZ] at h
  split at h
  ·rename_i y zs _ e
   simp only [Option.some.injEq] at h;subst h
   simp [nF f l zs e]
  ·cases h
theorem wT {α β γ : Type} (f : α → Option β) (g : γ → α) (h : γ → β) : ∀ (l : List γ),(∀ x ∈ l,f (g x) = some (h x)) → bZ f (l.map g) = some (l.map h)
 | [],_=>rfl
 | z :: l,hh=>by
  simp only [List.map_cons,bZ,hh z (by simp),wT f g h l fun x hx=>hh x (by simp [hx])]
theorem zN {α β : Type} (f : α → Option β) : ∀ (l : List α) (m : List β),l.length = m.length → (∀ (j : Nat) (x : α) (y : β),l[j]? = some x → m[j]? = some y → f x = some y) → bZ f l = some m
 | [],[],_,_=>rfl
 | [],y :: m,h,_=>by simp at h
 | x :: l,[],h,_=>by simp at h
 | x :: l,y :: m,h,hh=>by
  have h1:=hh 0 x y (by simp) (by simp)
  have h2:=zN f l m (by simpa using h) fun j a b ha hb=>hh (j + 1) a b (by simpa using ha) (by simpa using hb)
  simp only [bZ,h1,h2]
def nS : Bs:=[115,116,105,108,108,32,116,111,32,115,104,111,119]
def byT : Bs:=[98,121,32]
def gE (x : Bs) : Option (List Int):=match Lib.cut x eD with
 | (_,N,t)=>if t = true then bZ iC (Lib.split N eX) else some []
def cO (s : Bs) : Option Pf:=match Lib.cut s cs with
 | (a,b,t) =>
  if t = true then
   if Lib.hasPrefix a eC = true then
    match iC (Lib.trimPrefix a eC) with
    | some z=>if (rGot b).2.2 = 0 then some (.mk [] (rGot b).1 z [] []) else none
    | none=>none
   else if (rGot a).2.2 = 0 then
    if b = nS then some (.mk hole (rGot a).1 0 [] [])
    else if Lib.hasPrefix b byT = true then
     match Lib.cut (Lib.trimPrefix b byT) fJ with
     | (r,J,u)=>if u = true then (match bZ gE (Lib.split J cs) with
       | some ms=>some (.mk r (rGot a).1 0 [] ms)
       | none=>none)
      else some (.mk r (rGot a).1 0 [] [])
    else none
   else none
  else none
theorem readPR_text3 {f : Fm} (h : f.right = true) : fV f.text = .good f []:=by
 have ok:=fD h
 have hs:=split_text f ok
 have hp : bJ (3 * f.toks.length + 1) f.toks = .good f []:=by
  have:=mW (3 * f.toks.length + 1) f [] ok notOf_nil (by simp)
  simpa using this
 have hne : f.text ≠ []:=fun e=>by
  rw [e] at hs
  have h1 : f.toks = [[]]:=hs.symm.trans (by decide +kernel)
  rw [h1] at hp
  have h2 : bJ (3 * [([] : Bs)].length + 1) [[]] = .bad [[]]:=by kernel_rfl
  rw [h2] at hp
  cases hp
 unfold fV bC
 rw [if_neg hne,hs]
 exact hp
theorem rGot_text3 {f : Fm} (h : f.right = true) (hl : f.text.length ≤ 16384) : rGot f.text = (f,0,0):=by
 simp [rGot,show ¬ 16384 < f.text.length by omega,readPR_text3 h,h]
theorem rGot_code3 (s : Bs) : (rGot s).2.2 = 0 ∨ (rGot s).2.2 = 2 ∨ (rGot s).2.2 = 3 ∨ (rGot s).2.2 = 410:=by
 unfold rGot
 split
 ·simp
 ·split
  ·simp
  ·split <;> simp
  ·simp
theorem vP {s : Bs} (h : (rGot s).2.2 = 0) : (rGot s).1.right = true:=by
 unfold rGot at h ⊢
 split at h
 ·simp at h
 ·rename_i h0
  rw [if_neg h0]
  split at h
  ·simp at h
  ·rename_i f e
   split at h
   ·rename_i hr;simp only [hr,if_true]
   ·simp at h
  ·simp at h
theorem lineGot_body {q : Pf} (hok : q.ok = true) {k : Nat} (ht : q.form.text.length ≤ 16384) : cO (bS q.rule q.form q.label (aO k q.sub q.marks)) = some (.mk q.rule q.form q.label [] q.marks):=by
 obtain ⟨r,f,lb,sub,ms⟩:=q
 simp only [Pf.ok,Bool.and_eq_true] at hok
 simp only [Pf.rule,Pf.form,Pf.label,Pf.sub,Pf.marks] at ht ⊢
 have hs:=hok.1.2
 have hf:=hok.1.1
 have fok:=fD hf
 have hg:=rGot_text3 hf ht
 unfold dF at hs
 by_cases r0 : r = []
 ·subst r0
  simp only [if_true,Bool.and_eq_true,decide_eq_true_eq,List.isEmpty_iff] at hs
  obtain ⟨⟨h5,rfl⟩,h6,h7⟩:=hs
  unfold cO
  rw [body_assume (by omega)]
  simp only [if_true,gX,iY,wV (show 0 ≤ lb by omega) (by omega),hg]
 ·by_cases r1 : r = hole
  ·subst r1
   simp only [if_true,if_false,show hole ≠ [] by decide,Bool.and_eq_true,decide_eq_true_eq,List.isEmpty_iff] at hs
   obtain ⟨⟨h5,rfl⟩,rfl⟩:=hs
   unfold cO
   rw [zR fok (by decide) 0 _,rest_hole]
   simp only [if_true,Fm.no_assume fok,hg,nS,Bool.false_eq_true,if_false]
  ·simp only [r0,r1,if_false,Bool.and_eq_true,decide_eq_true_eq] at hs
   obtain ⟨⟨⟨⟨hrn,h6⟩,h7⟩,h8⟩,h9⟩:=hs
   subst h6
   unfold cO
   rw [zR fok r0 0 _]
   simp only [if_true,Fm.no_assume fok,hg,Bool.false_eq_true,if_false]
   rw [if_neg (show ¬ lC r (aO k sub ms) = nS from rest_not_still r1 _),BS r1]
   simp only [show byT = [98,121,32] from rfl,gX,iY,if_true,cut_from hrn]
   by_cases hp : sub = []
   ·subst hp
    have e : ms = []:=List.eq_nil_of_length_eq_zero h8
    subst e
    rfl
   ·have hps : aO k sub ms ≠ []:=fun e=>hp (premTexts_ne.1 e)
    have hpe : (aO k sub ms).isEmpty = false:=by
     cases e : aO k sub ms with
     | nil=>exact absurd e hps
     | cons a b=>rfl
    have mk:=marksOk_of h9
    rw [hpe]
    simp only [Bool.not_false,if_true]
    rw [prems_split hps (qV sub k ms mk),zN gE _ ms (by rw [dH,h8]) fun j x m hx hm=>?_]
    obtain ⟨n,rfl⟩:=qU sub k ms j x m hx hm
    have hmm:=mk m (List.mem_of_getElem? hm)
    have hall : ∀ x ∈ m,0 ≤ x ∧ x ≤ 999:=fun x hx=>by
     have h10:=List.all_eq_true.1 h9 m (List.mem_of_getElem? hm)
     simp only [Bool.and_eq_true,List.all_eq_true] at h10
     have:=h10.2 x hx
     simpa [cN] using this
    unfold gE
    rw [prem_cut]
    cases m with
    | nil=>rfl
    | cons m0 mt =>
     simp only [List.isEmpty_cons,Bool.not_false,if_true,Bool.false_eq_true,if_false]
     rw [numbers_split (by simp) fun x hx=>(hall x hx).1,wT iC Lib.itoa id _ fun x hx=>wV (hall x hx).1 (by have:=(hall x hx).2;omega)]
     simp
def iG (i : Nat) (S : List Pf) (ln : Bs) : Option (List Pf) :=
 if Lib.hasPrefix ln (Lib.itoa ((i : Int) + 1) ++ eE) = true then
  match cO (Lib.trimPrefix ln (Lib.itoa ((i : Int) + 1) ++ eE)) with
  | some q=>if S.length < q.marks.length then none else some (S.take (S.length - q.marks.length) ++ [.mk q.rule q.form q.label (S.drop (S.length - q.marks.length)) q.marks])
  | none=>none
 else none
def fW : Nat → List Pf → List Bs → Option (List Pf)
 | _,S,[]=>some S
 | i,S,ln :: r=>match iG i S ln with
  | some S'=>fW (i + 1) S' r
  | none=>none
theorem vU : ∀ (l : List Bs) (i : Nat) (S : List Pf) (x : Bs),fW i S (l ++ [x]) = match fW i S l with
  | some S'=>iG (i + l.length) S' x
  | none=>none
 | [],i,S,x=>by
  simp only [List.nil_append,fW,List.length_nil,Nat.add_zero]
  cases iG i S x <;> rfl
 | y :: l,i,S,x=>by
  simp only [List.cons_append,fW]
  cases e : iG i S y with
  | none=>rfl
  | some S' =>
   simp only []
   rw [vU l (i + 1) S' x,List.length_cons,show i + 1 + l.length = i + (l.length + 1) by omega]
theorem vS : ∀ (l r : List Bs) (i : Nat) (S : List Pf),fW i S l = none → fW i S (l ++ r) = none
 | [],r,i,S,h=>by simp [fW] at h
 | y :: l,r,i,S,h=>by
  simp only [List.cons_append,fW] at h ⊢
  cases e : iG i S y with
  | none=>rfl
  | some S'=>rw [e] at h;exact vS l r (i + 1) S' h
def dB (l : List Bs) : Option Pf:=match fW 0 [] l with
 | some [P]=>if P.right = true ∧ P.lines 0 = l then some P else none
 | _=>none
theorem vT {Ps : List Pf} (hok : iX Ps = true) (ht : ∀ x ∈ dQ 0 Ps,x.2.form.text.length ≤ 16384) : ∀ (n i : Nat) (S : List Pf),(dQ 0 Ps).length = i + n → Runs S ((dQ 0 Ps).drop i) Ps → fW i S (((dQ 0 Ps).drop i).map nP) = some Ps
 | 0,i,S,hn,h=>by
  rw [List.drop_of_length_le (by omega)] at h ⊢
  cases h;rfl
 | n + 1,i,S,hn,h=>by
  obtain ⟨⟨kk,q⟩,hq⟩ : ∃ x,(dQ 0 Ps)[i]? = some x:=⟨_,List.getElem?_eq_getElem (by omega)⟩
  obtain ⟨T,rfl,h2⟩:=h.next hq
  have e : (dQ 0 Ps).drop i = (kk,q) :: (dQ 0 Ps).drop (i + 1):=by
   obtain ⟨hlt,e⟩:=List.getElem?_eq_some_iff.1 hq
   rw [← e];exact List.drop_eq_getElem_cons hlt
  have qok:=rK Ps 0 hok _ (List.mem_of_getElem? hq)
  have hnum:=pK Ps 0 i kk q hq
  have hb:=lineGot_body qok (k:=kk) (ht _ (List.mem_of_getElem? hq))
  have hml : q.marks.length = q.sub.length:=by
   obtain ⟨r,f,lb,sub,ms⟩:=q
   simp only [Pf.ok,Bool.and_eq_true] at qok
   have hs:=qok.1.2
   unfold dF at hs
   split at hs
   ·simp only [Bool.and_eq_true,decide_eq_true_eq,List.isEmpty_iff] at hs;simp [Pf.marks,Pf.sub,hs.1.1,hs.1.2]
   ·split at hs
    ·simp only [Bool.and_eq_true,decide_eq_true_eq,List.isEmpty_iff] at hs;simp [Pf.marks,Pf.sub,hs.1.1,hs.1.2]
    ·simp only [Bool.and_eq_true,decide_eq_true_eq] at hs;simp [Pf.marks,Pf.sub,hs.1.2]
  have st : iG i (T ++ q.sub) (nP (kk,q)) = some (T ++ [q]):=by
   unfold iG nP
   rw [show ((kk + aE q.sub + 1 : Nat) : Int) = (i : Int) + 1 by omega]
   rw [if_pos (gX _ _),iY,hb]
   have e1 : (T ++ q.sub).length - q.marks.length = T.length:=by rw [List.length_append];omega
   simp only [Pf.marks,Pf.rule,Pf.form,Pf.label]
   obtain ⟨r,f,lb,sub,ms⟩:=q
   simp only [Pf.marks,Pf.sub] at e1 hml ⊢
   have c1 : ¬ ((T ++ sub).length < ms.length):=by rw [List.length_append];omega
   exact (if_neg c1).trans (by rw [e1,List.take_left,List.drop_left])
  rw [e,List.map_cons,fW,st]
  exact vT hok ht n (i + 1) (T ++ [q]) (by omega) h2
theorem proofGot_lines {P : Pf} (h : P.right = true) (ht : ∀ x ∈ P.post 0,x.2.form.text.length ≤ 16384) : dB (P.lines 0) = some P:=by
 have hok : iX [P] = true:=by
  simp only [Pf.right,Bool.and_eq_true] at h
  simp [iX,h.1.1]
 have e : dQ 0 [P] = P.post 0:=by simp [dQ]
 have:=vT hok (by rw [e];exact ht) (dQ 0 [P]).length 0 [] (by omega) (by have:=yD [P] 0 [];simpa using this)
 rw [List.drop_zero,e,← Pf.lines_post] at this
 unfold dB
 rw [this]
 simp [h]
theorem proofGot_some {l : List Bs} {P : Pf} (h : dB l = some P) : P.right = true ∧ P.lines 0 = l ∧ fW 0 [] l = some [P]:=by
 unfold dB at h
 split at h
 ·rename_i Q e
  split at h
  ·rename_i hh
   simp only [Option.some.injEq] at h
   subst h
   exact ⟨hh.1,hh.2,e⟩
  ·cases h
 ·cases h
end Go.Proofs.YtcandidgaegghaaGreatDoor
namespace Go.Proofs
open Go.Shelf
def Tryz.laysC172_ren : Go.Shelf.Ren:=⟨fun | 172=>33 | 244=>100 | 245=>101 | 247=>173 | 279=>174 | 280=>175 | 281=>176 | 282=>177 | 287=>251 | 316=>252 | 171=>35 | 205=>253 | 321=>291 | 322=>292 | 243=>103 | 246=>178 | 283=>254 | 284=>255 | 285=>256 | 286=>257 | 129=>294 | 317=>293 | 318=>295 | 319=>296 | 320=>297 | 337=>310 | 338=>311 | n=>n,fun | 9=>9 | 3=>3 | 75=>67 | 76=>68 | 4=>4 | 5=>5 | 167=>211 | 37=>43 | 0=>0 | 85=>212 | 2=>2 | 168=>214 | 53=>234 | 175=>276 | 46=>169 | 210=>280 | 127=>218 | 145=>317 | 143=>315 | 21=>21 | 171=>282 | 173=>285 | 212=>319 | 51=>108 | 20=>20 | 213=>320 | 232=>330 | 233=>331 | 80=>148 | n=>n,fun | 15=>2 | 16=>3 | 17=>4 | 18=>7 | 19=>8 | n=>n⟩
theorem Tryz.laysC172 : Go.Proofs.LaysC.n172 Tryz.prog Tryz.laysC172_ren:={
 mixed:=by kernel_rfl
 f129:=Tryz.func294.trans (congrArg some (by kernel_rfl))
 f171:=Tryz.func35.trans (congrArg some (by kernel_rfl))
 f172:=Tryz.func33.trans (congrArg some (by kernel_rfl))
 f205:=Tryz.func253.trans (congrArg some (by kernel_rfl))
 f243:=Tryz.func103.trans (congrArg some (by kernel_rfl))
 f244:=Tryz.func100.trans (congrArg some (by kernel_rfl))
 f245:=Tryz.func101.trans (congrArg some (by kernel_rfl))
 f246:=Tryz.func178.trans (congrArg some (by kernel_rfl))
 f247:=Tryz.func173.trans (congrArg some (by kernel_rfl))
 f279:=Tryz.func174.trans (congrArg some (by kernel_rfl))
 f280:=Tryz.func175.trans (congrArg some (by kernel_rfl))
 f281:=Tryz.func176.trans (congrArg some (by kernel_rfl))
 f282:=Tryz.func177.trans (congrArg some (by kernel_rfl))
 f283:=Tryz.func254.trans (congrArg some (by kernel_rfl))
 f284:=Tryz.func255.trans (congrArg some (by kernel_rfl))
 f285:=Tryz.func256.trans (congrArg some (by kernel_rfl))
 f286:=Tryz.func257.trans (congrArg some (by kernel_rfl))
 f287:=Tryz.func251.trans (congrArg some (by kernel_rfl))
 f316:=Tryz.func252.trans (congrArg some (by kernel_rfl))
 f317:=Tryz.func293.trans (congrArg some (by kernel_rfl))
 f318:=Tryz.func295.trans (congrArg some (by kernel_rfl))
 f319:=Tryz.func296.trans (congrArg some (by kernel_rfl))
 f320:=Tryz.func297.trans (congrArg some (by kernel_rfl))
 f321:=Tryz.func291.trans (congrArg some (by kernel_rfl))
 f322:=Tryz.func292.trans (congrArg some (by kernel_rfl))
 f337:=Tryz.func310.trans (congrArg some (by kernel_rfl))
 f338:=Tryz.func311.trans (congrArg some (by kernel_rfl))
 t0:=Tryz.underlying0
 a0:=Tryz.isAgg0
 z0:=Tryz.sizeOf0
 v0:=Tryz.zeroValue0
 t2:=Tryz.underlying2
 a2:=Tryz.isAgg2
 z2:=Tryz.sizeOf2
 v2:=Tryz.zeroValue2
 t3:=Tryz.underlying3
 a3:=Tryz.isAgg3
 z3:=Tryz.sizeOf3
 v3:=Tryz.zeroValue3
 t4:=Tryz.underlying4
 a4:=Tryz.isAgg4
 z4:=Tryz.sizeOf4
 v4:=Tryz.zeroValue4
 t5:=Tryz.underlying5
 a5:=Tryz.isAgg5
 z5:=Tryz.sizeOf5
 v5:=Tryz.zeroValue5
 t9:=Tryz.underlying9
 a9:=Tryz.isAgg9
 z9:=Tryz.sizeOf9
 v9:=Tryz.zeroValue9
 t20:=Tryz.underlying20
 a20:=Tryz.isAgg20
 z20:=Tryz.sizeOf20
 v20:=Tryz.zeroValue20
 t21:=Tryz.underlying21
 a21:=Tryz.isAgg21
 z21:=Tryz.sizeOf21
 v21:=Tryz.zeroValue21
 t37:=Tryz.underlying43
 a37:=Tryz.isAgg43
 z37:=Tryz.sizeOf43
 v37:=Tryz.zeroValue43
 t46:=Tryz.underlying169
 a46:=Tryz.isAgg169
 z46:=Tryz.sizeOf169
 v46:=Tryz.zeroValue169
 t51:=Tryz.underlying108
 a51:=Tryz.isAgg108
 z51:=Tryz.sizeOf108
 v51:=Tryz.zeroValue108
 t53:=Tryz.underlying234
 a53:=Tryz.isAgg234
 z53:=Tryz.sizeOf234
 v53:=Tryz.zeroValue234
 t75:=Tryz.underlying67
 a75:=Tryz.isAgg67
 z75:=Tryz.sizeOf67
 v75:=Tryz.zeroValue67
 t76:=Tryz.underlying68
 a76:=Tryz.isAgg68
 z76:=Tryz.sizeOf68
 v76:=Tryz.zeroValue68
 t85:=Tryz.underlying212
 a85:=Tryz.isAgg212
 z85:=Tryz.sizeOf212
 v85:=Tryz.zeroValue212
 t127:=Tryz.underlying218
 a127:=Tryz.isAgg218
 z127:=Tryz.sizeOf218
 v127:=Tryz.zeroValue218
 t143:=Tryz.underlying315
 a143:=Tryz.isAgg315
 z143:=Tryz.sizeOf315
 v143:=Tryz.zeroValue315
 t145:=Tryz.underlying317
 a145:=Tryz.isAgg317
 z145:=Tryz.sizeOf317
 v145:=Tryz.zeroValue317
 t167:=Tryz.underlying211
 a167:=Tryz.isAgg211
 z167:=Tryz.sizeOf211
 v167:=Tryz.zeroValue211
 t168:=Tryz.underlying214
 a168:=Tryz.isAgg214
 z168:=Tryz.sizeOf214
 v168:=Tryz.zeroValue214
 t171:=Tryz.underlying282
 a171:=Tryz.isAgg282
 z171:=Tryz.sizeOf282
 v171:=Tryz.zeroValue282
 t173:=Tryz.underlying285
 a173:=Tryz.isAgg285
 z173:=Tryz.sizeOf285
 v173:=Tryz.zeroValue285
 t175:=Tryz.underlying276
 a175:=Tryz.isAgg276
 z175:=Tryz.sizeOf276
 v175:=Tryz.zeroValue276
 t210:=Tryz.underlying280
 a210:=Tryz.isAgg280
 z210:=Tryz.sizeOf280
 v210:=Tryz.zeroValue280
 t212:=Tryz.underlying319
 a212:=Tryz.isAgg319
 z212:=Tryz.sizeOf319
 v212:=Tryz.zeroValue319
 t213:=Tryz.underlying320
 a213:=Tryz.isAgg320
 z213:=Tryz.sizeOf320
 t232:=Tryz.underlying330
 a232:=Tryz.isAgg330
 z232:=Tryz.sizeOf330
 v232:=Tryz.zeroValue330
 t233:=Tryz.underlying331
 a233:=Tryz.isAgg331
 z233:=Tryz.sizeOf331
 v233:=Tryz.zeroValue331
 g15:=by kernel_rfl
 g16:=by kernel_rfl
 g17:=by kernel_rfl
 g18:=by kernel_rfl
 g19:=by kernel_rfl
 t80:=Tryz.underlying148
 a80:=Tryz.isAgg148
 z80:=Tryz.sizeOf148
 v80:=Tryz.zeroValue148
 i0:=by kernel_rfl
 i2:=by kernel_rfl
 i3:=by kernel_rfl
 i4:=by kernel_rfl
 i5:=by kernel_rfl
 i9:=by kernel_rfl
 i20:=by kernel_rfl
 i21:=by kernel_rfl
 i37:=by kernel_rfl
 i46:=by kernel_rfl
 i51:=by kernel_rfl
 i53:=by kernel_rfl
 i75:=by kernel_rfl
 i76:=by kernel_rfl
 i80:=by kernel_rfl
 i85:=by kernel_rfl
 i127:=by kernel_rfl
 i143:=by kernel_rfl
 i145:=by kernel_rfl
 i167:=by kernel_rfl
 i168:=by kernel_rfl
 i171:=by kernel_rfl
 i173:=by kernel_rfl
 i175:=by kernel_rfl
 i210:=by kernel_rfl
 i212:=by kernel_rfl
 i232:=by kernel_rfl
 i233:=by kernel_rfl
 m15:=by kernel_rfl
 m16:=by kernel_rfl
 m17:=by kernel_rfl
 m18:=by kernel_rfl
 m19:=by kernel_rfl
 c0:=by kernel_rfl
 c2:=by kernel_rfl
 c3:=by kernel_rfl
 c4:=by kernel_rfl
 c5:=by kernel_rfl
 c9:=by kernel_rfl
 c20:=by kernel_rfl
 c21:=by kernel_rfl
 c37:=by kernel_rfl
 c46:=by kernel_rfl
 c51:=by kernel_rfl
 c53:=by kernel_rfl
 c75:=by kernel_rfl
 c76:=by kernel_rfl
 c80:=by kernel_rfl
 c85:=by kernel_rfl
 c127:=by kernel_rfl
 c143:=by kernel_rfl
 c145:=by kernel_rfl
 c167:=by kernel_rfl
 c168:=by kernel_rfl
 c171:=by kernel_rfl
 c173:=by kernel_rfl
 c175:=by kernel_rfl
 c210:=by kernel_rfl
 c212:=by kernel_rfl
 c213:=by kernel_rfl
 c232:=by kernel_rfl
 c233:=by kernel_rfl }
end Go.Proofs
namespace Go.Proofs.YtcandidgaegghaaGreatDoor
open Go Go.RowKit Ly
attribute [local go_sem] Oper.semAt_some
def ErrV (v : Value) : Prop:=v = .nilIface ∨ ∃ te pe,v = .iface te pe
def wL (w : World) : Prop:=(∃ v,w.cell? ⟨2,0,none⟩ = some v ∧ ErrV v) ∧ ∃ v,w.cell? ⟨3,0,none⟩ = some v ∧ ErrV v
theorem wL.keep {w w' : World} (h : wL w) (k : aR w w') : wL w':=by
 obtain ⟨⟨v1,c1,k1⟩,v2,c2,k2⟩:=h
 exact ⟨⟨v1,k _ _ c1,k1⟩,v2,k _ _ c2,k2⟩
theorem ED (s : Bs) (hs : s.length ≤ 1000000000) :
  (∃ z,iC s = some z ∧ ∀ W,Calls Tryz.prog 33 #[str s] W (Rt (.tuple #[.int .i64 z,.nilIface]) W)) ∨
  (∃ z,iC s = none ∧ ∀ W,wL W → Calls Tryz.prog 33 #[str s] W fun e w'=>∃ N,e = .returned (.tuple #[.int .i64 z,.iface 214 (.pointer (some ⟨N,0,none⟩))]) ∧ Below W.heap.size W w'):=by
 unfold iC
 cases h : Lib.atoiAll s
 ·rename_i v
  refine .inl ⟨v,rfl,fun W=>?_⟩
  refine Calls.mono (Any.strconv_Atoi_ok Tryz.laysC172 ⟨s.toArray⟩ (by simp [ByteArray.size];omega) v (by simpa using h) W) ?_
  rintro e w' ⟨h1,h2⟩
  refine ⟨h1, ?_⟩
  rcases h2 with rfl | ⟨t,rfl⟩
  ·exact Below.refl _ _
  ·exact Lib.bytesWorld_below W 5 t
 ·refine .inr ⟨0,rfl,fun W hW=>?_⟩
  obtain ⟨⟨v1,c1,k1⟩,-⟩:=hW
  refine Calls.mono (Any.strconv_Atoi_syntax Tryz.laysC172 ⟨s.toArray⟩ (by simp [ByteArray.size];omega) (by simpa using h) v1 W c1 k1) ?_
  rintro e w' ⟨N,h1,-,-,h2⟩
  exact ⟨N,h1,h2⟩
 ·refine .inr ⟨Lib.atoiSat s,rfl,fun W hW=>?_⟩
  obtain ⟨-,v1,c1,k1⟩:=hW
  refine Calls.mono (Any.strconv_Atoi_range Tryz.laysC172 ⟨s.toArray⟩ (by simp [ByteArray.size];omega) (by simpa using h) v1 W c1 k1) ?_
  rintro e w' ⟨N,h1,-,-,h2⟩
  exact ⟨N,h1,h2⟩
def noPanic (Q : Exit → Act → World → Prop) : Exit → Act → World → Prop
 | .panic _,_,_=>False
 | e,a,w=>Q e a w
theorem gM {F : Fence} {n : Nat} {P : Program} {c : Code} {Q : Exit → Act → World → Prop} {a : Act} {w : World} (h : c.wpIn F n P (noPanic Q) a w) : c.wpIn F n P Q a w :=
 Code.wpIn_mono (fun e _ _ h=>by cases e <;> first | exact h | exact h.elim) h
theorem q67 (w : World) (t : TypeId) (v : Value) : (binOp .eql 67 (.iface t v) .nilIface).run Tryz.prog w = .ok (.bool false) w:=rfl
theorem q67n (w : World) (t : TypeId) (v : Value) : (binOp .neq 67 (.iface t v) .nilIface).run Tryz.prog w = .ok (.bool true) w:=rfl
theorem mN {s sep a b : Bs} {t : Bool} (h : Lib.cut s sep = (a,b,t)) : a.length ≤ s.length ∧ b.length ≤ s.length:=by
 unfold Lib.cut at h
 split at h <;> cases h
 all_goals simp only [List.length_take,List.length_drop,List.length_nil]
 all_goals omega
theorem pP (s p : Bs) : (Lib.trimPrefix s p).length ≤ s.length:=by
 unfold Lib.trimPrefix
 split <;> simp
theorem jT (p s : Bs) (w : World) : Calls Tryz.prog 39 #[str s,str p] w fun e w'=>e = .returned (.tuple #[str (Lib.trimPrefix s p),.bool (Lib.hasPrefix s p)]) ∧ w' = w :=
 Tryz.strings_CutPrefix ⟨s.toArray⟩ ⟨p.toArray⟩ w
def eH (s : Bs) (w : World) (e : Ending) (w' : World) : Prop :=
 Below w.heap.size w w' ∧ match cO s with
 | some q=>∃ fa fn fc fb fm fd qa qn qc,e = .returned (.tuple #[.agg #[str q.rule,.int .u8 q.form.op,str q.form.name,.slice fa fn fc,.slice fb fm fd,.int .i64 q.label,.slice none 0 0,.slice qa qn qc],.int .i64 (q.marks.length : Nat),.bool true]) ∧
   TmsB (hide (lo w) w') q.form.args (.slice fa fn fc) ∧ FmsB (hide (lo w) w') q.form.sub (.slice fb fm fd) ∧ fS (hide (lo w) w') q.marks (.slice qa qn qc)
 | none=>∃ (r : Bs) (o : Int) (s : Bs) (fa fb sa qa : Option Addr) (fn fc fm fd sn sc qn qc : Nat) (lb n : Int),e = .returned (.tuple #[.agg #[str r,.int .u8 o,str s,.slice fa fn fc,.slice fb fm fd,.int .i64 lb,.slice sa sn sc,.slice qa qn qc],.int .i64 n,.bool false])
theorem eH.yes {s : Bs} {q : Pf} (h : cO s = some q) {w w' : World} (b : Below w.heap.size w w') {fa fb qa : Option Addr} {fn fc fm fd qn qc : Nat} {e : Ending} (he : e = .returned (.tuple #[.agg #[str q.rule,.int .u8 q.form.op,str q.form.name,.slice fa fn fc,.slice fb fm fd,.int .i64 q.label,.slice none 0 0,.slice qa qn qc],.int .i64 (q.marks.length : Nat),.bool true]))
  (h1 : TmsB (hide (lo w) w') q.form.args (.slice fa fn fc)) (h2 : FmsB (hide (lo w) w') q.form.sub (.slice fb fm fd)) (h3 : fS (hide (lo w) w') q.marks (.slice qa qn qc)) : eH s w e w':=by
 refine ⟨b, ?_⟩
 rw [h]
 exact ⟨fa,fn,fc,fb,fm,fd,qa,qn,qc,he,h1,h2,h3⟩
theorem eH.no {s : Bs} (h : cO s = none) {w w' : World} (b : Below w.heap.size w w') {r : Bs} {o : Int} {s' : Bs} {fa fb sa qa : Option Addr} {fn fc fm fd sn sc qn qc : Nat} {lb n : Int} : eH s w (.returned (.tuple #[.agg #[str r,.int .u8 o,str s',.slice fa fn fc,.slice fb fm fd,.int .i64 lb,.slice sa sn sc,.slice qa qn qc],.int .i64 n,.bool false])) w':=by
 refine ⟨b, ?_⟩
 rw [h]
 exact ⟨r,o,s',fa,fb,sa,qa,fn,fc,fm,fd,sn,sc,qn,qc,lb,n,rfl⟩
theorem kC {w WA W1 W2 : World} {p : Nat → Bool} (Z : LV w WA) (hp : ∀ k,k ≤ w.heap.size + 1 + 1 → p k = true) {a b c d e f x y n t : Value} (hL : W1 = kM WA w.heap.size a b c d e f x y n t) (hW : Below W1.heap.size W1 W2) :
  W2.heap[w.heap.size]? = some (.cells #[a,b,c,d,e,f,x,y] 53 (0,0)) ∧ W2.heap[w.heap.size + 1]? = some (.cells #[n] 3 (0,0)) ∧ W2.heap[w.heap.size + 1 + 1]? = some (.cells #[t] 4 (0,0)) ∧ Below w.heap.size w W2 ∧ bY (hide p WA) (hide (lo w) W2):=by
 have hs1 : W1.heap.size = WA.heap.size:=by rw [hL];exact xP
 have ho1 : W1.os = WA.os ∧ W1.tape = WA.tape ∧ W1.output = WA.output:=by rw [hL];exact xO
 have hl1 : ∀ i,i ≠ w.heap.size → i ≠ w.heap.size + 1 → i ≠ w.heap.size + 1 + 1 → W1.heap[i]? = WA.heap[i]?:=fun i h0 h1 h2=>by rw [hL];exact uA h0 h1 h2
 obtain ⟨e0,e1,e2⟩:=vF (a:=a) (b:=b) (c:=c) (d:=d) (e:=e) (f:=f) (x:=x) (y:=y) (n:=n) (t:=t) Z.c2 Z.c3 Z.c4
 rw [← hL] at e0 e1 e2
 clear hL
 have lt:=(Array.getElem?_eq_some_iff.1 e2).1
 have low : ∀ i,w.heap.size + 1 + 1 < i → i < WA.heap.size → W2.heap[i]? = WA.heap[i]?:=fun i hi hl=>(hW.block i (by omega)).trans (hl1 i (by omega) (by omega) (by omega))
 have lw : ∀ i,i < w.heap.size → W2.heap[i]? = WA.heap[i]?:=fun i hi=>(hW.block i (by omega)).trans (hl1 i (by omega) (by omega) (by omega))
 have hz:=hW.size
 have hz':=Z.bw.size
 refine ⟨kc hW e0,kc hW e1,kc hW e2,⟨hW.os.trans (ho1.1.trans Z.bw.os),hW.tape.trans (ho1.2.1.trans Z.bw.tape),hW.output.trans (ho1.2.2.trans Z.bw.output),by omega,fun i hi=>(lw i hi).trans (Z.bw.block i hi)⟩,aS fun k h1 h2=>?_⟩
 have h3 : w.heap.size + 1 + 1 < k:=by
  rcases Nat.lt_or_ge (w.heap.size + 1 + 1) k with h | h
  ·exact h
  ·rw [hp _ h] at h2;cases h2
 exact ⟨by simp [lo];omega,low k h3 h1⟩
theorem oY {T : Bs} {w WA W1 W2 : World} (Z : LV w WA) (EQ : cO T = none) {r : Bs} {o : Int} {s' : Bs} {fa fb sa qa : Option Addr} {fn fc fm fd sn sc qn qc : Nat} {lb n : Int}
  (hL : W1 = kM WA w.heap.size (str r) (.int .u8 o) (str s') (.slice fa fn fc) (.slice fb fm fd) (.int .i64 lb) (.slice sa sn sc) (.slice qa qn qc) (.int .i64 n) (.bool false)) (hW : Below W1.heap.size W1 W2) :
  W2.heap[w.heap.size]? = some (.cells #[str r,.int .u8 o,str s',.slice fa fn fc,.slice fb fm fd,.int .i64 lb,.slice sa sn sc,.slice qa qn qc] 53 (0,0)) ∧ W2.heap[w.heap.size + 1]? = some (.cells #[.int .i64 n] 3 (0,0)) ∧ W2.heap[w.heap.size + 1 + 1]? = some (.cells #[.bool false] 4 (0,0)) ∧
  eH T w (.returned (.tuple #[.agg #[str r,.int .u8 o,str s',.slice fa fn fc,.slice fb fm fd,.int .i64 lb,.slice sa sn sc,.slice qa qn qc],.int .i64 n,.bool false])) W2:=by
 obtain ⟨e0,e1,e2,e3,-⟩:=kC (p:=fun _=>true) Z (fun _ _=>rfl) hL hW
 exact ⟨e0,e1,e2,eH.no EQ e3⟩
def IQ (s : Bs) (f : Fm) (fi fcd : Int) : Prop:=∀ W,kL W → dV W → jG W → Calls Tryz.prog 43 #[str s] W fun e w'=>∃ fa fn fc fb fm fd,e = .returned (.tuple #[.agg #[.int .u8 f.op,str f.name,.slice fa fn fc,.slice fb fm fd],.int .i64 fi,.int .i64 fcd]) ∧ TmsB (hide (lo W) w') f.args (.slice fa fn fc) ∧ FmsB (hide (lo W) w') f.sub (.slice fb fm fd) ∧ Below W.heap.size W w'
theorem GA (s : Bs) (hs : s.length ≤ 1000000000) : ∃ f fi fcd,rGot s = (f,fi,fcd) ∧ (fcd = 0 ∨ fcd = 2 ∨ fcd = 3 ∨ fcd = 410) ∧ IQ s f fi fcd:=by
 refine ⟨(rGot s).1,(rGot s).2.1,(rGot s).2.2,rfl,rGot_code3 s,fun W h1 h2 h3=>?_⟩
 exact Read_gotB s (by unfold maxLen;omega) W h1 h2 h3
structure Tabs (w : World) : Prop where
 m : kL w
 r : dV w
 n : jG w
 e : wL w
theorem Tabs.keep {w w' : World} (h : Tabs w) (k : aR w w') : Tabs w':=⟨h.m.keep k,h.r.keep k,h.n.keep k,h.e.keep k⟩
theorem Tabs.below {w w' : World} (h : Tabs w) (k : Below w.heap.size w w') : Tabs w':=h.keep (aA k)
set_option maxHeartbeats 4000000 in
theorem line_nocut (T a b : Bs) (hT : T.length ≤ 1000000000) (hc : Lib.cut T cs = (a,b,false)) (w : World) (ht : Tabs w) : Calls Tryz.prog 120 #[str T] w (eH T w):=by
 have HT:=Hd ht
 have CU:=Hd hc
 have XL:=Hd hT
 have EQ : Hid (cO T = none):=by show _ = _;unfold cO;rw [hc];rfl
 clear ht hc hT
 refine (callsIn_wide (n:=100)).1 ?_
 refine callsIn_of_wp_marks Tryz.func120 rfl trivial (gM ?_) rfl
 simp only [Tryz.ntmps120,List.size_toArray,List.length_cons,List.length_nil,Nat.reduceAdd,Nat.reduceSub,Array.replicate_succ,Array.replicate_zero,List.push_toArray,List.append_toArray,List.nil_append,List.cons_append]
 have Z:=Hd (iL w)
 gi_wp2_with (refine ⟨trivial, ?_⟩;gi_at_call 32;refine (callsIn_wide.2 (oB T cs _ _ _ XL.out CU.out _ (HT.out.m.keep (aA Z.out.bw)))).mono ?_;rintro e w7 ⟨rfl,b7⟩;have Z7:=Hd (Z.out.below b7);clear b7;obtain ⟨f0,f1,f2,f3,f4,f5,f6,f7⟩:=fO Z7.out.c2;obtain ⟨x0,x1,x2,x3,x4,x5,x6,x7⟩:=eV Z7.out.c2;obtain ⟨y3,r3⟩:=row9 Z7.out.c3;obtain ⟨y4,r4⟩:=row9 Z7.out.c4)
 obtain ⟨e0,e1,e2,e3⟩:=oY (T:=T) (r:=[]) (o:=0) (s':=[]) (fa:=none) (fb:=none) (sa:=none) (qa:=none) (fn:=0) (fc:=0) (fm:=0) (fd:=0) (sn:=0) (sc:=0) (qn:=0) (qc:=0) (lb:=0) (n:=0) Z7.out EQ.out rfl (Below.refl _ _)
 exact ⟨_,mI _ _ _ _ _ _ _ _ _ _ _ _ _ _ _ rfl rfl rfl e0 e1 e2,e3⟩
set_option maxHeartbeats 8000000 in
theorem line_asm (T a b : Bs) (hT : T.length ≤ 1000000000) (hc : Lib.cut T cs = (a,b,true)) (hp : Lib.hasPrefix a eC = true) (w : World) (ht : Tabs w) : Calls Tryz.prog 120 #[str T] w (eH T w):=by
 have HT:=Hd ht
 have CU:=Hd hc
 have XL:=Hd hT
 have ls:=mN hc
 obtain ⟨num,hnum⟩ : ∃ num,Lib.trimPrefix a eC = num:=⟨_,rfl⟩
 have nl : num.length ≤ 1000000000:=by rw [← hnum];have:=pP a eC;omega
 obtain ⟨f,fi,fcd,hg,hcd,hrd⟩:=GA b (by omega)
 have RD:=Hd hrd
 have PF : Hid (∀ W,Calls Tryz.prog 39 #[str a,str eC] W fun e w'=>e = .returned (.tuple #[str num,.bool true]) ∧ w' = W):=fun W=>by
  have:=jT eC a W
  rw [hnum,hp] at this;exact this
 have LG : Hid (cO T = match iC num with | some z=>if fcd = 0 then some (.mk [] f z [] []) else none | none=>none):=by
  show _ = _
  unfold cO
  rw [hc]
  simp only [if_true,hp,hnum,hg]
  all_goals (cases iC num <;> rfl)
 clear hc hT ht hnum hg hrd ls
 rcases ED num nl with ⟨z,hz,hat⟩ | ⟨z,hz,hat⟩
 ·have AT:=Hd hat
  rw [hz] at LG
  clear hat hz nl
  refine (callsIn_wide (n:=100)).1 ?_
  refine callsIn_of_wp_marks Tryz.func120 rfl trivial (gM ?_) rfl
  simp only [Tryz.ntmps120,List.size_toArray,List.length_cons,List.length_nil,Nat.reduceAdd,Nat.reduceSub,Array.replicate_succ,Array.replicate_zero,List.push_toArray,List.append_toArray,List.nil_append,List.cons_append]
  have Z:=Hd (iL w)
  rcases hcd with rfl | rfl | rfl | rfl
  all_goals
   gi_wp2_with (first
    | (refine ⟨trivial, ?_⟩;gi_at_call 32;refine (callsIn_wide.2 (oB T cs _ _ _ XL.out CU.out _ (HT.out.m.keep (aA Z.out.bw)))).mono ?_;rintro e w7 ⟨rfl,b7⟩;have Z7:=Hd (Z.out.below b7);clear b7)
    | (refine ⟨trivial, ?_⟩;gi_at_call 39;refine (callsIn_wide.2 (PF.out _)).mono ?_;rintro e w8 ⟨rfl,rfl⟩)
    | (refine ⟨trivial, ?_⟩;gi_at_call 33;refine (callsIn_wide.2 (AT.out _)).mono ?_;rintro e w9 ⟨rfl,b9⟩;have Z9:=Hd (Z7.out.below b9);clear b9)
    | (refine ⟨trivial, ?_⟩;gi_at_call 43;refine (callsIn_wide.2 (RD.out _ (HT.out.m.keep (aA Z9.out.bw)) (HT.out.r.keep (aA Z9.out.bw)) (HT.out.n.keep (aA Z9.out.bw)))).mono ?_;rintro e w10 ⟨fa,fn,fc,fb,fm,fd,rfl,h1,h2,b10⟩;have Z10:=Hd (Z9.out.below b10);have H1:=Hd h1;have H2:=Hd h2;clear h1 h2 b10))
   have zr:=heap_alloc_new w10 (.cells #[.int .u8 f.op,str f.name,.slice fa fn fc,.slice fb fm fd] 25)
   have bA : Below w10.heap.size w10 (w10.alloc (.cells #[.int .u8 f.op,str f.name,.slice fa fn fc,.slice fb fm fd] 25)):=bnew
   have ZA:=Hd (Z10.out.below bA)
   have HA1:=Hd (H1.out.keep (aS (p:=lo w9) (q:=lo w9) fun k h1 h2=>⟨h2,bA.block k h1⟩))
   have HA2:=Hd (H2.out.keep (aS (p:=lo w9) (q:=lo w9) fun k h1 h2=>⟨h2,bA.block k h1⟩))
   have NG : Hid (w.heap.size + 1 + 1 < w10.heap.size):=(Array.getElem?_eq_some_iff.1 Z10.out.c4).1
   generalize w10.heap.size = g10 at *
   change Code.wpIn _ _ _ _ _ _ (w10.alloc (.cells #[.int .u8 f.op,str f.name,.slice fa fn fc,.slice fb fm fd] 25))
   generalize w10.alloc (.cells #[.int .u8 f.op,str f.name,.slice fa fn fc,.slice fb fm fd] 25) = WA at *
   obtain ⟨p0,p1,p2,p3,-,-,-,-⟩:=row25' zr
   obtain ⟨f0,f1,f2,f3,f4,f5,f6,f7⟩:=fO ZA.out.c2
   obtain ⟨x0,x1,x2,x3,x4,x5,x6,x7⟩:=eV ZA.out.c2
   obtain ⟨y3,r3⟩:=row9 ZA.out.c3
   obtain ⟨y4,r4⟩:=row9 ZA.out.c4
   have n1 : g10 ≠ w.heap.size:=by have:=NG.out;omega
   have n2 : g10 ≠ w.heap.size + 1:=by have:=NG.out;omega
   have n3 : g10 ≠ w.heap.size + 1 + 1:=by have:=NG.out;omega
   gi_region
   gi_wp2
  ·obtain ⟨e0,e1,e2,e3,e4⟩:=kC (p:=lo w9) (n:=.int .i64 0) (t:=.bool true) (a:=str []) (b:=.int .u8 f.op) (c:=str f.name) (d:=.slice fa fn fc) (e:=.slice fb fm fd) (f:=.int .i64 z) (x:=.slice none 0 0) (y:=.slice none 0 0) ZA.out (fun k hk=>by have:=(Array.getElem?_eq_some_iff.1 Z9.out.c4).1;simp [lo];omega) rfl (lV _)
   exact ⟨_,mI _ _ _ _ _ _ _ _ _ _ _ _ _ _ _ rfl rfl rfl e0 e1 e2,eH.yes (q:=.mk [] f z [] []) LG.out e3 rfl (HA1.out.keep e4) (HA2.out.keep e4) AtB.nil⟩
  all_goals
   obtain ⟨e0,e1,e2,e3⟩:=oY (T:=T) (r:=[]) (o:=f.op) (s':=f.name) (fa:=fa) (fb:=fb) (sa:=none) (qa:=none) (fn:=fn) (fc:=fc) (fm:=fm) (fd:=fd) (sn:=0) (sc:=0) (qn:=0) (qc:=0) (lb:=z) (n:=0) ZA.out LG.out rfl (lV _)
   exact ⟨_,mI _ _ _ _ _ _ _ _ _ _ _ _ _ _ _ rfl rfl rfl e0 e1 e2,e3⟩
 ·have AT:=Hd hat
  have Q67:=q67
  rw [hz] at LG
  clear hat hz nl hcd
  refine (callsIn_wide (n:=100)).1 ?_
  refine callsIn_of_wp_marks Tryz.func120 rfl trivial (gM ?_) rfl
  simp only [Tryz.ntmps120,List.size_toArray,List.length_cons,List.length_nil,Nat.reduceAdd,Nat.reduceSub,Array.replicate_succ,Array.replicate_zero,List.push_toArray,List.append_toArray,List.nil_append,List.cons_append]
  have Z:=Hd (iL w)
  gi_wp2_with (first
   | (refine ⟨trivial, ?_⟩;gi_at_call 32;refine (callsIn_wide.2 (oB T cs _ _ _ XL.out CU.out _ (HT.out.m.keep (aA Z.out.bw)))).mono ?_;rintro e w7 ⟨rfl,b7⟩;have Z7:=Hd (Z.out.below b7);clear b7)
   | (refine ⟨trivial, ?_⟩;gi_at_call 39;refine (callsIn_wide.2 (PF.out _)).mono ?_;rintro e w8 ⟨rfl,rfl⟩)
   | (refine ⟨trivial, ?_⟩;gi_at_call 33;refine (callsIn_wide.2 (AT.out _ (HT.out.e.keep (aA Z7.out.bw)))).mono ?_;rintro e w9 ⟨N9,rfl,b9⟩;have Z9:=Hd (Z7.out.below b9);clear b9)
   | (refine ⟨trivial, ?_⟩;gi_at_call 43;refine (callsIn_wide.2 (RD.out _ (HT.out.m.keep (aA Z9.out.bw)) (HT.out.r.keep (aA Z9.out.bw)) (HT.out.n.keep (aA Z9.out.bw)))).mono ?_;rintro e w10 ⟨fa,fn,fc,fb,fm,fd,rfl,-,-,b10⟩;have Z10:=Hd (Z9.out.below b10);clear b10))
  have zr:=heap_alloc_new w10 (.cells #[.int .u8 f.op,str f.name,.slice fa fn fc,.slice fb fm fd] 25)
  have bA : Below w10.heap.size w10 (w10.alloc (.cells #[.int .u8 f.op,str f.name,.slice fa fn fc,.slice fb fm fd] 25)):=bnew
  have ZA:=Hd (Z10.out.below bA)
  have NG : Hid (w.heap.size + 1 + 1 < w10.heap.size):=(Array.getElem?_eq_some_iff.1 Z10.out.c4).1
  generalize w10.heap.size = g10 at *
  change Code.wpIn _ _ _ _ _ _ (w10.alloc (.cells #[.int .u8 f.op,str f.name,.slice fa fn fc,.slice fb fm fd] 25))
  generalize w10.alloc (.cells #[.int .u8 f.op,str f.name,.slice fa fn fc,.slice fb fm fd] 25) = WA at *
  obtain ⟨p0,p1,p2,p3,-,-,-,-⟩:=row25' zr
  obtain ⟨f0,f1,f2,f3,f4,f5,f6,f7⟩:=fO ZA.out.c2
  obtain ⟨x0,x1,x2,x3,x4,x5,x6,x7⟩:=eV ZA.out.c2
  obtain ⟨y3,r3⟩:=row9 ZA.out.c3
  obtain ⟨y4,r4⟩:=row9 ZA.out.c4
  have n1 : g10 ≠ w.heap.size:=by have:=NG.out;omega
  have n2 : g10 ≠ w.heap.size + 1:=by have:=NG.out;omega
  have n3 : g10 ≠ w.heap.size + 1 + 1:=by have:=NG.out;omega
  gi_region
  gi_wp2
  obtain ⟨e0,e1,e2,e3⟩:=oY (T:=T) (r:=[]) (o:=f.op) (s':=f.name) (fa:=fa) (fb:=fb) (sa:=none) (qa:=none) (fn:=fn) (fc:=fc) (fm:=fm) (fd:=fd) (sn:=0) (sc:=0) (qn:=0) (qc:=0) (lb:=z) (n:=0) ZA.out LG.out rfl (lV _)
  exact ⟨_,mI _ _ _ _ _ _ _ _ _ _ _ _ _ _ _ rfl rfl rfl e0 e1 e2,e3⟩
end Go.Proofs.YtcandidgaegghaaGreatDoor
