/- A map that the call made, by what stands at each key: which keys are there, and what is found at each. Conditions: those of each statement. -/
import Derived.Maps.OwnIn
import Derived.Maps.OwnSet
import Derived.Maps.Ext
import Derived.DeepKeys4
import Derived.Test.YtppfalbnhnpbnaaGreatDoorMakeC
import Derived.Test.YtppfalbnhnpbnaaGreatDoorRgmC
import Derived.Test.YtppfalbnhnpbnaaGreatDoorRdCC
import Derived.RangeFuncBound
import Derived.RangeFuncCalls
import Derived.RangeFuncLeaves
import Derived.Shelf.Abstract
import Derived.Shelf.RegionOpen
import Derived.WalkKit
import Derived.OwnWalkIn
import Derived.TacticsInMore
import Derived.LoopNIn
import Derived.LoopIn
import Derived.DefersIn
import Derived.Lib.Hide
import Derived.Test.YtppfalbnhnpbnaaGreatDoorProg
import Derived.Lib.ItoaNum
set_option linter.unusedSimpArgs false
set_option linter.unusedVariables false
namespace Ly
open Go Go.RowKit
def hR (v : Value) : Option (DataW Value × List MemPlace):=some (.held v,[])
structure KeyG {κ : Type} (P : Program) (k : TypeId) (enc : κ → Value) (ok : κ → Prop) (lit : κ → Lit) : Prop where
 keyed : Maps.Keyed P k
 key : ∀ s,ok s → keyOf P k (enc s) = some (lit s)
 inj : ∀ s t,enc s = enc t → s = t
section
variable {κ : Type} {P : Program} {k : TypeId} {enc : κ → Value} {ok : κ → Prop} {lit : κ → Lit}
theorem KeyG.ne (K : KeyG P k enc ok lit) {s t : κ} (hs : ok s) (ht : ok t) (h : t ≠ s) : lit t ≠ lit s:=fun e =>
 h (K.inj _ _ (K.keyed.inj (K.key t ht) (by rw [e];exact K.key s hs)))
theorem KeyG.isKey (K : KeyG P k enc ok lit) {s : κ} (hs : ok s) : WideAt.IsKeyLit (lit s):=K.keyed.key (K.key s hs)
def MapG (P : Program) (k : TypeId) (ok : κ → Prop) (lit : κ → Lit) (z : Value) (w : World) (M n : Nat) (S : κ → Bool) (T : κ → Value) : Prop :=
 ∃ D : DataW Value,w.ownsMap P k hR M n D ∧ (∀ s,ok s → Maps.has D (lit s) = S s) ∧ (∀ s,ok s → D.atKey (lit s) (.held z) = .held (T s)) ∧ (∀ kl,Maps.has D kl = true → ∃ s,ok s ∧ kl = lit s)
variable {z : Value} {w : World} {M n : Nat} {S : κ → Bool} {T : κ → Value}
theorem MapG.made (w : World) : MapG P k ok lit z (w.alloc (.map #[] 0)) w.heap.size 0 (fun _=>false) (fun _=>z) :=
 ⟨_,World.ownsMap_made _ _ _ _,fun _ _=>rfl,fun _ _=>rfl,fun _ h=>by cases h⟩
theorem MapG.lt (h : MapG P k ok lit z w M n S T) : M < w.heap.size:=by
 obtain ⟨D,h1,_⟩:=h
 exact h1.lt
theorem MapG.isMap (h : MapG P k ok lit z w M n S T) : ∃ es c,w.heap[M]? = some (.map es c):=by
 obtain ⟨D,⟨es,c,hb,_⟩,_⟩:=h
 exact ⟨es,c,hb⟩
theorem MapG.heap {w' : World} (h : MapG P k ok lit z w M n S T) (e : w'.heap[M]? = w.heap[M]?) : MapG P k ok lit z w' M n S T:=by
 obtain ⟨D,⟨es,c,hb,r⟩,h2⟩:=h
 exact ⟨D,⟨es,c,e.trans hb,r⟩,h2⟩
theorem MapG.grown {w' : World} {row : Option Nat} (h : MapG P k ok lit z w M n S T) (hg : w.grownBy w' row) (hne : some M ≠ row) : MapG P k ok lit z w' M n S T:=h.heap (hg.block M h.lt hne)
theorem MapG.below {w' : World} (h : MapG P k ok lit z w M n S T) (hb : Below w.heap.size w w') : MapG P k ok lit z w' M n S T:=h.heap (hb.block M h.lt)
theorem MapG.mono {n' : Nat} (h : MapG P k ok lit z w M n S T) (hn : n ≤ n') : MapG P k ok lit z w M n' S T:=by
 obtain ⟨D,h1,h2⟩:=h
 exact ⟨D,h1.mono hn,h2⟩
theorem MapG.cong {S' : κ → Bool} {T' : κ → Value} (h : MapG P k ok lit z w M n S T) (hS : ∀ s,ok s → S s = S' s) (hT : ∀ s,ok s → T s = T' s) : MapG P k ok lit z w M n S' T':=by
 obtain ⟨D,h1,h2,h3,h4⟩:=h
 exact ⟨D,h1,fun s hs=>(h2 s hs).trans (hS s hs),fun s hs=>(h3 s hs).trans (by rw [hT s hs]),h4⟩
theorem MapG.look {t e : TypeId} (h : MapG P k ok lit z w M n S T) (K : KeyG P k enc ok lit) (ht : P.underlying t = some (.map k e)) (hz : (zeroValue e).run P w = .ok z w) {s : κ} (hs : ok s) :
  (Instr.lookup t (.map (some M)) (enc s) false).run P w = .ok (T s) w:=by
 obtain ⟨D,h1,h2,h3,h4⟩:=h
 obtain ⟨v,ps,hrun,hv⟩:=h1.lookup K.keyed ht hz (R:=hR) rfl (K.key s hs)
 rw [h3 s hs] at hv
 simp only [hR,Option.some.injEq,Prod.mk.injEq,DataW.held.injEq] at hv
 rw [hrun,hv.1]
theorem MapG.look2 {t e : TypeId} (h : MapG P k ok lit z w M n S T) (K : KeyG P k enc ok lit) (ht : P.underlying t = some (.map k e)) (hz : (zeroValue e).run P w = .ok z w) {s : κ} (hs : ok s) :
  (Instr.lookup t (.map (some M)) (enc s) true).run P w = .ok (.tuple #[T s,.bool (S s)]) w:=by
 obtain ⟨D,h1,h2,h3,h4⟩:=h
 obtain ⟨v,ps,hrun,hv⟩:=h1.look_ok K.keyed ht hz (R:=hR) rfl (K.key s hs)
 rw [h3 s hs] at hv
 simp only [hR,Option.some.injEq,Prod.mk.injEq,DataW.held.injEq] at hv
 rw [hrun,hv.1,h2 s hs]
theorem MapG.store [DecidableEq κ] {t e : TypeId} (h : MapG P k ok lit z w M n S T) (K : KeyG P k enc ok lit) (ht : P.underlying t = some (.map k e)) (hn : n < maxLen) {s : κ} (hs : ok s) (v : Value) :
  ∃ w',(Instr.mapUpdate t (.map (some M)) (enc s) v).run P w = .ok () w' ∧ MapG P k ok lit z w' M (n + 1) (fun u=>if u = s then true else S u) (fun u=>if u = s then v else T u) ∧ w.grownBy w' (some M):=by
 obtain ⟨D,h1,h2,h3,h4⟩:=h
 obtain ⟨w',hrun,ho,hg⟩:=h1.update K.keyed ht hn (val:=v) (d:=.held v) (ps:=[]) (K.key s hs) rfl
 have im : Maps.IsMap D:=by
  obtain ⟨es,clock,_,_,_,e⟩:=h1
  exact ⟨_,e⟩
 refine ⟨w',hrun,⟨_,ho,fun u hu=>?_,fun u hu=>?_,fun kl hk=>?_⟩,hg⟩
 ·by_cases e : u = s
  ·subst e;rw [Maps.has_put_same im (K.isKey hs)];simp
  ·rw [Maps.has_put_other (K.ne hs hu e),h2 u hu];simp [e]
 ·by_cases e : u = s
  ·subst e;rw [Maps.atKey_put_same im (K.isKey hs)];simp
  ·rw [Maps.atKey_put_other (K.ne hs hu e),h3 u hu];simp [e]
 ·by_cases e : kl = lit s
  ·exact ⟨s,hs,e⟩
  ·rw [Maps.has_put_other e] at hk;exact h4 kl hk
end
section
variable {κ : Type} [DecidableEq κ] {P : Program} {k : TypeId} {enc : κ → Value} {ok : κ → Prop} {lit : κ → Lit} {z : Value} {w : World} {M n : Nat} {S : κ → Bool} {T : κ → Value} {ops : Array Oper} {rest : List Oper} {o : Oper} {a : Act} {Q : Exit → Act → World → Prop}
theorem fC (hg : o.guard = none) (m x v : Operand) (t : TypeId) (hop : o.op = Op.mapUpdate t m x v) (e : TypeId) (K : KeyG P k enc ok lit) (ht : P.underlying t = some (.map k e)) (hm : a.eval m = .map (some M)) (h : MapG P k ok lit z w M n S T) (hn : n < maxLen)
  (s : κ) (hs : ok s) (hx : a.eval x = enc s) (hK : ∀ w',MapG P k ok lit z w' M (n + 1) (fun u=>if u = s then true else S u) (fun u=>if u = s then a.eval v else T u) → w.grownBy w' (some M) → wpList P ops Q rest (a.put o.dst undef) w') :
  wpList P ops Q (o :: rest) a w:=by
 refine wpList_plain hg fun K' hK'=>?_
 obtain ⟨w',hrun,r1,r2⟩:=h.store K ht hn hs (a.eval v)
 unfold Oper.wp
 simp [execOp,hop,hm,hx,hrun,Result.andThen]
 exact hK' _ _ (hK w' r1 r2)
theorem fG {F : Fence} {nF : Nat} (hg : o.guard = none) (m x v : Operand) (t : TypeId) (hop : o.op = Op.mapUpdate t m x v) (e : TypeId) (K : KeyG P k enc ok lit) (ht : P.underlying t = some (.map k e)) (hm : a.eval m = .map (some M)) (h : MapG P k ok lit z w M n S T) (hn : n < maxLen)
  (s : κ) (hs : ok s) (hx : a.eval x = enc s) (hK : ∀ w',MapG P k ok lit z w' M (n + 1) (fun u=>if u = s then true else S u) (fun u=>if u = s then a.eval v else T u) → w.grownBy w' (some M) → wpListIn F nF P ops Q rest (a.put o.dst undef) w') :
  wpListIn F nF P ops Q (o :: rest) a w:=by
 refine wpListIn_plain hg fun K' hK'=>?_
 obtain ⟨w',hrun,r1,r2⟩:=h.store K ht hn hs (a.eval v)
 unfold Oper.wpIn
 refine ⟨by simp [Oper.about,hop], ?_⟩
 rw [Oper.semAt_plain F _ _ (by rw [hop];intro c hc';cases hc')]
 simp [execOp,hop,hm,hx,hrun,Result.andThen]
 exact hK' _ _ (hK w' r1 r2)
end
end Ly
namespace Ly
open Go.Lib (itoa decDigits)
def quant (op : Int) : Bool:=decide (op = 8 ∨ op = 9)
mutual
def Tm.vars : Tm → List Bs
 | .mk v n ts=>(if v then [n] else []) ++ bP ts
def bP : List Tm → List Bs
 | []=>[]
 | t :: ts=>t.vars ++ bP ts
end
mutual
def Fm.free : List Bs → Fm → List Bs
 | b,.mk op n ts fs=>(bP ts).filter (fun x=>decide (x ∉ b)) ++ bZ (if quant op then n :: b else b) fs
def bZ : List Bs → List Fm → List Bs
 | _,[]=>[]
 | b,f :: fs=>f.free b ++ bZ b fs
end
mutual
def Fm.binds : Fm → List Bs
 | .mk op n ts fs=>(if quant op then [n] else []) ++ cJ fs
def cJ : List Fm → List Bs
 | []=>[]
 | f :: fs=>f.binds ++ cJ fs
end
def xN (n : Nat) : Bs:=120 :: itoa (n : Int)
def dB (taken : List Bs) : Nat → Nat → Nat
 | 0,n=>n
 | k + 1,n=>if xN n ∈ taken then dB taken k (n + 1) else n
def dO (taken : List Bs) : Nat:=dB taken (taken.length + 1) 1
def least (taken : List Bs) : Bs:=xN (dO taken)
def arOf (ar : List (Bs × Bs)) (n : Bs) : Option Bs:=(ar.find? (fun p=>p.1 == n)).map (·.2)
mutual
def Tm.swap (g : Bs → Option Bs) : Tm → Tm
 | .mk v n ts=>match (if v then g n else none) with
  | some m=>.mk true m []
  | none=>.mk v n (aO g ts)
def aO (g : Bs → Option Bs) : List Tm → List Tm
 | []=>[]
 | t :: ts=>t.swap g :: aO g ts
end
mutual
def Fm.norm (free : List Bs) : List (Bs × Bs) → Fm → Fm
 | ar,.mk op n ts fs =>
  if quant op then .mk op (least (free ++ ar.map (·.2))) (aO (arOf ar) ts) (bK free ((n,least (free ++ ar.map (·.2))) :: ar) fs)
  else .mk op n (aO (arOf ar) ts) (bK free ar fs)
def bK (free : List Bs) : List (Bs × Bs) → List Fm → List Fm
 | _,[]=>[]
 | ar,f :: fs=>f.norm free ar :: bK free ar fs
end
def Fm.normal (f : Fm) : Fm:=f.norm (f.free []) []
structure Sy where
 sort : UInt8
 name : Bs
 ar : Nat
deriving DecidableEq
def Sy.kind (s : Sy) : Bs:=if s.sort = 117 then [117] else s.sort :: itoa (s.ar : Int)
def Sy.place (σ : List Sy) (s : Sy) : Nat:=(σ.takeWhile (fun t=>decide (t ≠ s))).countP (fun t=>decide (t.kind = s.kind)) + 1
def Sy.told (σ : List Sy) (s : Sy) : Bs:=s.kind ++ itoa (Sy.place σ s : Int)
def Sy.add (σ : List Sy) (s : Sy) : List Sy:=if s ∈ σ then σ else σ ++ [s]
def eB (b : List Bs) (σ : List Sy) (v : Bool) (n : Bs) (k : Nat) : Bs × List Sy :=
 if v then (if n ∈ b then (n,σ) else (Sy.told σ ⟨117,n,0⟩,Sy.add σ ⟨117,n,0⟩)) else (Sy.told σ ⟨97,n,k⟩,Sy.add σ ⟨97,n,k⟩)
mutual
def Tm.told (b : List Bs) : List Sy → Tm → Tm × List Sy
 | σ,.mk v n ts=>(.mk v (eB b σ v n ts.length).1 (aM b (eB b σ v n ts.length).2 ts).1,(aM b (eB b σ v n ts.length).2 ts).2)
def aM (b : List Bs) : List Sy → List Tm → List Tm × List Sy
 | σ,[]=>([],σ)
 | σ,t :: ts=>((t.told b σ).1 :: (aM b (t.told b σ).2 ts).1,(aM b (t.told b σ).2 ts).2)
end
def dT (σ : List Sy) (op : Int) (n : Bs) (k : Nat) : Bs × List Sy:=if op = 1 then (Sy.told σ ⟨80,n,k⟩,Sy.add σ ⟨80,n,k⟩) else (n,σ)
mutual
def Fm.told (b : List Bs) : List Sy → Fm → Fm × List Sy
 | σ,.mk op n ts fs=>(.mk op (dT σ op n ts.length).1 (aM b (dT σ op n ts.length).2 ts).1 (bM b (aM b (dT σ op n ts.length).2 ts).2 fs).1,(bM b (aM b (dT σ op n ts.length).2 ts).2 fs).2)
def bM (b : List Bs) : List Sy → List Fm → List Fm × List Sy
 | σ,[]=>([],σ)
 | σ,f :: fs=>((f.told b σ).1 :: (bM b (f.told b σ).2 fs).1,(bM b (f.told b σ).2 fs).2)
end
def Fm.sk (σ : List Sy) (f : Fm) : Fm × List Sy:=((f.normal.told f.normal.binds σ).1.normal,(f.normal.told f.normal.binds σ).2)
def dX : List Sy → List Fm → List Fm × List Sy
 | σ,[]=>([],σ)
 | σ,f :: fs=>((f.sk σ).1 :: (dX (f.sk σ).2 fs).1,(dX (f.sk σ).2 fs).2)
def skOf (L R : List Fm) : List Fm × List Fm:=((dX [] L).1,(dX (dX [] L).2 R).1)

/- Names. -/
theorem fO {n : Nat} (h : n ≤ 10000000) : (itoa (n : Int)).length ≤ 8:=by
 rw [jS]
 have key : ∀ (k m : Nat),m < 10 ^ (k + 1) → (decDigits m).length ≤ k + 1:=by
  intro k
  induction k with
  | zero=>intro m hm;rw [decDigits,dif_pos (by omega)];simp
  | succ k ih =>
   intro m hm
   rw [decDigits]
   split
   ·simp
   ·have:=ih (m / 10) (by rw [Nat.pow_succ] at hm;omega)
    simp;omega
 exact key 7 n (by omega)
theorem digit_of {c : UInt8} (h : 48 ≤ c.toNat ∧ c.toNat ≤ 57) : digit c = true:=by
 simp [digit,UInt8.le_iff_toNat_le,h.1,h.2]
theorem nR (n : Nat) : (itoa (n : Int)).all digit = true:=by
 rw [List.all_eq_true];exact fun c hc=>digit_of (itoa_digit (by omega) c hc)
theorem not_reserved {c : UInt8} {d : Bs} (hd : d ≠ []) (h : d.all digit = true) : eM (c :: d) = false:=by
 match d,hd with
 | x :: r,_ =>
  have hx : digit x = true:=by simp at h;exact h.1
  have hx2 : x.toNat ≤ 57:=by simp [digit,UInt8.le_iff_toNat_le] at hx;exact hx.2
  have : ∀ y : UInt8,58 ≤ y.toNat → x ≠ y:=fun y hy e=>by subst e;omega
  simp [eM,wAll,mI,jM,mH,gU,oX,this 108 (by decide),this 111 (by decide),this 97 (by decide),this 101 (by decide),this 110 (by decide)]
theorem kW {first other : UInt8 → Bool} {c : UInt8} {d : Bs} (hf : first c = true) (ho : ∀ x,digit x = true → other x = true) (hd : d ≠ []) (h : d.all digit = true) (hl : d.length ≤ 15) : cG first other (c :: d) = true:=by
 show (decide (d.length + 1 ≤ 16) && !eM (c :: d) && first c && d.all other) = true
 rw [not_reserved hd h,hf]
 have : d.all other = true:=by rw [List.all_eq_true] at h ⊢;exact fun x hx=>ho x (h x hx)
 simp [this];omega
theorem pD (x : UInt8) (h : digit x = true) : cS x = true:=by simp [cS,h]
theorem var_xN {n : Nat} (h : n ≤ 10000000) : bU (xN n) = true :=
 kW (by decide) (fun _ h=>h) xS (nR n) (by have:=fO h;omega)
theorem xN_inj {n m : Nat} (h : xN n = xN m) : n = m:=by
 unfold xN at h
 have:=itoa_inj (by omega) (by omega) (List.cons.inj h).2
 omega
theorem tL : ∀ (l t : List Bs),l.Nodup → (∀ x ∈ l,x ∈ t) → l.length ≤ t.length
 | [],_,_,_=>Nat.zero_le _
 | x :: l,t,hn,h=>by
  obtain ⟨h1,h2⟩:=List.nodup_cons.1 hn
  have hx : x ∈ t:=h x (by simp)
  have:=tL l (t.erase x) h2 fun y hy=>(List.mem_erase_of_ne (fun (e : y = x)=>h1 (e ▸ hy))).2 (h y (by simp [hy]))
  rw [List.length_erase_of_mem hx] at this
  have:=List.length_pos_of_mem hx
  simp;omega
theorem wB : ∀ (k n : Nat),((List.range' n k).map xN).Nodup
 | 0,_=>by simp
 | k + 1,n=>by
  rw [List.range'_succ,List.map_cons,List.nodup_cons]
  refine ⟨fun h=>?_,wB k (n + 1)⟩
  obtain ⟨i,hi,e⟩:=List.mem_map.1 h
  rw [List.mem_range'_1] at hi
  have:=xN_inj e
  omega
theorem kF (taken : List Bs) : ∀ (k n : Nat),n ≤ dB taken k n ∧ dB taken k n ≤ n + k
 | 0,n=>⟨Nat.le_refl _,Nat.le_refl _⟩
 | k + 1,n=>by
  unfold dB
  have:=kF taken k (n + 1)
  split <;> omega
theorem iA (taken : List Bs) : ∀ (k n i : Nat),n ≤ i → i < dB taken k n → xN i ∈ taken
 | 0,n,i,h,h1=>by unfold dB at h1;omega
 | k + 1,n,i,h,h1=>by
  unfold dB at h1
  split at h1
  ·rename_i h2
   rcases Nat.lt_or_eq_of_le h with h3 | rfl
   ·exact iA taken k (n + 1) i h3 h1
   ·exact h2
  ·omega
theorem mT (taken : List Bs) : xN (dO taken) ∉ taken:=by
 have key : ∀ (k n : Nat),xN (dB taken k n) ∈ taken → dB taken k n = n + k:=by
  intro k
  induction k with
  | zero=>intro n _;rfl
  | succ k ih =>
   intro n h
   unfold dB at h ⊢
   split
   ·rename_i h2
    rw [if_pos h2] at h
    rw [ih (n + 1) h];omega
   ·rename_i h2
    rw [if_neg h2] at h;exact absurd h h2
 intro h
 have e:=key _ _ h
 have sub : ∀ x ∈ (List.range' 1 (taken.length + 1)).map xN,x ∈ taken:=by
  intro x hx
  obtain ⟨i,hi,rfl⟩:=List.mem_map.1 hx
  rw [List.mem_range'_1] at hi
  exact iA taken (taken.length + 1) 1 i hi.1 (by omega)
 have:=tL _ _ (wB _ _) sub
 simp at this
 omega
theorem nS (taken : List Bs) (i : Nat) (h : 1 ≤ i) (h1 : i < dO taken) : xN i ∈ taken:=iA taken _ 1 i h h1
theorem rE (taken : List Bs) : 1 ≤ dO taken:=(kF taken _ 1).1
theorem oK (taken : List Bs) : dO taken ≤ taken.length + 2:=by have:=(kF taken (taken.length + 1) 1).2;unfold dO;omega
theorem var_least {taken : List Bs} (h : taken.length ≤ 1000000) : bU (least taken) = true:=var_xN (by have:=oK taken;omega)
end Ly
namespace Go.Proofs.YtppfalbnhnpbnaaGreatDoor
open Go Go.RowKit Ly
set_option maxRecDepth 10000
attribute [local go_sem] Oper.semAt_some
def okS (s : Bs) : Prop:=s.length ≤ maxLen
def litS (s : Bs) : Lit:=.string s
theorem qE {s t : Bs} (h : str s = str t) : s = t:=by
 have:=Value.string.inj h
 have:=congrArg (fun b : ByteArray=>b.data.toList) this
 simpa using this
theorem keyS : KeyG Tryz.prog 9 str okS litS :=
 ⟨Maps.string_keyed Tryz.underlying9,fun s hs=>WideMaps.keyOf_string_mk Tryz.underlying9 (s:=⟨s.toArray⟩) hs,fun _ _ h=>qE h⟩
theorem gQ : Tryz.prog.underlying 111 = some (.map 9 3):=by kernel_rfl
theorem pX (w : World) : (zeroValue 3).run Tryz.prog w = .ok (.int .i64 0) w:=by kernel_rfl
theorem xT : Tryz.prog.underlying 93 = some (.map 9 4):=by kernel_rfl
theorem zero4 (w : World) : (zeroValue 4).run Tryz.prog w = .ok (.bool false) w:=by kernel_rfl
def dA (w : World) (M n : Nat) (b : List Bs) : Prop:=∃ S,MapG Tryz.prog 9 okS litS (.int .i64 0) w M n S (fun s=>.int .i64 (b.count s))
def cQ (w : World) (M n : Nat) (l : List Bs) : Prop:=MapG Tryz.prog 9 okS litS (.bool false) w M n (fun s=>decide (s ∈ l)) (fun s=>.bool (decide (s ∈ l)))
theorem dA.look {w : World} {M n : Nat} {b : List Bs} (h : dA w M n b) {s : Bs} (hs : okS s) : (Instr.lookup 111 (.map (some M)) (str s) false).run Tryz.prog w = .ok (.int .i64 (b.count s)) w:=by
 obtain ⟨S,h⟩:=h
 exact h.look keyS gQ (pX w) hs
theorem cQ.look {w : World} {M n : Nat} {l : List Bs} (h : cQ w M n l) {s : Bs} (hs : okS s) : (Instr.lookup 93 (.map (some M)) (str s) false).run Tryz.prog w = .ok (.bool (decide (s ∈ l))) w :=
 MapG.look h keyS xT (zero4 w) hs
theorem dA.heap {w w' : World} {M n : Nat} {b : List Bs} (h : dA w M n b) (e : w'.heap[M]? = w.heap[M]?) : dA w' M n b:=by
 obtain ⟨S,h⟩:=h
 exact ⟨S,h.heap e⟩
theorem dA.lt {w : World} {M n : Nat} {b : List Bs} (h : dA w M n b) : M < w.heap.size:=by
 obtain ⟨S,h⟩:=h
 exact h.lt
theorem dA.rounds {m : Nat} {w w' : World} {M n : Nat} {b : List Bs} (h : dA w M n b) (hm : M ≠ m) (k : bN m w w') : dA w' M n b:=by
 obtain ⟨S,h⟩:=h
 obtain ⟨es,c,hb⟩:=h.isMap
 exact ⟨S,h.heap ((k.block M _ hb (.inl hm) rfl).trans hb.symm)⟩
theorem row1 {w : World} {b : Nat} {x : Value} {t : TypeId} (h : w.heap[b]? = some (.cells #[x] t (0,0))) : w.cell? ⟨b,0,none⟩ = some x ∧ w.frozen? ⟨b,0,none⟩ = false :=
 ⟨by simp [World.cell?,h],by simp [World.frozen?,h]⟩
structure VSt (m cb cy mb r n : Nat) (b : List Bs) (W : World) : Prop where
 hb : W.heap[cb]? = some (.cells #[.map (some mb)] 111 (0,0))
 hy : W.heap[cy]? = some (.cells #[.func (.yield r) #[] #[]] 151 (0,0))
 cnt : dA W mb n b
 ne : mb ≠ m
theorem VSt.rounds {m cb cy mb r n : Nat} {b : List Bs} {A X : World} (h : VSt m cb cy mb r n b A) (k : bN m A X) : VSt m cb cy mb r n b X :=
 ⟨k.keeps h.hb,k.keeps h.hy,h.cnt.rounds h.ne k,h.ne⟩
def Yields (m r n : Nat) (J : List Bs → World → Prop) (l : List Bs) : Prop :=
 ∀ pre x W1,J pre W1 → pre ++ [x] <+: l → YieldAt Fence.wide n Tryz.prog r #[str x] W1 fun e W'=>e = .returned (.bool true) ∧ J (pre ++ [x]) W' ∧ bN m W1 W'
def oH (b : List Bs) (s : Bs) : List Bs:=if s ∈ b then [] else [s]
set_option maxHeartbeats 1000000 in
theorem free_in (n : Nat) {m cb cy mb r k : Nat} {b l pre : List Bs} {J : List Bs → World → Prop} (hY : ∀ n,Yields m r n J l) (s : Bs) (hs : okS s) (W : World) (hV : VSt m cb cy mb r k b W) (hJ : J pre W) (hp : pre ++ oH b s <+: l) :
  CallsIn Fence.wide n Tryz.prog 150 #[str s,one cb,one cy] W fun e W'=>e = .returned (.bool true) ∧ J (pre ++ oH b s) W' ∧ bN m W W':=by
 have HY:=Lib.hid hY
 have HJ:=Lib.hid hJ
 have HP:=Lib.hid hp
 obtain ⟨a0,-⟩:=row1 hV.hb
 obtain ⟨a1,-⟩:=row1 hV.hy
 have LK:=hV.cnt.look hs
 clear hY hJ hp hV hs
 refine callsIn_of_wp Tryz.func150 rfl trivial ?_ rfl
 simp only [Tryz.ntmps150,List.size_toArray,List.length_cons,List.length_nil,Nat.reduceAdd,Nat.reduceSub,Array.replicate_succ,Array.replicate_zero,List.push_toArray,List.append_toArray,List.nil_append,List.cons_append]
 by_cases hb : s ∈ b
 ·have hc : decide ((b.count s : Int) > 0) = true:=by have:=List.count_pos_iff.2 hb;simp;omega
  have hf : oH b s = []:=if_pos hb
  rw [hf,List.append_nil] at HP ⊢
  generalize (b.count s : Int) = z at *
  gi_wp2
  refine ⟨fun _ h=>(by cases h), ?_⟩
  gi_wp2
  go_ret
  exact ⟨rfl,HJ.out,bN.refl _ _⟩
 ·have hc : decide ((b.count s : Int) > 0) = false:=by have:=List.count_eq_zero.2 hb;simp;omega
  have hf : oH b s = [s]:=if_neg hb
  rw [hf] at HP ⊢
  generalize (b.count s : Int) = z at *
  obtain ⟨fn,tmps,assign,body,hy,hR⟩:=HY.out (n - 1) pre s W HJ.out HP.out
  gi_wp2
  refine ⟨fun h=>absurd h (by decide),hR.mono ?_⟩
  rintro e W3 ⟨rfl,hJ3,hk3⟩
  gi_wp2
  go_ret
  exact ⟨rfl,hJ3,hk3⟩
theorem kL (ts : List Tm) {j : Nat} {T : Tm} (h : ts[j]? = some T) : bP (ts.take (j + 1)) = bP (ts.take j) ++ T.vars:=by
 have app : ∀ a b : List Tm,bP (a ++ b) = bP a ++ bP b:=fun a b=>by
  induction a with
  | nil=>rfl
  | cons x a ih=>simp [bP,ih]
 rw [List.take_add_one,h,app]
 simp [bP]
theorem lP (ts : List Tm) (j : Nat) : bP (ts.take j) <+: bP ts:=by
 induction ts generalizing j with
 | nil=>simp
 | cons x ts ih =>
  cases j with
  | zero=>simp [bP]
  | succ j=>simp only [List.take_succ_cons,bP];exact List.prefix_append_right_inj _ |>.2 (ih j)
theorem pT {ts : List Tm} {T : Tm} (h : T ∈ ts) {s : Bs} (hs : s ∈ T.vars) : s ∈ bP ts:=by
 induction ts with
 | nil=>cases h
 | cons x ts ih =>
  rcases List.mem_cons.1 h with rfl | h
  ·simp [bP,hs]
  ·simp [bP,ih h]
def offB (b l : List Bs) : List Bs:=l.filter (fun x=>decide (x ∉ b))
theorem eY (b x y : List Bs) : offB b (x ++ y) = offB b x ++ offB b y:=List.filter_append ..
theorem wC (b : List Bs) (s : Bs) : offB b [s] = oH b s:=by
 unfold offB oH
 by_cases h : s ∈ b <;> simp [h]
theorem rJ (b : List Bs) {x y : List Bs} (h : x <+: y) : offB b x <+: offB b y:=h.filter _
def VT (m cb cy mb r k : Nat) (b l : List Bs) (J : List Bs → World → Prop) (t : Tm) : Prop :=
 ∀ (n : Nat) (pre : List Bs) (W : World) (x : Value),dC W t x → (∀ s ∈ t.vars,okS s) → VSt m cb cy mb r k b W → J pre W → pre ++ offB b t.vars <+: l →
  CallsIn Fence.wide n Tryz.prog 151 #[x,.func (.func 150) #[] #[one cb,one cy]] W fun e W'=>e = .returned (.bool true) ∧ J (pre ++ offB b t.vars) W' ∧ bN m W W'
set_option maxHeartbeats 4000000 in
theorem vt_step {m cb cy mb r k B : Nat} {b l : List Bs} {J : List Bs → World → Prop} (hY : ∀ n,Yields m r n J l) (hM : ∀ s A X,J s A → eQ B A X → J s X) (v : Bool) (nm : Bs) (ts : List Tm) (ih : ∀ t ∈ ts,VT m cb cy mb r k b l J t) : VT m cb cy mb r k b l J (.mk v nm ts):=by
 intro n pre W x hx0 hn hV hJ hp
 obtain ⟨a,N,c,rfl,hx⟩ : ∃ a N c,x = .agg #[.bool v,str nm,.slice a N c] ∧ bG W ts (.slice a N c):=hx0
 have hl:=hx.len
 have vs : (Tm.mk v nm ts).vars = (if v then [nm] else []) ++ bP ts:=by simp [Tm.vars]
 rw [vs,eY,← List.append_assoc] at hp ⊢
 obtain ⟨p1,hp1⟩ : ∃ p1,pre ++ offB b (if v then [nm] else []) = p1:=⟨_,rfl⟩
 rw [hp1] at hp ⊢
 have N1 : N ≤ 9223372036854775807:=le63 (Nat.le_trans hl.2.1 hl.2.2)
 have L2:=Lib.hid hl.1
 have HX:=Lib.hid hx
 have HN : Hid (∀ t ∈ ts,∀ s ∈ t.vars,okS s):=fun t ht s hs=>hn s (by rw [vs];simp [pT ht hs])
 have HP:=Lib.hid hp
 have HM:=Lib.hid hM
 have IH:=Lib.hid ih
 have HV:=Lib.hid hV
 have V0 : Hid (∀ o,VSt m cb cy mb r k b (W.alloc o)):=fun o=>hV.rounds (cH m W o)
 have J0 : Hid (∀ o,J pre (W.alloc o)):=fun o=>hM _ _ _ hJ (eF B W o)
 have HE:=Lib.hid hp1
 have YF : Hid (∀ n W0,VSt m cb cy mb r k b W0 → J pre W0 → v = true → CallsIn Fence.wide n Tryz.prog 150 #[str nm,one cb,one cy] W0 fun e W'=>e = .returned (.bool true) ∧ J p1 W' ∧ bN m W0 W'):=fun n W0 h1 h2 hv=>by
  subst hv
  rw [← hp1]
  simp only [if_true,wC]
  refine free_in n hY nm (hn nm (by simp [Tm.vars])) W0 h1 h2 (List.IsPrefix.trans ?_ hp)
  rw [← hp1]
  simp [wC]
 clear hl hx hn hp hM ih hV hJ vs hp1 hY
 refine callsIn_of_wp Tryz.func151 rfl trivial ?_ rfl
 simp only [Tryz.ntmps151,List.size_toArray,List.length_cons,List.length_nil,Nat.reduceAdd,Nat.reduceSub,Array.replicate_succ,Array.replicate_zero,List.push_toArray,List.append_toArray,List.nil_append,List.cons_append]
 cases v
 ·gi_wp2
  refine ⟨fun _ h=>(by cases h), ?_⟩
  have J1 : Hid (J p1 (W.alloc (.cells #[.bool false,str nm,.slice a N c] 38))):=by have e : p1 = pre:=(by rw [← HE.out];simp [offB]);rw [e];exact J0.out _
  have R1 : Hid (bN m W (W.alloc (.cells #[.bool false,str nm,.slice a N c] 38))):=cH _ _ _
  have z2 : (W.alloc (.cells #[.bool false,str nm,.slice a N c] 38)).cell? ⟨W.heap.size,2,none⟩ = some (.slice a N c):=by simp [go_sem]
  generalize (W.alloc (.cells #[.bool false,str nm,.slice a N c] 38)) = W1 at *
  clear V0 J0 YF HE
  gi_wp2
  gi_loopw [19] (fun i wr=>∃ j : Nat,j ≤ N ∧ i = .int .i64 j ∧ Hid (J (p1 ++ offB b (bP (ts.take j))) wr ∧ bN m W wr)) (fun i _=>N - (intOf i).toNat)
  case atStart=>exact ⟨0,Nat.zero_le _,rfl,by simpa [bP,offB] using J1.out,R1.out⟩
  case round =>
   obtain ⟨j,hj,rfl,hs⟩:=hrel
   clear J1 R1 z2
   by_cases hlt : j < N
   ·obtain ⟨T,hT⟩:=aT (l:=ts) (j:=j) (by rw [← L2.out];exact hlt)
    obtain ⟨bb,off,rfl,hc⟩:=HX.out.get (aX hT)
    obtain ⟨x0,x1,x2,hx⟩:=hc j _ hT
    have hK:=bN.cells hs.out.2
    have c0:=hK _ _ hx.c0;have c1:=hK _ _ hx.c1;have c2:=hK _ _ hx.c2
    have HT:=Lib.hid (List.mem_of_getElem? hT)
    have TE:=Lib.hid (kL ts hT)
    have IC : Hid (∀ n o,CallsIn Fence.wide n Tryz.prog 151 #[.agg #[.bool T.v,str T.name,.slice x0 x1 x2],.func (.func 150) #[] #[one cb,one cy]] (wr.alloc o) fun e W'=>e = .returned (.bool true) ∧ J (p1 ++ offB b (bP (ts.take (j + 1)))) W' ∧ bN m (wr.alloc o) W'):=fun n o=>by
     have kk : bN m W (wr.alloc o):=hs.out.2.trans (cH m wr o)
     have:=IH.out T HT.out n (p1 ++ offB b (bP (ts.take j))) (wr.alloc o) (.agg #[.bool T.v,str T.name,.slice x0 x1 x2]) ⟨_,_,_,rfl,hx.at_.keep (bN.cells kk)⟩ (HN.out T HT.out) (HV.out.rounds kk) (HM.out _ _ _ hs.out.1 (eF B wr o)) (by
      rw [List.append_assoc,← eY,← TE.out]
      exact List.IsPrefix.trans ((List.prefix_append_right_inj _).2 (rJ b (lP ts _))) HP.out)
     rw [TE.out,eY,← List.append_assoc]
     exact this
    clear hc hx hT hK
    gi_wp2_with (refine ⟨trivial,fun h=>absurd h (by decide), ?_⟩;gi_at_call 151;refine (IC.out _ _).mono ?_;rintro e W3 ⟨rfl,hj3,hr3⟩;have J3:=Lib.hid hj3;have R3:=Lib.hid hr3;clear hj3 hr3)
    go_roundw
    case rel=>exact ⟨j + 1,by omega,by go_num,J3.out,hs.out.2.trans ((cH m wr _).trans R3.out)⟩
    case measure=>simp [intOf];omega
   ·have e : ts.take j = ts:=List.take_of_length_le (by rw [← L2.out];omega)
    gi_wp2
    go_ret
    exact ⟨rfl,by have:=hs.out.1;rw [e] at this;exact this,hs.out.2⟩
 ·have z0 : Hid (∀ W1,bN m (W.alloc (.cells #[.bool true,str nm,.slice a N c] 38)) W1 → W1.cell? ⟨W.heap.size,2,none⟩ = some (.slice a N c)):=fun W1 h=>bN.cells h _ _ (by simp [go_sem])
  gi_wp2_with (refine ⟨trivial,fun h=>absurd h (by decide), ?_⟩;gi_at_call 150;refine (YF.out _ _ (V0.out _) (J0.out _) rfl).mono ?_;rintro e W1 ⟨rfl,hj1,hr1⟩;have J1:=Lib.hid hj1;have z2:=z0.out _ hr1;have R1:=Lib.hid (bN.trans (cH m W _) hr1);clear hj1 hr1 z0 V0 J0 YF HE)
  gi_loopw [19] (fun i wr=>∃ j : Nat,j ≤ N ∧ i = .int .i64 j ∧ Hid (J (p1 ++ offB b (bP (ts.take j))) wr ∧ bN m W wr)) (fun i _=>N - (intOf i).toNat)
  case atStart=>exact ⟨0,Nat.zero_le _,rfl,by simpa [bP,offB] using J1.out,R1.out⟩
  case round =>
   obtain ⟨j,hj,rfl,hs⟩:=hrel
   clear J1 R1 z2
   by_cases hlt : j < N
   ·obtain ⟨T,hT⟩:=aT (l:=ts) (j:=j) (by rw [← L2.out];exact hlt)
    obtain ⟨bb,off,rfl,hc⟩:=HX.out.get (aX hT)
    obtain ⟨x0,x1,x2,hx⟩:=hc j _ hT
    have hK:=bN.cells hs.out.2
    have c0:=hK _ _ hx.c0;have c1:=hK _ _ hx.c1;have c2:=hK _ _ hx.c2
    have HT:=Lib.hid (List.mem_of_getElem? hT)
    have TE:=Lib.hid (kL ts hT)
    have IC : Hid (∀ n o,CallsIn Fence.wide n Tryz.prog 151 #[.agg #[.bool T.v,str T.name,.slice x0 x1 x2],.func (.func 150) #[] #[one cb,one cy]] (wr.alloc o) fun e W'=>e = .returned (.bool true) ∧ J (p1 ++ offB b (bP (ts.take (j + 1)))) W' ∧ bN m (wr.alloc o) W'):=fun n o=>by
     have kk : bN m W (wr.alloc o):=hs.out.2.trans (cH m wr o)
     have:=IH.out T HT.out n (p1 ++ offB b (bP (ts.take j))) (wr.alloc o) (.agg #[.bool T.v,str T.name,.slice x0 x1 x2]) ⟨_,_,_,rfl,hx.at_.keep (bN.cells kk)⟩ (HN.out T HT.out) (HV.out.rounds kk) (HM.out _ _ _ hs.out.1 (eF B wr o)) (by
      rw [List.append_assoc,← eY,← TE.out]
      exact List.IsPrefix.trans ((List.prefix_append_right_inj _).2 (rJ b (lP ts _))) HP.out)
     rw [TE.out,eY,← List.append_assoc]
     exact this
    clear hc hx hT hK
    gi_wp2_with (refine ⟨trivial,fun h=>absurd h (by decide), ?_⟩;gi_at_call 151;refine (IC.out _ _).mono ?_;rintro e W3 ⟨rfl,hj3,hr3⟩;have J3:=Lib.hid hj3;have R3:=Lib.hid hr3;clear hj3 hr3)
    go_roundw
    case rel=>exact ⟨j + 1,by omega,by go_num,J3.out,hs.out.2.trans ((cH m wr _).trans R3.out)⟩
    case measure=>simp [intOf];omega
   ·have e : ts.take j = ts:=List.take_of_length_le (by rw [← L2.out];omega)
    gi_wp2
    go_ret
    exact ⟨rfl,by have:=hs.out.1;rw [e] at this;exact this,hs.out.2⟩
end Go.Proofs.YtppfalbnhnpbnaaGreatDoor
namespace Ly
open Go
theorem nO (b : List Bs) (fs : List Fm) {j : Nat} {T : Fm} (h : fs[j]? = some T) : bZ b (fs.take (j + 1)) = bZ b (fs.take j) ++ T.free b:=by
 have app : ∀ x y : List Fm,bZ b (x ++ y) = bZ b x ++ bZ b y:=fun x y=>by
  induction x with
  | nil=>rfl
  | cons z x ih=>simp [bZ,ih]
 rw [List.take_add_one,h,app]
 simp [bZ]
theorem pJ (b : List Bs) (fs : List Fm) (j : Nat) : bZ b (fs.take j) <+: bZ b fs:=by
 induction fs generalizing j with
 | nil=>simp
 | cons x fs ih =>
  cases j with
  | zero=>simp [bZ]
  | succ j=>simp only [List.take_succ_cons,bZ];exact (List.prefix_append_right_inj _).2 (ih j)
theorem iW {fs : List Fm} {j : Nat} {T : Fm} (h : fs[j]? = some T) : aD (fs.take (j + 1)) = aD (fs.take j) + T.nodes:=by
 have app : ∀ x y : List Fm,aD (x ++ y) = aD x + aD y:=fun x y=>by
  induction x with
  | nil=>simp [aD]
  | cons z x ih=>simp [aD,ih];omega
 rw [List.take_add_one,h,app]
 simp [aD]
theorem gS (fs : List Fm) (j : Nat) : aD (fs.take j) ≤ aD fs:=by
 induction fs generalizing j with
 | nil=>simp
 | cons x fs ih =>
  cases j with
  | zero=>simp [aD]
  | succ j=>simp only [List.take_succ_cons,aD];have:=ih j;omega
mutual
def Fm.okNames : Fm → Bool
 | .mk _ n ts fs=>decide (n.length ≤ maxLen) && (bP ts).all (fun s=>decide (s.length ≤ maxLen)) && dU fs
def dU : List Fm → Bool
 | []=>true
 | f :: fs=>f.okNames && dU fs
end
theorem dL {fs : List Fm} (h : dU fs = true) : ∀ T ∈ fs,T.okNames = true:=by
 induction fs with
 | nil=>intro T hT;cases hT
 | cons x fs ih =>
  simp only [dU,Bool.and_eq_true] at h
  intro T hT
  rcases List.mem_cons.1 hT with rfl | hT
  ·exact h.1
  ·exact ih h.2 T hT
end Ly
