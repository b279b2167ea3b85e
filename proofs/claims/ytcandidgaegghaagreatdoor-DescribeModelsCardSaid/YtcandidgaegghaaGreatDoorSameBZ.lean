/- Contracts of describe.words, text and Form, at formulas that are ok. -/
import Derived.Test.YtcandidgaegghaaGreatDoorCpZ
import Derived.Test.YtcandidgaegghaaGreatDoorFormZ
import Derived.Test.YtcandidgaegghaaGreatDoorShelfZ
import Derived.Deep.RegionWith
import Derived.Lib.Hide
import Derived.Test.YtcandidgaegghaaGreatDoorMemZ
import Derived.Test.YtcandidgaegghaaGreatDoorProg
set_option maxRecDepth 10000
set_option linter.unusedSimpArgs false
set_option linter.unusedVariables false
namespace Go.Proofs.YtcandidgaegghaaGreatDoor
open Go Go.RowKit Ly
theorem own_at (w : World) (s : Bs) {B C : Nat} (hC : w.heap.size = C) (hB : B ≤ C) : aD B (w.alloc (.cells #[str s] 9)) [s] (.slice (some ⟨C,0,none⟩) 1 1):=by
 subst hC;exact (gI w s).mono hB
theorem pL (op : Int) : ∀ (b : Bool) (l : List Fm),∀ g ∈ l,g.words.length ≤ (eO op b l).length
 | _,[],g,h=>by cases h
 | b,x :: xs,g,h=>by
  simp only [eO,List.length_append]
  rcases List.mem_cons.1 h with e | e
  ·rw [e];omega
  ·have:=pL op false xs g e;omega
set_option maxHeartbeats 800000 in
theorem words_atom (n : Bs) (ts : List Tm) (a : Option Addr) (k c : Nat) (a' : Option Addr) (m d : Nat) (w : World) (ht : cH w ts (.slice a k c)) (hl : (termWords n ts).length ≤ 1000000) :
  Calls Tryz.prog 161 #[.agg #[.int .u8 1,str n,.slice a k c,.slice a' m d]] w (eL (termWords n ts) w):=by
 have HT:=Hd ht
 have HL:=Hd hl
 clear ht hl
 go_enter Tryz.func161,Tryz.ntmps161
 go_wp2_with fail
 refine (termWords_any n ts _ _ _ _ (HT.out.keep (bU _ _)) HL.out).mono ?_
 rintro e w1 ⟨v,rfl,h1,h2⟩
 have R : Hid (eL (termWords n ts) w (.returned v) w1):=⟨v,rfl,h1.mono (by simp),bO h2⟩
 clear h1 h2
 go_wp2_with fail
 go_ret
 exact R.out
set_option maxHeartbeats 800000 in
theorem words_false (n : Bs) (a : Option Addr) (k c : Nat) (a' : Option Addr) (m d : Nat) (w : World) :
  Calls Tryz.prog 161 #[.agg #[.int .u8 2,str n,.slice a k c,.slice a' m d]] w (eL [eE] w):=by
 go_enter Tryz.func161,Tryz.ntmps161
 go_wp2_with fail
 go_ret
 exact ⟨_,rfl,own_at (w.alloc _) eE (C:=w.heap.size + 1) (by simp) (by omega),bnew.alloc (by simp) _⟩
theorem words_step (op : Int) (n : Bs) (ts : List Tm) (sub : List Fm) (hok : (Fm.mk op n ts sub).ok = true) (hsub : ∀ g ∈ sub,FW g) : FW (.mk op n ts sub):=by
 intro a k c a' m d w ht hf hl
 simp only [Fm.ok,Bool.and_eq_true,decide_eq_true_eq] at hok
 obtain ⟨⟨⟨⟨h1,h2⟩,h3⟩,_⟩,_⟩:=hok
 unfold Fm.words at hl ⊢
 show Calls Tryz.prog 161 #[.agg #[.int .u8 op,str n,.slice a k c,.slice a' m d]] w _
 by_cases e1 : op = 1
 ·subst e1
  rw [if_pos rfl] at hl ⊢
  exact words_atom n ts a k c a' m d w ht hl
 rw [if_neg e1] at hl ⊢
 by_cases e2 : op = 2
 ·subst e2
  rw [if_pos rfl] at hl ⊢
  exact words_false n a k c a' m d w
 rw [if_neg e2] at hl ⊢
 have hop : 3 ≤ op ∧ op ≤ 14:=by
  unfold arity at h1
  repeat (split at h1 <;> first | omega | skip)
 have hn : n.length ≤ 1000000:=by
  rw [if_neg e1] at h3
  simp only [Bool.and_eq_true] at h3
  have h4:=h3.2
  split at h4
  ·have:=eQ h4;omega
  ·simp at h4;subst h4;simp
 cases sub with
 | nil =>
  exfalso
  unfold arity at h1
  simp only [List.length_nil] at h1
  repeat (split at h1 <;> first | omega | skip)
 | cons g gs =>
  have hf' : dH w (g :: gs) (.slice a' m d):=hf
  have hlen:=hf'.len
  obtain ⟨b,off,rfl,hc⟩:=hf'.get (by simp)
  obtain ⟨x,x1,x2,y,y1,y2,c0⟩:=hc 0 g rfl
  have hle:=pL op true (g :: gs)
  have hlen1 : gs.length ≤ 1:=Nat.le_of_succ_le_succ h2
  have e : eO op true (g :: gs) = g.words ++ eO op false gs:=by rw [eO];rfl
  rw [e]
  refine words_sub op n hop hn g gs (hsub g (by simp)) (fun h hh=>⟨hsub h (by simp [hh]),Fm.words_ne h, ?_⟩) hlen1 ?_ (Fm.words_ne g) a k c b off m d w x x1 x2 y y1 y2 (by simpa using c0) ?_ (by simpa using hlen.1) hlen.2.1
  ·have:=hle h (by simp [hh]);simp only [List.length_cons] at hl;omega
  ·have:=hle g (by simp);simp only [List.length_cons] at hl;omega
  ·intro h hh
   have : gs = [h]:=by
    match gs,hlen1,hh with
    | [z],_,hh=>simp at hh;rw [hh]
   subst this
   obtain ⟨x,x1,x2,y,y1,y2,c1⟩:=hc 1 h rfl
   exact ⟨x,x1,x2,y,y1,y2,by simpa using c1⟩
mutual
theorem yU : ∀ f : Fm,f.ok = true → FW f
 | .mk op n ts sub,h=>words_step op n ts sub h (vB sub (by simp only [Fm.ok,Bool.and_eq_true] at h;exact h.2))
theorem vB : ∀ l : List Fm,mK l = true → ∀ g ∈ l,FW g
 | [],_,_,h=>by cases h
 | x :: xs,h0,g,h=>by
  simp only [mK,Bool.and_eq_true] at h0
  rcases List.mem_cons.1 h with e | e
  ·rw [e];exact yU x h0.1
  ·exact vB xs h0.2 g e
end
def wlen : List Bs → Nat
 | []=>0
 | x :: r=>x.length + 1 + wlen r
theorem nJ : ∀ l m : List Bs,wlen (l ++ m) = wlen l + wlen m
 | [],m=>by simp [wlen]
 | x :: l,m=>by simp [wlen,nJ l m];omega
theorem mN : ∀ l : List Bs,l.length ≤ wlen l
 | []=>by simp [wlen]
 | x :: l=>by have:=mN l;simp [wlen];omega
theorem tU : ∀ l : List Bs,(kA l).length ≤ wlen l
 | []=>by simp [kA]
 | [x]=>by simp [kA,wlen]
 | x :: y :: r=>by
  have:=tU (y :: r)
  simp only [kA,wlen,List.length_append,List.length_cons] at this ⊢
  omega
mutual
theorem Tm.wlen_le : ∀ t : Tm,t.ok = true → wlen t.words + 10 ≤ 40 * t.nodes
 | .mk v n ts,h=>by
  have hn : n.length ≤ 16:=by
   simp only [Tm.ok] at h
   split at h
   ·simp only [Bool.and_eq_true] at h;exact eQ h.2
   ·simp only [Bool.and_eq_true] at h;exact eQ h.1.2
  have ht : kM ts = true:=by
   simp only [Tm.ok] at h
   split at h
   ·simp only [Bool.and_eq_true,List.isEmpty_iff] at h;rw [h.1];rfl
   ·simp only [Bool.and_eq_true] at h;exact h.2
  have:=sU true ts ht
  have hc : wlen (if ts.isEmpty then ([] : List Bs) else [fV]) ≤ 12:=by split <;> simp [wlen,fV]
  simp only [Tm.words,wlen,nJ,Tm.nodes]
  omega
theorem sU : ∀ (b : Bool) (l : List Tm),kM l = true → wlen (dR b l) ≤ 40 * bT l
 | _,[],_=>by simp [dR,wlen]
 | b,t :: ts,h=>by
  simp only [kM,Bool.and_eq_true] at h
  have h1:=Tm.wlen_le t h.1
  have h2:=sU false ts h.2
  have hw : (if b = true then wOf else wAnd).length ≤ 4:=by split <;> simp [wOf,wAnd]
  simp only [dR,wlen,nJ,bT]
  omega
end
theorem sK (op : Int) (n : Bs) : (aS op n).length ≤ 12 + n.length ∧ (aP op).length ≤ 8:=by
 constructor
 ·unfold aS
  repeat' split
  all_goals first | exact Nat.le_trans (m:=12) (by decide) (Nat.le_add_right _ _) | (simp only [wNot,wNec,wPos,lC,gO,wFor,wAll,fS,sW,lY,wIf,wAs,oM,List.length_append,List.length_cons,List.length_nil];omega)
 ·unfold aP
  repeat' split
  all_goals decide
mutual
theorem Fm.wlen_le : ∀ f : Fm,f.ok = true → wlen f.words + 10 ≤ 40 * f.nodes
 | .mk op n ts sub,h=>by
  simp only [Fm.ok,Bool.and_eq_true,decide_eq_true_eq] at h
  obtain ⟨⟨⟨⟨h1,h2⟩,h3⟩,h4⟩,h5⟩:=h
  have hn : n.length ≤ 16:=by
   split at h3
   ·simp only [Bool.and_eq_true] at h3;exact eQ h3.1
   ·simp only [Bool.and_eq_true] at h3
    have h6:=h3.2
    split at h6
    ·exact eQ h6
    ·simp at h6;subst h6;simp
  have a1:=sU true ts h4
  have a2:=vV op true sub h5
  have a3:=(sK op n).1
  have hc : wlen (if ts.isEmpty then ([] : List Bs) else [fV]) ≤ 12:=by split <;> simp [wlen,fV]
  have hf : wlen [eE] ≤ 8:=by simp [wlen,eE]
  simp only [Fm.words,Fm.nodes]
  split
  ·simp only [termWords,wlen,nJ];omega
  ·split
   ·omega
   ·simp only [wlen];omega
theorem vV (op : Int) : ∀ (b : Bool) (l : List Fm),mK l = true → wlen (eO op b l) ≤ 40 * cB l
 | _,[],_=>by simp [eO,wlen]
 | b,f :: fs,h=>by
  simp only [mK,Bool.and_eq_true] at h
  have h1:=Fm.wlen_le f h.1
  have h2:=vV op false fs h.2
  have hw : wlen (if b = true then ([] : List Bs) else [aP op]) ≤ 9:=by
   have:=(sK op []).2
   split <;> simp [wlen];omega
  simp only [eO,nJ,cB]
  omega
end
theorem iD {f : Fm} (h : f.right = true) : f.words.length ≤ 16000 ∧ f.text.length ≤ 16000:=by
 simp only [Fm.right,Bool.and_eq_true,decide_eq_true_eq] at h
 have:=Fm.wlen_le f h.1.1
 have h1:=mN f.words
 have h2:=tU f.words
 unfold Fm.text
 omega
theorem vI : ∀ l : List Bs,Lib.join l [32] = kA l
 | []=>rfl
 | [x]=>by simp [Lib.join,kA]
 | x :: y :: r=>by
  have:=vI (y :: r)
  simp [Lib.join,kA] at this ⊢
  exact this
theorem join_own {w : World} {l : List Bs} {v : Value} {B : Nat} (h : aD B w l v) (hne : l ≠ []) (h1 : l.length ≤ 1000000) (h2 : (kA l).length ≤ 1000000) :
  Calls Tryz.prog 37 #[v,.string ⟨#[32]⟩] w (Rt (str (kA l)) w):=by
 obtain ⟨a,n,c,rfl⟩:=h.strsAt.slice
 have hl:=h.strsAt.len
 obtain ⟨b,off,rfl,hc⟩:=h.strsAt.get hne
 have e : (l.map (fun x : Bs=>(⟨x.toArray⟩ : ByteArray))).map (·.data.toList) = l:=by simp [List.map_map,Function.comp_def]
 have hx:=Tryz.strings_Join b off c (l.map (fun x : Bs=>(⟨x.toArray⟩ : ByteArray))) ⟨#[32]⟩ w
  (fun j x hj=>by
   rw [List.getElem?_map] at hj
   obtain ⟨y,hy,rfl⟩:=Option.map_eq_some_iff.1 hj
   exact hc j y hy)
  (by
   obtain ⟨x,hx⟩:=List.exists_mem_of_ne_nil l hne
   obtain ⟨j,hj⟩:=List.getElem?_of_mem hx
   exact World.block_lt_of_cell? w _ (hc j x hj))
  (by simp;omega) (by simp;have:=hl.1;omega) (by rw [e];show (Lib.join l [32]).length ≤ _;rw [vI];omega)
 rw [e,List.length_map,← hl.1] at hx
 refine hx.mono ?_
 rintro e w' ⟨rfl,h⟩
 refine ⟨?_,h⟩
 show Ending.returned (.string ⟨(Lib.join l [32]).toArray⟩) = _
 rw [vI]
set_option maxHeartbeats 800000 in
theorem qF (f : Fm) (hok : f.ok = true) (hlen : f.words.length ≤ 1000000 ∧ f.text.length ≤ 1000000) (a : Option Addr) (k c : Nat) (a' : Option Addr) (m d : Nat) (w : World) (ht : cH w f.args (.slice a k c)) (hf : dH w f.sub (.slice a' m d)) :
  Calls Tryz.prog 86 #[.agg #[.int .u8 f.op,str f.name,.slice a k c,.slice a' m d]] w (Rt (str f.text) w):=by
 have HT:=Hd ht
 have HF:=Hd hf
 have HL:=Hd hlen
 have HO:=Hd hok
 clear ht hf hlen hok
 go_enter Tryz.func86,Tryz.ntmps86
 go_wp2_with fail
 refine (yU f HO.out _ _ _ _ _ _ _ (HT.out.keep (bU _ _)) (HF.out.keep (bU _ _)) HL.out.1).mono ?_
 rintro e w1 ⟨v,rfl,h1,h2⟩
 have O1:=Hd h1
 have B1:=Hd h2
 clear h1 h2
 go_wp2_with fail
 refine (join_own O1.out (Fm.words_ne f) HL.out.1 HL.out.2).mono ?_
 rintro e w2 ⟨rfl,h2⟩
 have B2:=Hd (aA (bO B1.out) h2)
 clear h2
 go_wp2_with fail
 go_ret
 exact ⟨rfl,B2.out⟩
open Go Go.RowKit Ly
set_option maxHeartbeats 800000 in
theorem rG (f : Fm) (h : f.right = true) (x : Value) (w : World) (hr : gC w) (hx : iZ w f x) : Calls Tryz.prog 21 #[x] w (Rt (.tuple #[str f.text,.int .i64 0]) w):=by
 obtain ⟨a,k,c,a',m,d,rfl,h1,h2⟩:=hx
 have HT:=Hd h1
 have HF:=Hd h2
 have HR:=Hd hr
 have HG:=Hd h
 have HO : Hid (f.ok = true):=by
  simp only [Fm.right,Bool.and_eq_true,decide_eq_true_eq] at h
  exact h.1.1
 have HL : Hid (f.words.length ≤ 1000000 ∧ f.text.length ≤ 1000000):=by have:=iD h;exact ⟨by omega,by omega⟩
 clear h h1 h2 hr
 go_enter Tryz.func21,Tryz.ntmps21
 go_wp2_with fail
 refine (iQ f (.agg #[.int .u8 f.op,str f.name,.slice a k c,.slice a' m d]) _ (HR.out.keep (bU _ _)) ⟨_,_,_,_,_,_,rfl,HT.out.keep (bU _ _),HF.out.keep (bU _ _)⟩ HG.out).mono ?_
 rintro e w1 ⟨rfl,b1⟩
 obtain ⟨hc1,hf1⟩:=fG b1
 have B1:=Hd b1
 have K1 : Hid (bI w w1):=aC (bO b1)
 go_wp2_with fail
 refine (qF f HO.out HL.out _ _ _ _ _ _ _ (HT.out.keep K1.out) (HF.out.keep K1.out)).mono ?_
 rintro e w2 ⟨rfl,b2⟩
 have R:=Hd (aA (bO B1.out) b2)
 go_wp2_with fail
 exact bodyPost_ret (v:=.tuple #[str f.text,.int .i64 0]) (by simp [results,Tryz.results21,go_sem]) rfl ⟨rfl,R.out⟩
open Go Go.RowKit Ly
theorem vR {α : Type} [BEq α] [LawfulBEq α] {l m : List α} {j : Nat} {T U : α} (h : l[j]? = some T) (h' : m[j]? = some U) : (l.drop j == m.drop j) = ((T == U) && (l.drop (j+1) == m.drop (j+1))):=by
 obtain ⟨h1,rfl⟩:=List.getElem?_eq_some_iff.1 h
 obtain ⟨h2,rfl⟩:=List.getElem?_eq_some_iff.1 h'
 rw [List.drop_eq_getElem_cons h1,List.drop_eq_getElem_cons h2,List.cons_beq_cons]
theorem xR {α : Type} [BEq α] [LawfulBEq α] {l m : List α} (h : l.length ≠ m.length) : (l == m) = false:=by
 rw [beq_eq_false_iff_ne];intro e;exact h (by rw [e])
def zY {α : Type} (f : FuncId) (A : World → List α → Value → Prop) (s : List α → List α → Bool) (l : List α) : Prop :=
 ∀ (m : List α) (a a' : Option Addr) (k c k' c' : Nat) (w : World),A w l (.slice a k c) → A w m (.slice a' k' c') →
  Calls Tryz.prog f #[.slice a k c,.slice a' k' c'] w (Rt (.bool (s l m)) w)
set_option maxHeartbeats 800000 in
theorem SameInts_step (l : List Int) : zY 152 dF (· == ·) l:=by
 intro m a a' k c k' c' w ha hb
 have hla:=ha.len
 have hlb:=hb.len
 by_cases hkk : k = k'
 ·subst hkk
  have hlen : k ≤ 9223372036854775807:=by have:=le63 hla.2.2;omega
  have L1:=Hd hla.1;have L2:=Hd hlb.1
  clear hla hlb
  have HA:=Hd ha;clear ha
  have HB:=Hd hb;clear hb
  go_enter Tryz.func152,Tryz.ntmps152
  go_wp2_with fail
  go_loopw [5] (fun i wr=>∃ j : Nat,j ≤ k ∧ i = .int .i64 j ∧ Below w.heap.size w wr ∧ Hid ((· == ·) l m = (· == ·) (l.drop j) (m.drop j))) (fun i _=>k - (intOf i).toNat)
  case atStart=>exact ⟨0,Nat.zero_le _,rfl,Below.refl _ _,rfl⟩
  case round =>
   obtain ⟨j,hj,rfl,hbl,hs⟩:=hrel
   by_cases hlt : j < k
   ·obtain ⟨T,hT⟩:=aH (l:=l) (j:=j) (by rw [← L1.out];exact hlt)
    obtain ⟨U,hU⟩:=aH (l:=m) (j:=j) (by rw [← L2.out];exact hlt)
    obtain ⟨b,off,rfl,hc⟩:=HA.out.get (bG hT)
    obtain ⟨b',off',rfl,hc'⟩:=HB.out.get (bG hU)
    have hK:=aC hbl
    have hbd:=aC hbl.drew
    have S:=Hd (vR hT hU)
    have c0:=hK _ _ (hc j _ hT)
    have d0:=hK _ _ (hc' j _ hU)
    clear hc hc' hT hU hK hbd
    by_cases hTU : T = U
    ·subst hTU
     go_wp2_with fail
     go_region_with (fail)
     all_goals
      go_wp2_with fail
      go_roundw
      case rel=>exact ⟨j + 1,by omega,by go_num,hbl.drew,by have q:=hs.out.trans S.out;simp only [beq_self_eq_true,Bool.true_and] at q;exact q⟩
      case measure=>simp [intOf];omega
    ·have t1 : (T == U) = false:=by simpa using hTU
     have t2 : (T != U) = true:=by simpa using hTU
     go_wp2_with fail
     go_region_with (fail)
     all_goals
      go_wp2_with fail
      go_ret
      exact ⟨by rw [hs.out,S.out,t1];rfl,hbl.drew⟩
   ·go_wp2_with fail
    go_ret
    exact ⟨by rw [hs.out,List.drop_of_length_le (by rw [← L1.out];omega),List.drop_of_length_le (by rw [← L2.out];omega)];rfl,hbl⟩
 ·have hne : l.length ≠ m.length:=by rw [← hla.1,← hlb.1];exact hkk
  have S:=Hd (xR hne)
  have t1 : ((k : Int) == (k' : Int)) = false:=beq_eq_false_iff_ne.2 (by omega)
  have t2 : ((k : Int) != (k' : Int)) = true:=by rw [bne_iff_ne];omega
  clear hla hlb ha hb hne
  go_enter Tryz.func152,Tryz.ntmps152
  go_wp2_with fail
  go_ret
  exact ⟨by rw [S.out];rfl,Below.refl _ _⟩
set_option maxHeartbeats 800000 in
theorem iE (l : List Bs) : zY 19 aX (· == ·) l:=by
 intro m a a' k c k' c' w ha hb
 have hla:=ha.len
 have hlb:=hb.len
 by_cases hkk : k = k'
 ·subst hkk
  have hlen : k ≤ 9223372036854775807:=by have:=le63 hla.2.2;omega
  have L1:=Hd hla.1;have L2:=Hd hlb.1
  clear hla hlb
  have HA:=Hd ha;clear ha
  have HB:=Hd hb;clear hb
  go_enter Tryz.func19,Tryz.ntmps19
  go_wp2_with fail
  go_loopw [5] (fun i wr=>∃ j : Nat,j ≤ k ∧ i = .int .i64 j ∧ Below w.heap.size w wr ∧ Hid ((· == ·) l m = (· == ·) (l.drop j) (m.drop j))) (fun i _=>k - (intOf i).toNat)
  case atStart=>exact ⟨0,Nat.zero_le _,rfl,Below.refl _ _,rfl⟩
  case round =>
   obtain ⟨j,hj,rfl,hbl,hs⟩:=hrel
   by_cases hlt : j < k
   ·obtain ⟨T,hT⟩:=aH (l:=l) (j:=j) (by rw [← L1.out];exact hlt)
    obtain ⟨U,hU⟩:=aH (l:=m) (j:=j) (by rw [← L2.out];exact hlt)
    obtain ⟨b,off,rfl,hc⟩:=HA.out.get (bG hT)
    obtain ⟨b',off',rfl,hc'⟩:=HB.out.get (bG hU)
    have hK:=aC hbl
    have hbd:=aC hbl.drew
    have S:=Hd (vR hT hU)
    have c0:=hK _ _ (hc j _ hT)
    have d0:=hK _ _ (hc' j _ hU)
    clear hc hc' hT hU hK hbd
    by_cases hTU : T = U
    ·subst hTU
     go_wp2_with fail
     go_region_with (fail)
     all_goals
      go_wp2_with fail
      go_roundw
      case rel=>exact ⟨j + 1,by omega,by go_num,hbl.drew,by have q:=hs.out.trans S.out;simp only [beq_self_eq_true,Bool.true_and] at q;exact q⟩
      case measure=>simp [intOf];omega
    ·have t1 : (T == U) = false:=by simpa using hTU
     have t2 : (T != U) = true:=by simpa using hTU
     go_wp2_with fail
     go_region_with (fail)
     all_goals
      go_wp2_with fail
      go_ret
      exact ⟨by rw [hs.out,S.out,t1];rfl,hbl.drew⟩
   ·go_wp2_with fail
    go_ret
    exact ⟨by rw [hs.out,List.drop_of_length_le (by rw [← L1.out];omega),List.drop_of_length_le (by rw [← L2.out];omega)];rfl,hbl⟩
 ·have hne : l.length ≠ m.length:=by rw [← hla.1,← hlb.1];exact hkk
  have S:=Hd (xR hne)
  have t1 : ((k : Int) == (k' : Int)) = false:=beq_eq_false_iff_ne.2 (by omega)
  have t2 : ((k : Int) != (k' : Int)) = true:=by rw [bne_iff_ne];omega
  clear hla hlb ha hb hne
  go_enter Tryz.func19,Tryz.ntmps19
  go_wp2_with fail
  go_ret
  exact ⟨by rw [S.out];rfl,Below.refl _ _⟩
open Go Go.RowKit Ly
def SqVal (w : World) (l r : List Fm) (u : Value) : Prop:=∃ a n c b m d,u = .agg #[.slice a n c,.slice b m d] ∧ dH w l (.slice a n c) ∧ dH w r (.slice b m d)
end Go.Proofs.YtcandidgaegghaaGreatDoor
