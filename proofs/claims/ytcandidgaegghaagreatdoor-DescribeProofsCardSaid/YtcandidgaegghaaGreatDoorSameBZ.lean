/- Contracts of describe.words, text and Form, at formulas that are ok. -/
import Derived.Test.YtcandidgaegghaaGreatDoorCpZ
import Derived.Test.YtcandidgaegghaaGreatDoorFormZ
import Derived.Test.YtcandidgaegghaaGreatDoorShelfZ
import Derived.Deep.RegionWith
import Derived.Lib.Hide
import Derived.Test.YtcandidgaegghaaGreatDoorMemZ
import Derived.Test.YtcandidgaegghaaGreatDoorProg
set_option maxRecDepth 10000
set_option linter.unusedSimpArgs false
set_option linter.unusedVariables false
namespace Go.Proofs.YtcandidgaegghaaGreatDoor
open Go Go.RowKit Ly
theorem own_at (w : World) (s : Bs) {B C : Nat} (hC : w.heap.size = C) (hB : B ≤ C) : aI B (w.alloc (.cells #[str s] 9)) [s] (.slice (some ⟨C,0,none⟩) 1 1):=by
 subst hC;exact (sX w s).mono hB
theorem tO (op : Int) : ∀ (b : Bool) (l : List Fm),∀ g ∈ l,g.words.length ≤ (bT op b l).length
 | _,[],g,h=>by cases h
 | b,x :: xs,g,h=>by
  simp only [bT,List.length_append]
  rcases List.mem_cons.1 h with e | e
  ·rw [e];omega
  ·have:=tO op false xs g e;omega
set_option maxHeartbeats 800000 in
theorem words_atom (n : Bs) (ts : List Tm) (a : Option Addr) (k c : Nat) (a' : Option Addr) (m d : Nat) (w : World) (ht : bI w ts (.slice a k c)) (hl : (termWords n ts).length ≤ 1000000) :
  Calls Tryz.prog 161 #[.agg #[.int .u8 1,str n,.slice a k c,.slice a' m d]] w (iQ (termWords n ts) w):=by
 have HT:=Hd ht
 have HL:=Hd hl
 clear ht hl
 go_enter Tryz.func161,Tryz.ntmps161
 go_wp2_with fail
 refine (termWords_any n ts _ _ _ _ (HT.out.keep (bH _ _)) HL.out).mono ?_
 rintro e w1 ⟨v,rfl,h1,h2⟩
 have R : Hid (iQ (termWords n ts) w (.returned v) w1):=⟨v,rfl,h1.mono (by simp),bB h2⟩
 clear h1 h2
 go_wp2_with fail
 go_ret
 exact R.out
set_option maxHeartbeats 800000 in
theorem words_false (n : Bs) (a : Option Addr) (k c : Nat) (a' : Option Addr) (m d : Nat) (w : World) :
  Calls Tryz.prog 161 #[.agg #[.int .u8 2,str n,.slice a k c,.slice a' m d]] w (iQ [cF] w):=by
 go_enter Tryz.func161,Tryz.ntmps161
 go_wp2_with fail
 go_ret
 exact ⟨_,rfl,own_at (w.alloc _) cF (C:=w.heap.size + 1) (by simp) (by omega),bnew.alloc (by simp) _⟩
theorem words_step (op : Int) (n : Bs) (ts : List Tm) (sub : List Fm) (hok : (Fm.mk op n ts sub).ok = true) (hsub : ∀ g ∈ sub,FW g) : FW (.mk op n ts sub):=by
 intro a k c a' m d w ht hf hl
 simp only [Fm.ok,Bool.and_eq_true,decide_eq_true_eq] at hok
 obtain ⟨⟨⟨⟨h1,h2⟩,h3⟩,_⟩,_⟩:=hok
 unfold Fm.words at hl ⊢
 show Calls Tryz.prog 161 #[.agg #[.int .u8 op,str n,.slice a k c,.slice a' m d]] w _
 by_cases e1 : op = 1
 ·subst e1
  rw [if_pos rfl] at hl ⊢
  exact words_atom n ts a k c a' m d w ht hl
 rw [if_neg e1] at hl ⊢
 by_cases e2 : op = 2
 ·subst e2
  rw [if_pos rfl] at hl ⊢
  exact words_false n a k c a' m d w
 rw [if_neg e2] at hl ⊢
 have hop : 3 ≤ op ∧ op ≤ 14:=by
  unfold arity at h1
  repeat (split at h1 <;> first | omega | skip)
 have hn : n.length ≤ 1000000:=by
  rw [if_neg e1] at h3
  simp only [Bool.and_eq_true] at h3
  have h4:=h3.2
  split at h4
  ·have:=fM h4;omega
  ·simp at h4;subst h4;simp
 cases sub with
 | nil =>
  exfalso
  unfold arity at h1
  simp only [List.length_nil] at h1
  repeat (split at h1 <;> first | omega | skip)
 | cons g gs =>
  have hf' : cD w (g :: gs) (.slice a' m d):=hf
  have hlen:=hf'.len
  obtain ⟨b,off,rfl,hc⟩:=hf'.get (by simp)
  obtain ⟨x,x1,x2,y,y1,y2,c0⟩:=hc 0 g rfl
  have hle:=tO op true (g :: gs)
  have hlen1 : gs.length ≤ 1:=Nat.le_of_succ_le_succ h2
  have e : bT op true (g :: gs) = g.words ++ bT op false gs:=by rw [bT];rfl
  rw [e]
  refine words_sub op n hop hn g gs (hsub g (by simp)) (fun h hh=>⟨hsub h (by simp [hh]),Fm.words_ne h, ?_⟩) hlen1 ?_ (Fm.words_ne g) a k c b off m d w x x1 x2 y y1 y2 (by simpa using c0) ?_ (by simpa using hlen.1) hlen.2.1
  ·have:=hle h (by simp [hh]);simp only [List.length_cons] at hl;omega
  ·have:=hle g (by simp);simp only [List.length_cons] at hl;omega
  ·intro h hh
   have : gs = [h]:=by
    match gs,hlen1,hh with
    | [z],_,hh=>simp at hh;rw [hh]
   subst this
   obtain ⟨x,x1,x2,y,y1,y2,c1⟩:=hc 1 h rfl
   exact ⟨x,x1,x2,y,y1,y2,by simpa using c1⟩
mutual
theorem KO : ∀ f : Fm,f.ok = true → FW f
 | .mk op n ts sub,h=>words_step op n ts sub h (CN sub (by simp only [Fm.ok,Bool.and_eq_true] at h;exact h.2))
theorem CN : ∀ l : List Fm,dR l = true → ∀ g ∈ l,FW g
 | [],_,_,h=>by cases h
 | x :: xs,h0,g,h=>by
  simp only [dR,Bool.and_eq_true] at h0
  rcases List.mem_cons.1 h with e | e
  ·rw [e];exact KO x h0.1
  ·exact CN xs h0.2 g e
end
def wlen : List Bs → Nat
 | []=>0
 | x :: r=>x.length + 1 + wlen r
theorem pT : ∀ l m : List Bs,wlen (l ++ m) = wlen l + wlen m
 | [],m=>by simp [wlen]
 | x :: l,m=>by simp [wlen,pT l m];omega
theorem oU : ∀ l : List Bs,l.length ≤ wlen l
 | []=>by simp [wlen]
 | x :: l=>by have:=oU l;simp [wlen];omega
theorem AK : ∀ l : List Bs,(aW l).length ≤ wlen l
 | []=>by simp [aW]
 | [x]=>by simp [aW,wlen]
 | x :: y :: r=>by
  have:=AK (y :: r)
  simp only [aW,wlen,List.length_append,List.length_cons] at this ⊢
  omega
mutual
theorem Tm.wlen_le : ∀ t : Tm,t.ok = true → wlen t.words + 10 ≤ 40 * t.nodes
 | .mk v n ts,h=>by
  have hn : n.length ≤ 16:=by
   simp only [Tm.ok] at h
   split at h
   ·simp only [Bool.and_eq_true] at h;exact fM h.2
   ·simp only [Bool.and_eq_true] at h;exact fM h.1.2
  have ht : cJ ts = true:=by
   simp only [Tm.ok] at h
   split at h
   ·simp only [Bool.and_eq_true,List.isEmpty_iff] at h;rw [h.1];rfl
   ·simp only [Bool.and_eq_true] at h;exact h.2
  have:=zD true ts ht
  have hc : wlen (if ts.isEmpty then ([] : List Bs) else [cB]) ≤ 12:=by split <;> simp [wlen,cB]
  simp only [Tm.words,wlen,pT,Tm.nodes]
  omega
theorem zD : ∀ (b : Bool) (l : List Tm),cJ l = true → wlen (aQ b l) ≤ 40 * aD l
 | _,[],_=>by simp [aQ,wlen]
 | b,t :: ts,h=>by
  simp only [cJ,Bool.and_eq_true] at h
  have h1:=Tm.wlen_le t h.1
  have h2:=zD false ts h.2
  have hw : (if b = true then wOf else wAnd).length ≤ 4:=by split <;> simp [wOf,wAnd]
  simp only [aQ,wlen,pT,aD]
  omega
end
theorem tJ (op : Int) (n : Bs) : (aM op n).length ≤ 12 + n.length ∧ (aG op).length ≤ 8:=by
 constructor
 ·unfold aM
  repeat' split
  all_goals first | exact Nat.le_trans (m:=12) (by decide) (Nat.le_add_right _ _) | (simp only [wNot,wNec,wPos,iZ,eO,wFor,wAll,eA,nA,hH,wIf,wAs,jQ,List.length_append,List.length_cons,List.length_nil];omega)
 ·unfold aG
  repeat' split
  all_goals decide
mutual
theorem Fm.wlen_le : ∀ f : Fm,f.ok = true → wlen f.words + 10 ≤ 40 * f.nodes
 | .mk op n ts sub,h=>by
  simp only [Fm.ok,Bool.and_eq_true,decide_eq_true_eq] at h
  obtain ⟨⟨⟨⟨h1,h2⟩,h3⟩,h4⟩,h5⟩:=h
  have hn : n.length ≤ 16:=by
   split at h3
   ·simp only [Bool.and_eq_true] at h3;exact fM h3.1
   ·simp only [Bool.and_eq_true] at h3
    have h6:=h3.2
    split at h6
    ·exact fM h6
    ·simp at h6;subst h6;simp
  have a1:=zD true ts h4
  have a2:=EY op true sub h5
  have a3:=(tJ op n).1
  have hc : wlen (if ts.isEmpty then ([] : List Bs) else [cB]) ≤ 12:=by split <;> simp [wlen,cB]
  have hf : wlen [cF] ≤ 8:=by simp [wlen,cF]
  simp only [Fm.words,Fm.nodes]
  split
  ·simp only [termWords,wlen,pT];omega
  ·split
   ·omega
   ·simp only [wlen];omega
theorem EY (op : Int) : ∀ (b : Bool) (l : List Fm),dR l = true → wlen (bT op b l) ≤ 40 * aK l
 | _,[],_=>by simp [bT,wlen]
 | b,f :: fs,h=>by
  simp only [dR,Bool.and_eq_true] at h
  have h1:=Fm.wlen_le f h.1
  have h2:=EY op false fs h.2
  have hw : wlen (if b = true then ([] : List Bs) else [aG op]) ≤ 9:=by
   have:=(tJ op []).2
   split <;> simp [wlen];omega
  simp only [bT,pT,aK]
  omega
end
theorem gZ {f : Fm} (h : f.right = true) : f.words.length ≤ 16000 ∧ f.text.length ≤ 16000:=by
 simp only [Fm.right,Bool.and_eq_true,decide_eq_true_eq] at h
 have:=Fm.wlen_le f h.1.1
 have h1:=oU f.words
 have h2:=AK f.words
 unfold Fm.text
 omega
theorem DK : ∀ l : List Bs,Lib.join l [32] = aW l
 | []=>rfl
 | [x]=>by simp [Lib.join,aW]
 | x :: y :: r=>by
  have:=DK (y :: r)
  simp [Lib.join,aW] at this ⊢
  exact this
theorem join_own {w : World} {l : List Bs} {v : Value} {B : Nat} (h : aI B w l v) (hne : l ≠ []) (h1 : l.length ≤ 1000000) (h2 : (aW l).length ≤ 1000000) :
  Calls Tryz.prog 37 #[v,.string ⟨#[32]⟩] w (Rt (str (aW l)) w):=by
 obtain ⟨a,n,c,rfl⟩:=h.strsAt.slice
 have hl:=h.strsAt.len
 obtain ⟨b,off,rfl,hc⟩:=h.strsAt.get hne
 have e : (l.map (fun x : Bs=>(⟨x.toArray⟩ : ByteArray))).map (·.data.toList) = l:=by simp [List.map_map,Function.comp_def]
 have hx:=Tryz.strings_Join b off c (l.map (fun x : Bs=>(⟨x.toArray⟩ : ByteArray))) ⟨#[32]⟩ w
  (fun j x hj=>by
   rw [List.getElem?_map] at hj
   obtain ⟨y,hy,rfl⟩:=Option.map_eq_some_iff.1 hj
   exact hc j y hy)
  (by
   obtain ⟨x,hx⟩:=List.exists_mem_of_ne_nil l hne
   obtain ⟨j,hj⟩:=List.getElem?_of_mem hx
   exact World.block_lt_of_cell? w _ (hc j x hj))
  (by simp;omega) (by simp;have:=hl.1;omega) (by rw [e];show (Lib.join l [32]).length ≤ _;rw [DK];omega)
 rw [e,List.length_map,← hl.1] at hx
 refine hx.mono ?_
 rintro e w' ⟨rfl,h⟩
 refine ⟨?_,h⟩
 show Ending.returned (.string ⟨(Lib.join l [32]).toArray⟩) = _
 rw [DK]
set_option maxHeartbeats 800000 in
theorem uO (f : Fm) (hok : f.ok = true) (hlen : f.words.length ≤ 1000000 ∧ f.text.length ≤ 1000000) (a : Option Addr) (k c : Nat) (a' : Option Addr) (m d : Nat) (w : World) (ht : bI w f.args (.slice a k c)) (hf : cD w f.sub (.slice a' m d)) :
  Calls Tryz.prog 86 #[.agg #[.int .u8 f.op,str f.name,.slice a k c,.slice a' m d]] w (Rt (str f.text) w):=by
 have HT:=Hd ht
 have HF:=Hd hf
 have HL:=Hd hlen
 have HO:=Hd hok
 clear ht hf hlen hok
 go_enter Tryz.func86,Tryz.ntmps86
 go_wp2_with fail
 refine (KO f HO.out _ _ _ _ _ _ _ (HT.out.keep (bH _ _)) (HF.out.keep (bH _ _)) HL.out.1).mono ?_
 rintro e w1 ⟨v,rfl,h1,h2⟩
 have O1:=Hd h1
 have B1:=Hd h2
 clear h1 h2
 go_wp2_with fail
 refine (join_own O1.out (Fm.words_ne f) HL.out.1 HL.out.2).mono ?_
 rintro e w2 ⟨rfl,h2⟩
 have B2:=Hd (aB (bB B1.out) h2)
 clear h2
 go_wp2_with fail
 go_ret
 exact ⟨rfl,B2.out⟩
open Go Go.RowKit Ly
set_option maxHeartbeats 800000 in
theorem wM (f : Fm) (h : f.right = true) (x : Value) (w : World) (hr : dV w) (hx : bV w f x) : Calls Tryz.prog 21 #[x] w (Rt (.tuple #[str f.text,.int .i64 0]) w):=by
 obtain ⟨a,k,c,a',m,d,rfl,h1,h2⟩:=hx
 have HT:=Hd h1
 have HF:=Hd h2
 have HR:=Hd hr
 have HG:=Hd h
 have HO : Hid (f.ok = true):=by
  simp only [Fm.right,Bool.and_eq_true,decide_eq_true_eq] at h
  exact h.1.1
 have HL : Hid (f.words.length ≤ 1000000 ∧ f.text.length ≤ 1000000):=by have:=gZ h;exact ⟨by omega,by omega⟩
 clear h h1 h2 hr
 go_enter Tryz.func21,Tryz.ntmps21
 go_wp2_with fail
 refine (gU f (.agg #[.int .u8 f.op,str f.name,.slice a k c,.slice a' m d]) _ (HR.out.keep (bH _ _)) ⟨_,_,_,_,_,_,rfl,HT.out.keep (bH _ _),HF.out.keep (bH _ _)⟩ HG.out).mono ?_
 rintro e w1 ⟨rfl,b1⟩
 obtain ⟨hc1,hf1⟩:=eP b1
 have B1:=Hd b1
 have K1 : Hid (aR w w1):=aA (bB b1)
 go_wp2_with fail
 refine (uO f HO.out HL.out _ _ _ _ _ _ _ (HT.out.keep K1.out) (HF.out.keep K1.out)).mono ?_
 rintro e w2 ⟨rfl,b2⟩
 have R:=Hd (aB (bB B1.out) b2)
 go_wp2_with fail
 exact bodyPost_ret (v:=.tuple #[str f.text,.int .i64 0]) (by simp [results,Tryz.results21,go_sem]) rfl ⟨rfl,R.out⟩
open Go Go.RowKit Ly
theorem wX {α : Type} [BEq α] [LawfulBEq α] {l m : List α} {j : Nat} {T U : α} (h : l[j]? = some T) (h' : m[j]? = some U) : (l.drop j == m.drop j) = ((T == U) && (l.drop (j+1) == m.drop (j+1))):=by
 obtain ⟨h1,rfl⟩:=List.getElem?_eq_some_iff.1 h
 obtain ⟨h2,rfl⟩:=List.getElem?_eq_some_iff.1 h'
 rw [List.drop_eq_getElem_cons h1,List.drop_eq_getElem_cons h2,List.cons_beq_cons]
theorem tmsSame_drop {l m : List Tm} {j : Nat} {T U : Tm} (h : l[j]? = some T) (h' : m[j]? = some U) : eN (l.drop j) (m.drop j) = (T.same U && eN (l.drop (j+1)) (m.drop (j+1))):=by
 obtain ⟨h1,rfl⟩:=List.getElem?_eq_some_iff.1 h
 obtain ⟨h2,rfl⟩:=List.getElem?_eq_some_iff.1 h'
 rw [List.drop_eq_getElem_cons h1,List.drop_eq_getElem_cons h2,eN]
theorem fmsSame_drop {l m : List Fm} {j : Nat} {T U : Fm} (h : l[j]? = some T) (h' : m[j]? = some U) : fB (l.drop j) (m.drop j) = (T.same U && fB (l.drop (j+1)) (m.drop (j+1))):=by
 obtain ⟨h1,rfl⟩:=List.getElem?_eq_some_iff.1 h
 obtain ⟨h2,rfl⟩:=List.getElem?_eq_some_iff.1 h'
 rw [List.drop_eq_getElem_cons h1,List.drop_eq_getElem_cons h2,fB]
theorem pfsSame_drop {l m : List Pf} {j : Nat} {T U : Pf} (h : l[j]? = some T) (h' : m[j]? = some U) : fF (l.drop j) (m.drop j) = (T.same U && fF (l.drop (j+1)) (m.drop (j+1))):=by
 obtain ⟨h1,rfl⟩:=List.getElem?_eq_some_iff.1 h
 obtain ⟨h2,rfl⟩:=List.getElem?_eq_some_iff.1 h'
 rw [List.drop_eq_getElem_cons h1,List.drop_eq_getElem_cons h2,fF]
theorem DE {α : Type} [BEq α] [LawfulBEq α] {l m : List α} (h : l.length ≠ m.length) : (l == m) = false:=by
 rw [beq_eq_false_iff_ne];intro e;exact h (by rw [e])
def qJ {α : Type} (f : FuncId) (A : World → List α → Value → Prop) (s : List α → List α → Bool) (l : List α) : Prop :=
 ∀ (m : List α) (a a' : Option Addr) (k c k' c' : Nat) (w : World),A w l (.slice a k c) → A w m (.slice a' k' c') →
  Calls Tryz.prog f #[.slice a k c,.slice a' k' c'] w (Rt (.bool (s l m)) w)
def oA {α : Type} (f : FuncId) (A : World → α → Value → Prop) (s : α → α → Bool) (t : α) : Prop :=
 ∀ (u : α) (x y : Value) (w : World),A w t x → A w u y → Calls Tryz.prog f #[x,y] w (Rt (.bool (s t u)) w)
set_option maxHeartbeats 800000 in
theorem qK (l : List Int) : qJ 152 dZ (· == ·) l:=by
 intro m a a' k c k' c' w ha hb
 have hla:=ha.len
 have hlb:=hb.len
 by_cases hkk : k = k'
 ·subst hkk
  have hlen : k ≤ 9223372036854775807:=by have:=le63 hla.2.2;omega
  have L1:=Hd hla.1;have L2:=Hd hlb.1
  clear hla hlb
  have HA:=Hd ha;clear ha
  have HB:=Hd hb;clear hb
  go_enter Tryz.func152,Tryz.ntmps152
  go_wp2_with fail
  go_loopw [5] (fun i wr=>∃ j : Nat,j ≤ k ∧ i = .int .i64 j ∧ Below w.heap.size w wr ∧ Hid ((· == ·) l m = (· == ·) (l.drop j) (m.drop j))) (fun i _=>k - (intOf i).toNat)
  case atStart=>exact ⟨0,Nat.zero_le _,rfl,Below.refl _ _,rfl⟩
  case round =>
   obtain ⟨j,hj,rfl,hbl,hs⟩:=hrel
   by_cases hlt : j < k
   ·obtain ⟨T,hT⟩:=aF (l:=l) (j:=j) (by rw [← L1.out];exact hlt)
    obtain ⟨U,hU⟩:=aF (l:=m) (j:=j) (by rw [← L2.out];exact hlt)
    obtain ⟨b,off,rfl,hc⟩:=HA.out.get (aJ hT)
    obtain ⟨b',off',rfl,hc'⟩:=HB.out.get (aJ hU)
    have hK:=aA hbl
    have hbd:=aA hbl.drew
    have S:=Hd (wX hT hU)
    have c0:=hK _ _ (hc j _ hT)
    have d0:=hK _ _ (hc' j _ hU)
    clear hc hc' hT hU hK hbd
    by_cases hTU : T = U
    ·subst hTU
     go_wp2_with fail
     go_region_with (fail)
     all_goals
      go_wp2_with fail
      go_roundw
      case rel=>exact ⟨j + 1,by omega,by go_num,hbl.drew,by have q:=hs.out.trans S.out;simp only [beq_self_eq_true,Bool.true_and] at q;exact q⟩
      case measure=>simp [intOf];omega
    ·have t1 : (T == U) = false:=by simpa using hTU
     have t2 : (T != U) = true:=by simpa using hTU
     go_wp2_with fail
     go_region_with (fail)
     all_goals
      go_wp2_with fail
      go_ret
      exact ⟨by rw [hs.out,S.out,t1];rfl,hbl.drew⟩
   ·go_wp2_with fail
    go_ret
    exact ⟨by rw [hs.out,List.drop_of_length_le (by rw [← L1.out];omega),List.drop_of_length_le (by rw [← L2.out];omega)];rfl,hbl⟩
 ·have hne : l.length ≠ m.length:=by rw [← hla.1,← hlb.1];exact hkk
  have S:=Hd (DE hne)
  have t1 : ((k : Int) == (k' : Int)) = false:=beq_eq_false_iff_ne.2 (by omega)
  have t2 : ((k : Int) != (k' : Int)) = true:=by rw [bne_iff_ne];omega
  clear hla hlb ha hb hne
  go_enter Tryz.func152,Tryz.ntmps152
  go_wp2_with fail
  go_ret
  exact ⟨by rw [S.out];rfl,Below.refl _ _⟩
set_option maxHeartbeats 800000 in
theorem iR (l : List Bs) : qJ 19 aU (· == ·) l:=by
 intro m a a' k c k' c' w ha hb
 have hla:=ha.len
 have hlb:=hb.len
 by_cases hkk : k = k'
 ·subst hkk
  have hlen : k ≤ 9223372036854775807:=by have:=le63 hla.2.2;omega
  have L1:=Hd hla.1;have L2:=Hd hlb.1
  clear hla hlb
  have HA:=Hd ha;clear ha
  have HB:=Hd hb;clear hb
  go_enter Tryz.func19,Tryz.ntmps19
  go_wp2_with fail
  go_loopw [5] (fun i wr=>∃ j : Nat,j ≤ k ∧ i = .int .i64 j ∧ Below w.heap.size w wr ∧ Hid ((· == ·) l m = (· == ·) (l.drop j) (m.drop j))) (fun i _=>k - (intOf i).toNat)
  case atStart=>exact ⟨0,Nat.zero_le _,rfl,Below.refl _ _,rfl⟩
  case round =>
   obtain ⟨j,hj,rfl,hbl,hs⟩:=hrel
   by_cases hlt : j < k
   ·obtain ⟨T,hT⟩:=aF (l:=l) (j:=j) (by rw [← L1.out];exact hlt)
    obtain ⟨U,hU⟩:=aF (l:=m) (j:=j) (by rw [← L2.out];exact hlt)
    obtain ⟨b,off,rfl,hc⟩:=HA.out.get (aJ hT)
    obtain ⟨b',off',rfl,hc'⟩:=HB.out.get (aJ hU)
    have hK:=aA hbl
    have hbd:=aA hbl.drew
    have S:=Hd (wX hT hU)
    have c0:=hK _ _ (hc j _ hT)
    have d0:=hK _ _ (hc' j _ hU)
    clear hc hc' hT hU hK hbd
    by_cases hTU : T = U
    ·subst hTU
     go_wp2_with fail
     go_region_with (fail)
     all_goals
      go_wp2_with fail
      go_roundw
      case rel=>exact ⟨j + 1,by omega,by go_num,hbl.drew,by have q:=hs.out.trans S.out;simp only [beq_self_eq_true,Bool.true_and] at q;exact q⟩
      case measure=>simp [intOf];omega
    ·have t1 : (T == U) = false:=by simpa using hTU
     have t2 : (T != U) = true:=by simpa using hTU
     go_wp2_with fail
     go_region_with (fail)
     all_goals
      go_wp2_with fail
      go_ret
      exact ⟨by rw [hs.out,S.out,t1];rfl,hbl.drew⟩
   ·go_wp2_with fail
    go_ret
    exact ⟨by rw [hs.out,List.drop_of_length_le (by rw [← L1.out];omega),List.drop_of_length_le (by rw [← L2.out];omega)];rfl,hbl⟩
 ·have hne : l.length ≠ m.length:=by rw [← hla.1,← hlb.1];exact hkk
  have S:=Hd (DE hne)
  have t1 : ((k : Int) == (k' : Int)) = false:=beq_eq_false_iff_ne.2 (by omega)
  have t2 : ((k : Int) != (k' : Int)) = true:=by rw [bne_iff_ne];omega
  clear hla hlb ha hb hne
  go_enter Tryz.func19,Tryz.ntmps19
  go_wp2_with fail
  go_ret
  exact ⟨by rw [S.out];rfl,Below.refl _ _⟩
set_option maxHeartbeats 800000 in
theorem SameMarks_step (l : List (List Int)) : qJ 92 eB (· == ·) l:=by
 intro m a a' k c k' c' w ha hb
 have hla:=ha.len
 have hlb:=hb.len
 by_cases hkk : k = k'
 ·subst hkk
  have hlen : k ≤ 9223372036854775807:=by have:=le63 hla.2.2;omega
  have L1:=Hd hla.1;have L2:=Hd hlb.1
  clear hla hlb
  have HA:=Hd ha;clear ha
  have HB:=Hd hb;clear hb
  go_enter Tryz.func92,Tryz.ntmps92
  go_wp2_with fail
  go_loopw [5] (fun i wr=>∃ j : Nat,j ≤ k ∧ i = .int .i64 j ∧ Below w.heap.size w wr ∧ Hid ((· == ·) l m = (· == ·) (l.drop j) (m.drop j))) (fun i _=>k - (intOf i).toNat)
  case atStart=>exact ⟨0,Nat.zero_le _,rfl,Below.refl _ _,rfl⟩
  case round =>
   obtain ⟨j,hj,rfl,hbl,hs⟩:=hrel
   by_cases hlt : j < k
   ·obtain ⟨T,hT⟩:=aF (l:=l) (j:=j) (by rw [← L1.out];exact hlt)
    obtain ⟨U,hU⟩:=aF (l:=m) (j:=j) (by rw [← L2.out];exact hlt)
    obtain ⟨b,off,rfl,hc⟩:=HA.out.get (aJ hT)
    obtain ⟨b',off',rfl,hc'⟩:=HB.out.get (aJ hU)
    have hK:=aA hbl
    have hbd:=aA hbl.drew
    have S:=Hd (wX hT hU)
    obtain ⟨x0,x1,x2,hx⟩:=hc j _ hT
    obtain ⟨y0,y1,y2,hy⟩:=hc' j _ hU
    have c0:=hK _ _ hx.1
    have d0:=hK _ _ hy.1
    have X:=Hd hx;have Y:=Hd hy
    have HM:=Hd (List.mem_of_getElem? hT)
    clear hc hc' hx hy hT hU hK
    generalize hb : (T == U) = B at S
    have HBB:=Hd hb
    clear hb
    go_wp2_with fail
    go_region_with (go_at_call 152;refine (qK T U _ _ _ _ _ _ _ (by exact X.out.2.keep hbd) (by exact Y.out.2.keep hbd)).mono ?_;rintro e w1 ⟨he,hb1⟩;obtain rfl : e = .returned (.bool B):=by rw [he,← HBB.out])
    all_goals
     cases B
     ·go_wp2_with fail
      go_ret
      exact ⟨by rw [hs.out,S.out];rfl,(hbl.drew).trans (hb1.mono (by have:=hbl.size;simpa using this))⟩
     ·go_wp2_with fail
      go_roundw
      case rel=>exact ⟨j + 1,by omega,by go_num,(hbl.drew).trans (hb1.mono (by have:=hbl.size;simpa using this)),by have q:=hs.out.trans S.out;simp only [Bool.true_and] at q;exact q⟩
      case measure=>simp [intOf];omega
   ·go_wp2_with fail
    go_ret
    exact ⟨by rw [hs.out,List.drop_of_length_le (by rw [← L1.out];omega),List.drop_of_length_le (by rw [← L2.out];omega)];rfl,hbl⟩
 ·have hne : l.length ≠ m.length:=by rw [← hla.1,← hlb.1];exact hkk
  have S:=Hd (DE hne)
  have t1 : ((k : Int) == (k' : Int)) = false:=beq_eq_false_iff_ne.2 (by omega)
  have t2 : ((k : Int) != (k' : Int)) = true:=by rw [bne_iff_ne];omega
  clear hla hlb ha hb hne
  go_enter Tryz.func92,Tryz.ntmps92
  go_wp2_with fail
  go_ret
  exact ⟨by rw [S.out];rfl,Below.refl _ _⟩
set_option maxHeartbeats 800000 in
theorem oD (l : List Tm) (hh : ∀ t ∈ l,oA 200 iS Tm.same t) : qJ 118 bI eN l:=by
 intro m a a' k c k' c' w ha hb
 have hla:=ha.len
 have hlb:=hb.len
 by_cases hkk : k = k'
 ·subst hkk
  have hlen : k ≤ 9223372036854775807:=by have:=le63 hla.2.2;omega
  have L1:=Hd hla.1;have L2:=Hd hlb.1
  clear hla hlb
  have H:=Hd hh;clear hh
  have HA:=Hd ha;clear ha
  have HB:=Hd hb;clear hb
  go_enter Tryz.func118,Tryz.ntmps118
  go_wp2_with fail
  go_loopw [5] (fun i wr=>∃ j : Nat,j ≤ k ∧ i = .int .i64 j ∧ Below w.heap.size w wr ∧ Hid (eN l m = eN (l.drop j) (m.drop j))) (fun i _=>k - (intOf i).toNat)
  case atStart=>exact ⟨0,Nat.zero_le _,rfl,Below.refl _ _,rfl⟩
  case round =>
   obtain ⟨j,hj,rfl,hbl,hs⟩:=hrel
   by_cases hlt : j < k
   ·obtain ⟨T,hT⟩:=aF (l:=l) (j:=j) (by rw [← L1.out];exact hlt)
    obtain ⟨U,hU⟩:=aF (l:=m) (j:=j) (by rw [← L2.out];exact hlt)
    obtain ⟨b,off,rfl,hc⟩:=HA.out.get (aJ hT)
    obtain ⟨b',off',rfl,hc'⟩:=HB.out.get (aJ hU)
    have hK:=aA hbl
    have hbd:=aA hbl.drew
    have S:=Hd (tmsSame_drop hT hU)
    obtain ⟨x0,x1,x2,hx⟩:=hc j _ hT
    obtain ⟨y0,y1,y2,hy⟩:=hc' j _ hU
    have c0:=hK _ _ hx.c0
    have c1:=hK _ _ hx.c1
    have c2:=hK _ _ hx.c2
    have d0:=hK _ _ hy.c0
    have d1:=hK _ _ hy.c1
    have d2:=hK _ _ hy.c2
    have X:=Hd hx;have Y:=Hd hy
    have HM:=Hd (List.mem_of_getElem? hT)
    clear hc hc' hx hy hT hU hK
    generalize hb : T.same U = B at S
    have HBB:=Hd hb
    clear hb
    go_wp2_with fail
    go_region_with (go_at_call 200;refine (H.out T HM.out U _ _ _ (by exact ⟨_,_,_,rfl,X.out.at_.keep hbd⟩) (by exact ⟨_,_,_,rfl,Y.out.at_.keep hbd⟩)).mono ?_;rintro e w1 ⟨he,hb1⟩;obtain rfl : e = .returned (.bool B):=by rw [he,← HBB.out])
    all_goals
     cases B
     ·go_wp2_with fail
      go_ret
      exact ⟨by rw [hs.out,S.out];rfl,(hbl.drew).trans (hb1.mono (by have:=hbl.size;simpa using this))⟩
     ·go_wp2_with fail
      go_roundw
      case rel=>exact ⟨j + 1,by omega,by go_num,(hbl.drew).trans (hb1.mono (by have:=hbl.size;simpa using this)),by have q:=hs.out.trans S.out;simp only [Bool.true_and] at q;exact q⟩
      case measure=>simp [intOf];omega
   ·go_wp2_with fail
    go_ret
    exact ⟨by rw [hs.out,List.drop_of_length_le (by rw [← L1.out];omega),List.drop_of_length_le (by rw [← L2.out];omega)];rfl,hbl⟩
 ·have hne : l.length ≠ m.length:=by rw [← hla.1,← hlb.1];exact hkk
  have S:=Hd (tmsSame_len hne)
  have t1 : ((k : Int) == (k' : Int)) = false:=beq_eq_false_iff_ne.2 (by omega)
  have t2 : ((k : Int) != (k' : Int)) = true:=by rw [bne_iff_ne];omega
  clear hla hlb ha hb hne
  go_enter Tryz.func118,Tryz.ntmps118
  go_wp2_with fail
  go_ret
  exact ⟨by rw [S.out];rfl,Below.refl _ _⟩
set_option maxHeartbeats 800000 in
theorem SameForms_step (l : List Fm) (hh : ∀ t ∈ l,oA 44 bV Fm.same t) : qJ 90 cD fB l:=by
 intro m a a' k c k' c' w ha hb
 have hla:=ha.len
 have hlb:=hb.len
 by_cases hkk : k = k'
 ·subst hkk
  have hlen : k ≤ 9223372036854775807:=by have:=le63 hla.2.2;omega
  have L1:=Hd hla.1;have L2:=Hd hlb.1
  clear hla hlb
  have H:=Hd hh;clear hh
  have HA:=Hd ha;clear ha
  have HB:=Hd hb;clear hb
  go_enter Tryz.func90,Tryz.ntmps90
  go_wp2_with fail
  go_loopw [5] (fun i wr=>∃ j : Nat,j ≤ k ∧ i = .int .i64 j ∧ Below w.heap.size w wr ∧ Hid (fB l m = fB (l.drop j) (m.drop j))) (fun i _=>k - (intOf i).toNat)
  case atStart=>exact ⟨0,Nat.zero_le _,rfl,Below.refl _ _,rfl⟩
  case round =>
   obtain ⟨j,hj,rfl,hbl,hs⟩:=hrel
   by_cases hlt : j < k
   ·obtain ⟨T,hT⟩:=aF (l:=l) (j:=j) (by rw [← L1.out];exact hlt)
    obtain ⟨U,hU⟩:=aF (l:=m) (j:=j) (by rw [← L2.out];exact hlt)
    obtain ⟨b,off,rfl,hc⟩:=HA.out.get (aJ hT)
    obtain ⟨b',off',rfl,hc'⟩:=HB.out.get (aJ hU)
    have hK:=aA hbl
    have hbd:=aA hbl.drew
    have S:=Hd (fmsSame_drop hT hU)
    obtain ⟨x0,x1,x2,x3,x4,x5,hx⟩:=hc j _ hT
    obtain ⟨y0,y1,y2,y3,y4,y5,hy⟩:=hc' j _ hU
    have c0:=hK _ _ hx.c0
    have c1:=hK _ _ hx.c1
    have c2:=hK _ _ hx.c2
    have c3:=hK _ _ hx.c3
    have d0:=hK _ _ hy.c0
    have d1:=hK _ _ hy.c1
    have d2:=hK _ _ hy.c2
    have d3:=hK _ _ hy.c3
    have X:=Hd hx;have Y:=Hd hy
    have HM:=Hd (List.mem_of_getElem? hT)
    clear hc hc' hx hy hT hU hK
    generalize hb : T.same U = B at S
    have HBB:=Hd hb
    clear hb
    go_wp2_with fail
    go_region_with (go_at_call 44;refine (H.out T HM.out U _ _ _ (by exact ⟨_,_,_,_,_,_,rfl,X.out.at_.keep hbd,X.out.at'.keep hbd⟩) (by exact ⟨_,_,_,_,_,_,rfl,Y.out.at_.keep hbd,Y.out.at'.keep hbd⟩)).mono ?_;rintro e w1 ⟨he,hb1⟩;obtain rfl : e = .returned (.bool B):=by rw [he,← HBB.out])
    all_goals
     cases B
     ·go_wp2_with fail
      go_ret
      exact ⟨by rw [hs.out,S.out];rfl,(hbl.drew).trans (hb1.mono (by have:=hbl.size;simpa using this))⟩
     ·go_wp2_with fail
      go_roundw
      case rel=>exact ⟨j + 1,by omega,by go_num,(hbl.drew).trans (hb1.mono (by have:=hbl.size;simpa using this)),by have q:=hs.out.trans S.out;simp only [Bool.true_and] at q;exact q⟩
      case measure=>simp [intOf];omega
   ·go_wp2_with fail
    go_ret
    exact ⟨by rw [hs.out,List.drop_of_length_le (by rw [← L1.out];omega),List.drop_of_length_le (by rw [← L2.out];omega)];rfl,hbl⟩
 ·have hne : l.length ≠ m.length:=by rw [← hla.1,← hlb.1];exact hkk
  have S:=Hd (fmsSame_len hne)
  have t1 : ((k : Int) == (k' : Int)) = false:=beq_eq_false_iff_ne.2 (by omega)
  have t2 : ((k : Int) != (k' : Int)) = true:=by rw [bne_iff_ne];omega
  clear hla hlb ha hb hne
  go_enter Tryz.func90,Tryz.ntmps90
  go_wp2_with fail
  go_ret
  exact ⟨by rw [S.out];rfl,Below.refl _ _⟩
set_option maxHeartbeats 800000 in
theorem SameProofs_step (l : List Pf) (hh : ∀ t ∈ l,oA 27 cU Pf.same t) : qJ 91 gD fF l:=by
 intro m a a' k c k' c' w ha hb
 have hla:=ha.len
 have hlb:=hb.len
 by_cases hkk : k = k'
 ·subst hkk
  have hlen : k ≤ 9223372036854775807:=by have:=le63 hla.2.2;omega
  have L1:=Hd hla.1;have L2:=Hd hlb.1
  clear hla hlb
  have H:=Hd hh;clear hh
  have HA:=Hd ha;clear ha
  have HB:=Hd hb;clear hb
  go_enter Tryz.func91,Tryz.ntmps91
  go_wp2_with fail
  go_loopw [5] (fun i wr=>∃ j : Nat,j ≤ k ∧ i = .int .i64 j ∧ Below w.heap.size w wr ∧ Hid (fF l m = fF (l.drop j) (m.drop j))) (fun i _=>k - (intOf i).toNat)
  case atStart=>exact ⟨0,Nat.zero_le _,rfl,Below.refl _ _,rfl⟩
  case round =>
   obtain ⟨j,hj,rfl,hbl,hs⟩:=hrel
   by_cases hlt : j < k
   ·obtain ⟨T,hT⟩:=aF (l:=l) (j:=j) (by rw [← L1.out];exact hlt)
    obtain ⟨U,hU⟩:=aF (l:=m) (j:=j) (by rw [← L2.out];exact hlt)
    obtain ⟨b,off,rfl,hc⟩:=HA.out.get (aJ hT)
    obtain ⟨b',off',rfl,hc'⟩:=HB.out.get (aJ hU)
    have hK:=aA hbl
    have hbd:=aA hbl.drew
    have S:=Hd (pfsSame_drop hT hU)
    obtain ⟨x0,x1,x2,x3,x4,x5,x6,x7,x8,x9,x10,x11,hx⟩:=hc j _ hT
    obtain ⟨y0,y1,y2,y3,y4,y5,y6,y7,y8,y9,y10,y11,hy⟩:=hc' j _ hU
    have c0:=hK _ _ hx.c0
    have c1:=hK _ _ hx.c1
    have c2:=hK _ _ hx.c2
    have c3:=hK _ _ hx.c3
    have c4:=hK _ _ hx.c4
    have c5:=hK _ _ hx.c5
    have c6:=hK _ _ hx.c6
    have c7:=hK _ _ hx.c7
    have d0:=hK _ _ hy.c0
    have d1:=hK _ _ hy.c1
    have d2:=hK _ _ hy.c2
    have d3:=hK _ _ hy.c3
    have d4:=hK _ _ hy.c4
    have d5:=hK _ _ hy.c5
    have d6:=hK _ _ hy.c6
    have d7:=hK _ _ hy.c7
    have X:=Hd hx;have Y:=Hd hy
    have HM:=Hd (List.mem_of_getElem? hT)
    clear hc hc' hx hy hT hU hK
    generalize hb : T.same U = B at S
    have HBB:=Hd hb
    clear hb
    go_wp2_with fail
    go_region_with (go_at_call 27;refine (H.out T HM.out U _ _ _ (by exact ⟨_,_,_,_,_,_,_,_,_,_,_,_,rfl,X.out.args.keep hbd,X.out.parts.keep hbd,X.out.sub.keep hbd,X.out.marks.keep hbd⟩) (by exact ⟨_,_,_,_,_,_,_,_,_,_,_,_,rfl,Y.out.args.keep hbd,Y.out.parts.keep hbd,Y.out.sub.keep hbd,Y.out.marks.keep hbd⟩)).mono ?_;rintro e w1 ⟨he,hb1⟩;obtain rfl : e = .returned (.bool B):=by rw [he,← HBB.out])
    all_goals
     cases B
     ·go_wp2_with fail
      go_ret
      exact ⟨by rw [hs.out,S.out];rfl,(hbl.drew).trans (hb1.mono (by have:=hbl.size;simpa using this))⟩
     ·go_wp2_with fail
      go_roundw
      case rel=>exact ⟨j + 1,by omega,by go_num,(hbl.drew).trans (hb1.mono (by have:=hbl.size;simpa using this)),by have q:=hs.out.trans S.out;simp only [Bool.true_and] at q;exact q⟩
      case measure=>simp [intOf];omega
   ·go_wp2_with fail
    go_ret
    exact ⟨by rw [hs.out,List.drop_of_length_le (by rw [← L1.out];omega),List.drop_of_length_le (by rw [← L2.out];omega)];rfl,hbl⟩
 ·have hne : l.length ≠ m.length:=by rw [← hla.1,← hlb.1];exact hkk
  have S:=Hd (pfsSame_len hne)
  have t1 : ((k : Int) == (k' : Int)) = false:=beq_eq_false_iff_ne.2 (by omega)
  have t2 : ((k : Int) != (k' : Int)) = true:=by rw [bne_iff_ne];omega
  clear hla hlb ha hb hne
  go_enter Tryz.func91,Tryz.ntmps91
  go_wp2_with fail
  go_ret
  exact ⟨by rw [S.out];rfl,Below.refl _ _⟩
set_option maxHeartbeats 800000 in
theorem SameTerm_step (v : Bool) (nm : Bs) (ts : List Tm) (h : qJ 118 bI eN ts) : oA 200 iS Tm.same (.mk v nm ts):=by
 intro u x y w hx hy
 obtain ⟨v',nm',us⟩:=u
 obtain ⟨a,n,c,rfl,hx⟩:=hx
 obtain ⟨a',n',c',rfl,hy⟩:=hy
 simp only [Tm.v,Tm.name,Tm.args] at *
 have H:=Hd h;clear h
 have X:=Hd hx;have Y:=Hd hy
 clear hx hy
 go_enter Tryz.func200,Tryz.ntmps200
 go_wp2_with (go_at_call 118;refine (H.out us _ _ _ _ _ _ _ (X.out.keep (by exact aA (bnew.alloc (by simp) _))) (Y.out.keep (by exact aA (bnew.alloc (by simp) _)))).mono ?_;rintro e w1 ⟨rfl,hb1⟩)
 all_goals go_ret
 ·exact ⟨by simp [Tm.same, *],iT hb1⟩
 ·exact ⟨by simp [Tm.same, *],bnew.alloc (by simp) _⟩
 ·exact ⟨by simp [Tm.same, *],bnew.alloc (by simp) _⟩
mutual
theorem rE : ∀ t : Tm,oA 200 iS Tm.same t
 | .mk v n ts=>SameTerm_step v n ts (oD ts (nE ts))
theorem nE : ∀ l : List Tm,∀ t ∈ l,oA 200 iS Tm.same t
 | [],_,h=>by cases h
 | x :: xs,t,h=>by
  rcases List.mem_cons.1 h with e | e
  ·rw [e];exact rE x
  ·exact nE xs t e
end
theorem SameTerms_c (l : List Tm) : qJ 118 bI eN l:=oD l (nE l)
open Go Go.RowKit Ly
set_option maxHeartbeats 800000 in
theorem SameForm_step (o : Int) (nm : Bs) (ts : List Tm) (fs : List Fm) (h : qJ 90 cD fB fs) : oA 44 bV Fm.same (.mk o nm ts fs):=by
 intro u x y w hx hy
 obtain ⟨o',nm',us,gs⟩:=u
 obtain ⟨a,n,c,b,m,d,rfl,hx,hx2⟩:=hx
 obtain ⟨a',n',c',b',m',d',rfl,hy,hy2⟩:=hy
 simp only [Fm.op,Fm.name,Fm.args,Fm.sub] at *
 have H:=Hd h;clear h
 have X:=Hd hx;have Y:=Hd hy
 have X2:=Hd hx2;have Y2:=Hd hy2
 clear hx hy hx2 hy2
 have es : Hid (Fm.same (.mk o nm ts fs) (.mk o' nm' us gs) = ((o == o') && (nm == nm') && eN ts us && fB fs gs)):=rfl
 generalize hF : eN ts us = F at es
 have HF:=Hd hF;clear hF
 generalize hP : fB fs gs = P at es
 have HP:=Hd hP;clear hP
 have fin : ∀ e w',(e = .returned (.bool ((o == o') && (nm == nm') && F && P)) ∧ Below w.heap.size w w') → (e = Ending.returned (.bool (Fm.same (.mk o nm ts fs) (.mk o' nm' us gs))) ∧ Below w.heap.size w w'):=fun e w' h=>⟨by rw [h.1,← es.out],h.2⟩
 refine Calls.mono ?_ fin
 clear fin es
 cases F <;> cases P
 all_goals
  go_enter Tryz.func44,Tryz.ntmps44
  go_wp2_with (first
   | (go_at_call 118;refine (SameTerms_c ts us _ _ _ _ _ _ _ (X.out.keep (by exact aA (bnew.alloc (by simp) _))) (Y.out.keep (by exact aA (bnew.alloc (by simp) _)))).mono ?_;rintro e w1 ⟨he,hb1⟩;rw [HF.out] at he;subst he;obtain ⟨hc1,hf1⟩:=eP hb1)
   | (go_at_call 90;refine (H.out gs _ _ _ _ _ _ _ (X2.out.keep (by exact (aA (bnew.alloc (by simp) _)).trans (aA hb1))) (Y2.out.keep (by exact (aA (bnew.alloc (by simp) _)).trans (aA hb1)))).mono ?_;rintro e w2 ⟨he,hb2⟩;rw [HP.out] at he;subst he;obtain ⟨hc2,hf2⟩:=eP (aB hb1 hb2)))
  all_goals go_ret
  all_goals exact ⟨by simp [*],by
   first
   | exact iT (aB hb1 hb2)
   | exact iT hb1
   | exact bnew.alloc (by simp) _⟩
mutual
theorem nD : ∀ t : Fm,oA 44 bV Fm.same t
 | .mk o n ts fs=>SameForm_step o n ts fs (SameForms_step fs (rX fs))
theorem rX : ∀ l : List Fm,∀ t ∈ l,oA 44 bV Fm.same t
 | [],_,h=>by cases h
 | x :: xs,t,h=>by
  rcases List.mem_cons.1 h with e | e
  ·rw [e];exact nD x
  ·exact rX xs t e
end
set_option maxHeartbeats 1600000 in
theorem SameProof_step (r : Bs) (f : Fm) (lb : Int) (ps : List Pf) (ms : List (List Int)) (h : qJ 91 gD fF ps) : oA 27 cU Pf.same (.mk r f lb ps ms):=by
 intro u x y w hx hy
 obtain ⟨r',f',lb',qs,ns⟩:=u
 obtain ⟨a,n,c,b,m,d,s,sn,sc,q,qn,qc,rfl,hx,hx2,hx3,hx4⟩:=hx
 obtain ⟨a',n',c',b',m',d',s',sn',sc',q',qn',qc',rfl,hy,hy2,hy3,hy4⟩:=hy
 simp only [Pf.rule,Pf.form,Pf.label,Pf.sub,Pf.marks] at *
 have H:=Hd h;clear h
 have FX : Hid (bV w f (.agg #[.int .u8 f.op,str f.name,.slice a n c,.slice b m d])):=⟨_,_,_,_,_,_,rfl,hx,hx2⟩
 have FY : Hid (bV w f' (.agg #[.int .u8 f'.op,str f'.name,.slice a' n' c',.slice b' m' d'])):=⟨_,_,_,_,_,_,rfl,hy,hy2⟩
 have X3:=Hd hx3;have Y3:=Hd hy3
 have X4:=Hd hx4;have Y4:=Hd hy4
 clear hx hy hx2 hy2 hx3 hy3 hx4 hy4
 have es : Hid (Pf.same (.mk r f lb ps ms) (.mk r' f' lb' qs ns) = ((r == r') && f.same f' && (lb == lb') && fF ps qs && (ms == ns))):=rfl
 generalize hF : f.same f' = F at es
 have HF:=Hd hF;clear hF
 generalize hP : fF ps qs = P at es
 have HP:=Hd hP;clear hP
 generalize hM : (ms == ns) = M at es
 have HM:=Hd hM;clear hM
 have fin : ∀ e w',(e = .returned (.bool ((r == r') && F && (lb == lb') && P && M)) ∧ Below w.heap.size w w') → (e = Ending.returned (.bool (Pf.same (.mk r f lb ps ms) (.mk r' f' lb' qs ns))) ∧ Below w.heap.size w w'):=fun e w' h=>⟨by rw [h.1,← es.out],h.2⟩
 refine Calls.mono ?_ fin
 clear fin es
 cases F <;> cases P <;> cases M
 all_goals
  go_enter Tryz.func27,Tryz.ntmps27
  go_wp2_with (first
   | (go_at_call 44;refine (nD f f' _ _ _ (FX.out.keep (by exact aA (bnew.alloc (by simp) _))) (FY.out.keep (by exact aA (bnew.alloc (by simp) _)))).mono ?_;rintro e w1 ⟨he,hb1⟩;rw [HF.out] at he;subst he;obtain ⟨hc1,hf1⟩:=eP hb1)
   | (go_at_call 91;refine (H.out qs _ _ _ _ _ _ _ (X3.out.keep (by exact (aA (bnew.alloc (by simp) _)).trans (aA hb1))) (Y3.out.keep (by exact (aA (bnew.alloc (by simp) _)).trans (aA hb1)))).mono ?_;rintro e w2 ⟨he,hb2⟩;rw [HP.out] at he;subst he;obtain ⟨hc2,hf2⟩:=eP (aB hb1 hb2))
   | (go_at_call 92;refine (SameMarks_step ms ns _ _ _ _ _ _ _ (X4.out.keep (by exact ((aA (bnew.alloc (by simp) _)).trans (aA hb1)).trans (aA hb2))) (Y4.out.keep (by exact ((aA (bnew.alloc (by simp) _)).trans (aA hb1)).trans (aA hb2)))).mono ?_;rintro e w3 ⟨he,hb3⟩;have he':=he.trans (congrArg (fun b=>Ending.returned (.bool b)) HM.out);subst he'))
  all_goals go_ret
  all_goals exact ⟨by simp [*],by
   first
   | exact iT (aB (aB hb1 hb2) hb3)
   | exact iT (aB hb1 hb2)
   | exact iT hb1
   | exact bnew.alloc (by simp) _⟩
mutual
theorem lU : ∀ t : Pf,oA 27 cU Pf.same t
 | .mk r f l ps ms=>SameProof_step r f l ps ms (SameProofs_step ps (qL ps))
theorem qL : ∀ l : List Pf,∀ t ∈ l,oA 27 cU Pf.same t
 | [],_,h=>by cases h
 | x :: xs,t,h=>by
  rcases List.mem_cons.1 h with e | e
  ·rw [e];exact lU x
  ·exact qL xs t e
end
def SqVal (w : World) (l r : List Fm) (u : Value) : Prop:=∃ a n c b m d,u = .agg #[.slice a n c,.slice b m d] ∧ cD w l (.slice a n c) ∧ cD w r (.slice b m d)
end Go.Proofs.YtcandidgaegghaaGreatDoor
