/- Plain: what a right formula's names and free variables are worth. Nothing of the program is imported. -/
import Derived.Test.YtppfalbnhnpbnaaGreatDoorSkVC
import Derived.Test.YtppfalbnhnpbnaaGreatDoorKyAC
import Derived.Test.YtppfalbnhnpbnaaGreatDoorShIterC
set_option linter.unusedSimpArgs false
set_option linter.unusedVariables false
namespace Ly
open Go
theorem dE {first other : UInt8 → Bool} {s : Bs} (h : cG first other s = true) : s.length ≤ 16:=by
 cases s with
 | nil=>simp
 | cons c r=>simp [cG] at h;simp;exact h.1.1.1
mutual
theorem Tm.ok_vars : ∀ t : Tm,t.ok = true → ∀ s ∈ t.vars,s.length ≤ 16 ∧ bU s = true
 | .mk v n ts,h,s,hs=>by
  unfold Tm.ok at h
  cases v
  ·simp at h
   simp [Tm.vars] at hs
   exact mX ts h.2 s hs
  ·simp at h
   simp [Tm.vars,h.1,bP] at hs
   subst hs
   exact ⟨dE h.2,h.2⟩
theorem mX : ∀ ts : List Tm,cE ts = true → ∀ s ∈ bP ts,s.length ≤ 16 ∧ bU s = true
 | [],_,s,hs=>by simp [bP] at hs
 | t :: ts,h,s,hs=>by
  simp [cE] at h
  simp [bP] at hs
  rcases hs with hs | hs
  ·exact Tm.ok_vars t h.1 s hs
  ·exact mX ts h.2 s hs
end
theorem Fm.ok_name {op : Int} {n : Bs} {ts : List Tm} {fs : List Fm} (h : (Fm.mk op n ts fs).ok = true) : n.length ≤ 16 ∧ cE ts = true ∧ bW fs = true ∧ (quant op = true → bU n = true):=by
 simp only [Fm.ok,Bool.and_eq_true,decide_eq_true_eq] at h
 have h1:=h.1.1.2
 have key : (op = 1 ∧ cW n = true) ∨ (op ≠ 1 ∧ (op = 8 ∨ op = 9) ∧ bU n = true) ∨ (op ≠ 1 ∧ ¬ (op = 8 ∨ op = 9) ∧ n = []):=by
  by_cases o1 : op = 1
  ·rw [if_pos o1] at h1
   simp only [Bool.and_eq_true] at h1
   exact .inl ⟨o1,h1.1⟩
  ·rw [if_neg o1] at h1
   by_cases o8 : op = 8 ∨ op = 9
   ·rw [if_pos o8] at h1
    simp only [Bool.and_eq_true] at h1
    exact .inr (.inl ⟨o1,o8,h1.2⟩)
   ·rw [if_neg o8] at h1
    simp only [Bool.and_eq_true] at h1
    exact .inr (.inr ⟨o1,o8,by simpa using h1.2⟩)
 refine ⟨?_,h.1.2,h.2,fun hq=>?_⟩
 ·rcases key with ⟨_,k⟩ | ⟨_,_,k⟩ | ⟨_,_,k⟩
  ·exact dE k
  ·exact dE k
  ·subst k;simp
 ·have hq' : op = 8 ∨ op = 9:=of_decide_eq_true hq
  rcases key with ⟨k,_⟩ | ⟨_,_,k⟩ | ⟨_,k,_⟩
  ·omega
  ·exact k
  ·exact absurd hq' k
mutual
theorem Fm.okNames_of : ∀ f : Fm,f.ok = true → f.okNames = true
 | .mk op n ts fs,h=>by
  obtain ⟨h1,h2,h3,-⟩:=Fm.ok_name h
  simp only [Fm.okNames,Bool.and_eq_true,decide_eq_true_eq,List.all_eq_true]
  refine ⟨⟨?_,fun s hs=>?_⟩,mD fs h3⟩
  ·unfold maxLen;omega
  ·have:=(mX ts h2 s hs).1
   unfold maxLen;omega
theorem mD : ∀ fs : List Fm,bW fs = true → dU fs = true
 | [],_=>rfl
 | f :: fs,h=>by
  simp [bW] at h
  simp [dU,Fm.okNames_of f h.1,mD fs h.2]
end
mutual
theorem Tm.vars_len : ∀ t : Tm,t.vars.length ≤ t.nodes
 | .mk v n ts=>by have:=lO ts;cases v <;> simp [Tm.vars,Tm.nodes] <;> omega
theorem lO : ∀ ts : List Tm,(bP ts).length ≤ aF ts
 | []=>by simp [bP,aF]
 | t :: ts=>by have:=Tm.vars_len t;have:=lO ts;simp [bP,aF];omega
end
mutual
theorem Fm.free_len : ∀ (f : Fm) (b : List Bs),(f.free b).length ≤ f.nodes
 | .mk op n ts fs,b=>by
  have h1:=lO ts
  have h2:=pI fs (if quant op then n :: b else b)
  have h3:=List.length_filter_le (fun x=>decide (x ∉ b)) (bP ts)
  simp only [Fm.free,Fm.nodes,List.length_append]
  omega
theorem pI : ∀ (fs : List Fm) (b : List Bs),(bZ b fs).length ≤ aD fs
 | [],b=>by simp [bZ,aD]
 | f :: fs,b=>by have:=Fm.free_len f b;have:=pI fs b;simp [bZ,aD];omega
end
mutual
theorem Fm.free_ok : ∀ (f : Fm) (b : List Bs),f.okNames = true → ∀ s ∈ f.free b,s.length ≤ maxLen
 | .mk op n ts fs,b,h,s,hs=>by
  simp only [Fm.okNames,Bool.and_eq_true,decide_eq_true_eq,List.all_eq_true] at h
  simp only [Fm.free,List.mem_append,List.mem_filter] at hs
  rcases hs with hs | hs
  ·exact h.1.2 s hs.1
  ·exact qV fs _ h.2 s hs
theorem qV : ∀ (fs : List Fm) (b : List Bs),dU fs = true → ∀ s ∈ bZ b fs,s.length ≤ maxLen
 | [],b,_,s,hs=>by simp [bZ] at hs
 | f :: fs,b,h,s,hs=>by
  simp [dU] at h
  simp [bZ] at hs
  rcases hs with hs | hs
  ·exact Fm.free_ok f b h.1 s hs
  ·exact qV fs b h.2 s hs
end
end Ly
namespace Go.Proofs.YtppfalbnhnpbnaaGreatDoor
open Go Go.RowKit Ly
set_option maxRecDepth 10000
theorem But1.cells {R : Nat} {A X : World} (h : But1 R A X) (hm : ∃ es c,A.heap[R]? = some (.map es c)) : bI A X:=fun a v hv=>by
 have lt:=World.block_lt_of_cell? A a hv
 have hne : a.block ≠ R:=fun e=>by
  obtain ⟨es,c,hm⟩:=hm
  unfold World.cell? at hv
  rw [e,hm] at hv
  cases hv
 rw [World.cell?_of_block (a:=a) (h.block _ lt hne)]
 exact hv
theorem But1.of_grown {R : Nat} {A X : World} (h : A.grownBy X (some R)) : But1 R A X:=⟨h.os,h.tape,h.output,h.size,fun i hi hn=>h.block i hi (fun e=>hn (by cases e;rfl))⟩
theorem mC (fs : List Fm) {j : Nat} {T : Fm} (h : fs[j]? = some T) : cJ (fs.take (j + 1)) = cJ (fs.take j) ++ T.binds:=by
 have app : ∀ a b : List Fm,cJ (a ++ b) = cJ a ++ cJ b:=fun a b=>by
  induction a with
  | nil=>rfl
  | cons x a ih=>simp [cJ,ih]
 rw [List.take_add_one,h,app]
 simp [cJ]
theorem cQ.isMap {w : World} {M n : Nat} {l : List Bs} (h : cQ w M n l) : ∃ es c,w.heap[M]? = some (.map es c):=MapG.isMap h
def AB (f : Fm) : Prop:=∀ (W : World) (x : Value) (M n : Nat) (l : List Bs),aV W f x → cQ W M n l → f.okNames = true → n + f.nodes ≤ 1000000 →
 Calls Tryz.prog 120 #[x,.map (some M)] W fun e w'=>e = .returned (.tuple #[]) ∧ But1 M W w' ∧ ∃ n',n' ≤ n + f.nodes ∧ cQ w' M n' (l ++ f.binds)
set_option maxHeartbeats 8000000 in
theorem ab_step (op : Int) (nm : Bs) (ts : List Tm) (fs : List Fm) (ih : ∀ f ∈ fs,AB f) : AB (.mk op nm ts fs):=by
 intro W x M n l hx0 hset hok hnd
 obtain ⟨ta,N,tc,fa,N2,fc,rfl,hx,hx'⟩ : ∃ ta N tc fa N2 fc,x = .agg #[.int .u8 op,str nm,.slice ta N tc,.slice fa N2 fc] ∧ bG W ts (.slice ta N tc) ∧ aN W fs (.slice fa N2 fc):=hx0
 have hl2:=hx'.len
 have N4 : N2 ≤ 9223372036854775807:=le63 (Nat.le_trans hl2.2.1 hl2.2.2)
 simp only [Fm.okNames,Bool.and_eq_true,decide_eq_true_eq,List.all_eq_true] at hok
 have nd : (Fm.mk op nm ts fs).nodes = 1 + aF ts + aD fs:=by simp [Fm.nodes]
 rw [nd] at hnd ⊢
 have NM : okS nm:=hok.1.1
 have HO:=Lib.hid hok.2
 have HN:=Lib.hid hnd
 have HS:=Lib.hid hset
 have HX2:=Lib.hid hx'
 have L2:=Lib.hid hl2.1
 have IH:=Lib.hid ih
 obtain ⟨l1,hl1⟩ : ∃ l1,l ++ (if quant op then [nm] else []) = l1:=⟨_,rfl⟩
 have bd : l ++ (Fm.mk op nm ts fs).binds = l1 ++ cJ fs:=by rw [← hl1];simp [Fm.binds]
 rw [bd]
 have HL1:=Lib.hid hl1
 obtain ⟨W1,hW1⟩ : ∃ W1,W.alloc (.cells #[.int .u8 op,str nm,.slice ta N tc,.slice fa N2 fc] 40) = W1:=⟨_,rfl⟩
 have bw : Below W.heap.size W W1:=by rw [← hW1];exact (Below.refl _ _).alloc (Nat.le_refl _) _
 have r0 : W1.heap[W.heap.size]? = some (.cells #[.int .u8 op,str nm,.slice ta N tc,.slice fa N2 fc] 40 (0,0)):=by rw [← hW1];exact heap_alloc_new W _
 have R0:=Lib.hid r0
 have BW:=Lib.hid bw
 obtain ⟨⟨y0,y1,y2,y3⟩,-⟩:=aL r0
 clear hx hx' hset hok hnd nd hl2 ih hl1 bd bw r0
 go_enter Tryz.func120,Tryz.ntmps120
 cases hq : quant op
 ·have QC : Hid (∀ w,Calls Tryz.prog 98 #[.agg #[.int .u8 op,str nm,.slice ta N tc,.slice fa N2 fc]] w fun e w'=>e = .returned (.bool false) ∧ Below w.heap.size w w'):=fun w=>by rw [← hq];exact lX op _ _ _ w
  have E1 : Hid (l1 = l):=by show l1 = l;rw [← HL1.out,hq];simp
  clear hq HL1
  go_wp2_with (go_at_call 98;refine (QC.out _).mono ?_;rintro e w2 ⟨rfl,b2⟩;have B2 : Hid (Below W.heap.size W w2):=BW.out.trans (b2.mono BW.out.size);have y3':=aA b2 _ _ y3;have y1':=aA b2 _ _ y1;clear b2 QC y0 y1 y2 y3)
  have S2 : Hid (cQ w2 M n l1):=by rw [E1.out];exact HS.out.heap (B2.out.block _ HS.out.lt)
  have U2 : Hid (But1 M W w2):=But1.of_below B2.out
  have n1le : Hid (n ≤ n + 1):=Nat.le_succ n
  obtain ⟨n1,K1,S3⟩ : ∃ n1,Hid (n1 ≤ n + 1) ∧ Hid (cQ w2 M n1 l1):=⟨n,n1le,S2⟩
  clear S2 n1le B2 y3' y1'
  go_loopw [14] (fun i wr=>∃ j : Nat,j ≤ N2 ∧ i = .int .i64 j ∧ Hid (But1 M W wr ∧ ∃ n',n' ≤ n1 + aD (fs.take j) ∧ cQ wr M n' (l1 ++ cJ (fs.take j)))) (fun i _=>N2 - (intOf i).toNat)
  case atStart=>exact ⟨0,Nat.zero_le _,rfl,U2.out,n1,by simp [aD],by simpa [cJ] using S3.out⟩
  case round =>
   obtain ⟨j,hj,rfl,hs⟩:=hrel
   clear S3 U2
   by_cases hlt : j < N2
   ·obtain ⟨T,hT⟩:=aT (l:=fs) (j:=j) (by rw [← L2.out];exact hlt)
    obtain ⟨bb,off,rfl,hc⟩:=HX2.out.get (aX hT)
    obtain ⟨x0,x1,x2,x3,x4,x5,hx⟩:=hc j _ hT
    have hK:=hs.out.1.cells HS.out.isMap
    have c0:=hK _ _ hx.c0;have c1:=hK _ _ hx.c1;have c2:=hK _ _ hx.c2;have c3:=hK _ _ hx.c3
    have HT:=Lib.hid (List.mem_of_getElem? hT)
    have TB:=Lib.hid (mC fs hT)
    have TN:=Lib.hid (iW hT)
    have TL:=Lib.hid (gS fs (j + 1))
    have IC : Hid (∀ o,Calls Tryz.prog 120 #[.agg #[.int .u8 T.op,str T.name,.slice x0 x1 x2,.slice x3 x4 x5],.map (some M)] (wr.alloc o) fun e w'=>e = .returned (.tuple #[]) ∧ But1 M W w' ∧ ∃ n',n' ≤ n1 + aD (fs.take (j + 1)) ∧ cQ w' M n' (l1 ++ cJ (fs.take (j + 1)))):=fun o=>by
     obtain ⟨n',h1,h2⟩:=hs.out.2
     have ba : Below wr.heap.size wr (wr.alloc o):=(Below.refl _ _).alloc (Nat.le_refl _) _
     have hk2:=hK.trans (aA ba)
     have e1:=TN.out
     have e2:=TL.out
     have e3:=HN.out
     have e4:=K1.out
     refine (IH.out T HT.out (wr.alloc o) _ M n' _ ⟨_,_,_,_,_,_,rfl,hx.at_.keep hk2,hx.at'.keep hk2⟩ (h2.heap (ba.block _ h2.lt)) (dL HO.out T HT.out) (by omega)).mono ?_
     rintro e w' ⟨k1,k2,n3,k3,k4⟩
     refine ⟨k1,(hs.out.1.trans (But1.of_below ba)).trans k2,n3,by omega, ?_⟩
     rw [TB.out,← List.append_assoc]
     exact k4
    clear hc hx hT hK
    go_wp2_with (go_at_call 120;refine (IC.out _).mono ?_;rintro e w3 ⟨rfl,hb3,hs3⟩;have B3:=Lib.hid hb3;have S3:=Lib.hid hs3;clear hb3 hs3)
    go_roundw
    case rel=>exact ⟨j + 1,by omega,by go_num,B3.out,S3.out⟩
    case measure=>simp [intOf];omega
   ·have e : fs.take j = fs:=List.take_of_length_le (by rw [← L2.out];omega)
    have h1:=hs.out.1
    obtain ⟨n',h2,h3⟩:=hs.out.2
    rw [e] at h2 h3
    go_wp2_with fail
    go_end0
    exact ⟨rfl,h1,n',by have:=K1.out;omega,h3⟩
 ·have QC : Hid (∀ w,Calls Tryz.prog 98 #[.agg #[.int .u8 op,str nm,.slice ta N tc,.slice fa N2 fc]] w fun e w'=>e = .returned (.bool true) ∧ Below w.heap.size w w'):=fun w=>by rw [← hq];exact lX op _ _ _ w
  have E1 : Hid (l1 = l ++ [nm]):=by show l1 = _;rw [← HL1.out,hq];simp
  clear hq HL1
  have nl : n < maxLen:=by have:=HN.out;unfold maxLen;omega
  go_wp2_with (first
   | (go_at_call 98;refine (QC.out _).mono ?_;rintro e w2 ⟨rfl,b2⟩;have B2 : Hid (Below W.heap.size W w2):=BW.out.trans (b2.mono BW.out.size);have S1 : Hid (cQ w2 M n l):=HS.out.heap (B2.out.block _ HS.out.lt);have y3':=aA b2 _ _ y3;have y1':=aA b2 _ _ y1;clear b2 QC y0 y1 y2 y3)
   | (at_mapUpdate;refine fC rfl _ _ _ 93 rfl 4 keyS xT rfl S1.out nl nm NM rfl ?_;intro w4 hm4 hg4;have S2 : Hid (cQ w4 M (n + 1) l1):=(by rw [E1.out];exact cQ.put hm4);have U2 : Hid (But1 M W w4):=(But1.of_below B2.out).trans (But1.of_grown hg4);have y3:=(But1.of_grown hg4).cells S1.out.isMap _ _ y3';clear hm4 hg4 y1' y3'))
  obtain ⟨n1,K1,S3⟩ : ∃ n1,Hid (n1 ≤ n + 1) ∧ Hid (cQ w4 M n1 l1):=⟨n + 1,Nat.le_refl _,S2⟩
  clear S2 S1 B2 y3
  go_loopw [14] (fun i wr=>∃ j : Nat,j ≤ N2 ∧ i = .int .i64 j ∧ Hid (But1 M W wr ∧ ∃ n',n' ≤ n1 + aD (fs.take j) ∧ cQ wr M n' (l1 ++ cJ (fs.take j)))) (fun i _=>N2 - (intOf i).toNat)
  case atStart=>exact ⟨0,Nat.zero_le _,rfl,U2.out,n1,by simp [aD],by simpa [cJ] using S3.out⟩
  case round =>
   obtain ⟨j,hj,rfl,hs⟩:=hrel
   clear S3 U2
   by_cases hlt : j < N2
   ·obtain ⟨T,hT⟩:=aT (l:=fs) (j:=j) (by rw [← L2.out];exact hlt)
    obtain ⟨bb,off,rfl,hc⟩:=HX2.out.get (aX hT)
    obtain ⟨x0,x1,x2,x3,x4,x5,hx⟩:=hc j _ hT
    have hK:=hs.out.1.cells HS.out.isMap
    have c0:=hK _ _ hx.c0;have c1:=hK _ _ hx.c1;have c2:=hK _ _ hx.c2;have c3:=hK _ _ hx.c3
    have HT:=Lib.hid (List.mem_of_getElem? hT)
    have TB:=Lib.hid (mC fs hT)
    have TN:=Lib.hid (iW hT)
    have TL:=Lib.hid (gS fs (j + 1))
    have IC : Hid (∀ o,Calls Tryz.prog 120 #[.agg #[.int .u8 T.op,str T.name,.slice x0 x1 x2,.slice x3 x4 x5],.map (some M)] (wr.alloc o) fun e w'=>e = .returned (.tuple #[]) ∧ But1 M W w' ∧ ∃ n',n' ≤ n1 + aD (fs.take (j + 1)) ∧ cQ w' M n' (l1 ++ cJ (fs.take (j + 1)))):=fun o=>by
     obtain ⟨n',h1,h2⟩:=hs.out.2
     have ba : Below wr.heap.size wr (wr.alloc o):=(Below.refl _ _).alloc (Nat.le_refl _) _
     have hk2:=hK.trans (aA ba)
     have e1:=TN.out
     have e2:=TL.out
     have e3:=HN.out
     have e4:=K1.out
     refine (IH.out T HT.out (wr.alloc o) _ M n' _ ⟨_,_,_,_,_,_,rfl,hx.at_.keep hk2,hx.at'.keep hk2⟩ (h2.heap (ba.block _ h2.lt)) (dL HO.out T HT.out) (by omega)).mono ?_
     rintro e w' ⟨k1,k2,n3,k3,k4⟩
     refine ⟨k1,(hs.out.1.trans (But1.of_below ba)).trans k2,n3,by omega, ?_⟩
     rw [TB.out,← List.append_assoc]
     exact k4
    clear hc hx hT hK
    go_wp2_with (go_at_call 120;refine (IC.out _).mono ?_;rintro e w3 ⟨rfl,hb3,hs3⟩;have B3:=Lib.hid hb3;have S3:=Lib.hid hs3;clear hb3 hs3)
    go_roundw
    case rel=>exact ⟨j + 1,by omega,by go_num,B3.out,S3.out⟩
    case measure=>simp [intOf];omega
   ·have e : fs.take j = fs:=List.take_of_length_le (by rw [← L2.out];omega)
    have h1:=hs.out.1
    obtain ⟨n',h2,h3⟩:=hs.out.2
    rw [e] at h2 h3
    go_wp2_with fail
    go_end0
    exact ⟨rfl,h1,n',by have:=K1.out;omega,h3⟩
mutual
theorem yR : ∀ f : Fm,AB f
 | .mk op nm ts fs=>ab_step op nm ts fs (wY fs)
theorem wY : ∀ fs : List Fm,∀ f ∈ fs,AB f
 | [],_,h=>by cases h
 | x :: xs,f,h=>by
  rcases List.mem_cons.1 h with e | e
  ·rw [e];exact yR x
  ·exact wY xs f e
end
end Go.Proofs.YtppfalbnhnpbnaaGreatDoor
namespace Go.Proofs.YtppfalbnhnpbnaaGreatDoor
open Go Go.RowKit Ly
set_option maxRecDepth 10000
theorem mF {σ : List Sy} {s : Sy} (h : s ∉ σ) : σ.takeWhile (fun t=>decide (t ≠ s)) = σ:=by
 induction σ with
 | nil=>rfl
 | cons x σ ih =>
  have h1 : x ≠ s:=fun e=>h (by simp [e])
  have h2 : s ∉ σ:=fun e=>h (by simp [e])
  simp only [List.takeWhile_cons,h1,ne_eq,not_false_eq_true,decide_true,if_true]
  rw [ih h2]
theorem takeWhile_in {σ : List Sy} {t s : Sy} (h : t ∈ σ) : (σ ++ [s]).takeWhile (fun u=>decide (u ≠ t)) = σ.takeWhile (fun u=>decide (u ≠ t)):=by
 induction σ with
 | nil=>cases h
 | cons x σ ih =>
  by_cases hx : x = t
  ·subst hx;simp
  ·rcases List.mem_cons.1 h with rfl | h
   ·exact absurd rfl hx
   ·have e:=ih h
    simp only [List.cons_append,List.takeWhile_cons,ne_eq,hx,not_false_eq_true,decide_true,if_true] at e ⊢
    rw [e]
theorem told_new {σ : List Sy} {s : Sy} (h : s ∉ σ) : Sy.told σ s = s.kind ++ Lib.itoa (((σ.countP (fun t=>decide (t.kind = s.kind)) : Nat) : Int) + 1):=by
 unfold Sy.told Sy.place
 rw [mF h]
 rfl
theorem told_old {σ : List Sy} {t s : Sy} (h : t ∈ σ) : Sy.told (σ ++ [s]) t = Sy.told σ t:=by
 unfold Sy.told Sy.place
 rw [takeWhile_in h]
theorem oV {σ : List Sy} {s : Sy} (h : s ∉ σ) : Sy.told (σ ++ [s]) s = Sy.told σ s:=by
 unfold Sy.told Sy.place
 have e : (σ ++ [s]).takeWhile (fun t=>decide (t ≠ s)) = σ.takeWhile (fun t=>decide (t ≠ s)):=by
  rw [mF h]
  rw [List.takeWhile_append_of_pos (fun x hx=>by simp;rintro rfl;exact h hx)]
  simp
 rw [e]
structure But2 (R Q : Nat) (A X : World) : Prop where
 os : X.os = A.os
 tape : X.tape = A.tape
 output : X.output = A.output
 size : A.heap.size ≤ X.heap.size
 block : ∀ k,k < A.heap.size → k ≠ R → k ≠ Q → X.heap[k]? = A.heap[k]?
theorem But2.trans {R Q : Nat} {A X Y : World} (h : But2 R Q A X) (k : But2 R Q X Y) : But2 R Q A Y :=
 ⟨k.os.trans h.os,k.tape.trans h.tape,k.output.trans h.output,Nat.le_trans h.size k.size,fun i hi h1 h2=>(k.block i (Nat.lt_of_lt_of_le hi h.size) h1 h2).trans (h.block i hi h1 h2)⟩
theorem But2.of_below {R Q : Nat} {A X : World} (h : Below A.heap.size A X) : But2 R Q A X:=⟨h.os,h.tape,h.output,h.size,fun i hi _ _=>h.block i hi⟩
theorem But2.left {R Q : Nat} {A X : World} (h : A.grownBy X (some R)) : But2 R Q A X:=⟨h.os,h.tape,h.output,h.size,fun i hi hn _=>h.block i hi (fun e=>hn (by cases e;rfl))⟩
theorem But2.right {R Q : Nat} {A X : World} (h : A.grownBy X (some Q)) : But2 R Q A X:=⟨h.os,h.tape,h.output,h.size,fun i hi _ hn=>h.block i hi (fun e=>hn (by cases e;rfl))⟩
theorem But2.cells {R Q : Nat} {A X : World} (h : But2 R Q A X) (hR : ∃ es c,A.heap[R]? = some (.map es c)) (hQ : ∃ es c,A.heap[Q]? = some (.map es c)) : bI A X:=fun a v hv=>by
 have lt:=World.block_lt_of_cell? A a hv
 have key : ∀ q,(∃ es c,A.heap[q]? = some (.map es c)) → a.block ≠ q:=fun q hm e=>by
  obtain ⟨es,c,hm⟩:=hm
  unfold World.cell? at hv
  rw [e,hm] at hv
  cases hv
 rw [World.cell?_of_block (a:=a) (h.block _ lt (key R hR) (key Q hQ))]
 exact hv
structure aY (g1 c1 gm cm : Nat) (σ : List Sy) (W : World) : Prop where
 hg : W.heap[g1]? = some (.cells #[.map (some gm)] 117 (0,0))
 hc : W.heap[c1]? = some (.cells #[.map (some cm)] 111 (0,0))
 given : MapG Tryz.prog 104 okY litY (str []) W gm σ.length (fun s=>decide (s ∈ σ)) (fun s=>if s ∈ σ then str (Sy.told σ s) else str [])
 counts : ∃ S,MapG Tryz.prog 9 okS litS (.int .i64 0) W cm σ.length S (fun k=>.int .i64 ((σ.countP (fun t=>decide (t.kind = k)) : Nat) : Int))
 ne : gm ≠ cm
theorem aY.below {g1 c1 gm cm : Nat} {σ : List Sy} {W W' : World} (h : aY g1 c1 gm cm σ W) (b : Below W.heap.size W W') : aY g1 c1 gm cm σ W':=by
 obtain ⟨S,hS⟩:=h.counts
 exact ⟨(b.block _ (Array.getElem?_eq_some_iff.1 h.hg).1).trans h.hg,(b.block _ (Array.getElem?_eq_some_iff.1 h.hc).1).trans h.hc,h.given.below b,⟨S,hS.below b⟩,h.ne⟩
theorem aY.keeps {g1 c1 gm cm : Nat} {σ : List Sy} {W W' : World} (h : aY g1 c1 gm cm σ W) (b : But2 gm cm W W') : bI W W':=by
 obtain ⟨S,hS⟩:=h.counts
 exact b.cells h.given.isMap hS.isMap
theorem uV : Tryz.prog.underlying 117 = some (.map 104 9):=by kernel_rfl
theorem AQ (w : World) : (zeroValue 9).run Tryz.prog w = .ok (str []) w:=by kernel_rfl
theorem aY.look {g1 c1 gm cm : Nat} {σ : List Sy} {W : World} (h : aY g1 c1 gm cm σ W) {s : Sy} (hs : okY s) : (Instr.lookup 117 (.map (some gm)) (encY s) false).run Tryz.prog W = .ok (if s ∈ σ then str (Sy.told σ s) else str []) W:=h.given.look keyY uV (AQ W) hs
theorem aY.look2 {g1 c1 gm cm : Nat} {σ : List Sy} {W : World} (h : aY g1 c1 gm cm σ W) {s : Sy} (hs : okY s) : (Instr.lookup 117 (.map (some gm)) (encY s) true).run Tryz.prog W = .ok (.tuple #[if s ∈ σ then str (Sy.told σ s) else str [],.bool (decide (s ∈ σ))]) W:=h.given.look2 keyY uV (AQ W) hs
theorem aY.count {g1 c1 gm cm : Nat} {σ : List Sy} {W : World} (h : aY g1 c1 gm cm σ W) {k : Bs} (hk : okS k) : (Instr.lookup 111 (.map (some cm)) (str k) false).run Tryz.prog W = .ok (.int .i64 ((σ.countP (fun t=>decide (t.kind = k)) : Nat) : Int)) W:=by
 obtain ⟨S,hS⟩:=h.counts
 exact hS.look keyS gQ (pX W) hk
theorem iB (a b : Bs) : (⟨a.toArray⟩ ++ ⟨b.toArray⟩ : ByteArray) = ⟨(a ++ b).toArray⟩:=by
 apply ByteArray.ext
 simp
theorem xU (x : UInt8) (b : Bs) : (.string ({ data:=#[x] } ++ { data:=b.toArray }) : Value) = str ([x] ++ b):=congrArg Value.string (iB [x] b)
theorem mk_app117 (b : Bs) : (.string ({ data:=#[117] } ++ { data:=b.toArray }) : Value) = str ([117] ++ b):=congrArg Value.string (iB [117] b)
theorem row3 {w : World} {b : Nat} {x y z : Value} {t : TypeId} (h : w.heap[b]? = some (.cells #[x,y,z] t (0,0))) : w.cell? ⟨b,0,none⟩ = some x ∧ w.cell? ⟨b,1,none⟩ = some y ∧ w.cell? ⟨b,2,none⟩ = some z :=
 ⟨(bE h 0).trans rfl,(bE h 1).trans rfl,(bE h 2).trans rfl⟩
theorem aY.add {g1 c1 gm cm : Nat} {σ : List Sy} {s : Sy} {W w4 w5 : World} {S : Bs → Bool} (h : aY g1 c1 gm cm σ W) (hs : s ∉ σ) (hk : okS s.kind) (z : Int) (hz : z = ((σ.countP (fun t=>decide (t.kind = s.kind)) : Nat) : Int) + 1)
  (b0 : Below W.heap.size W w4) (hg4 : w4.grownBy w5 (some cm)) (hm4 : MapG Tryz.prog 9 okS litS (.int .i64 0) w5 cm (σ.length + 1) S (fun u=>if u = s.kind then .int .i64 z else .int .i64 ((σ.countP (fun t=>decide (t.kind = u)) : Nat) : Int))) :
  (∀ w6,Below w5.heap.size w5 w6 → MapG Tryz.prog 104 okY litY (str []) w6 gm σ.length (fun s=>decide (s ∈ σ)) (fun s=>if s ∈ σ then str (Sy.told σ s) else str [])) ∧
  ∀ w6 w7,Below w5.heap.size w5 w6 → w6.grownBy w7 (some gm) → MapG Tryz.prog 104 okY litY (str []) w7 gm (σ.length + 1) (fun u=>if u = s then true else decide (u ∈ σ)) (fun u=>if u = s then str (Sy.told σ s) else if u ∈ σ then str (Sy.told σ u) else str []) →
   aY g1 c1 gm cm (σ ++ [s]) w7 ∧ But2 gm cm W w7:=by
 obtain ⟨S0,hS0⟩:=h.counts
 have h4:=h.below b0
 obtain ⟨S1,hS1⟩:=h4.counts
 have G5 : MapG Tryz.prog 104 okY litY (str []) w5 gm σ.length (fun s=>decide (s ∈ σ)) (fun s=>if s ∈ σ then str (Sy.told σ s) else str []):=h4.given.grown hg4 (by intro e;exact h.ne (by cases e;rfl))
 refine ⟨fun w6 b=>G5.below b,fun w6 w7 b6 hg hm=>⟨⟨?_, ?_, ?_, ?_,h.ne⟩, ?_⟩⟩
 ·have e5 : w5.heap[g1]? = w4.heap[g1]?:=hg4.block _ (Array.getElem?_eq_some_iff.1 h4.hg).1 (fun e=>by
   obtain ⟨es,c,hm'⟩:=hS1.isMap
   have:=h4.hg
   cases e;rw [this] at hm';cases hm')
  have e6 : w6.heap[g1]? = w5.heap[g1]?:=b6.block _ (by have:=(Array.getElem?_eq_some_iff.1 h4.hg).1;have:=hg4.size;omega)
  have e7 : w7.heap[g1]? = w6.heap[g1]?:=hg.block _ (by have:=(Array.getElem?_eq_some_iff.1 h4.hg).1;have:=hg4.size;have:=b6.size;omega) (fun e=>by
   obtain ⟨es,c,hm'⟩:=h4.given.isMap
   have:=h4.hg
   cases e;rw [this] at hm';cases hm')
  rw [e7,e6,e5];exact h4.hg
 ·have e5 : w5.heap[c1]? = w4.heap[c1]?:=hg4.block _ (Array.getElem?_eq_some_iff.1 h4.hc).1 (fun e=>by
   obtain ⟨es,c,hm'⟩:=hS1.isMap
   have:=h4.hc
   cases e;rw [this] at hm';cases hm')
  have e6 : w6.heap[c1]? = w5.heap[c1]?:=b6.block _ (by have:=(Array.getElem?_eq_some_iff.1 h4.hc).1;have:=hg4.size;omega)
  have e7 : w7.heap[c1]? = w6.heap[c1]?:=hg.block _ (by have:=(Array.getElem?_eq_some_iff.1 h4.hc).1;have:=hg4.size;have:=b6.size;omega) (fun e=>by
   obtain ⟨es,c,hm'⟩:=h4.given.isMap
   have:=h4.hc
   cases e;rw [this] at hm';cases hm')
  rw [e7,e6,e5];exact h4.hc
 ·rw [List.length_append]
  refine hm.cong (fun u _=>?_) (fun u _=>?_)
  ·by_cases e : u = s <;> simp [e]
  ·by_cases e : u = s
   ·subst e;simp [oV hs]
   ·by_cases e2 : u ∈ σ
    ·simp [e,e2,told_old e2]
    ·simp [e,e2]
 ·refine ⟨S, ?_⟩
  rw [List.length_append]
  have m6:=hm4.below b6
  have m7:=m6.grown hg (by intro e;exact h.ne (by cases e;rfl))
  refine m7.cong (fun u _=>rfl) (fun u _=>?_)
  by_cases e : u = s.kind
  ·subst e;simp [List.countP_append,hz]
  ·have e' : ¬ s.kind = u:=fun h=>e h.symm
   simp [e,e',List.countP_append]
 ·exact (But2.of_below b0).trans ((But2.right hg4).trans ((But2.of_below b6).trans (But2.left hg)))
theorem eE {κ : Type} {P : Program} {k : TypeId} {ok : κ → Prop} {lit : κ → Lit} {z : Value} {w : World} {M n : Nat} {S : κ → Bool} {T : κ → Value} (h : MapG P k ok lit z w M n S T) {b : Nat} {cs : Array Value} {t : TypeId} {a : Nat × Nat} (hb : w.heap[b]? = some (.cells cs t a)) : some b ≠ some M:=fun e=>by
 obtain ⟨es,c,hm⟩:=h.isMap
 cases e;rw [hm] at hb;cases hb
theorem cK.cells {w w' : World} (h : cK w) (hb : ∀ (g : Nat) cs t a,w.heap[g]? = some (.cells cs t a) → w'.heap[g]? = w.heap[g]?) : cK w':=by
 unfold cK Lib.TabIs World.var? at *
 cases hg : Tryz.prog.globalNamed "internal/strconv.uint64pow10" with
 | none=>rw [hg] at h;cases h
 | some g =>
  rw [hg] at h
  simp only [Option.bind_some] at h ⊢
  cases hc : w.heap[g]? with
  | none=>rw [hc] at h;cases h
  | some o =>
   cases o with
   | cells cs t a=>rw [hb g cs t a hc];exact h
   | _=>rw [hc] at h;cases h
theorem cK.but {R Q : Nat} {w w' : World} (h : cK w) (hb : But2 R Q w w') (hR : ∃ es c,w.heap[R]? = some (.map es c)) (hQ : ∃ es c,w.heap[Q]? = some (.map es c)) : cK w' :=
 h.cells fun g cs t a hg=>hb.block g (Array.getElem?_eq_some_iff.1 hg).1 (fun e=>by obtain ⟨es,c,hm⟩:=hR;subst e;rw [hg] at hm;cases hm) (fun e=>by obtain ⟨es,c,hm⟩:=hQ;subst e;rw [hg] at hm;cases hm)
theorem aY.pow {g1 c1 gm cm : Nat} {σ : List Sy} {W W' : World} (h : aY g1 c1 gm cm σ W) (b : But2 gm cm W W') (hp : cK W) : cK W':=by
 obtain ⟨S,hS⟩:=h.counts
 exact hp.but b h.given.isMap hS.isMap
theorem kind_len (s : Sy) (h : s.ar ≤ 1000000) : s.kind.length ≤ 9:=by
 unfold Sy.kind
 split
 ·simp
 ·have:=fO (n:=s.ar) (by omega)
  simp;omega
end Go.Proofs.YtppfalbnhnpbnaaGreatDoor
namespace Go.Proofs.YtppfalbnhnpbnaaGreatDoor
open Go Go.RowKit Ly
set_option maxRecDepth 10000
set_option maxHeartbeats 8000000 in
theorem tK (g1 c1 gm cm : Nat) (σ : List Sy) (s : Sy) (W : World) (h : aY g1 c1 gm cm σ W) (hs : okY s) (hp : cK W) (hl : σ.length ≤ 900000) :
  Calls Tryz.prog 70 #[.agg #[str [s.sort],str s.name,.int .i64 s.ar],one g1,one c1] W fun e w'=>e = .returned (str (Sy.told σ s)) ∧ aY g1 c1 gm cm (Sy.add σ s) w' ∧ But2 gm cm W w':=by
 obtain ⟨W1,hW1⟩ : ∃ W1,W.alloc (.cells #[str [s.sort],str s.name,.int .i64 s.ar] 104) = W1:=⟨_,rfl⟩
 have bw : Below W.heap.size W W1:=by rw [← hW1];exact (Below.refl _ _).alloc (Nat.le_refl _) _
 have r0 : W1.heap[W.heap.size]? = some (.cells #[str [s.sort],str s.name,.int .i64 s.ar] 104 (0,0)):=by rw [← hW1];exact heap_alloc_new W _
 have h1:=h.below bw
 have LK2 : (Instr.lookup 117 (.map (some gm)) (.agg #[str [s.sort],str s.name,.int .i64 s.ar]) true).run Tryz.prog W1 = .ok (.tuple #[if s ∈ σ then str (Sy.told σ s) else str [],.bool (decide (s ∈ σ))]) W1:=h1.look2 hs
 obtain ⟨y0,y1,y2⟩:=row3 r0
 obtain ⟨c0,-⟩:=row1 h1.hg
 obtain ⟨d0,-⟩:=row1 h1.hc
 have H1:=Lib.hid h1
 have HS:=Lib.hid hs
 have BW:=Lib.hid bw
 have R0:=Lib.hid r0
 have HP:=Lib.hid (hp.below bw)
 have HL:=Lib.hid hl
 clear bw r0 h1 h hs hp hl
 by_cases hin : s ∈ σ
 ·simp only [hin,if_true,decide_true] at LK2
  have e1 : Sy.add σ s = σ:=by simp [Sy.add,hin]
  rw [e1]
  clear hin e1
  go_enter Tryz.func70,Tryz.ntmps70
  go_wp2
  go_ret
  exact ⟨rfl,H1.out,But2.of_below BW.out⟩
 ·simp only [hin,if_false,decide_false] at LK2
  have e1 : Sy.add σ s = σ ++ [s]:=by simp [Sy.add,hin]
  rw [e1]
  have HIN:=Lib.hid hin
  have KL:=kind_len s HS.out.2
  have OKK : Hid (okS s.kind):=by show s.kind.length ≤ maxLen;unfold maxLen;omega
  obtain ⟨z,hz⟩ : ∃ z,((σ.countP (fun t=>decide (t.kind = s.kind)) : Nat) : Int) = z:=⟨_,rfl⟩
  have zb : 0 ≤ z ∧ z ≤ 900000:=by
   have:=List.countP_le_length (p:=fun t : Sy=>decide (t.kind = s.kind)) (l:=σ)
   have:=HL.out
   omega
  have HZ:=Lib.hid hz
  obtain ⟨T2,hT2⟩ : ∃ T2,Lib.itoa (z + 1) = T2:=⟨_,rfl⟩
  have TL : T2.length ≤ 8:=by
   obtain ⟨m,hm⟩ : ∃ m : Nat,z + 1 = m:=⟨(z + 1).toNat,by omega⟩
   rw [← hT2,hm];exact fO (by omega)
  have TD : Hid (Sy.told σ s = s.kind ++ T2):=by show _ = _;rw [told_new hin,← hT2,hz]
  have IT : Hid (∀ w,cK w → Calls Tryz.prog 71 #[.int .i64 (z + 1)] w fun e w'=>e = .returned (str T2) ∧ Below w.heap.size w w'):=fun w hp=>by rw [← hT2];exact wQ _ (by omega) (by omega) w hp
  have WZ : RowKit.wrap64 (z + 1) = z + 1:=(IntWalk.i64_left _).symm.trans (IntWalk.i64_in _ (by omega))
  clear hin e1 hz hT2
  go_enter Tryz.func70,Tryz.ntmps70
  by_cases hu : s.sort = 117
  ·have K1 : Hid (s.kind = [117]):=by show s.kind = _;simp [Sy.kind,hu]
   have E1 : Hid (s.sort = 117):=hu
   rw [hu] at y0 R0 LK2 hW1 ⊢
   clear hu
   have LKC : Hid (∀ w',Below W1.heap.size W1 w' → (Instr.lookup 111 (.map (some cm)) (.string ⟨#[117]⟩) false).run Tryz.prog w' = .ok (.int .i64 z) w'):=fun w' hb=>by
    have:=(H1.out.below hb).count OKK.out
    rw [HZ.out,K1.out] at this
    exact this
   have lk1:=LKC.out _ (Below.refl _ _)
   have KV : Hid ((.string ⟨#[117]⟩ : Value) = str s.kind):=by show _ = _;rw [K1.out]
   go_wp2_with (at_mapUpdate;obtain ⟨S0,hS0⟩:=H1.out.counts;refine fC rfl _ _ _ 111 rfl 3 keyS gQ rfl hS0 (by have:=HL.out;unfold maxLen;omega) s.kind OKK.out KV.out ?_;intro w5 hm5 hg5)
   have ADD:=Lib.hid (H1.out.add HIN.out OKK.out (z + 1) (by rw [HZ.out]) (Below.refl _ _) hg5 hm5)
   have LK5 : Hid (∀ w',Below w5.heap.size w5 w' → (Instr.lookup 111 (.map (some cm)) (.string ⟨#[117]⟩) false).run Tryz.prog w' = .ok (.int .i64 (z + 1)) w'):=fun w' hb=>by
    have:=(hm5.below hb).look keyS gQ (pX w') OKK.out
    rw [KV.out]
    simp only [if_true] at this
    exact this
   have G5 : Hid (w5.heap[g1]? = some (.cells #[.map (some gm)] 117 (0,0))):=(hg5.block _ (Array.getElem?_eq_some_iff.1 H1.out.hg).1 (eE hS0 H1.out.hg)).trans H1.out.hg
   have C5 : Hid (w5.heap[c1]? = some (.cells #[.map (some cm)] 111 (0,0))):=(hg5.block _ (Array.getElem?_eq_some_iff.1 H1.out.hc).1 (eE hS0 H1.out.hc)).trans H1.out.hc
   have R5 : Hid (w5.heap[W.heap.size]? = some (.cells #[str [117],str s.name,.int .i64 s.ar] 104 (0,0))):=(hg5.block _ (Array.getElem?_eq_some_iff.1 R0.out).1 (eE hS0 R0.out)).trans R0.out
   have P5 : Hid (cK w5):=cK.but HP.out (But2.right (R:=gm) hg5) H1.out.given.isMap hS0.isMap
   have LE5 : Hid (W1.heap.size ≤ w5.heap.size):=hg5.size
   have LG : Hid (g1 < w5.heap.size ∧ c1 < w5.heap.size ∧ W.heap.size < w5.heap.size):=⟨(Array.getElem?_eq_some_iff.1 G5.out).1,(Array.getElem?_eq_some_iff.1 C5.out).1,(Array.getElem?_eq_some_iff.1 R5.out).1⟩
   clear hm5 hg5 hS0 lk1 LKC y0 y1 y2 c0 d0 LK2 hW1
   refine dG (q:=8) (S:=fun w'=>Below w5.heap.size w5 w') (by kernel_rfl) (Below.refl _ _).drew (fun hHeld=>?_)
   refine aJ (i:=0) (v:=?_) rfl (by kernel_rfl) (by kernel_rfl) (by kernel_rfl) (by kernel_rfl) (fun _ _ _ h=>h) (Or.inl ⟨by rfl, ?_⟩) (by assumption) ?_
   rotate_left
   ·(intro w0 hSw;obtain ⟨z0,-⟩:=row1 ((hSw.block g1 LG.out.1).trans G5.out);go_simp;(try with_reducible rfl))
   try simp only [Act.put,List.getElem_toArray,List.getElem_cons_succ,List.getElem_cons_zero,List.setIfInBounds_toArray,List.set_cons_zero,List.set_cons_succ]
   refine aJ (i:=1) (v:=?_) rfl (by kernel_rfl) (by kernel_rfl) (by kernel_rfl) (by kernel_rfl) (fun _ _ _ h=>h) (Or.inl ⟨by rfl, ?_⟩) (by assumption) ?_
   rotate_left
   ·(intro w0 hSw;obtain ⟨z0,z1,z2⟩:=row3 ((hSw.block W.heap.size LG.out.2.2).trans R5.out);go_simp;(try with_reducible rfl))
   try simp only [Act.put,List.getElem_toArray,List.getElem_cons_succ,List.getElem_cons_zero,List.setIfInBounds_toArray,List.set_cons_zero,List.set_cons_succ]
   refine aJ (i:=2) (v:=?_) rfl (by kernel_rfl) (by kernel_rfl) (by kernel_rfl) (by kernel_rfl) (fun _ _ _ h=>h) (Or.inl ⟨by rfl, ?_⟩) (by assumption) ?_
   rotate_left
   ·(intro w0 hSw;go_simp;(try with_reducible rfl))
   try simp only [Act.put,List.getElem_toArray,List.getElem_cons_succ,List.getElem_cons_zero,List.setIfInBounds_toArray,List.set_cons_zero,List.set_cons_succ]
   refine aJ (i:=3) (v:=?_) rfl (by kernel_rfl) (by kernel_rfl) (by kernel_rfl) (by kernel_rfl) (fun _ _ _ h=>h) (Or.inl ⟨by rfl, ?_⟩) (by assumption) ?_
   rotate_left
   ·(intro w0 hSw;obtain ⟨z0,-⟩:=row1 ((hSw.block c1 LG.out.2.1).trans C5.out);go_simp;(try with_reducible rfl))
   try simp only [Act.put,List.getElem_toArray,List.getElem_cons_succ,List.getElem_cons_zero,List.setIfInBounds_toArray,List.set_cons_zero,List.set_cons_succ]
   refine aJ (i:=4) (v:=?_) rfl (by kernel_rfl) (by kernel_rfl) (by kernel_rfl) (by kernel_rfl) (fun _ _ _ h=>h) (Or.inl ⟨by rfl, ?_⟩) (by assumption) ?_
   rotate_left
   ·(intro w0 hSw;go_simp;(try with_reducible rfl))
   try simp only [Act.put,List.getElem_toArray,List.getElem_cons_succ,List.getElem_cons_zero,List.setIfInBounds_toArray,List.set_cons_zero,List.set_cons_succ]
   refine aJ (i:=5) (v:=?_) rfl (by kernel_rfl) (by kernel_rfl) (by kernel_rfl) (by kernel_rfl) (fun _ _ _ h=>h) (Or.inl ⟨by rfl, ?_⟩) (by assumption) ?_
   rotate_left
   ·(intro w0 hSw;have lk:=LK5.out _ hSw;go_simp;(try with_reducible rfl))
   try simp only [Act.put,List.getElem_toArray,List.getElem_cons_succ,List.getElem_cons_zero,List.setIfInBounds_toArray,List.set_cons_zero,List.set_cons_succ]
   refine bQ (j:=6) (by kernel_rfl) (by kernel_rfl) rfl (fun K hK=>?_)
   go_simp
   go_at_call 71
   refine (IT.out _ (P5.out.below (Below.refl _ _).drew)).mono ?_
   rintro e w6 ⟨rfl,b6⟩
   have hS6:=hHeld.trans b6
   clear b6 hHeld IT
   go_simp
   refine hK.out _ _ hS6 (fun hHeld=>?_)
   clear hK K hS6
   try simp only [Act.put,List.getElem_toArray,List.getElem_cons_succ,List.getElem_cons_zero,List.setIfInBounds_toArray,List.set_cons_zero,List.set_cons_succ]
   refine aJ (i:=7) (v:=?_) rfl (by kernel_rfl) (by kernel_rfl) (by kernel_rfl) (by kernel_rfl) (fun _ _ _ h=>h) (Or.inl ⟨by rfl, ?_⟩) (by assumption) ?_
   rotate_left
   ·(intro w0 hSw;go_simp;rw [if_neg (by omega)];(try with_reducible rfl))
   try simp only [Act.put,List.getElem_toArray,List.getElem_cons_succ,List.getElem_cons_zero,List.setIfInBounds_toArray,List.set_cons_zero,List.set_cons_succ]
   refine dF (by kernel_rfl) (by kernel_rfl) rfl (fun K hK=>?_)
   go_simp
   have EY : encY s = .agg #[str [117],str s.name,.int .i64 s.ar]:=by unfold encY;rw [E1.out]
   have VV : (.string ({ data:=#[117] } ++ { data:=T2.toArray }) : Value) = str (Sy.told σ s):=by rw [TD.out];rw [K1.out,mk_app117]
   obtain ⟨w7,hrun,m7,g7⟩:=(ADD.out.1 w6 hHeld).store keyY uV (by have:=HL.out;unfold maxLen;omega) HS.out (.string ({ data:=#[117] } ++ { data:=T2.toArray }))
   rw [EY] at hrun
   rw [hrun]
   rw [VV] at m7
   obtain ⟨na,b2⟩:=ADD.out.2 w6 w7 hHeld g7 m7
   have B2:=Lib.hid b2
   have LK:=na.look HS.out
   rw [EY,if_pos (by simp),oV HIN.out] at LK
   obtain ⟨c0,-⟩:=row1 na.hg
   obtain ⟨y0,y1,y2⟩:=row3 ((g7.block W.heap.size (by have:=LG.out;have:=hHeld.size;omega) (eE (ADD.out.1 w6 hHeld) ((hHeld.block W.heap.size LG.out.2.2).trans R5.out))).trans ((hHeld.block W.heap.size LG.out.2.2).trans R5.out))
   have NA:=Lib.hid na
   clear na b2 m7 g7 hrun hHeld ADD VV EY
   go_simp
   refine hK.out _ _ ?_
   clear hK K
   go_wp2
   go_ret
   exact ⟨rfl,NA.out,(But2.of_below BW.out).trans B2.out⟩
  ·obtain ⟨T1,hT1⟩ : ∃ T1,Lib.itoa (s.ar : Int) = T1:=⟨_,rfl⟩
   have TL1 : T1.length ≤ 8:=by rw [← hT1];exact fO (by have:=HS.out.2;omega)
   have K1 : Hid (s.kind = [s.sort] ++ T1):=by show s.kind = _;rw [← hT1];simp [Sy.kind,hu]
   have IA : Hid (∀ w,cK w → Calls Tryz.prog 71 #[.int .i64 s.ar] w fun e w'=>e = .returned (str T1) ∧ Below w.heap.size w w'):=fun w hp=>by rw [← hT1];exact wQ _ (by omega) (by have:=HS.out.2;omega) w hp
   have LKC : Hid (∀ w',Below W1.heap.size W1 w' → (Instr.lookup 111 (.map (some cm)) (.string ({ data:=#[s.sort] } ++ { data:=T1.toArray })) false).run Tryz.prog w' = .ok (.int .i64 z) w'):=fun w' hb=>by
    have:=(H1.out.below hb).count OKK.out
    rw [HZ.out,K1.out,← xU] at this
    exact this
   have KV : Hid ((.string ({ data:=#[s.sort] } ++ { data:=T1.toArray }) : Value) = str s.kind):=by show _ = _;rw [K1.out,xU]
   have TL0 : ¬ (9223372036854775807 < 1 + T1.length):=by omega
   have HU : (s.sort == 117) = false:=by simpa using hu
   clear hT1 hu
   go_wp2_with (first
    | (
      go_at_call 71
      refine (IA.out _ HP.out).mono ?_
      rintro e w2 ⟨rfl,b2⟩
      have lk1:=LKC.out _ b2
      replace H1 : Hid (aY g1 c1 gm cm σ w2):=H1.out.below b2
      replace R0 : Hid (w2.heap[W.heap.size]? = some (.cells #[str [s.sort],str s.name,.int .i64 s.ar] 104 (0,0))):=(b2.block _ (Array.getElem?_eq_some_iff.1 R0.out).1).trans R0.out
      replace BW : Hid (Below W.heap.size W w2):=BW.out.trans (b2.mono BW.out.size)
      replace HP : Hid (cK w2):=cK.below HP.out b2
      clear LK2 y0 y1 y2 c0 d0 hW1 IA b2
      obtain ⟨y0,y1,y2⟩:=row3 R0.out
      obtain ⟨c0,-⟩:=row1 H1.out.hg
      obtain ⟨d0,-⟩:=row1 H1.out.hc)
    | (at_mapUpdate;obtain ⟨S0,hS0⟩:=H1.out.counts;refine fC rfl _ _ _ 111 rfl 3 keyS gQ rfl hS0 (by have:=HL.out;unfold maxLen;omega) s.kind OKK.out KV.out ?_;intro w5 hm5 hg5))
   have ADD:=Lib.hid (H1.out.add HIN.out OKK.out (z + 1) (by rw [HZ.out]) (Below.refl _ _) hg5 hm5)
   have LK5 : Hid (∀ w',Below w5.heap.size w5 w' → (Instr.lookup 111 (.map (some cm)) (.string ({ data:=#[s.sort] } ++ { data:=T1.toArray })) false).run Tryz.prog w' = .ok (.int .i64 (z + 1)) w'):=fun w' hb=>by
    have:=(hm5.below hb).look keyS gQ (pX w') OKK.out
    rw [KV.out]
    simp only [if_true] at this
    exact this
   have G5 : Hid (w5.heap[g1]? = some (.cells #[.map (some gm)] 117 (0,0))):=(hg5.block _ (Array.getElem?_eq_some_iff.1 H1.out.hg).1 (eE hS0 H1.out.hg)).trans H1.out.hg
   have C5 : Hid (w5.heap[c1]? = some (.cells #[.map (some cm)] 111 (0,0))):=(hg5.block _ (Array.getElem?_eq_some_iff.1 H1.out.hc).1 (eE hS0 H1.out.hc)).trans H1.out.hc
   have R5 : Hid (w5.heap[W.heap.size]? = some (.cells #[str [s.sort],str s.name,.int .i64 s.ar] 104 (0,0))):=(hg5.block _ (Array.getElem?_eq_some_iff.1 R0.out).1 (eE hS0 R0.out)).trans R0.out
   have P5 : Hid (cK w5):=cK.but HP.out (But2.right (R:=gm) hg5) H1.out.given.isMap hS0.isMap
   have LE5 : Hid (w2.heap.size ≤ w5.heap.size):=hg5.size
   have LG : Hid (g1 < w5.heap.size ∧ c1 < w5.heap.size ∧ W.heap.size < w5.heap.size):=⟨(Array.getElem?_eq_some_iff.1 G5.out).1,(Array.getElem?_eq_some_iff.1 C5.out).1,(Array.getElem?_eq_some_iff.1 R5.out).1⟩
   clear hm5 hg5 hS0 lk1 LKC y0 y1 y2 c0 d0
   refine dG (q:=8) (S:=fun w'=>Below w5.heap.size w5 w') (by kernel_rfl) (Below.refl _ _).drew (fun hHeld=>?_)
   refine aJ (i:=0) (v:=?_) rfl (by kernel_rfl) (by kernel_rfl) (by kernel_rfl) (by kernel_rfl) (fun _ _ _ h=>h) (Or.inl ⟨by rfl, ?_⟩) (by assumption) ?_
   rotate_left
   ·(intro w0 hSw;obtain ⟨z0,-⟩:=row1 ((hSw.block g1 LG.out.1).trans G5.out);go_simp;(try with_reducible rfl))
   try simp only [Act.put,List.getElem_toArray,List.getElem_cons_succ,List.getElem_cons_zero,List.setIfInBounds_toArray,List.set_cons_zero,List.set_cons_succ]
   refine aJ (i:=1) (v:=?_) rfl (by kernel_rfl) (by kernel_rfl) (by kernel_rfl) (by kernel_rfl) (fun _ _ _ h=>h) (Or.inl ⟨by rfl, ?_⟩) (by assumption) ?_
   rotate_left
   ·(intro w0 hSw;obtain ⟨z0,z1,z2⟩:=row3 ((hSw.block W.heap.size LG.out.2.2).trans R5.out);go_simp;(try with_reducible rfl))
   try simp only [Act.put,List.getElem_toArray,List.getElem_cons_succ,List.getElem_cons_zero,List.setIfInBounds_toArray,List.set_cons_zero,List.set_cons_succ]
   refine aJ (i:=2) (v:=?_) rfl (by kernel_rfl) (by kernel_rfl) (by kernel_rfl) (by kernel_rfl) (fun _ _ _ h=>h) (Or.inl ⟨by rfl, ?_⟩) (by assumption) ?_
   rotate_left
   ·(intro w0 hSw;go_simp;(try with_reducible rfl))
   try simp only [Act.put,List.getElem_toArray,List.getElem_cons_succ,List.getElem_cons_zero,List.setIfInBounds_toArray,List.set_cons_zero,List.set_cons_succ]
   refine aJ (i:=3) (v:=?_) rfl (by kernel_rfl) (by kernel_rfl) (by kernel_rfl) (by kernel_rfl) (fun _ _ _ h=>h) (Or.inl ⟨by rfl, ?_⟩) (by assumption) ?_
   rotate_left
   ·(intro w0 hSw;obtain ⟨z0,-⟩:=row1 ((hSw.block c1 LG.out.2.1).trans C5.out);go_simp;(try with_reducible rfl))
   try simp only [Act.put,List.getElem_toArray,List.getElem_cons_succ,List.getElem_cons_zero,List.setIfInBounds_toArray,List.set_cons_zero,List.set_cons_succ]
   refine aJ (i:=4) (v:=?_) rfl (by kernel_rfl) (by kernel_rfl) (by kernel_rfl) (by kernel_rfl) (fun _ _ _ h=>h) (Or.inl ⟨by rfl, ?_⟩) (by assumption) ?_
   rotate_left
   ·(intro w0 hSw;go_simp;(try with_reducible rfl))
   try simp only [Act.put,List.getElem_toArray,List.getElem_cons_succ,List.getElem_cons_zero,List.setIfInBounds_toArray,List.set_cons_zero,List.set_cons_succ]
   refine aJ (i:=5) (v:=?_) rfl (by kernel_rfl) (by kernel_rfl) (by kernel_rfl) (by kernel_rfl) (fun _ _ _ h=>h) (Or.inl ⟨by rfl, ?_⟩) (by assumption) ?_
   rotate_left
   ·(intro w0 hSw;have lk:=LK5.out _ hSw;go_simp;(try with_reducible rfl))
   try simp only [Act.put,List.getElem_toArray,List.getElem_cons_succ,List.getElem_cons_zero,List.setIfInBounds_toArray,List.set_cons_zero,List.set_cons_succ]
   refine bQ (j:=6) (by kernel_rfl) (by kernel_rfl) rfl (fun K hK=>?_)
   go_simp
   go_at_call 71
   refine (IT.out _ (P5.out.below (Below.refl _ _).drew)).mono ?_
   rintro e w6 ⟨rfl,b6⟩
   have hS6:=hHeld.trans b6
   clear b6 hHeld IT
   go_simp
   refine hK.out _ _ hS6 (fun hHeld=>?_)
   clear hK K hS6
   try simp only [Act.put,List.getElem_toArray,List.getElem_cons_succ,List.getElem_cons_zero,List.setIfInBounds_toArray,List.set_cons_zero,List.set_cons_succ]
   refine aJ (i:=7) (v:=?_) rfl (by kernel_rfl) (by kernel_rfl) (by kernel_rfl) (by kernel_rfl) (fun _ _ _ h=>h) (Or.inl ⟨by rfl, ?_⟩) (by assumption) ?_
   rotate_left
   ·(intro w0 hSw;go_simp;rw [if_neg (by omega)];(try with_reducible rfl))
   try simp only [Act.put,List.getElem_toArray,List.getElem_cons_succ,List.getElem_cons_zero,List.setIfInBounds_toArray,List.set_cons_zero,List.set_cons_succ]
   refine dF (by kernel_rfl) (by kernel_rfl) rfl (fun K hK=>?_)
   go_simp
   have EY : encY s = .agg #[str [s.sort],str s.name,.int .i64 s.ar]:=rfl
   have VV : (.string (({ data:=#[s.sort] } ++ { data:=T1.toArray }) ++ { data:=T2.toArray }) : Value) = str (Sy.told σ s):=by rw [TD.out];rw [K1.out,iB,iB]
   obtain ⟨w7,hrun,m7,g7⟩:=(ADD.out.1 w6 hHeld).store keyY uV (by have:=HL.out;unfold maxLen;omega) HS.out (.string (({ data:=#[s.sort] } ++ { data:=T1.toArray }) ++ { data:=T2.toArray }))
   rw [EY] at hrun
   rw [hrun]
   rw [VV] at m7
   obtain ⟨na,b2⟩:=ADD.out.2 w6 w7 hHeld g7 m7
   have B2:=Lib.hid b2
   have LK:=na.look HS.out
   rw [EY,if_pos (by simp),oV HIN.out] at LK
   obtain ⟨c0,-⟩:=row1 na.hg
   obtain ⟨y0,y1,y2⟩:=row3 ((g7.block W.heap.size (by have:=LG.out;have:=hHeld.size;omega) (eE (ADD.out.1 w6 hHeld) ((hHeld.block W.heap.size LG.out.2.2).trans R5.out))).trans ((hHeld.block W.heap.size LG.out.2.2).trans R5.out))
   have NA:=Lib.hid na
   clear na b2 m7 g7 hrun hHeld ADD VV EY
   go_simp
   refine hK.out _ _ ?_
   clear hK K
   go_wp2
   go_ret
   exact ⟨rfl,NA.out,(But2.of_below BW.out).trans B2.out⟩
end Go.Proofs.YtppfalbnhnpbnaaGreatDoor
