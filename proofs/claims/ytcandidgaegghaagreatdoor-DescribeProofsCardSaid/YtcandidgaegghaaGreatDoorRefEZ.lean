/- lyceumref02: row, term, rows, Right. Conditions: names fit into memory; at most a million nodes. -/
import Derived.Test.YtcandidgaegghaaGreatDoorCpZ
import Derived.Test.YtcandidgaegghaaGreatDoorRefDZ
import Derived.Test.YtcandidgaegghaaGreatDoorRefBZ
set_option maxRecDepth 10000
set_option linter.unusedSimpArgs false
set_option linter.unusedVariables false
namespace Go.Proofs.YtcandidgaegghaaGreatDoor
open Go Go.RowKit Ly
set_option maxHeartbeats 3200000
theorem row_atom (n : Bs) (a : Option Addr) (k c : Nat) (a' : Option Addr) (m d : Nat) (w : World) (hn : n.length ≤ 9223372036854775807) (hk : k ≤ 9223372036854775807) (hm : m ≤ 9223372036854775807) :
  Calls Tryz.prog 273 #[.agg #[.int .u8 1,str n,.slice a k c,.slice a' m d],.bool false] w (Rt (.bool (rowB 1 n k m)) w):=by
 have HB : Hid (Below w.heap.size w (w.alloc (.cells #[.int .u8 1,str n,.slice a k c,.slice a' m d] 25))):=bnew
 have R : Hid (∀ W,Calls Tryz.prog 216 #[str n] W fun e w'=>e = .returned (.bool (bN n)) ∧ W = w'):=fun W=>Predicate2_c n W hn
 have E : Hid (rowB 1 n k m = (bN n && (decide (k ≤ 4) && decide (m = 0)))):=rfl
 generalize bN n = B at R E
 clear hn
 cases B <;> by_cases h1 : k ≤ 4 <;> by_cases h2 : m = 0
 all_goals
  try subst h2
  go_enter Tryz.func273,Tryz.ntmps273
  go_wp2_with (go_at_call 216;refine (R.out _).mono ?_;rintro e w1 ⟨rfl,rfl⟩)
  go_ret
  exact ⟨aY (by rw [E.out];first | (simp_all;done) | (simp_all;omega)),HB.out⟩
theorem row_zero (op : Int) (hop : op = 2) (n : Bs) (a : Option Addr) (k c : Nat) (a' : Option Addr) (m d : Nat) (w : World) (hk : k ≤ 9223372036854775807) (hm : m ≤ 9223372036854775807) :
  Calls Tryz.prog 273 #[.agg #[.int .u8 op,str n,.slice a k c,.slice a' m d],.bool false] w (Rt (.bool (rowB op n k m)) w):=by
 subst hop
 have HB : Hid (Below w.heap.size w (w.alloc (.cells #[.int .u8 2,str n,.slice a k c,.slice a' m d] 25))):=bnew
 have E : Hid (rowB 2 n k m = (n.isEmpty && (decide (k = 0) && decide (m = 0)))):=rfl
 cases n <;> by_cases h1 : k = 0 <;> by_cases h2 : m = 0
 all_goals
  try subst h1
  try subst h2
  go_enter Tryz.func273,Tryz.ntmps273
  go_wp2_with fail
  go_ret
  exact ⟨aY (by rw [E.out];first | (simp_all;done) | (simp_all;omega)),HB.out⟩
theorem row_one (op : Int) (hop : op = 3 ∨ op = 10 ∨ op = 11 ∨ op = 12 ∨ op = 13) (n : Bs) (a : Option Addr) (k c : Nat) (a' : Option Addr) (m d : Nat) (w : World) (hk : k ≤ 9223372036854775807) (hm : m ≤ 9223372036854775807) :
  Calls Tryz.prog 273 #[.agg #[.int .u8 op,str n,.slice a k c,.slice a' m d],.bool false] w (Rt (.bool (rowB op n k m)) w):=by
 have HB : Hid (Below w.heap.size w (w.alloc (.cells #[.int .u8 op,str n,.slice a k c,.slice a' m d] 25))):=bnew
 have E : Hid (rowB op n k m = (n.isEmpty && (decide (k = 0) && decide (m = 1)))):=by rcases hop with rfl | rfl | rfl | rfl | rfl <;> rfl
 rcases hop with rfl | rfl | rfl | rfl | rfl
 all_goals
  cases n <;> by_cases h1 : k = 0 <;> by_cases h2 : m = 1
  all_goals
   try subst h1
   try subst h2
   go_enter Tryz.func273,Tryz.ntmps273
   go_wp2_with fail
   go_ret
   exact ⟨aY (by rw [E.out];first | (simp_all;done) | (simp_all;omega)),HB.out⟩
theorem row_two (op : Int) (hop : op = 4 ∨ op = 5 ∨ op = 6 ∨ op = 7 ∨ op = 14) (n : Bs) (a : Option Addr) (k c : Nat) (a' : Option Addr) (m d : Nat) (w : World) (hk : k ≤ 9223372036854775807) (hm : m ≤ 9223372036854775807) :
  Calls Tryz.prog 273 #[.agg #[.int .u8 op,str n,.slice a k c,.slice a' m d],.bool false] w (Rt (.bool (rowB op n k m)) w):=by
 have HB : Hid (Below w.heap.size w (w.alloc (.cells #[.int .u8 op,str n,.slice a k c,.slice a' m d] 25))):=bnew
 have E : Hid (rowB op n k m = (n.isEmpty && (decide (k = 0) && decide (m = 2)))):=by rcases hop with rfl | rfl | rfl | rfl | rfl <;> rfl
 rcases hop with rfl | rfl | rfl | rfl | rfl
 all_goals
  cases n <;> by_cases h1 : k = 0 <;> by_cases h2 : m = 2
  all_goals
   try subst h1
   try subst h2
   go_enter Tryz.func273,Tryz.ntmps273
   go_wp2_with fail
   go_ret
   exact ⟨aY (by rw [E.out];first | (simp_all;done) | (simp_all;omega)),HB.out⟩
theorem row_quant (op : Int) (hop : op = 8 ∨ op = 9) (n : Bs) (a : Option Addr) (k c : Nat) (a' : Option Addr) (m d : Nat) (w : World) (hn : n.length ≤ 9223372036854775807) (hk : k ≤ 9223372036854775807) (hm : m ≤ 9223372036854775807) :
  Calls Tryz.prog 273 #[.agg #[.int .u8 op,str n,.slice a k c,.slice a' m d],.bool false] w (Rt (.bool (rowB op n k m)) w):=by
 have HB : Hid (Below w.heap.size w (w.alloc (.cells #[.int .u8 op,str n,.slice a k c,.slice a' m d] 25))):=bnew
 have R : Hid (∀ W,Calls Tryz.prog 214 #[str n] W fun e w'=>e = .returned (.bool (aZ n)) ∧ W = w'):=fun W=>uS n W hn
 have E : Hid (rowB op n k m = (aZ n && (decide (k = 0) && decide (m = 1)))):=by rcases hop with rfl | rfl <;> rfl
 generalize aZ n = B at R E
 clear hn
 rcases hop with rfl | rfl
 all_goals
  cases B <;> by_cases h1 : k = 0 <;> by_cases h2 : m = 1
  all_goals
   try subst h1
   try subst h2
   go_enter Tryz.func273,Tryz.ntmps273
   go_wp2_with (go_at_call 214;refine (R.out _).mono ?_;rintro e w1 ⟨rfl,rfl⟩)
   go_ret
   exact ⟨aY (by rw [E.out];first | (simp_all;done) | (simp_all;omega)),HB.out⟩
theorem row_none (op : Int) (h0 : 0 ≤ op ∧ op < 256) (hop : op ≤ 0 ∨ 15 ≤ op) (n : Bs) (a : Option Addr) (k c : Nat) (a' : Option Addr) (m d : Nat) (w : World) (hk : k ≤ 9223372036854775807) (hm : m ≤ 9223372036854775807) :
  Calls Tryz.prog 273 #[.agg #[.int .u8 op,str n,.slice a k c,.slice a' m d],.bool false] w (Rt (.bool false) w):=by
 have HB : Hid (Below w.heap.size w (w.alloc (.cells #[.int .u8 op,str n,.slice a k c,.slice a' m d] 25))):=bnew
 rcases (show op = 15 ∨ op = 16 ∨ op = 0 ∨ 17 ≤ op by omega) with rfl | rfl | rfl | h
 case inr.inr.inr =>
  have n1 : ¬ op = 1:=by omega
  have n2 : ¬ op = 2:=by omega
  have n3 : ¬ op = 3:=by omega
  have n4 : ¬ op = 4:=by omega
  have n5 : ¬ op = 5:=by omega
  have n6 : ¬ op = 6:=by omega
  have n7 : ¬ op = 7:=by omega
  have n8 : ¬ op = 8:=by omega
  have n9 : ¬ op = 9:=by omega
  have n10 : ¬ op = 10:=by omega
  have n11 : ¬ op = 11:=by omega
  have n12 : ¬ op = 12:=by omega
  have n13 : ¬ op = 13:=by omega
  have n14 : ¬ op = 14:=by omega
  have n15 : ¬ op = 15:=by omega
  have n16 : ¬ op = 16:=by omega
  clear hop h h0
  go_enter Tryz.func273,Tryz.ntmps273
  go_wp2_with fail
  go_ret
  exact ⟨rfl,HB.out⟩
 all_goals
  go_enter Tryz.func273,Tryz.ntmps273
  go_wp2_with fail
  go_ret
  exact ⟨rfl,HB.out⟩
theorem row_c (op : Int) (h0 : 0 ≤ op ∧ op < 256) (n : Bs) (a : Option Addr) (k c : Nat) (a' : Option Addr) (m d : Nat) (w : World) (hn : n.length ≤ 9223372036854775807) (hk : k ≤ 9223372036854775807) (hm : m ≤ 9223372036854775807) :
  Calls Tryz.prog 273 #[.agg #[.int .u8 op,str n,.slice a k c,.slice a' m d],.bool false] w (Rt (.bool (rowB op n k m)) w):=by
 by_cases h1 : op = 1
 ·subst h1;exact row_atom n a k c a' m d w hn hk hm
 by_cases h2 : op = 2
 ·exact row_zero op h2 n a k c a' m d w hk hm
 by_cases h3 : op = 3 ∨ op = 10 ∨ op = 11 ∨ op = 12 ∨ op = 13
 ·exact row_one op h3 n a k c a' m d w hk hm
 by_cases h4 : op = 4 ∨ op = 5 ∨ op = 6 ∨ op = 7 ∨ op = 14
 ·exact row_two op h4 n a k c a' m d w hk hm
 by_cases h5 : op = 8 ∨ op = 9
 ·exact row_quant op h5 n a k c a' m d w hn hk hm
 have e : rowB op n k m = false:=by unfold rowB;rw [if_neg h1,if_neg h2,if_neg h3,if_neg h4,if_neg h5]
 rw [e]
 exact row_none op h0 (by omega) n a k c a' m d w hk hm
theorem zC {l : List Tm} : ∀ {j : Nat} {T : Tm},l[j]? = some T → cJ (l.take (j + 1)) = (cJ (l.take j) && T.ok):=by
 induction l with
 | nil=>intro j T h;simp at h
 | cons t ts ih =>
  intro j T h
  cases j with
  | zero=>simp at h;subst h;simp [cJ]
  | succ j=>simp only [List.take_succ_cons,cJ];rw [ih (j:=j) (by simpa using h),Bool.and_assoc]
theorem fmsOk_take {l : List Fm} : ∀ {j : Nat} {T : Fm},l[j]? = some T → dR (l.take (j + 1)) = (dR (l.take j) && T.ok):=by
 induction l with
 | nil=>intro j T h;simp at h
 | cons t ts ih =>
  intro j T h
  cases j with
  | zero=>simp at h;subst h;simp [dR]
  | succ j=>simp only [List.take_succ_cons,dR];rw [ih (j:=j) (by simpa using h),Bool.and_assoc]
theorem GO {l : List Tm} {T : Tm} (hm : T ∈ l) (h : T.ok = false) : cJ l = false:=by
 induction l with
 | nil=>cases hm
 | cons t ts ih =>
  rcases List.mem_cons.1 hm with rfl | hm
  ·simp [cJ,h]
  ·simp [cJ,ih hm]
theorem fmsOk_no {l : List Fm} {T : Fm} (hm : T ∈ l) (h : T.ok = false) : dR l = false:=by
 induction l with
 | nil=>cases hm
 | cons t ts ih =>
  rcases List.mem_cons.1 hm with rfl | hm
  ·simp [dR,h]
  ·simp [dR,ih hm]
def TmK (t : Tm) : Prop:=∀ (w0 w : World) (x : Value),iS w0 t x → Below w0.heap.size w0 w → t.sz → Calls Tryz.prog 274 #[x,.bool false] w (Rt (.bool t.ok) w)
theorem tm_step (v : Bool) (n : Bs) (ts : List Tm) (hh : ∀ t ∈ ts,TmK t) : TmK (.mk v n ts):=by
 intro w0 w x hx hw hz
 obtain ⟨a,k,c,rfl,hx⟩:=hx
 simp only [Tm.v,Tm.name,Tm.args] at *
 rw [Tm.sz] at hz
 have hk:=hx.len
 have hlk : k ≤ 9223372036854775807:=by have:=le63 hk.2.2;omega
 have hln : n.length ≤ 9223372036854775807:=by have:=le63 hz.1;omega
 have L1:=Hd hk.1
 have H:=Hd hh
 have HX:=Hd hx
 have HW:=Hd hw
 have SZ:=Hd ((lA ts).1 hz.2)
 have NEW:=Hd (heap_alloc_new w (.cells #[.bool v,str n,.slice a k c] 95))
 have HB : Hid (Below w.heap.size w (w.alloc (.cells #[.bool v,str n,.slice a k c] 95))):=bnew
 have RV : Hid (∀ W,Calls Tryz.prog 214 #[str n] W fun e w'=>e = .returned (.bool (aZ n)) ∧ W = w'):=fun W=>uS n W hln
 have RF : Hid (∀ W,Calls Tryz.prog 215 #[str n] W fun e w'=>e = .returned (.bool (dO n)) ∧ W = w'):=fun W=>Function2_c n W hln
 have E : Hid ((Tm.mk v n ts).ok = if v then ts.isEmpty && aZ n else decide (ts.length ≤ 4) && dO n && cJ ts):=by show _ = _;rw [Tm.ok]
 generalize aZ n = BV at RV E
 generalize dO n = BF at RF E
 clear hk hh hx hw hz hln
 cases v
 ·clear RV
  go_enter Tryz.func274,Tryz.ntmps274
  go_wp2_with fail
  go_loopw [5] (fun i wr=>∃ j : Nat,j ≤ k ∧ i = .int .i64 j ∧ Hid (cJ (ts.take j) = true ∧ Below w.heap.size w wr ∧ wr.heap[w.heap.size]? = some (.cells #[.bool false,str n,.slice a k c] 95 (0,0)))) (fun i _=>k - (intOf i).toNat)
  case atStart=>exact ⟨0,Nat.zero_le _,rfl,by simp [cJ],HB.out,NEW.out⟩
  case round =>
   obtain ⟨j,hj,rfl,hs⟩:=hrel
   obtain ⟨x0,x1,x2,-,-,-⟩:=row95' hs.out.2.2
   by_cases hlt : j < k
   ·obtain ⟨T,hT⟩:=aF (l:=ts) (j:=j) (by rw [← L1.out];exact hlt)
    obtain ⟨bb,off,rfl,hc⟩:=HX.out.get (aJ hT)
    obtain ⟨y0,y1,y2,hy⟩:=hc j _ hT
    have hK:=aA (aB HW.out hs.out.2.1)
    have c0:=hK _ _ hy.c0;have c1:=hK _ _ hy.c1;have c2:=hK _ _ hy.c2
    have X : Hid (iS w0 T (.agg #[.bool T.v,str T.name,.slice y0 y1 y2])):=⟨_,_,_,rfl,hy.at_⟩
    have HM:=Hd (List.mem_of_getElem? hT)
    have TK:=Hd (zC hT)
    obtain ⟨q,hq⟩ : ∃ q,T.ok = q:=⟨_,rfl⟩
    have HQ:=Hd hq
    clear hc hy hT hK hq
    cases q
    all_goals
     go_wp2_with (go_at_call 274;refine (H.out T HM.out w0 _ _ X.out (aB HW.out hs.out.2.1) (SZ.out T HM.out)).mono ?_;rintro e w3 ⟨rfl,b3⟩;rw [show T.ok = _ from HQ.out])
    ·go_ret
     refine ⟨aY ?_,aB hs.out.2.1 b3⟩
     rw [E.out,GO HM.out HQ.out,Bool.and_false];rfl
    ·go_roundw
     case rel=>exact ⟨j + 1,by omega,by go_num,by rw [TK.out,hs.out.1,HQ.out];rfl,aB hs.out.2.1 b3,kc b3 hs.out.2.2⟩
     case measure=>simp [intOf];omega
   ·have hA : Hid (cJ ts = true):=by
     have:=hs.out.1
     rwa [List.take_of_length_le (by rw [← L1.out];omega)] at this
    cases BF <;> by_cases h4 : k ≤ 4
    all_goals
     go_wp2_with (go_at_call 215;refine (RF.out _).mono ?_;rintro e w1 ⟨rfl,rfl⟩)
     go_ret
     refine ⟨aY ?_,hs.out.2.1⟩
     rw [E.out,hA.out,← L1.out]
     first | (simp_all;done) | (simp_all;omega)
 ·clear RF
  have e0 : ts.isEmpty = decide (k = 0):=by rw [L1.out];cases ts <;> simp
  have E0:=Hd e0
  clear e0
  cases BV <;> by_cases h4 : k = 0
  all_goals
   try subst h4
   go_enter Tryz.func274,Tryz.ntmps274
   go_wp2_with (go_at_call 214;refine (RV.out _).mono ?_;rintro e w1 ⟨rfl,rfl⟩)
   go_ret
   refine ⟨aY ?_,HB.out⟩
   rw [E.out,E0.out]
   first | (simp_all;done) | (simp_all;omega)
mutual
theorem BN : ∀ t : Tm,TmK t
 | .mk v n ts=>tm_step v n ts (yM ts)
theorem yM : ∀ l : List Tm,∀ t ∈ l,TmK t
 | [],_,h=>by cases h
 | x :: xs,t,h=>by
  rcases List.mem_cons.1 h with e | e
  ·rw [e];exact BN x
  ·exact yM xs t e
end
def FmK (f : Fm) : Prop:=∀ (w0 w : World) (x : Value),bV w0 f x → Below w0.heap.size w0 w → f.sz → Calls Tryz.prog 209 #[x,.bool false] w (Rt (.bool f.ok) w)
theorem fm_stepK (op : Int) (n : Bs) (ts : List Tm) (fs : List Fm) (hh : ∀ f ∈ fs,FmK f) : FmK (.mk op n ts fs):=by
 intro w0 w x hx hw hz
 obtain ⟨a,k,c,a',m,d,rfl,hx,hx2⟩:=hx
 simp only [Fm.op,Fm.name,Fm.args,Fm.sub] at *
 rw [Fm.sz] at hz
 obtain ⟨hop,hnm,hz1,hz2⟩:=hz
 have hk:=hx.len
 have hm:=hx2.len
 have hlk : k ≤ 9223372036854775807:=by have:=le63 hk.2.2;omega
 have hlm : m ≤ 9223372036854775807:=by have:=le63 hm.2.2;omega
 have hln : n.length ≤ 9223372036854775807:=by have:=le63 hnm;omega
 have L1:=Hd hk.1
 have L2:=Hd hm.1
 have H:=Hd hh
 have HX:=Hd hx
 have HX2:=Hd hx2
 have HW:=Hd hw
 have SZ:=Hd ((lA ts).1 hz1)
 have SZ2:=Hd ((pW fs).1 hz2)
 have NEW:=Hd (heap_alloc_new w (.cells #[.int .u8 op,str n,.slice a k c,.slice a' m d] 25))
 have HB : Hid (Below w.heap.size w (w.alloc (.cells #[.int .u8 op,str n,.slice a k c,.slice a' m d] 25))):=bnew
 have RW : Hid (∀ W,Calls Tryz.prog 273 #[.agg #[.int .u8 op,str n,.slice a k c,.slice a' m d],.bool false] W (Rt (.bool (rowB op n k m)) W)):=fun W=>row_c op hop n a k c a' m d W hln hlk hlm
 have E : Hid ((Fm.mk op n ts fs).ok = (rowB op n k m && (cJ ts && dR fs))):=by show _ = _;rw [hk.1,hm.1];exact rowB_ok op n ts fs
 generalize rowB op n k m = B at RW E
 clear hk hm hh hx hx2 hw hz1 hz2 hop hnm hln
 cases B
 ·go_enter Tryz.func209,Tryz.ntmps209
  go_wp2_with (go_at_call 273;refine (RW.out _).mono ?_;rintro e w1 ⟨rfl,b1⟩)
  go_ret
  exact ⟨aY (by rw [E.out];rfl),aB HB.out b1⟩
 ·go_enter Tryz.func209,Tryz.ntmps209
  go_wp2_with (go_at_call 273;refine (RW.out _).mono ?_;rintro e w1 ⟨rfl,b1⟩;have B1:=Hd (aB HB.out b1);have NW:=Hd (kc b1 NEW.out);clear b1)
  go_loopw [5] (fun i wr=>∃ j : Nat,j ≤ k ∧ i = .int .i64 j ∧ Hid (cJ (ts.take j) = true ∧ Below w.heap.size w wr ∧ wr.heap[w.heap.size]? = some (.cells #[.int .u8 op,str n,.slice a k c,.slice a' m d] 25 (0,0)))) (fun i _=>k - (intOf i).toNat)
  case atStart=>exact ⟨0,Nat.zero_le _,rfl,by simp [cJ],B1.out,NW.out⟩
  case round =>
   clear B1 NW
   obtain ⟨j,hj,rfl,hs⟩:=hrel
   obtain ⟨x0,x1,x2,x3,-,-,-,-⟩:=row25' hs.out.2.2
   by_cases hlt : j < k
   ·obtain ⟨T,hT⟩:=aF (l:=ts) (j:=j) (by rw [← L1.out];exact hlt)
    obtain ⟨bb,off,rfl,hc⟩:=HX.out.get (aJ hT)
    obtain ⟨y0,y1,y2,hy⟩:=hc j _ hT
    have hK:=aA (aB HW.out hs.out.2.1)
    have c0:=hK _ _ hy.c0;have c1:=hK _ _ hy.c1;have c2:=hK _ _ hy.c2
    have X : Hid (iS w0 T (.agg #[.bool T.v,str T.name,.slice y0 y1 y2])):=⟨_,_,_,rfl,hy.at_⟩
    have HM:=Hd (List.mem_of_getElem? hT)
    have TK:=Hd (zC hT)
    obtain ⟨q,hq⟩ : ∃ q,T.ok = q:=⟨_,rfl⟩
    have HQ:=Hd hq
    clear hc hy hT hK hq
    cases q
    all_goals
     go_wp2_with (go_at_call 274;refine (BN T w0 _ _ X.out (aB HW.out hs.out.2.1) (SZ.out T HM.out)).mono ?_;rintro e w3 ⟨rfl,b3⟩;rw [show T.ok = _ from HQ.out])
    ·go_ret
     refine ⟨aY ?_,aB hs.out.2.1 b3⟩
     rw [E.out,GO HM.out HQ.out];rfl
    ·go_roundw
     case rel=>exact ⟨j + 1,by omega,by go_num,by rw [TK.out,hs.out.1,HQ.out];rfl,aB hs.out.2.1 b3,kc b3 hs.out.2.2⟩
     case measure=>simp [intOf];omega
   ·have hA : Hid (cJ ts = true):=by
     have:=hs.out.1
     rwa [List.take_of_length_le (by rw [← L1.out];omega)] at this
    have BW:=Hd hs.out.2.1
    have NW:=Hd hs.out.2.2
    clear hs HX
    go_wp2_with fail
    clear x0 x1 x2 x3 hj
    go_loopw [6] (fun i wx=>∃ j : Nat,j ≤ m ∧ i = .int .i64 j ∧ Hid (dR (fs.take j) = true ∧ Below w.heap.size w wx ∧ wx.heap[w.heap.size]? = some (.cells #[.int .u8 op,str n,.slice a k c,.slice a' m d] 25 (0,0)))) (fun i _=>m - (intOf i).toNat)
    case atStart=>exact ⟨0,Nat.zero_le _,rfl,by simp [dR],BW.out,NW.out⟩
    case round =>
     clear BW NW
     obtain ⟨j,hj,rfl,hs⟩:=hrel
     obtain ⟨x0,x1,x2,x3,-,-,-,-⟩:=row25' hs.out.2.2
     by_cases hlt : j < m
     ·obtain ⟨T,hT⟩:=aF (l:=fs) (j:=j) (by rw [← L2.out];exact hlt)
      obtain ⟨bb,off,rfl,hc⟩:=HX2.out.get (aJ hT)
      obtain ⟨y0,y1,y2,y3,y4,y5,hy⟩:=hc j _ hT
      have hK:=aA (aB HW.out hs.out.2.1)
      have c0:=hK _ _ hy.c0;have c1:=hK _ _ hy.c1;have c2:=hK _ _ hy.c2;have c3:=hK _ _ hy.c3
      have X : Hid (bV w0 T (.agg #[.int .u8 T.op,str T.name,.slice y0 y1 y2,.slice y3 y4 y5])):=⟨_,_,_,_,_,_,rfl,hy.at_,hy.at'⟩
      have HM:=Hd (List.mem_of_getElem? hT)
      have TK:=Hd (fmsOk_take hT)
      obtain ⟨q,hq⟩ : ∃ q,T.ok = q:=⟨_,rfl⟩
      have HQ:=Hd hq
      clear hc hy hT hK hq
      cases q
      all_goals
       go_wp2_with (go_at_call 209;refine (H.out T HM.out w0 _ _ X.out (aB HW.out hs.out.2.1) (SZ2.out T HM.out)).mono ?_;rintro e w3 ⟨rfl,b3⟩;rw [show T.ok = _ from HQ.out])
      ·go_ret
       refine ⟨aY ?_,aB hs.out.2.1 b3⟩
       rw [E.out,fmsOk_no HM.out HQ.out,Bool.and_false,Bool.and_false]
      ·go_roundw
       case rel=>exact ⟨j + 1,by omega,by go_num,by rw [TK.out,hs.out.1,HQ.out];rfl,aB hs.out.2.1 b3,kc b3 hs.out.2.2⟩
       case measure=>simp [intOf];omega
     ·have hA2 : Hid (dR fs = true):=by
       have:=hs.out.1
       rwa [List.take_of_length_le (by rw [← L2.out];omega)] at this
      go_wp2_with fail
      go_ret
      exact ⟨aY (by rw [E.out,hA.out,hA2.out];rfl),hs.out.2.1⟩
mutual
theorem BM : ∀ t : Fm,FmK t
 | .mk o n ts fs=>fm_stepK o n ts fs (yL fs)
theorem yL : ∀ l : List Fm,∀ t ∈ l,FmK t
 | [],_,h=>by cases h
 | x :: xs,t,h=>by
  rcases List.mem_cons.1 h with e | e
  ·rw [e];exact BM x
  ·exact yL xs t e
end
mutual
theorem tm_depth_le : ∀ t : Tm,t.depth ≤ t.nodes
 | .mk v n ts=>by have:=nW ts;rw [Tm.depth,Tm.nodes];omega
theorem nW : ∀ l : List Tm,bG l ≤ aD l
 | []=>Nat.le_refl _
 | t :: ts=>by have:=tm_depth_le t;have:=nW ts;rw [bG,aD];omega
end
mutual
theorem uX : ∀ t : Fm,t.depth ≤ t.nodes
 | .mk o n ts fs=>by have:=nW ts;have:=sK fs;rw [Fm.depth,Fm.nodes];omega
theorem sK : ∀ l : List Fm,dW l ≤ aK l
 | []=>Nat.le_refl _
 | t :: ts=>by have:=uX t;have:=sK ts;rw [dW,aK];omega
end
theorem refRight_c (f : Fm) (hz : f.sz) (hn : f.nodes ≤ 1000000) (x : Value) (w : World) (hx : bV w f x) : Calls Tryz.prog 130 #[x] w (Rt (.bool f.right) w):=by
 obtain ⟨a,k,c,a',m,d,rfl,h1,h2⟩:=hx
 have X : Hid (bV w f (.agg #[.int .u8 f.op,str f.name,.slice a k c,.slice a' m d])):=⟨_,_,_,_,_,_,rfl,h1,h2⟩
 have HB : Hid (Below w.heap.size w (w.alloc (.cells #[.int .u8 f.op,str f.name,.slice a k c,.slice a' m d] 25))):=bnew
 have NEW:=Hd (heap_alloc_new w (.cells #[.int .u8 f.op,str f.name,.slice a k c,.slice a' m d] 25))
 have R1 : Hid (∀ W,Below w.heap.size w W → Calls Tryz.prog 209 #[.agg #[.int .u8 f.op,str f.name,.slice a k c,.slice a' m d],.bool false] W (Rt (.bool f.ok) W)):=fun W b=>BM f w W _ X.out b hz
 have R2 : Hid (∀ W,Below w.heap.size w W → Calls Tryz.prog 210 #[.agg #[.int .u8 f.op,str f.name,.slice a k c,.slice a' m d]] W (Rt (.int .i64 f.nodes) W)):=fun W b=>JS f w W _ X.out b hn
 have R3 : Hid (∀ W,Below w.heap.size w W → Calls Tryz.prog 211 #[.agg #[.int .u8 f.op,str f.name,.slice a k c,.slice a' m d]] W (Rt (.int .i64 f.depth) W)):=fun W b=>JD f w W _ X.out b (by have:=uX f;omega)
 have E : Hid (f.right = (f.ok && decide (f.nodes ≤ 400) && decide (f.depth ≤ 40))):=rfl
 clear h1 h2 hz
 generalize f.ok = B at R1 E
 obtain ⟨p,hp⟩ : ∃ p,f.nodes = p:=⟨_,rfl⟩
 obtain ⟨q,hq⟩ : ∃ q,f.depth = q:=⟨_,rfl⟩
 rw [hp] at R2 E hn
 rw [hq] at R3 E
 clear hp hq hn
 cases B <;> by_cases e1 : p ≤ 400 <;> by_cases e2 : q ≤ 40
 all_goals
  go_enter Tryz.func130,Tryz.ntmps130
  go_wp2_with (first
   | (go_at_call 209;refine (R1.out _ HB.out).mono ?_;rintro e w1 ⟨rfl,b1⟩;have B1:=Hd (aB HB.out b1);have N1:=Hd (kc b1 NEW.out);clear b1;obtain ⟨x0,x1,x2,x3,-,-,-,-⟩:=row25' N1.out)
   | (go_at_call 210;refine (R2.out _ B1.out).mono ?_;rintro e w2 ⟨rfl,b2⟩;have B2:=Hd (aB B1.out b2);have N2:=Hd (kc b2 N1.out);clear b2;clear x0 x1 x2 x3;obtain ⟨x0,x1,x2,x3,-,-,-,-⟩:=row25' N2.out)
   | (go_at_call 211;refine (R3.out _ B2.out).mono ?_;rintro e w3 ⟨rfl,b3⟩;have B3:=Hd (aB B2.out b3);clear b3))
  go_ret
  refine ⟨aY (by rw [E.out];first | (simp_all;done) | (simp_all;omega)), ?_⟩
  first | exact B3.out | exact B2.out | exact B1.out
end Go.Proofs.YtcandidgaegghaaGreatDoor
