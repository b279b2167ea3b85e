/- Contracts of strconv.Itoa, describe.listed, numbers and addLines, and of describe.Proof at proofs that can be described. -/
import Derived.Test.YtcandidgaegghaaGreatDoorCpZ
import Derived.Test.YtcandidgaegghaaGreatDoorProofAZ
import Derived.Lib.AppendIntMem
import Derived.OneCell
import Derived.Lib.QuietBelow
set_option maxRecDepth 10000
set_option linter.unusedSimpArgs false
set_option linter.unusedVariables false
namespace Go.Proofs.YtcandidgaegghaaGreatDoor
open Go Go.RowKit Ly
open Go.Lib (itoa)
set_option maxHeartbeats 400000
def iK (w : World) : Prop:=Lib.TabIs Tryz.prog w "internal/strconv.uint64pow10" .u64 Lib.pow10Tab
theorem iK.below {w w' : World} (h : iK w) (hb : Below w.heap.size w w') : iK w':=Lib.tabBelow_of_tabIs h w' hb
theorem mC (n : Int) (h0 : 0 ≤ n) (h1 : n ≤ 1000000) (w : World) (hp : iK w) :
  Calls Tryz.prog 35 #[.int .i64 n] w (Rt (str (itoa n)) w) :=
 (Tryz.strconv_Itoa n (by omega) (by omega) w hp).mono fun _ _ ⟨he,k,os,hw⟩=>⟨he,by subst hw;exact Lib.below_grow _ _ (Nat.le_refl _) _ _⟩
theorem eT {n : Int} (h0 : 0 ≤ n) (h1 : n ≤ 1000000) : (itoa n).length ≤ 7:=by
 unfold itoa
 rw [if_neg (by omega)]
 have h : n.toNat ≤ 1000000:=by omega
 have key : ∀ (k m : Nat),m < 10 ^ (k + 1) → (Lib.decDigits m).length ≤ k + 1:=by
  intro k
  induction k with
  | zero=>intro m hm;rw [Lib.decDigits,dif_pos (by omega)];simp
  | succ k ih =>
   intro m hm
   rw [Lib.decDigits]
   split
   ·simp
   ·have:=ih (m / 10) (by rw [Nat.pow_succ] at hm;omega)
    simp;omega
 exact key 6 _ (by omega)
def oZ (l : List Bs) : Bs:=if l.isEmpty then pQ else aT eX l
theorem listedOf_nil : oZ [] = pQ:=rfl
theorem pA {l : List Bs} (h : l ≠ []) : oZ l = aT eX l:=by
 cases l with
 | nil=>exact absurd rfl h
 | cons _ _=>rfl
theorem lI (l : List Int) : numbers l = oZ (l.map itoa):=by unfold numbers oZ;simp
theorem listed_c {B : Nat} {w : World} {l : List Bs} {v : Value} (h : aI B w l v) (h1 : l.length ≤ 1000000) (h2 : (aT eX l).length ≤ 140737488355328) :
  Calls Tryz.prog 144 #[v] w (Rt (str (oZ l)) w):=by
 obtain ⟨a,n,c,rfl⟩:=h.strsAt.slice
 have hl:=h.strsAt.len
 have HO:=Hd h
 have H1:=Hd h1
 have H2:=Hd h2
 have hnl : n ≤ 1000000:=by omega
 by_cases hz : n = 0
 ·subst hz
  have e : l = []:=List.eq_nil_of_length_eq_zero hl.1.symm
  subst e
  clear hl h h1 h2
  go_enter Tryz.func144,Tryz.ntmps144
  go_wp2_with fail
  go_ret
  exact ⟨rfl,Below.refl _ _⟩
 ·have z : ((n : Int) == 0) = false:=by simpa using hz
  have e:=Hd (pA (l:=l) (fun e=>hz (by rw [hl.1,e];rfl)))
  clear hl h h1 h2 hz
  go_enter Tryz.func144,Tryz.ntmps144
  go_wp2_with (go_at_call 37;refine (xK eX HO.out H1.out H2.out).mono ?_;rintro e w1 ⟨rfl,hb1⟩)
  go_ret
  exact ⟨by rw [e.out];rfl,hb1⟩
set_option maxHeartbeats 1600000 in
theorem qC (l : List Int) (hl : ∀ x ∈ l,0 ≤ x ∧ x ≤ 1000000) (hlen : l.length ≤ 1000) (a : Option Addr) (n c : Nat) (w : World) (hp : iK w) (hx : dZ w l (.slice a n c)) :
  Calls Tryz.prog 70 #[.slice a n c] w (Rt (str (numbers l)) w):=by
 have hn:=hx.len
 have hk : n ≤ 1000:=by omega
 have L:=Hd hn.1
 have HX:=Hd hx
 have HP:=Hd hp
 have HL:=Hd hl
 clear hn hx hp hl hlen
 obtain ⟨i0,hi0,hz0,hs0,hb0⟩:=info_parts sP
 go_enter Tryz.func70,Tryz.ntmps70
 go_wp2_with fail
 go_loopw [3,8] (fun u i wr=>∃ j : Nat,j ≤ n ∧ i = .int .i64 j ∧ Hid (aI w.heap.size wr ((l.take j).map itoa) u ∧ Below w.heap.size w wr)) (fun _ i _=>n - (intOf i).toNat)
 case atStart=>exact ⟨0,Nat.zero_le _,rfl,World.ownsRow_nil _ _ _ _,Below.refl _ _⟩
 case round =>
  obtain ⟨j,hj,rfl,hr⟩:=hrel
  by_cases hlt : j < n
  ·obtain ⟨x,hx⟩:=aF (l:=l) (j:=j) (by rw [← L.out];exact hlt)
   obtain ⟨b,off,rfl,hc⟩:=HX.out.get (aJ hx)
   have c0:=aA hr.out.2 _ _ (hc j x hx)
   have x0:=HL.out x (List.mem_of_getElem? hx)
   have x01:=x0.1
   have x02:=x0.2
   have M1:=Hd (xS itoa hx)
   have OWN:=Hd hr.out.1
   have BLW:=Hd hr.out.2
   clear hc hx hr x0
   go_wp2_with fail
   refine (mC x x01 x02 _ (HP.out.below BLW.out)).mono ?_
   rintro e w1 ⟨rfl,b1⟩
   have B1:=Hd b1
   have OWN2:=Hd (aI.below OWN.out b1)
   have BL2:=Hd (BLW.out.trans (b1.mono BLW.out.size))
   have LE : Hid (((l.take j).map itoa).length ≤ 1000):=by show _ ≤ _;simp only [List.length_map,List.length_take];omega
   have E2:=M1
   generalize (l.take j).map itoa = M at *
   clear b1 M1
   have C3 : Hid (M.length + 1 ≤ maxLen ∧ (M.length + 1) * 16 ≤ 140737488355328):=by
    have h1:=LE.out
    exact ⟨by unfold maxLen;omega,by omega⟩
   have C6 : Hid (w.heap.size ≤ (w1.alloc (.cells #[str (itoa x)] 9)).heap.size):=by
    have:=BL2.out.size;show _ ≤ _;simp;omega
   go_wp2_with (at_builtin;refine wpList_append_own _ rfl _ _ 36 rfl w.heap.size 9 i0 (.string ⟨#[]⟩) 1 16 Tryz.underlying36 hi0 hz0 hs0 hb0 rfl (by decide) _ _ _ rfl (OWN2.out.alloc _) ⟨w1.heap.size,0,none⟩ 1 1 [str (itoa x)] rfl rfl (cell_one_new _ _ _) (by intro u hu;simp at hu;subst hu;rfl) C3.out.1 C3.out.2 C6.out ?_)
   intro v' w3 hown2 hg2 _
   have R : Hid (aI w.heap.size w3 ((l.take (j + 1)).map itoa) v' ∧ Below w.heap.size w w3):=by
    refine ⟨?_,(BL2.out.alloc BL2.out.size _).grown hg2 C6.out (fun kk hkk=>(OWN2.out.lt kk hkk).1)⟩
    rw [E2.out]
    unfold aI
    rw [List.length_append,List.map_append]
    exact hown2
   clear hown2 hg2
   go_wp2_with fail
   go_roundw
   case rel=>exact ⟨j + 1,by omega,by go_num,R⟩
   case measure=>simp [intOf];omega
  ·have e : l.take j = l:=List.take_of_length_le (by rw [← L.out];omega)
   have HO : Hid (aI w.heap.size wr (l.map itoa) u3):=by have:=hr.out.1;rw [e] at this;exact this
   have HB:=Hd hr.out.2
   clear hr e
   have J2 : Hid ((l.map itoa).length ≤ 1000000 ∧ (aT eX (l.map itoa)).length ≤ 140737488355328):=by
    have h1 : (l.map itoa).length ≤ 1000:=by rw [List.length_map];have:=L.out;omega
    have h2:=pZ eX (by decide) (l.map itoa) (fun x hx=>by
     obtain ⟨y,hy,rfl⟩:=List.mem_map.1 hx
     have:=eT (HL.out y hy).1 (HL.out y hy).2;omega)
    have h3:=Nat.mul_le_mul_right 1000010 h1
    exact ⟨by omega,by omega⟩
   have E3:=Hd (lI l)
   go_wp2_with (go_at_call 144;refine (listed_c HO.out J2.out.1 J2.out.2).mono ?_;rintro e w1 ⟨rfl,hb1⟩)
   go_ret
   exact ⟨by rw [E3.out];rfl,HB.out.trans (hb1.mono HB.out.size)⟩
open Go Go.RowKit Ly
open Go.Lib (itoa)
set_option maxHeartbeats 400000
theorem mH : ∀ (ps : List Pf) (k j : Nat) (p : Pf),ps[j]? = some p → cE k (ps.take (j + 1)) = cE k (ps.take j) ++ p.lines (k + aE (ps.take j))
 | [],_,_,_,h=>by simp at h
 | q :: ps,k,0,p,h=>by simp at h;subst h;simp [cE,aE]
 | q :: ps,k,j + 1,p,h=>by
  have:=mH ps (k + q.steps) j p (by simpa using h)
  simp only [List.take_succ_cons,cE,aE,List.append_assoc] at this ⊢
  rw [this,Nat.add_assoc]
theorem lM : ∀ (ps : List Pf) (k j : Nat) (ms : List (List Int)) (p : Pf) (m : List Int),ps[j]? = some p → ms[j]? = some m →
  (aO k ps ms).take (j + 1) = (aO k ps ms).take j ++ [dY (k + aE (ps.take j) + p.steps) m]
 | [],_,_,_,_,_,h,_=>by simp at h
 | q :: ps,k,0,ms,p,m,h,hm=>by
  simp at h;subst h
  cases ms with
  | nil=>simp at hm
  | cons x ms=>simp at hm;subst hm;simp [aO,aE]
 | q :: ps,k,j + 1,ms,p,m,h,hm=>by
  cases ms with
  | nil=>simp at hm
  | cons x ms =>
   have:=lM ps (k + q.steps) j ms p m (by simpa using h) (by simpa using hm)
   simp only [aO,List.tail_cons,List.take_succ_cons,List.cons_append,aE] at this ⊢
   rw [this,Nat.add_assoc k]
theorem dH : ∀ (ps : List Pf) (k : Nat) (ms : List (List Int)),(aO k ps ms).length = ps.length
 | [],_,_=>rfl
 | p :: ps,k,ms=>by simp [aO,dH ps]
theorem gY (ps : List Pf) (j : Nat) : aE (ps.take j) ≤ aE ps:=by
 induction ps generalizing j with
 | nil=>simp
 | cons p ps ih =>
  cases j with
  | zero=>simp [aE]
  | succ j=>simp only [List.take_succ_cons,aE];have:=ih j;omega
theorem jU {ps : List Pf} {j : Nat} {p : Pf} (h : ps[j]? = some p) : aE (ps.take (j + 1)) = aE (ps.take j) + p.steps:=by
 induction ps generalizing j with
 | nil=>simp at h
 | cons q ps ih =>
  cases j with
  | zero=>simp at h;subst h;simp [aE]
  | succ j=>have:=ih (j:=j) (by simpa using h);simp only [List.take_succ_cons,aE,this];omega
structure eJ (w : World) (b : Nat) (L : List Bs) (v : Value) : Prop where
 cell : w.heap[b]? = some (.cells #[v] 36 (0,0))
 own : aI (b + 1) w L v
structure eK (b : Nat) (v : Value) (w w' : World) (v' : Value) : Prop where
 os : w'.os = w.os
 tape : w'.tape = w.tape
 output : w'.output = w.output
 size : w.heap.size ≤ w'.heap.size
 block : ∀ k,k < w.heap.size → k ≠ b → v.ownBlock ≠ some k → w'.heap[k]? = w.heap[k]?
 lies : v'.ownBlock = v.ownBlock ∨ ∃ g,v'.ownBlock = some g ∧ w.heap.size ≤ g
theorem eK.refl (b : Nat) (v : Value) (w : World) : eK b v w w v:=⟨rfl,rfl,rfl,Nat.le_refl _,fun _ _ _ _=>rfl,.inl rfl⟩
theorem eK.trans {b : Nat} {v v' v'' : Value} {w w' w'' : World} (h : eK b v w w' v') (k : eK b v' w' w'' v'') : eK b v w w'' v'':=by
 refine ⟨k.os.trans h.os,k.tape.trans h.tape,k.output.trans h.output,Nat.le_trans h.size k.size,fun i hi hb hv=>?_, ?_⟩
 ·refine (k.block i (Nat.lt_of_lt_of_le hi h.size) hb ?_).trans (h.block i hi hb hv)
  rcases h.lies with e | ⟨g,e,hg⟩
  ·rw [e];exact hv
  ·rw [e];intro e2;cases e2;omega
 ·rcases k.lies with e | ⟨g,e,hg⟩
  ·rw [e];exact h.lies
  ·exact .inr ⟨g,e,Nat.le_trans h.size hg⟩
theorem eK.below {b : Nat} {v v' : Value} {w w' w2 : World} (h : eK b v w w' v') (k : Below w'.heap.size w' w2) : eK b v w w2 v' :=
 ⟨k.os.trans h.os,k.tape.trans h.tape,k.output.trans h.output,Nat.le_trans h.size k.size,fun i hi hb hv=>(k.block i (Nat.lt_of_lt_of_le hi h.size)).trans (h.block i hi hb hv),h.lies⟩
theorem eJ.below {w w' : World} {b : Nat} {L : List Bs} {v : Value} (h : eJ w b L v) (k : Below w.heap.size w w') : eJ w' b L v :=
 ⟨by rw [k.block b (Array.getElem?_eq_some_iff.1 h.cell).1];exact h.cell,aI.below h.own k⟩
theorem eJ.lt {w : World} {b : Nat} {L : List Bs} {v : Value} (h : eJ w b L v) : b < w.heap.size:=(Array.getElem?_eq_some_iff.1 h.cell).1
theorem eK.old {b : Nat} {v v' : Value} {w0 w w' : World} {L : List Bs} (h : eK b v w w' v') (hw : Below w0.heap.size w0 w) (hb : w0.heap.size ≤ b) (hL : eJ w b L v) : Below w0.heap.size w0 w':=by
 refine hw.trans ⟨h.os,h.tape,h.output,h.size,fun k hk=>h.block k (Nat.lt_of_lt_of_le hk hw.size) (by omega) ?_⟩
 intro e
 have:=(hL.own.lt k e).1
 omega
theorem aI.onward {B b : Nat} {v v' : Value} {w w' : World} {l : List Bs} {u : Value} (h : aI B w l u) (k : eK b v w w' v') (hb : u.ownBlock ≠ some b) (hd : ∀ g,u.ownBlock = some g → v.ownBlock ≠ some g) : aI B w' l u:=by
 obtain ⟨h1,h2⟩:=h
 refine ⟨h1, ?_⟩
 rcases h2 with h2 | ⟨g,cap,cur,e,hB,hg,r⟩
 ·exact .inl h2
 ·refine .inr ⟨g,cap,cur,e,hB, ?_,r⟩
  rw [k.block g (Array.getElem?_eq_some_iff.1 hg).1 (by intro e2;apply hb;rw [e,e2];rfl) (hd g (by rw [e];rfl))];exact hg
def Lined (p : Pf) (b : Nat) (L : List Bs) (v : Value) (w : World) (e : Ending) (w' : World) : Prop:=∃ v',e = .returned (.int .i64 (L.length + p.steps : Nat)) ∧ eJ w' b (L ++ p.lines L.length) v' ∧ eK b v w w' v'
def CS (p : Pf) : Prop:=∀ (w0 w : World) (b : Nat) (L : List Bs) (v x : Value),iK w0 → cU w0 p x → Below w0.heap.size w0 w → w0.heap.size ≤ b → eJ w b L v → p.ok = true → L.length + p.steps ≤ 100000 →
 Calls Tryz.prog 88 #[.pointer (some ⟨b,0,none⟩),x] w (Lined p b L v w)
open Go Go.RowKit Ly
open Go.Lib (itoa)
theorem lines_end {W1 wc w4 : World} {b : Nat} {v vv v' : Value} {LL : List Bs} {LN : Bs} {o : Obj} (LA : eJ wc b LL vv) (ON : eK b v W1 wc vv)
  (hown : w4.ownsRow (b + 1) 9 1 v' (LL.length + 1) (LL.map str ++ [str LN])) (hg : (wc.alloc o).grownBy w4 vv.ownBlock) (hat : v'.ownBlock = vv.ownBlock ∨ v'.ownBlock = some (wc.heap.size + 1)) :
  w4.heap[b]? = some (.cells #[vv] 36 (0,0)) ∧ eJ (w4.setCell ⟨b,0,none⟩ v') b (LL ++ [LN]) v' ∧ eK b v W1 (w4.setCell ⟨b,0,none⟩ v') v':=by
 have vlt:=LA.own.lt
 have sz : (wc.alloc o).heap.size = wc.heap.size + 1:=by simp
 have hgs:=hg.size
 have same : ∀ k,k < wc.heap.size → vv.ownBlock ≠ some k → w4.heap[k]? = wc.heap[k]?:=fun k hk hu =>
  (hg.block k (by omega) (fun e=>hu e.symm)).trans (heap_alloc_old wc o hk)
 have cb : w4.heap[b]? = some (.cells #[vv] 36 (0,0)):=by
  rw [same b LA.lt (fun e=>by have:=(vlt b e).1;omega)];exact LA.cell
 have vb : v'.ownBlock ≠ some b:=by
  rcases hat with e | e
  ·rw [e];intro e2;have:=(vlt b e2).1;omega
  ·rw [e];intro e2;cases e2;have:=LA.lt;omega
 refine ⟨cb,⟨one_setCell cb, ?_⟩,⟨hg.os.trans ON.os,hg.tape.trans ON.tape,hg.output.trans ON.output, ?_,fun k hk hb' hv=>?_, ?_⟩⟩
 ·have:=ownsRow_setCell_other hown (a:=⟨b,0,none⟩) vb v'
  unfold aI
  rw [List.length_append,List.map_append];exact this
 ·have:=ON.size;simp [World.setCell];omega
 ·rw [Below.heap_setCell _ _ _ _ hb',same k (Nat.lt_of_lt_of_le hk ON.size) ?_]
  ·exact ON.block k hk hb' hv
  ·intro e
   rcases ON.lies with e2 | ⟨g,e2,hg2⟩
   ·exact hv (by rw [← e2];exact e)
   ·rw [e2] at e;cases e;omega
 ·rcases hat with e | e
  ·rw [e];exact ON.lies
  ·exact .inr ⟨_,e,by have:=ON.size;omega⟩
theorem lines_eq {vn : Nat} {L LL : List Bs} {LN r : Bs} {f : Fm} {lb : Int} {ps : List Pf} {ms : List (List Int)} (h : vn = L.length + aE ps) (h1 : L ++ cE L.length ps = LL) (h2 : itoa ((vn : Int) + 1) ++ eE ++ bS r f lb (aO L.length ps ms) = LN) :
  LL ++ [LN] = L ++ (Pf.mk r f lb ps ms).lines L.length:=by
 subst h h1 h2
 simp [Pf.lines]
open Go Go.RowKit Ly
open Go.Lib (itoa)
open Go.Sort (grow)
set_option maxHeartbeats 6000000
theorem rO {r : Bs} {l : Int} {n : Nat} {ms : List (List Int)} (h : dF r l n ms = true) : ms.length = n:=by
 unfold dF at h
 split at h
 ·simp only [Bool.and_eq_true,decide_eq_true_eq,List.isEmpty_iff] at h
  rw [h.1.2,h.1.1];rfl
 ·split at h
  ·simp only [Bool.and_eq_true,decide_eq_true_eq,List.isEmpty_iff] at h
   rw [h.1.2,h.1.1];rfl
  ·simp only [Bool.and_eq_true,decide_eq_true_eq] at h
   exact h.1.2
theorem fX {r : Bs} {l : Int} {n : Nat} {ms : List (List Int)} (h : dF r l n ms = true) : ∀ m ∈ ms,m.length ≤ 3 ∧ ∀ x ∈ m,0 ≤ x ∧ x ≤ 1000000:=by
 unfold dF at h
 intro m hm
 split at h
 ·simp only [Bool.and_eq_true,decide_eq_true_eq,List.isEmpty_iff] at h
  rw [h.1.2] at hm;cases hm
 ·split at h
  ·simp only [Bool.and_eq_true,decide_eq_true_eq,List.isEmpty_iff] at h
   rw [h.1.2] at hm;cases hm
  ·simp only [Bool.and_eq_true,decide_eq_true_eq,List.all_eq_true] at h
   have:=h.2 m hm
   refine ⟨this.1,fun x hx=>?_⟩
   have h2:=this.2 x hx
   simp only [cN,decide_eq_true_eq] at h2
   omega
theorem box_cell {w : World} {H : Nat} {cs : Array Value} {t : TypeId} {fz : Nat × Nat} (h : w.heap[H]? = some (.cells cs t fz)) (k : Nat) : w.cell? ⟨H,k,none⟩ = cs[k]?:=by
 simp [World.cell?,h]
theorem qF (n : Nat) : dY n [] = itoa (n : Int):=by simp [dY]
theorem uG (n : Nat) {m : List Int} (h : m ≠ []) : dY n m = itoa (n : Int) ++ (eD ++ numbers m):=by
 cases m with
 | nil=>exact absurd rfl h
 | cons _ _=>simp [dY]
theorem pG {l : List Int} (hl : ∀ x ∈ l,0 ≤ x ∧ x ≤ 1000000) (h3 : l.length ≤ 3) : (numbers l).length ≤ 3100000:=by
 rw [lI]
 cases h : l.map itoa with
 | nil=>rw [listedOf_nil];decide
 | cons a b =>
  rw [pA (by simp),← h]
  have h1:=pZ eX (by decide) (l.map itoa) (fun x hx=>by
   obtain ⟨y,hy,rfl⟩:=List.mem_map.1 hx
   have:=eT (hl y hy).1 (hl y hy).2;omega)
  rw [List.length_map] at h1
  have h2:=Nat.mul_le_mul_right 1000010 h3
  omega
theorem kH (ps : List Pf) : ps.length ≤ aE ps:=by
 induction ps with
 | nil=>simp
 | cons p ps ih=>have : 1 ≤ p.steps:=(by cases p;simp [Pf.steps]);simp only [List.length_cons,aE];omega
theorem vG {W1 w3 w4 : World} {b : Nat} {v v2 u u' : Value} {PT LL : List Bs} {x : Bs} {o : Obj} (O : aI W1.heap.size w3 PT u) (D : ∀ g,u.ownBlock = some g → v2.ownBlock ≠ some g) (LA : eJ w3 b LL v2) (ON : eK b v W1 w3 v2)
  (hb : b < W1.heap.size) (hown : w4.ownsRow W1.heap.size 9 1 u' (PT.length + 1) (PT.map str ++ [str x])) (hg : (w3.alloc o).grownBy w4 u.ownBlock) (hat : u'.ownBlock = u.ownBlock ∨ u'.ownBlock = some (w3.heap.size + 1)) :
  ∃ v',aI W1.heap.size w4 (PT ++ [x]) u' ∧ eJ w4 b LL v' ∧ eK b v W1 w4 v' ∧ ∀ g,u'.ownBlock = some g → v'.ownBlock ≠ some g:=by
 have ult:=O.lt
 have sz : (w3.alloc o).heap.size = w3.heap.size + 1:=by simp
 have same : ∀ k,k < w3.heap.size → u.ownBlock ≠ some k → w4.heap[k]? = w3.heap[k]?:=fun k hk hu =>
  (hg.block k (by omega) (fun e=>hu e.symm)).trans (heap_alloc_old w3 o hk)
 have vlt:=LA.own.lt
 have hgs:=hg.size
 refine ⟨v2, ?_,⟨?_, ?_⟩,⟨hg.os.trans ON.os,hg.tape.trans ON.tape,hg.output.trans ON.output,by have:=ON.size;omega,fun k hk hb' hv=>?_,ON.lies⟩,fun g hg'=>?_⟩
 ·unfold aI
  rw [List.length_append,List.map_append];exact hown
 ·rw [same b LA.lt (fun e=>by have:=(ult b e).1;omega)];exact LA.cell
 ·obtain ⟨h1,h2⟩:=LA.own
  refine ⟨h1, ?_⟩
  rcases h2 with h2 | ⟨g,cap,cur,e,hB,hg2,r⟩
  ·exact .inl h2
  ·refine .inr ⟨g,cap,cur,e,hB, ?_,r⟩
   rw [same g (Array.getElem?_eq_some_iff.1 hg2).1 (fun e2=>D g e2 (by rw [e];rfl))];exact hg2
 ·rw [same k (Nat.lt_of_lt_of_le hk ON.size) (fun e=>by have:=(ult k e).1;omega)];exact ON.block k hk hb' hv
 ·rcases hat with e | e
  ·exact D g (by rw [← e];exact hg')
  ·intro e2
   have:=(vlt g e2).2
   rw [e] at hg';cases hg';omega
theorem line_assume (n : Int) (lb : Int) (f : Fm) (P : List Bs) :
  str (itoa n ++ eE ++ bS [] f lb P) = .string ((⟨(itoa n).toArray⟩ : ByteArray) ++ ⟨#[58,32]⟩ ++ (⟨#[97,115,115,117,109,101,32]⟩ ++ ⟨(itoa lb).toArray⟩ ++ ⟨#[44,32]⟩ ++ ⟨f.text.toArray⟩)):=by
 show Value.string _ = Value.string _
 simp only [bF];congr 2;simp [eE,bS,eC,cs]
theorem line_hole (n : Int) (lb : Int) (f : Fm) (P : List Bs) :
  str (itoa n ++ eE ++ bS [63] f lb P) = .string ((⟨(itoa n).toArray⟩ : ByteArray) ++ ⟨#[58,32]⟩ ++ (⟨f.text.toArray⟩ ++ ⟨#[44,32,115,116,105,108,108,32,116,111,32,115,104,111,119]⟩)):=by
 show Value.string _ = Value.string _
 simp only [bF];congr 2;simp [eE,bS,hole,pR]
theorem line_rule (n : Int) (lb : Int) (f : Fm) (r : Bs) (h0 : r ≠ []) (h1 : r ≠ hole) :
  str (itoa n ++ eE ++ bS r f lb []) = .string ((⟨(itoa n).toArray⟩ : ByteArray) ++ ⟨#[58,32]⟩ ++ (⟨f.text.toArray⟩ ++ ⟨#[44,32,98,121,32]⟩ ++ ⟨r.toArray⟩)):=by
 show Value.string _ = Value.string _
 simp only [bF];congr 2;simp [eE,bS,h0,h1,wBy]
theorem line_prems (n : Int) (lb : Int) (f : Fm) (r : Bs) (P : List Bs) (h0 : r ≠ []) (h1 : r ≠ hole) (hP : P ≠ []) :
  str (itoa n ++ eE ++ bS r f lb P) = .string ((⟨(itoa n).toArray⟩ : ByteArray) ++ ⟨#[58,32]⟩ ++ (⟨f.text.toArray⟩ ++ ⟨#[44,32,98,121,32]⟩ ++ ⟨r.toArray⟩) ++ (⟨#[32,102,114,111,109,32]⟩ ++ ⟨(aT cs P).toArray⟩)):=by
 have e : P.isEmpty = false:=by cases P with | nil=>exact absurd rfl hP | cons _ _=>rfl
 show Value.string _ = Value.string _
 simp only [bF];congr 2;simp [eE,bS,h0,h1,e,wBy,fJ]
theorem joinBy_le' (sep : Bs) (hs : sep.length ≤ 10) : ∀ (l : List Bs) (_ : ∀ x ∈ l,x.length ≤ 4000000),(aT sep l).length ≤ l.length * 4000010
 | [],_=>by simp [aT]
 | [x],h=>by have:=h x (by simp);simp [aT];omega
 | x :: y :: r,h=>by
  have h1:=h x (by simp)
  have h2:=joinBy_le' sep hs (y :: r) (fun z hz=>h z (by simp at hz ⊢;right;exact hz))
  simp only [aT,List.length_append,List.length_cons] at h2 ⊢
  omega
theorem uH : ∀ (ps : List Pf) (k : Nat) (ms : List (List Int)),(∀ m ∈ ms,m.length ≤ 3 ∧ ∀ x ∈ m,0 ≤ x ∧ x ≤ 1000000) → k + aE ps ≤ 1000000 → ∀ x ∈ aO k ps ms,x.length ≤ 4000000
 | [],_,_,_,_,x,h=>by cases h
 | p :: ps,k,ms,hm,hk,x,h=>by
  simp only [aE] at hk
  simp only [aO,List.mem_cons] at h
  rcases h with rfl | h
  ·have h1:=eT (n:=((k + p.steps : Nat) : Int)) (by omega) (by omega)
   cases ms with
   | nil=>rw [List.headD_nil,qF];omega
   | cons m ms =>
    rw [List.headD_cons]
    have h2:=hm m (by simp)
    by_cases h0 : m = []
    ·rw [h0,qF];omega
    ·rw [uG _ h0]
     have:=pG h2.2 h2.1
     simp only [List.length_append,eD,List.length_cons,List.length_nil];omega
  ·exact uH ps _ _ (fun m hm'=>hm m (List.mem_of_mem_tail hm')) (by omega) x h
theorem lines_step (r : Bs) (f : Fm) (lb : Int) (ps : List Pf) (ms : List (List Int)) (hh : ∀ p ∈ ps,CS p) : CS (.mk r f lb ps ms):=by
 intro w0 w b L v x hp hx hw hb hL hok hlim
 obtain ⟨a,k,c,a',m,dd,s,sn,sc,q,qn,qc,rfl,h1,h2,h3,h4⟩:=hx
 simp only [Pf.rule,Pf.form,Pf.label,Pf.sub,Pf.marks] at *
 have hs:=h3.len
 have hq:=h4.len
 have hstep : (Pf.mk r f lb ps ms).steps = aE ps + 1:=by simp [Pf.steps]
 have hsl : sn ≤ 9223372036854775807:=by have:=le63 hs.2.2;omega
 have hql : qn ≤ 9223372036854775807:=by have:=le63 hq.2.2;omega
 simp only [Pf.ok,Bool.and_eq_true] at hok
 have L3:=Hd hs.1
 have L4:=Hd hq.1
 have OK:=Hd hok
 have H:=Hd hh
 have HW:=Hd hw
 have HL:=Hd hL
 have HP:=Hd hp
 have H1:=Hd h1
 have H2:=Hd h2
 have H3:=Hd h3
 have H4:=Hd h4
 have HLIM:=Hd hlim
 have HST:=Hd hstep
 clear hs hq hstep hok hh hw hL hp h1 h2 h3 h4 hlim
 obtain ⟨i0,hi0,hz0,hs0,hb0⟩:=info_parts sP
 have WB : Hid (Below w.heap.size w (w.alloc (.cells #[str r,.int .u8 f.op,str f.name,.slice a k c,.slice a' m dd,.int .i64 lb,.slice s sn sc,.slice q qn qc] 53))):=bnew
 have BX : Hid ((w.alloc (.cells #[str r,.int .u8 f.op,str f.name,.slice a k c,.slice a' m dd,.int .i64 lb,.slice s sn sc,.slice q qn qc] 53)).heap[w.heap.size]? = some (.cells #[str r,.int .u8 f.op,str f.name,.slice a k c,.slice a' m dd,.int .i64 lb,.slice s sn sc,.slice q qn qc] 53)):=heap_alloc_new w _
 go_enter Tryz.func88,Tryz.ntmps88
 go_wp2_with fail
 have HB0:=HL.out.lt
 have VO : Hid (∀ g,v.ownBlock = some g → b + 1 ≤ g ∧ g < w.heap.size):=HL.out.own.lt
 have S1 : Hid ((w.alloc (.cells #[str r,.int .u8 f.op,str f.name,.slice a k c,.slice a' m dd,.int .i64 lb,.slice s sn sc,.slice q qn qc] 53)).heap.size = w.heap.size + 1):=by show _ = _;simp
 generalize hW : w.alloc (.cells #[str r,.int .u8 f.op,str f.name,.slice a k c,.slice a' m dd,.int .i64 lb,.slice s sn sc,.slice q qn qc] 53) = W1 at *
 clear hW
 have HW1:=Hd (HW.out.trans (WB.out.mono HW.out.size))
 have HL1:=Hd (HL.out.below WB.out)
 go_loopw [5,14] (fun u i wr=>∃ j : Nat,j ≤ sn ∧ i = .int .i64 j ∧ Hid (∃ v',aI W1.heap.size wr ((aO L.length ps ms).take j) u ∧ eJ wr b (L ++ cE L.length (ps.take j)) v' ∧ eK b v W1 wr v' ∧ ∀ g,u.ownBlock = some g → v'.ownBlock ≠ some g)) (fun _ i _=>sn - (intOf i).toNat)
 case atStart=>exact ⟨0,Nat.zero_le _,rfl,v,World.ownsRow_nil _ _ _ _,by have:=HL1.out;simpa [cE] using this,eK.refl _ _ _,fun g hg=>by simp [Value.ownBlock] at hg⟩
 case round =>
  obtain ⟨j,hj,rfl,hr⟩:=hrel
  by_cases hlt : j < sn
  ·obtain ⟨v1,hr⟩:=hr.out
   obtain ⟨T,hT⟩:=aF (l:=ps) (j:=j) (by rw [← L3.out];exact hlt)
   obtain ⟨M,hM⟩:=aF (l:=ms) (j:=j) (by rw [rO OK.out.1.2,← L3.out];exact hlt)
   obtain ⟨bb,off,rfl,hc⟩:=H3.out.get (aJ hT)
   obtain ⟨xa,xn,xc,xb,xm,xd,xs,xsn,xsc,xq,xqn,xqc,hx⟩:=hc j _ hT
   obtain ⟨mb,moff,rfl,hmc⟩:=H4.out.get (aJ hM)
   obtain ⟨y,yn,yc,hyc,hy⟩:=hmc j _ hM
   have hWr:=hr.2.2.1.old HW1.out hb HL1.out
   have hK:=aA hWr
   have c0:=hK _ _ hx.c0;have c1:=hK _ _ hx.c1;have c2:=hK _ _ hx.c2;have c3:=hK _ _ hx.c3
   have c4:=hK _ _ hx.c4;have c5:=hK _ _ hx.c5;have c6:=hK _ _ hx.c6;have c7:=hK _ _ hx.c7
   have X : Hid (cU w0 T (.agg #[str T.rule,.int .u8 T.form.op,str T.form.name,.slice xa xn xc,.slice xb xm xd,.int .i64 T.label,.slice xs xsn xsc,.slice xq xqn xqc])):=⟨_,_,_,_,_,_,_,_,_,_,_,_,rfl,hx.args,hx.parts,hx.sub,hx.marks⟩
   have HM:=Hd (List.mem_of_getElem? hT)
   have HR:=Hd hr
   have HWr:=Hd hWr
   have HY:=Hd hy
   have HYC:=Hd hyc
   have HT:=Hd hT
   have HMM:=Hd hM
   clear hc hx hT hK hr hWr hmc hyc hy hM
   have SW : Hid (∀ o,Below wr.heap.size wr (wr.alloc o)):=fun o=>bnew
   have LLEN : Hid ((L ++ cE L.length (ps.take j)).length = L.length + aE (ps.take j)):=by show _ = _;rw [List.length_append,dT]
   have SNO : Hid (L.length + aE (ps.take j) + T.steps ≤ 100000 ∧ aE (ps.take (j + 1)) = aE (ps.take j) + T.steps):=by
    have e1:=jU HT.out
    have e2:=gY ps (j + 1)
    have e3:=HLIM.out
    have e4:=HST.out
    exact ⟨by omega,e1⟩
   go_wp2_with fail
   refine (H.out T HM.out w0 _ b _ v1 _ HP.out X.out (HWr.out.trans ((SW.out _).mono HWr.out.size)) hb (HR.out.2.1.below (SW.out _)) (qE OK.out.2 T HM.out) (by rw [LLEN.out];exact SNO.out.1)).mono ?_
   rintro e w2 ⟨v2,rfl,hL2,hO2⟩
   rw [LLEN.out] at hL2 ⊢
   have ON2 : Hid (eK b v W1 w2 v2):=HR.out.2.2.1.trans ((eK.refl _ _ _).below (SW.out _) |>.trans hO2)
   have OWN2 : Hid (aI W1.heap.size w2 ((aO L.length ps ms).take j) u5 ∧ ∀ g,u5.ownBlock = some g → v2.ownBlock ≠ some g):=by
    have o1:=aI.below HR.out.1 (SW.out (.cells #[str T.rule,.int .u8 T.form.op,str T.form.name,.slice xa xn xc,.slice xb xm xd,.int .i64 T.label,.slice xs xsn xsc,.slice xq xqn xqc] 53))
    have lt:=HR.out.1.lt
    refine ⟨o1.onward hO2 (fun e=>?_) HR.out.2.2.2,fun g hg=>?_⟩
    ·have:=(lt b e).1;have:=S1.out;omega
    ·rcases hO2.lies with e | ⟨g',e,hg'⟩
     ·rw [e];exact HR.out.2.2.2 g hg
     ·rw [e];intro e2;cases e2
      have:=(lt g hg).2;simp at hg';omega
   have LA2 : Hid (eJ w2 b (L ++ cE L.length (ps.take (j + 1))) v2):=by
    show eJ _ _ _ _
    rw [mH ps L.length j T HT.out,← List.append_assoc];exact hL2
   have W2 : Hid (Below w0.heap.size w0 w2):=ON2.out.old HW1.out hb HL1.out
   obtain ⟨N,hN⟩ : ∃ N : Nat,N = L.length + aE (ps.take j) + T.steps:=⟨_,rfl⟩
   rw [← hN]
   have NN : Hid (N = L.length + aE (ps.take j) + T.steps):=hN
   have n0 : N ≤ 100000:=by have:=SNO.out.1;omega
   clear hL2 hO2 hN c0 c1 c2 c3 c4 c5 c6 c7
   go_wp2_with fail
   refine (mC N (by omega) (by omega) _ (HP.out.below W2.out)).mono ?_
   rintro e w3 ⟨rfl,b3⟩
   have B3:=Hd b3
   have il:=eT (n:=N) (by omega) (by omega)
   have g7 : w3.cell? ⟨w.heap.size,7,none⟩ = some (.slice (some ⟨mb,moff,none⟩) qn qc):=by
    have e:=ON2.out.block w.heap.size (by rw [S1.out];omega) (by omega) (fun e=>by have:=(VO.out _ e).2;omega)
    have e2:=B3.out.block w.heap.size (by have:=ON2.out.size;have:=S1.out;omega)
    rw [box_cell (e2.trans (e.trans BX.out))];rfl
   have gm : w3.cell? ⟨mb,moff + j,none⟩ = some (.slice y yn yc):=aA (W2.out.trans (b3.mono W2.out.size)) _ _ HYC.out
   have hjq : j < qn:=by rw [L4.out,rO OK.out.1.2,← L3.out];exact hlt
   have hy63 : yn ≤ 3:=by have h1:=(fX OK.out.1.2 M (List.mem_of_getElem? HMM.out)).1;have h2:=HY.out.len;omega
   clear b3
   have W3 : Hid (Below w0.heap.size w0 w3):=W2.out.trans (B3.out.mono W2.out.size)
   have OWN3:=Hd (aI.below OWN2.out.1 B3.out)
   have ON3:=Hd (ON2.out.below B3.out)
   have LA3:=Hd (LA2.out.below B3.out)
   have PL : Hid (((aO L.length ps ms).take j).length ≤ 100000):=by
    show _ ≤ _;rw [List.length_take,dH];have:=HLIM.out;have:=HST.out;have:=L3.out
    have:=kH ps
    have : min j ps.length ≤ ps.length:=Nat.min_le_right _ _
    omega
   have C3 : Hid (((aO L.length ps ms).take j).length + 1 ≤ maxLen ∧ (((aO L.length ps ms).take j).length + 1) * 16 ≤ 140737488355328):=by
    have h1:=PL.out
    exact ⟨by unfold maxLen;omega,by omega⟩
   have PS:=Hd (lM ps L.length j ms T M HT.out HMM.out)
   rw [← NN.out] at PS
   have W1s : Hid (W1.heap.size ≤ w3.heap.size):=ON3.out.size
   generalize (aO L.length ps ms).take j = PT at *
   by_cases hz : yn = 0
   ·subst hz
    have ME : Hid ((aO L.length ps ms).take (j + 1) = PT ++ [itoa (N : Int)]):=by
     have : M = []:=List.eq_nil_of_length_eq_zero HY.out.len.1.symm
     show _ = _;rw [PS.out,this,qF]
    have C6 : Hid (W1.heap.size ≤ (w3.alloc (.cells #[str (itoa (N : Int))] 9)).heap.size):=by
     have:=W1s.out;show _ ≤ _;simp;omega
    go_wp2_with (at_builtin;refine wpList_append_own_at _ rfl _ _ 36 rfl W1.heap.size 9 i0 (.string ⟨#[]⟩) 1 16 Tryz.underlying36 hi0 hz0 hs0 hb0 rfl (by decide) _ _ _ rfl (OWN3.out.alloc _) ⟨w3.heap.size,0,none⟩ 1 1 [str (itoa (N : Int))] rfl rfl (cell_one_new _ _ _) (by intro u hu;simp at hu;subst hu;rfl) C3.out.1 C3.out.2 C6.out ?_)
    intro u' w4 hown4 hg4 _ hat4
    have R4 : Hid (∃ v',aI W1.heap.size w4 ((aO L.length ps ms).take (j + 1)) u' ∧ eJ w4 b (L ++ cE L.length (ps.take (j + 1))) v' ∧ eK b v W1 w4 v' ∧ ∀ g,u'.ownBlock = some g → v'.ownBlock ≠ some g):=by
     rw [ME.out];exact vG OWN3.out OWN2.out.2 LA3.out ON3.out (by have:=S1.out;omega) hown4 hg4 hat4
    clear hown4 hg4 hat4
    go_wp2_with fail
    go_roundw
    case rel=>exact ⟨j + 1,by omega,by go_num,R4⟩
    case measure=>simp [intOf];omega
   ·have hzp : 0 < yn:=by omega
    have MNE : M ≠ []:=fun e=>hz (by have:=HY.out.len.1;rw [this,e];rfl)
    have ME0:=Hd (uG N MNE)
    have NLE:=Hd (pG (fX OK.out.1.2 M (List.mem_of_getElem? HMM.out)).2 (fX OK.out.1.2 M (List.mem_of_getElem? HMM.out)).1)
    clear hz MNE
    go_wp2_with fail
    refine (qC M (fX OK.out.1.2 M (List.mem_of_getElem? HMM.out)).2 (by have:=(fX OK.out.1.2 M (List.mem_of_getElem? HMM.out)).1;omega) _ _ _ _ (HP.out.below W3.out) (HY.out.keep (aA W3.out))).mono ?_
    rintro e w5 ⟨rfl,b5⟩
    have B5:=Hd b5
    have nl5 : (numbers M).length ≤ 3100000:=NLE.out
    have OWN5:=Hd (aI.below OWN3.out B5.out)
    have ON5:=Hd (ON3.out.below B5.out)
    have LA5:=Hd (LA3.out.below B5.out)
    have C6 : Hid (∀ o : Obj,W1.heap.size ≤ (w5.alloc o).heap.size):=fun o=>by
     have:=W1s.out;have:=B5.out.size;simp;omega
    clear b5
    have SE : Hid (Value.string (⟨(itoa (N : Int)).toArray⟩ ++ (⟨#[32,101,110,100,105,110,103,32]⟩ ++ ⟨(numbers M).toArray⟩)) = str (dY N M)):=by
     show _ = _
     rw [ME0.out]
     show Value.string _ = Value.string _
     rw [bF,bF];congr 2;simp [eD]
    go_wp2_with (at_builtin;refine wpList_append_own_at _ rfl _ _ 36 rfl W1.heap.size 9 i0 (.string ⟨#[]⟩) 1 16 Tryz.underlying36 hi0 hz0 hs0 hb0 rfl (by decide) _ _ _ rfl (OWN5.out.alloc _) ⟨w5.heap.size,0,none⟩ 1 1 [.string (⟨(itoa (N : Int)).toArray⟩ ++ (⟨#[32,101,110,100,105,110,103,32]⟩ ++ ⟨(numbers M).toArray⟩))] rfl rfl (cell_one_new _ _ _) (by intro u hu;simp at hu;subst hu;rfl) C3.out.1 C3.out.2 (C6.out _) ?_)
    intro u' w4 hown4 hg4 _ hat4
    rw [SE.out] at hown4
    have R4 : Hid (∃ v',aI W1.heap.size w4 ((aO L.length ps ms).take (j + 1)) u' ∧ eJ w4 b (L ++ cE L.length (ps.take (j + 1))) v' ∧ eK b v W1 w4 v' ∧ ∀ g,u'.ownBlock = some g → v'.ownBlock ≠ some g):=by
     rw [PS.out];exact vG OWN5.out OWN2.out.2 LA5.out ON5.out (by have:=S1.out;omega) hown4 hg4 hat4
    clear hown4 hg4 hat4
    go_wp2_with fail
    go_roundw
    case rel=>exact ⟨j + 1,by omega,by go_num,R4⟩
    case measure=>simp [intOf];omega
  ·obtain ⟨v1,hr⟩:=hr.out
   have e1 : ps.take j = ps:=List.take_of_length_le (by rw [← L3.out];omega)
   have e2 : (aO L.length ps ms).take j = aO L.length ps ms:=List.take_of_length_le (by rw [dH,← L3.out];omega)
   rw [e1,e2] at hr
   have ej : j = sn:=by omega
   subst ej
   clear e1 e2
   obtain ⟨va,vn,vc,rfl⟩:=hr.2.1.own.strsAt.slice
   have hvn:=hr.2.1.own.strsAt.len
   have HR:=Hd hr
   have cb : wr.cell? ⟨b,0,none⟩ = some (.slice va vn vc):=by rw [box_cell hr.2.1.cell];rfl
   have VN : Hid (vn = L.length + aE ps):=by show _ = _;rw [hvn.1,List.length_append,dT]
   have vn0 : vn ≤ 99999:=by have:=VN.out;have:=HLIM.out;have:=HST.out;omega
   have HWr : Hid (Below w0.heap.size w0 wr):=hr.2.2.1.old HW1.out hb HL1.out
   clear hr hvn
   go_wp2_with fail
   have evn : ((vn : Int) + 1) = ((vn + 1 : Nat) : Int):=by omega
   refine (mC ((vn : Int) + 1) (by omega) (by omega) _ (HP.out.below HWr.out)).mono ?_
   rintro e w3 ⟨rfl,b3⟩
   have B3:=Hd b3
   have il:=eT (n:=(vn : Int) + 1) (by omega) (by omega)
   have W3 : Hid (Below w0.heap.size w0 w3):=HWr.out.trans (B3.out.mono HWr.out.size)
   have BX3 : Hid (w3.heap[w.heap.size]? = some (.cells #[str r,.int .u8 f.op,str f.name,.slice a k c,.slice a' m dd,.int .i64 lb,.slice s j sc,.slice q qn qc] 53)):=by
    have e:=HR.out.2.2.1.block w.heap.size (by rw [S1.out];omega) (by omega) (fun e=>by have:=(VO.out _ e).2;omega)
    have e2:=B3.out.block w.heap.size (by have:=HR.out.2.2.1.size;have:=S1.out;omega)
    exact e2.trans (e.trans BX.out)
   have g0 : w3.cell? ⟨w.heap.size,0,none⟩ = some (str r):=by rw [box_cell BX3.out];rfl
   have FR : Hid (f.right = true):=OK.out.1.1
   have FL:=Hd (gZ FR.out).2
   have fl : f.text.length ≤ 16000:=FL.out
   clear b3 cb evn
   have b0 : w.heap.size < w3.heap.size:=(Array.getElem?_eq_some_iff.1 BX3.out).1
   have g1 : w3.cell? ⟨w.heap.size,1,none⟩ = some (.int .u8 f.op):=by rw [box_cell BX3.out];rfl
   have g2 : w3.cell? ⟨w.heap.size,2,none⟩ = some (str f.name):=by rw [box_cell BX3.out];rfl
   have g3 : w3.cell? ⟨w.heap.size,3,none⟩ = some (.slice a k c):=by rw [box_cell BX3.out];rfl
   have g4 : w3.cell? ⟨w.heap.size,4,none⟩ = some (.slice a' m dd):=by rw [box_cell BX3.out];rfl
   have g5 : w3.cell? ⟨w.heap.size,5,none⟩ = some (.int .i64 lb):=by rw [box_cell BX3.out];rfl
   have D3 : Hid (Below w0.heap.size w0 w3.drew):=W3.out.trans ((Below.refl _ _).drew.mono W3.out.size)
   have OW:=Hd (HR.out.1.strsAt)
   have cT : Hid (∀ d os,Calls Tryz.prog 86 #[.agg #[.int .u8 f.op,str f.name,.slice a k c,.slice a' m dd]] (grow (redrawn w3 d) os) fun e w''=>e = .returned (str f.text) ∧ ∃ p : Regrown,w'' = grow (redrawn w3 p.d) p.os):=fun d os =>
    have K : aR w0 (grow (redrawn w3 d) os):=aA (W3.out.trans ((below_regrown w3 d os).mono W3.out.size))
    Calls.regrown_of (uO f (fD FR.out) (iW FR.out) _ _ _ _ _ _ _ (H1.out.keep K) (H2.out.keep K))
   go_upto_block 2 with fail
   go_cut [10] from 54 to 91 (fun u wx=>Hid (u = str (itoa ((vn : Int) + 1) ++ eE ++ bS r f lb (aO L.length ps ms)) ∧ Below w3.heap.size w3 wx))
   case first =>
    by_cases r0 : r = []
    ·subst r0
     have hlb : 0 ≤ lb ∧ lb ≤ 999:=by have:=OK.out.1.2;simp [dF] at this;omega
     have il2:=eT hlb.1 (by omega)
     go_wp2_with fail
     have cI : Hid (∀ d os,Calls Tryz.prog 35 #[.int .i64 lb] (grow (redrawn w3 d) os) fun e w''=>e = .returned (str (itoa lb)) ∧ ∃ p : Regrown,w'' = grow (redrawn w3 p.d) p.os):=fun d os=>Calls.regrown_of (mC lb hlb.1 (by omega) _ (HP.out.below (W3.out.trans ((below_regrown w3 d os).mono W3.out.size))))
     have k1:=cell_regrown g1;have k2:=cell_regrown g2;have k3:=cell_regrown g3;have k4:=cell_regrown g4;have k5:=cell_regrown g5
     have n1 : ¬ 9223372036854775807 < 7 + (itoa lb).length:=by omega
     have n2 : ¬ 9223372036854775807 < 7 + (itoa lb).length + 2:=by omega
     have n3 : ¬ 9223372036854775807 < 7 + (itoa lb).length + 2 + f.text.length:=by omega
     have n4 : ¬ 9223372036854775807 < (itoa ((vn : Int) + 1)).length + 2 + (7 + (itoa lb).length + 2 + f.text.length):=by omega
     refine wqb ?_
     repeat (quiet_step (first | (go_at_call 35;exact cI.out _ _) | (go_at_call 86;exact cT.out _ _)))
     refine wpQuiet_nil ?_
     intro _ hw'
     obtain ⟨⟨dq,osq⟩,hw''⟩:=hw'
     subst hw''
     go_wp2_with fail
     go_meet
     have hbb : Below w3.heap.size w3 (grow (redrawn w3 dq) osq):=below_regrown w3 dq osq
     exact ⟨by rw [line_assume],hbb⟩
    ·by_cases r1 : r = hole
     ·subst r1
      have n1 : ¬ 9223372036854775807 < f.text.length + 15:=by omega
      have n2 : ¬ 9223372036854775807 < (itoa ((vn : Int) + 1)).length + 2 + (f.text.length + 15):=by omega
      clear r0
      unfold hole at *
      go_wp2_with fail
      refine (uO f (fD FR.out) (iW FR.out) _ _ _ _ _ _ _ (H1.out.keep (aA W3.out)) (H2.out.keep (aA W3.out))).mono ?_
      rintro e w6 ⟨rfl,b6⟩
      have B6:=Hd b6
      clear b6
      go_wp2_with fail
      go_meet
      exact ⟨by rw [line_hole],B6.out⟩
     ·have t0 : (r == []) = false:=by simpa using r0
      have t1 : (r == [63]) = false:=by simpa [hole] using r1
      have rl : r.length ≤ 16:=by
       have:=OK.out.1.2
       unfold dF at this
       rw [if_neg r0,if_neg r1] at this
       simp only [Bool.and_eq_true,decide_eq_true_eq] at this
       have h2:=this.1.1.1.1
       cases r with
       | nil=>simp
       | cons c r=>simp only [bU,Bool.and_eq_true,decide_eq_true_eq] at h2;simp;omega
      have R0:=Hd r0
      have R1:=Hd r1
      clear r0 r1
      obtain ⟨pa,pn,pc,rfl⟩:=OW.out.slice
      have PN:=Hd OW.out.len.1
      have pn0 : pn ≤ 100000:=by
       have:=PN.out;rw [dH] at this
       have:=kH ps;have:=HLIM.out;have:=HST.out;omega
      have k0:=cell_regrown g0
      have k1:=cell_regrown g1;have k2:=cell_regrown g2;have k3:=cell_regrown g3;have k4:=cell_regrown g4;have k5:=cell_regrown g5
      have n1 : ¬ 9223372036854775807 < f.text.length + 5:=by omega
      have n2 : ¬ 9223372036854775807 < f.text.length + 5 + r.length:=by omega
      have n3 : ¬ 9223372036854775807 < (itoa ((vn : Int) + 1)).length + 2 + (f.text.length + 5 + r.length):=by omega
      go_wp2_with fail
      refine wqb ?_
      repeat (quiet_step (first | (go_at_call 86;exact cT.out _ _)))
      refine wpQuiet_nil ?_
      intro wq hw'
      have WG : Hid (Below w3.heap.size w3 wq):=by
       obtain ⟨⟨dq,osq⟩,hw''⟩:=hw'
       rw [hw''];exact below_regrown w3 dq osq
      clear hw' k0 k1 k2 k3 k4 k5 n1 n2 n3
      by_cases hp0 : pn = 0
      ·subst hp0
       have PE : Hid (aO L.length ps ms = []):=List.eq_nil_of_length_eq_zero PN.out.symm
       go_wp2_with fail
       go_meet
       exact ⟨by rw [PE.out,line_rule _ _ _ _ R0.out R1.out],WG.out⟩
      ·have hp1 : 0 < pn:=by omega
       have PE : Hid (aO L.length ps ms ≠ []):=fun e=>hp0 (by rw [PN.out,e];rfl)
       have OWQ:=Hd (aI.below (aI.below HR.out.1 B3.out) WG.out)
       have JL : Hid ((aO L.length ps ms).length ≤ 1000000 ∧ (aT cs (aO L.length ps ms)).length ≤ 140737488355328):=by
        have h0:=PN.out
        have h2:=joinBy_le' cs (by decide) (aO L.length ps ms) (uH ps L.length ms (by
         intro m hm;exact fX OK.out.1.2 m hm) (by have:=HLIM.out;have:=HST.out;omega))
        have h3 : (aO L.length ps ms).length ≤ 100000:=by omega
        have h4:=Nat.mul_le_mul_right 4000010 h3
        exact ⟨by omega,by omega⟩
       clear hp0
       go_wp2_with fail
       refine (xK cs OWQ.out JL.out.1 JL.out.2).mono ?_
       rintro e w6 ⟨rfl,b6⟩
       have B6:=Hd b6
       have jl:=JL.out.2
       have m1 : (aT cs (aO L.length ps ms)).length ≤ 140737488355328:=jl
       clear b6 jl
       go_wp2_with fail
       go_meet
       exact ⟨by rw [line_prems _ _ _ _ _ R0.out R1.out PE.out],WG.out.trans (B6.out.mono WG.out.size)⟩
   case rest =>
    obtain ⟨rfl,hBw⟩:=hcut.out
    have BC:=Hd (B3.out.trans (hBw.mono B3.out.size))
    obtain ⟨LL,hLL⟩ : ∃ LL,L ++ cE L.length ps = LL:=⟨_,rfl⟩
    have LL2:=Hd hLL
    have LAc : Hid (eJ wc b LL (.slice va vn vc)):=by have:=HR.out.2.1.below BC.out;rw [hLL] at this;exact this
    have ONc:=Hd (HR.out.2.2.1.below BC.out)
    have cb2 : wc.cell? ⟨b,0,none⟩ = some (.slice va vn vc):=by rw [box_cell LAc.out.cell];rfl
    have ZZ : Hid (LL.length = vn):=by show _ = _;rw [← hLL,List.length_append,dT,VN.out]
    have C3 : Hid (LL.length + 1 ≤ maxLen ∧ (LL.length + 1) * 16 ≤ 140737488355328):=by
     have h1:=ZZ.out
     exact ⟨by unfold maxLen;omega,by omega⟩
    obtain ⟨LN,hLN⟩ : ∃ LN,itoa ((vn : Int) + 1) ++ eE ++ bS r f lb (aO L.length ps ms) = LN:=⟨_,rfl⟩
    rw [hLN]
    have LN2:=Hd hLN
    have bltc : b < wc.heap.size:=LAc.out.lt
    have C6 : Hid (b + 1 ≤ (wc.alloc (.cells #[str LN] 9)).heap.size):=by show _ ≤ _;simp;omega
    clear hcut hBw hLN hLL g0 g1 g2 g3 g4 g5 HR OW cT D3 BX3 FL fl
    go_wp2_with (at_builtin;refine wpList_append_own_at _ rfl _ _ 36 rfl (b + 1) 9 i0 (.string ⟨#[]⟩) 1 16 Tryz.underlying36 hi0 hz0 hs0 hb0 rfl (by decide) _ _ _ rfl (LAc.out.own.alloc _) ⟨wc.heap.size,0,none⟩ 1 1 [str LN] rfl rfl (cell_one_new _ _ _) (by intro u hu;simp at hu;subst hu;rfl) C3.out.1 C3.out.2 C6.out ?_)
    intro v' w4 hown4 hg4 _ hat4
    obtain ⟨va',vn',vc',rfl⟩ : ∃ x y z,v' = .slice x y z:=by
     rcases hown4.2 with ⟨e,_⟩ | ⟨g,cap,cur,e,_⟩
     ·exact ⟨_,_,_,e⟩
     ·exact ⟨_,_,_,e⟩
    have R:=Hd (lines_end LAc.out ONc.out hown4 hg4 hat4)
    have cb4 : w4.cell? ⟨b,0,none⟩ = some (.slice va vn vc):=cell_of_one R.out.1
    have fb4 : w4.frozen? ⟨b,0,none⟩ = false:=free_of_one R.out.1
    clear hown4 hg4 hat4
    have EN : Hid (Ending.returned (.int .i64 ((vn : Int) + 1)) = .returned (.int .i64 ((L.length + (Pf.mk r f lb ps ms).steps : Nat) : Int))):=by
     show _ = _;rw [HST.out,VN.out];congr 2
    have EL:=Hd (lines_eq (ms:=ms) (lb:=lb) VN.out LL2.out LN2.out)
    go_wp2_with fail
    go_ret
    exact ⟨_,EN.out,by rw [← EL.out];exact R.out.2.1,((eK.refl b v w).below WB.out).trans R.out.2.2⟩
mutual
theorem AO : ∀ t : Pf,CS t
 | .mk r f l ps ms=>lines_step r f l ps ms (AM ps)
theorem AM : ∀ l : List Pf,∀ t ∈ l,CS t
 | [],_,h=>by cases h
 | x :: xs,t,h=>by
  rcases List.mem_cons.1 h with e | e
  ·rw [e];exact AO x
  ·exact AM xs t e
end
open Go Go.RowKit Ly
open Go.Lib (itoa)
set_option maxHeartbeats 1600000
def wP (l : List Bs) (w : World) (e : Ending) (w' : World) : Prop:=∃ v,e = .returned (.tuple #[v,.int .i64 0]) ∧ aI w.heap.size w' l v ∧ Below w.heap.size w w'
theorem IP (p : Pf) (x : Value) (w : World) (hr : dV w) (hp : iK w) (hx : cU w p x) (h : p.right = true) :
  Calls Tryz.prog 24 #[x] w (wP (p.lines 0) w):=by
 have hx0:=hx
 obtain ⟨a,k,c,a',m,dd,s,sn,sc,q,qn,qc,rfl,h1,h2,h3,h4⟩:=hx
 simp only [Pf.right,Bool.and_eq_true,decide_eq_true_eq] at h
 have HX:=Hd hx0
 have HR:=Hd hr
 have HP:=Hd hp
 have OK:=Hd h
 clear h hx0 hr hp h1 h2 h3 h4
 have WB : Hid (Below w.heap.size w ((w.alloc (.cells #[str p.rule,.int .u8 p.form.op,str p.form.name,.slice a k c,.slice a' m dd,.int .i64 p.label,.slice s sn sc,.slice q qn qc] 53)).alloc (.cells #[.int .i64 300] 3))) :=
  bnew.alloc (by simp) _
 have LF : Hid (dM ((w.alloc (.cells #[str p.rule,.int .u8 p.form.op,str p.form.name,.slice a k c,.slice a' m dd,.int .i64 p.label,.slice s sn sc,.slice q qn qc] 53)).alloc (.cells #[.int .i64 300] 3)) (w.heap.size + 1) 300):=⟨by simp [go_sem],by simp [go_sem]⟩
 have BX : Hid (((w.alloc (.cells #[str p.rule,.int .u8 p.form.op,str p.form.name,.slice a k c,.slice a' m dd,.int .i64 p.label,.slice s sn sc,.slice q qn qc] 53)).alloc (.cells #[.int .i64 300] 3)).heap[w.heap.size]? = some (.cells #[str p.rule,.int .u8 p.form.op,str p.form.name,.slice a k c,.slice a' m dd,.int .i64 p.label,.slice s sn sc,.slice q qn qc] 53)):=by
  show _ = _
  rw [heap_alloc_old _ _ (by simp)];exact heap_alloc_new w _
 have SZ : Hid (((w.alloc (.cells #[str p.rule,.int .u8 p.form.op,str p.form.name,.slice a k c,.slice a' m dd,.int .i64 p.label,.slice s sn sc,.slice q qn qc] 53)).alloc (.cells #[.int .i64 300] 3)).heap.size = w.heap.size + 2):=by show _ = _;simp
 go_enter Tryz.func24,Tryz.ntmps24
 go_wp2_with fail
 refine (ID p w _ (w.heap.size + 1) 300 0 _ HR.out HX.out WB.out (by omega) LF.out OK.out.1.1 (by have:=OK.out.1.2;omega) (by omega) (by omega) (by have:=OK.out.2;omega)).mono ?_
 rintro e w1 ⟨rfl,hB1,hL1,hb1⟩
 have B1:=Hd hB1
 have BX1 : Hid (w1.heap[w.heap.size]? = some (.cells #[str p.rule,.int .u8 p.form.op,str p.form.name,.slice a k c,.slice a' m dd,.int .i64 p.label,.slice s sn sc,.slice q qn qc] 53)):=(hb1.block _ (by rw [SZ.out];omega) (by omega)).trans BX.out
 have g0 : w1.cell? ⟨w.heap.size,0,none⟩ = some (str p.rule):=by rw [box_cell BX1.out];rfl
 have g1 : w1.cell? ⟨w.heap.size,1,none⟩ = some (.int .u8 p.form.op):=by rw [box_cell BX1.out];rfl
 have g2 : w1.cell? ⟨w.heap.size,2,none⟩ = some (str p.form.name):=by rw [box_cell BX1.out];rfl
 have g3 : w1.cell? ⟨w.heap.size,3,none⟩ = some (.slice a k c):=by rw [box_cell BX1.out];rfl
 have g4 : w1.cell? ⟨w.heap.size,4,none⟩ = some (.slice a' m dd):=by rw [box_cell BX1.out];rfl
 have g5 : w1.cell? ⟨w.heap.size,5,none⟩ = some (.int .i64 p.label):=by rw [box_cell BX1.out];rfl
 have g6 : w1.cell? ⟨w.heap.size,6,none⟩ = some (.slice s sn sc):=by rw [box_cell BX1.out];rfl
 have g7 : w1.cell? ⟨w.heap.size,7,none⟩ = some (.slice q qn qc):=by rw [box_cell BX1.out];rfl
 have sz1 : w.heap.size < w1.heap.size:=(Array.getElem?_eq_some_iff.1 BX1.out).1
 have W2 : Hid (Below w.heap.size w (w1.alloc (.cells #[.slice none 0 0] 36))):=B1.out.alloc B1.out.size _
 have LA : Hid (eJ (w1.alloc (.cells #[.slice none 0 0] 36)) w1.heap.size [] (.slice none 0 0)):=⟨heap_alloc_new w1 _,World.ownsRow_nil _ _ _ _⟩
 clear hB1 hL1 hb1
 go_wp2_with fail
 refine (AO p w _ w1.heap.size [] (.slice none 0 0) _ HP.out HX.out W2.out B1.out.size LA.out OK.out.1.1 (by have:=OK.out.1.2;simp;omega)).mono ?_
 rintro e w3 ⟨v',rfl,hL3,hO3⟩
 obtain ⟨x,xn,xc,rfl⟩:=hL3.own.strsAt.slice
 have c3 : w3.cell? ⟨w1.heap.size,0,none⟩ = some (.slice x xn xc):=by rw [box_cell hL3.cell];rfl
 have R : Hid (aI w.heap.size w3 (p.lines 0) (.slice x xn xc) ∧ Below w.heap.size w w3):=⟨by have:=hL3.own.mono (show w.heap.size ≤ w1.heap.size + 1 by omega);simpa using this,hO3.old W2.out B1.out.size LA.out⟩
 clear hL3 hO3 g0 g1 g2 g3 g4 g5 g6 g7
 go_wp2_with fail
 go_ret2
 exact ⟨_,rfl,R.out.1,R.out.2⟩
end Go.Proofs.YtcandidgaegghaaGreatDoor
