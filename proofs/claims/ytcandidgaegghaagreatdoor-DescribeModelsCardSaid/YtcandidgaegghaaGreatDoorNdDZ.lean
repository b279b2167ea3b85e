/- describe.bits and truths, lyceumref41.mask and list. Conditions: masks of at most 16 bits; at most twelve facts whose names are short. -/
import Derived.Test.YtcandidgaegghaaGreatDoorCpZ
import Derived.Test.YtcandidgaegghaaGreatDoorMdWZ
import Derived.Test.YtcandidgaegghaaGreatDoorMdMZ
import Derived.Test.YtcandidgaegghaaGreatDoorProofBZ
import Derived.Test.YtcandidgaegghaaGreatDoorTxBZ
import Derived.Deep.RegionLaw
set_option maxRecDepth 10000
set_option linter.unusedSimpArgs false
set_option linter.unusedVariables false
namespace Go.Proofs.YtcandidgaegghaaGreatDoor
open Go Go.RowKit Go.Sort Ly
set_option maxHeartbeats 4000000
/- The words of a model's lines. -/
def kP : Bs:=[32,105,115,32,116,114,117,101]
def iY : Bs:=[32,105,115,32,102,97,108,115,101]
def mwAt : Bs:=[32,105,115,32,116,114,117,101,32,97,116,32]
def fK : Bs:=[32,115,101,101,115,32]
def fW : Bs:=[32,104,111,108,100,115,32,111,102,32]
def lR : Bs:=[32,119,105,116,104,32]
def mwOf : Bs:=[32,111,102,32]
def mwIs : Bs:=[32,105,115,32]
def cO : Bs:=[32,101,108,101,109,101,110,116,115]
def cE : Bs:=[32,119,111,114,108,100,115]
def fX : Bs:=[32,116,105,109,101,115,32,116,104,101,110,32,97,103,97,105,110,32,102,114,111,109,32]
/- Lines. -/
def cN (f : Fa) : Bs:=f.name ++ (if f.tru = 1 then kP else iY)
def bF (f : Fa) : Bs:=f.name ++ mwAt ++ numbers (bJ f.tru)
def bH (p : Int × Int) : Bs:=Lib.itoa p.1 ++ lR ++ Lib.itoa p.2
def gQ (l : List Bs) : Bs:=if l.isEmpty then kH else bS fE l
def bL (z : Nat) (f : Fa) : Bs :=
 if f.args = 0 then cN f
 else if f.args = 2 then f.name ++ fW ++ gQ ((eD z f.tru).map bH)
 else f.name ++ fW ++ numbers (bJ f.tru)
def dY (f : Fu) (a : Nat) : Bs:=f.name ++ (if f.args = 1 then mwOf ++ Lib.itoa (a : Int) else []) ++ mwIs ++ Lib.itoa (getI f.value a)
def bB (f : Fu) : List Bs:=(List.range f.value.length).map (dY f)
def cD (b : Bi) : Bs:=b.name ++ mwIs ++ Lib.itoa b.at_
def aZ (l : List Int) (w : Nat) : Bs:=Lib.itoa (w : Int) ++ fK ++ numbers (bJ (getI l w))
def dV (l : List Int) : List Bs:=(List.range l.length).map (aZ l)
def pV (m : Md) : List Bs :=
 if m.kind = 1 then [] else if m.kind = 2 then [Lib.itoa m.size ++ cO] else if m.kind = 5 then [Lib.itoa m.size ++ fX ++ Lib.itoa m.loop] else [Lib.itoa m.size ++ cE]
def kY (m : Md) (f : Fa) : Bs:=if m.kind = 1 then cN f else if m.kind = 2 then bL m.size.toNat f else bF f
def iS (m : Md) : List Bs:=pV m ++ m.facts.map (kY m) ++ m.funcs.flatMap bB ++ m.binds.map cD ++ dV m.rel
theorem flat_ints {w : World} {l : List Int} {n : Nat} {u : Value} (h : aM w 1 (inV l) n u) (hn : n = l.length) : dF w l u:=by
 subst hn
 have:=h.to
 rw [inV,List.map_map] at this
 exact this
theorem own_ints {W : World} {B n : Nat} {v : Value} {l : List Int} (h : W.ownsRow B 3 1 v n (inV l)) : dF W l v:=by
 have hl : n = l.length:=by have:=h.1;simp [inV] at this;omega
 exact flat_ints ((jE h).keep (dM _ _)) hl
theorem info3x : (Tryz.prog.info? 3).map (fun i=>(i.zero,i.size,i.bytes)) = some (some (.int .i64 0),1,8):=by kernel_rfl
theorem mG (m : Int) (h0 : 0 ≤ m) (h1 : m < 65536) (w : World) : Calls Tryz.prog 71 #[.int .i64 m] w (xN (bJ m) w):=by
 obtain ⟨i0,hi0,hz0,hs0,hb0⟩:=info_parts info3x
 go_enter Tryz.func71,Tryz.ntmps71
 go_wp2_with fail
 go_loopw [3,4] (fun u i wr=>∃ n : Nat,n ≤ 16 ∧ i = .int .i64 n ∧ Hid (wr.ownsRow w.heap.size 3 1 u (dG m n).length (inV (dG m n)) ∧ Below w.heap.size w wr)) (fun _ i _=>16 - (intOf i).toNat)
 case atStart=>exact ⟨0,Nat.zero_le _,rfl,World.ownsRow_nil _ _ _ _,Below.refl _ _⟩
 case round =>
  obtain ⟨n,hn,rfl,hs⟩:=hrel
  have n64 : (n : Int) ≤ 64:=by omega
  obtain ⟨y,hy⟩ : ∃ y,m / 2 ^ n = y:=⟨_,rfl⟩
  by_cases hg : 0 < y
  ·have g1 : decide (0 < m / 2 ^ n) = true:=by rw [hy];exact decide_eq_true hg
   have h16 : n < 16:=by
    rcases Nat.lt_or_ge n 16 with h | h
    ·exact h
    ·have : n = 16:=by omega
     subst this
     have : m / 2 ^ 16 = 0:=Int.ediv_eq_zero_of_lt h0 h1
     omega
   obtain ⟨s,hsb⟩ : ∃ s,bitI m n = s:=⟨_,rfl⟩
   have b1 : (bits .and .i64 (m / 2 ^ n) 1 == 1) = s:=by rw [oU h0,hsb]
   have HSB:=Hd hsb
   have OW:=Hd hs.out.1
   have BW:=Hd hs.out.2
   have LE:=Hd (lH m n)
   obtain ⟨xa,xc,rfl⟩:=bN hs.out.1
   clear hs hsb hy hg
   cases s
   ·go_wp2_with fail
    go_roundw
    case rel=>exact ⟨n + 1,by omega,by go_num,by rw [nK HSB.out];exact ⟨OW.out,BW.out⟩⟩
    case measure=>simp [intOf];omega
   ·have SN : Hid (inV (dG m (n + 1)) = inV (dG m n) ++ [.int .i64 (n : Int)] ∧ (dG m (n + 1)).length = (dG m n).length + 1):=by
     show _ ∧ _
     rw [oC HSB.out];simp [inV]
    have BS:=Hd BW.out.size
    generalize inV (dG m n) = xs at *
    generalize (dG m n).length = k at *
    have C1 : Hid (k + 1 ≤ maxLen ∧ (k + 1) * 8 ≤ 140737488355328):=by have:=LE.out;exact ⟨by unfold maxLen;omega,by omega⟩
    have C6 : Hid (w.heap.size ≤ (wr.alloc (.cells #[.int .i64 (n : Int)] 3)).heap.size):=by have:=BS.out;show _ ≤ _;simp;omega
    go_wp2_with (at_builtin;refine wpList_append_own _ rfl _ _ 29 rfl w.heap.size 3 i0 (.int .i64 0) 1 8 Tryz.underlying29 hi0 hz0 hs0 hb0 rfl (by decide) _ _ _ rfl (OW.out.alloc _) ⟨wr.heap.size,0,none⟩ 1 1 [.int .i64 (n : Int)] rfl rfl (cell_one_new _ _ _) (by intro u hu;simp at hu;subst hu;rfl) C1.out.1 C1.out.2 C6.out ?_)
    intro v' w3 hown2 hg2 _
    have R : Hid (w3.ownsRow w.heap.size 3 1 v' (dG m (n + 1)).length (inV (dG m (n + 1))) ∧ Below w.heap.size w w3):=by
     refine ⟨?_,(BW.out.alloc BW.out.size _).grown hg2 (by have:=C6.out;omega) (fun kk hkk=>(OW.out.lt kk hkk).1)⟩
     rw [SN.out.1,SN.out.2];exact hown2
    clear hown2 hg2
    go_wp2_with fail
    go_roundw
    case rel=>exact ⟨n + 1,by omega,by go_num,R.out⟩
    case measure=>simp [intOf];omega
  ·have g1 : decide (0 < m / 2 ^ n) = false:=by rw [hy];exact decide_eq_false hg
   have E:=Hd (bitsUp_all h0 (by rw [hy];omega) hn)
   have R : Hid (wr.ownsRow w.heap.size 3 1 u3 (bJ m).length (inV (bJ m)) ∧ Below w.heap.size w wr):=by rw [← E.out];exact hs.out
   clear hs hy hg E
   go_wp2_with fail
   go_ret
   exact ⟨_,rfl,own_ints R.out.1,R.out.2⟩
theorem xD (l : List Fa) (hl : l.length ≤ 1000) (hn : ∀ x ∈ l,x.name.length ≤ 1000000) (a : Option Addr) (k c : Nat) (w : World) (hx : aM w 3 (fasV l) l.length (.slice a k c)) :
  Calls Tryz.prog 67 #[.slice a k c] w (eL (l.map cN) w):=by
 obtain ⟨i0,hi0,hz0,hs0,hb0⟩:=info_parts fP
 have L1:=Hd hx.len.1
 have HX:=Hd hx
 have HN:=Hd hn
 have kk : k ≤ 1000:=by have:=L1.out;omega
 clear hx hn
 go_enter Tryz.func67,Tryz.ntmps67
 go_wp2_with fail
 go_loopw [3,8] (fun u i wr=>∃ j : Nat,j ≤ k ∧ i = .int .i64 j ∧ Hid (aD w.heap.size wr ((l.take j).map cN) u ∧ Below w.heap.size w wr)) (fun _ i _=>k - (intOf i).toNat)
 case atStart=>exact ⟨0,Nat.zero_le _,rfl,World.ownsRow_nil _ _ _ _,Below.refl _ _⟩
 case round =>
  obtain ⟨j,hj,rfl,hs⟩:=hrel
  by_cases hlt : j < k
  ·obtain ⟨T,hT⟩:=aH (l:=l) (j:=j) (by rw [← L1.out];exact hlt)
   obtain ⟨b,off,rfl,p0,p1,p2⟩:=cL HX.out hT
   have hK:=aC hs.out.2
   have c0:=hK _ _ p0;have c1:=hK _ _ p1;have c2:=hK _ _ p2
   have M1:=Hd (cY cN hT)
   have NL:=HN.out T (List.mem_of_getElem? hT)
   have OW:=Hd hs.out.1
   have BW:=Hd hs.out.2
   have LE : Hid (((l.take j).map cN).length ≤ 1000):=by show _ ≤ _;simp;omega
   have BS:=Hd BW.out.size
   obtain ⟨nm,ar,tr⟩:=T
   simp only [Fa.args,Fa.tru,Fa.name] at *
   clear hT hK p0 p1 p2 hs
   generalize (l.take j).map cN = M at *
   have C3 : Hid (M.length + 1 ≤ maxLen ∧ (M.length + 1) * 16 ≤ 140737488355328):=by
    have h1:=LE.out
    exact ⟨by unfold maxLen;omega,by omega⟩
   by_cases ht : tr = 1
   ·have t1 : (tr == 1) = true:=by simpa using ht
    have LN : Hid (cN ⟨nm,ar,tr⟩ = nm ++ kP):=by show _ = _;unfold cN;rw [if_pos ht]
    have SS : Hid (Value.string ((⟨nm.toArray⟩ : ByteArray) ++ ⟨#[32,105,115,32,116,114,117,101]⟩) = str (nm ++ kP)):=by show _ = _;simp only [str,kP,Value.string.injEq];apply ByteArray.ext;simp
    have C6 : Hid (w.heap.size ≤ ((wr.alloc (.cells #[str nm,.int .i64 ar,.int .i64 tr] 102)).alloc (.cells #[.string ((⟨nm.toArray⟩ : ByteArray) ++ ⟨#[32,105,115,32,116,114,117,101]⟩)] 9)).heap.size):=by have:=BS.out;show _ ≤ _;simp;omega
    clear ht
    go_wp2_with (at_builtin;refine wpList_append_own _ rfl _ _ 36 rfl w.heap.size 9 i0 (.string ⟨#[]⟩) 1 16 Tryz.underlying36 hi0 hz0 hs0 hb0 rfl (by decide) _ _ _ rfl ((OW.out.alloc _).alloc _) ⟨wr.heap.size + 1,0,none⟩ 1 1 [.string ((⟨nm.toArray⟩ : ByteArray) ++ ⟨#[32,105,115,32,116,114,117,101]⟩)] rfl rfl (news1' _ _ _) (by intro u hu;simp at hu;subst hu;rfl) C3.out.1 C3.out.2 C6.out ?_)
    intro v' w3 hown2 hg2 _
    have R : Hid (aD w.heap.size w3 ((l.take (j + 1)).map cN) v' ∧ Below w.heap.size w w3):=by
     refine ⟨?_,((BW.out.alloc BS.out _).alloc (by have:=BS.out;simp;omega) _).grown hg2 C6.out (fun kk hkk=>(OW.out.lt kk hkk).1)⟩
     rw [M1.out,LN.out]
     unfold aD
     rw [List.length_append,List.map_append]
     rw [SS.out] at hown2
     exact hown2
    clear hown2 hg2
    go_wp2_with fail
    go_roundw
    case rel=>exact ⟨j + 1,by omega,by go_num,R⟩
    case measure=>simp [intOf];omega
   ·have t1 : (tr == 1) = false:=by simpa using ht
    have LN : Hid (cN ⟨nm,ar,tr⟩ = nm ++ iY):=by show _ = _;unfold cN;rw [if_neg ht]
    have SS : Hid (Value.string ((⟨nm.toArray⟩ : ByteArray) ++ ⟨#[32,105,115,32,102,97,108,115,101]⟩) = str (nm ++ iY)):=by show _ = _;simp only [str,iY,Value.string.injEq];apply ByteArray.ext;simp
    have C6 : Hid (w.heap.size ≤ ((wr.alloc (.cells #[str nm,.int .i64 ar,.int .i64 tr] 102)).alloc (.cells #[.string ((⟨nm.toArray⟩ : ByteArray) ++ ⟨#[32,105,115,32,102,97,108,115,101]⟩)] 9)).heap.size):=by have:=BS.out;show _ ≤ _;simp;omega
    clear ht
    go_wp2_with (at_builtin;refine wpList_append_own _ rfl _ _ 36 rfl w.heap.size 9 i0 (.string ⟨#[]⟩) 1 16 Tryz.underlying36 hi0 hz0 hs0 hb0 rfl (by decide) _ _ _ rfl ((OW.out.alloc _).alloc _) ⟨wr.heap.size + 1,0,none⟩ 1 1 [.string ((⟨nm.toArray⟩ : ByteArray) ++ ⟨#[32,105,115,32,102,97,108,115,101]⟩)] rfl rfl (news1' _ _ _) (by intro u hu;simp at hu;subst hu;rfl) C3.out.1 C3.out.2 C6.out ?_)
    intro v' w3 hown2 hg2 _
    have R : Hid (aD w.heap.size w3 ((l.take (j + 1)).map cN) v' ∧ Below w.heap.size w w3):=by
     refine ⟨?_,((BW.out.alloc BS.out _).alloc (by have:=BS.out;simp;omega) _).grown hg2 C6.out (fun kk hkk=>(OW.out.lt kk hkk).1)⟩
     rw [M1.out,LN.out]
     unfold aD
     rw [List.length_append,List.map_append]
     rw [SS.out] at hown2
     exact hown2
    clear hown2 hg2
    go_wp2_with fail
    go_roundw
    case rel=>exact ⟨j + 1,by omega,by go_num,R⟩
    case measure=>simp [intOf];omega
  ·have e : l.take j = l:=List.take_of_length_le (by rw [← L1.out];omega)
   have HO : Hid (aD w.heap.size wr (l.map cN) u3 ∧ Below w.heap.size w wr):=by have:=hs.out;rw [e] at this;exact this
   clear hs e
   go_wp2_with fail
   go_ret
   exact ⟨_,rfl,HO.out.1,HO.out.2⟩
theorem mask_c (m : Int) (h0 : 0 ≤ m) (w : World) : Calls Tryz.prog 75 #[.int .i64 m] w (eL ((bJ m).map Lib.itoa) w):=by
 obtain ⟨i0,hi0,hz0,hs0,hb0⟩:=info_parts fP
 have RD : Hid (∀ (n : Nat) W,n ≤ 16 → Calls Tryz.prog 73 #[.int .i64 n] W fun e w'=>e = .returned (str (Lib.itoa (n : Int))) ∧ W = w'):=fun n W hn=>by
  have hdec : Lib.itoa (n : Int) = Lib.decDigits n:=by unfold Lib.itoa;rw [if_neg (by omega)];simp
  rw [hdec];exact vU n (by omega) W
 go_enter Tryz.func75,Tryz.ntmps75
 go_wp2_with fail
 go_loopw [3,4] (fun u i wr=>∃ n : Nat,n ≤ 16 ∧ i = .int .i64 n ∧ Hid (aD w.heap.size wr ((dG m n).map Lib.itoa) u ∧ Below w.heap.size w wr)) (fun _ i _=>16 - (intOf i).toNat)
 case atStart=>exact ⟨0,Nat.zero_le _,rfl,World.ownsRow_nil _ _ _ _,Below.refl _ _⟩
 case round =>
  obtain ⟨n,hn,rfl,hs⟩:=hrel
  by_cases hlt : n < 16
  ·have n64 : (n : Int) ≤ 64:=by omega
   have g1 : decide ((n : Int) < 16) = true:=by simp;omega
   obtain ⟨s,hsb⟩ : ∃ s,bitI m n = s:=⟨_,rfl⟩
   have b1 : ((m / 2 ^ n).tmod 2 == 1) = s:=hsb
   have HSB:=Hd hsb
   have OW:=Hd hs.out.1
   have BW:=Hd hs.out.2
   have LE:=Hd (lH m n)
   clear hs hsb
   cases s
   ·go_wp2_with fail
    go_roundw
    case rel=>exact ⟨n + 1,by omega,by go_num,by rw [nK HSB.out];exact ⟨OW.out,BW.out⟩⟩
    case measure=>simp [intOf];omega
   ·have SN : Hid ((dG m (n + 1)).map Lib.itoa = (dG m n).map Lib.itoa ++ [Lib.itoa (n : Int)]):=by
     show _ = _
     rw [oC HSB.out];simp
    have BS:=Hd BW.out.size
    have LM : Hid (((dG m n).map Lib.itoa).length ≤ 16):=by have:=LE.out;show _ ≤ _;rw [List.length_map];omega
    generalize (dG m n).map Lib.itoa = M at *
    have C1 : Hid (M.length + 1 ≤ maxLen ∧ (M.length + 1) * 16 ≤ 140737488355328):=by have:=LM.out;exact ⟨by unfold maxLen;omega,by omega⟩
    have C6 : Hid (w.heap.size ≤ (wr.alloc (.cells #[str (Lib.itoa (n : Int))] 9)).heap.size):=by have:=BS.out;show _ ≤ _;simp;omega
    go_wp2_with (first | (go_at_call 73;refine (RD.out n _ (by omega)).mono ?_;rintro e w1 ⟨rfl,rfl⟩) | (at_builtin;refine wpList_append_own _ rfl _ _ 36 rfl w.heap.size 9 i0 (.string ⟨#[]⟩) 1 16 Tryz.underlying36 hi0 hz0 hs0 hb0 rfl (by decide) _ _ _ rfl (OW.out.alloc _) ⟨wr.heap.size,0,none⟩ 1 1 [str (Lib.itoa (n : Int))] rfl rfl (cell_one_new _ _ _) (by intro u hu;simp at hu;subst hu;rfl) C1.out.1 C1.out.2 C6.out ?_))
    intro v' w3 hown2 hg2 _
    have R : Hid (aD w.heap.size w3 ((dG m (n + 1)).map Lib.itoa) v' ∧ Below w.heap.size w w3):=by
     refine ⟨?_,(BW.out.alloc BS.out _).grown hg2 C6.out (fun kk hkk=>(OW.out.lt kk hkk).1)⟩
     rw [SN.out]
     unfold aD
     rw [List.length_append,List.map_append]
     exact hown2
    clear hown2 hg2
    go_wp2_with fail
    go_roundw
    case rel=>exact ⟨n + 1,by omega,by go_num,R.out⟩
    case measure=>simp [intOf];omega
  ·have e : n = 16:=by omega
   have g1 : decide ((n : Int) < 16) = false:=by simp;omega
   have R : Hid (aD w.heap.size wr ((bJ m).map Lib.itoa) u3 ∧ Below w.heap.size w wr):=by have:=hs.out;rw [e] at this;exact this
   clear hs e
   go_wp2_with fail
   go_ret
   exact ⟨_,rfl,R.out.1,R.out.2⟩
theorem qN (sep : Bs) (x : Bs) : ∀ l : List Bs,l ≠ [] → bS sep (l ++ [x]) = bS sep l ++ sep ++ x
 | [],h=>absurd rfl h
 | [a],_=>by simp [bS]
 | a :: b :: l,_=>by
  have:=qN sep x (b :: l) (by simp)
  simp only [List.cons_append,bS] at this ⊢
  rw [this];simp
theorem zD (l : List Bs) (hne : ∀ x ∈ l,x ≠ []) (hl : l.length ≤ 1000) (hj : ∀ j,(bS fE (l.take j)).length ≤ 1000000) (hx1 : ∀ x ∈ l,x.length ≤ 1000000) (a : Option Addr) (k c : Nat) (w : World) (hx : aX w l (.slice a k c)) :
  Calls Tryz.prog 74 #[.slice a k c] w fun e w'=>e = .returned (str (gQ l)) ∧ w = w':=by
 have L1:=Hd hx.len.1
 have HX:=Hd hx
 have HJ:=Hd hj
 have HN:=Hd hne
 have HL:=Hd hx1
 have kk : k ≤ 1000:=by have:=L1.out;omega
 obtain ⟨Z,hZ⟩ : ∃ Z,gQ l = Z:=⟨_,rfl⟩
 rw [hZ]
 have HZ:=Hd hZ
 clear hx hj hne hx1 hZ
 go_enter Tryz.func74,Tryz.ntmps74
 go_wp2_with fail
 go_loopw [3,4] (fun u i wr=>∃ (j : Nat) (J : Bs),j ≤ k ∧ i = .int .i64 j ∧ u = str J ∧ w = wr ∧ Hid (J = bS fE (l.take j))) (fun _ i _=>k - (intOf i).toNat)
 case atStart=>exact ⟨0,[],Nat.zero_le _,rfl,rfl,rfl,rfl⟩
 case round =>
  obtain ⟨j,J,hj,rfl,rfl,rfl,hJ⟩:=hrel
  have JL : J.length ≤ 1000000:=by rw [hJ.out];exact HJ.out j
  by_cases hlt : j < k
  ·obtain ⟨x,hx⟩:=aH (l:=l) (j:=j) (by rw [← L1.out];exact hlt)
   obtain ⟨b,off,rfl,hc⟩:=jH HX.out hx
   have c0:=hc j x hx
   have g1 : decide ((j : Int) < (k : Int)) = true:=by simp;omega
   have XL:=HL.out x (List.mem_of_getElem? hx)
   have SN : Hid (l.take (j + 1) = l.take j ++ [x]):=by show _ = _;rw [List.take_add_one,hx];rfl
   cases j with
   | zero =>
    rw [Nat.add_zero] at c0
    have E : Hid (J ++ x = bS fE (l.take 1)):=by
     show _ = _
     rw [SN.out,hJ.out];simp [bS]
    clear hc hx hJ
    go_wp2_with fail
    go_roundw
    case rel=>exact ⟨1,J ++ x,by omega,by go_num,by simp only [str,Value.string.injEq];apply ByteArray.ext;simp,by trivial,E.out⟩
    case measure=>simp [intOf];omega
   | succ i =>
    have t0 : decide ((0 : Int) < (i : Int) + 1) = true:=decide_eq_true (by omega)
    have NE : l.take (i + 1) ≠ []:=by
     intro h
     have h2 : (l.take (i + 1)).length = i + 1:=by rw [List.length_take];have:=L1.out;omega
     rw [h] at h2;simp at h2
    have E : Hid (J ++ fE ++ x = bS fE (l.take (i + 1 + 1))):=by show _ = _;rw [SN.out,qN _ _ _ NE,hJ.out]
    clear hc hx NE hJ
    go_wp2_with fail
    go_roundw
    case rel=>exact ⟨i + 1 + 1,J ++ fE ++ x,by omega,by go_num,by simp only [str,fE,Value.string.injEq];apply ByteArray.ext;simp,by trivial,E.out⟩
    case measure=>simp [intOf];omega
  ·have e : l.take j = l:=List.take_of_length_le (by rw [← L1.out];omega)
   have g1 : decide ((j : Int) < (k : Int)) = false:=by simp;omega
   have EJ : Hid (J = bS fE l):=by show _ = _;rw [hJ.out,e]
   clear hJ e
   by_cases h0 : l = []
   ·have J0 : J = []:=by rw [EJ.out,h0];rfl
    have E : Hid (gQ l = kH):=by show _ = _;rw [h0];rfl
    subst J0
    clear h0
    go_wp2_with fail
    go_ret
    exact ⟨by rw [← HZ.out,E.out];rfl,rfl⟩
   ·have NE : J ≠ []:=by
     rw [EJ.out]
     cases l with
     | nil=>exact absurd rfl h0
     | cons y r =>
      have:=HN.out y (by simp)
      cases r with
      | nil=>simpa [bS] using this
      | cons z r=>simp [bS,this]
    have E : Hid (gQ l = J):=by
     show _ = _
     rw [EJ.out]
     cases l with
     | nil=>exact absurd rfl h0
     | cons y r=>rfl
    clear h0 EJ
    have t1 : (J == []) = false:=by simpa using NE
    go_wp2_with fail
    go_ret
    exact ⟨by rw [← HZ.out,E.out];rfl,rfl⟩
open Go Go.RowKit Go.Sort Ly
set_option maxHeartbeats 4000000
theorem lN (sep : Bs) (k : Nat) : ∀ l : List Bs,(∀ x ∈ l,x.length ≤ k) → (bS sep l).length ≤ l.length * (k + sep.length)
 | [],_=>by simp [bS]
 | [x],h=>by have:=h x (by simp);simp [bS];omega
 | x :: y :: r,h=>by
  have h1:=h x (by simp)
  have h2:=lN sep k (y :: r) (fun z hz=>h z (by simp at hz ⊢;right;exact hz))
  simp only [bS,List.length_append,List.length_cons,Nat.succ_mul] at h2 ⊢
  omega
theorem fM (m : Int) : (∀ x ∈ bJ m,0 ≤ x ∧ x ≤ 1000000) ∧ (bJ m).length ≤ 16:=⟨fun x hx=>by have:=rM m 16 x hx;exact ⟨this.1,by omega⟩,lH m 16⟩
theorem nS (m : Int) (j : Nat) : (bS fE (((bJ m).map Lib.itoa).take j)).length ≤ 1000:=by
 have h1:=fM m
 have h2:=lN fE 7 (((bJ m).map Lib.itoa).take j) (fun x hx=>by
  obtain ⟨y,hy,rfl⟩:=List.mem_map.1 (List.mem_of_mem_take hx)
  exact bC (h1.1 y hy).1 (h1.1 y hy).2)
 have h3 : (((bJ m).map Lib.itoa).take j).length ≤ 16:=by rw [List.length_take,List.length_map];omega
 have h4 : fE.length = 5:=rfl
 rw [h4] at h2
 have:=Nat.mul_le_mul_right (7 + 5) h3
 omega
theorem mQ (m : Int) : gQ ((bJ m).map Lib.itoa) = numbers (bJ m):=by
 unfold gQ numbers;simp
theorem cR (m : Int) : (numbers (bJ m)).length ≤ 1000:=by
 rw [← mQ]
 unfold gQ
 split
 ·decide
 ·have:=nS m 16
  rwa [List.take_of_length_le (by rw [List.length_map];exact (fM m).2)] at this
structure kI (F : List Fa) (R : List Int) : Prop where
 fl : F.length ≤ 12
 rl : R.length ≤ 8
 nm : ∀ x ∈ F,x.name.length ≤ 1000
 t0 : ∀ x ∈ F,0 ≤ x.tru ∧ x.tru < 65536
 r0 : ∀ x ∈ R,0 ≤ x ∧ x < 65536
theorem model16_3 (F : List Fa) (R : List Int) (z lo : Int) (ok : kI F R) (hz : 0 ≤ z) (hz2 : z ≤ 1000000) (hlo : 0 ≤ lo) (hlo2 : lo ≤ 1000000) (ra fa ga ba : Option Addr) (rn rc fn fc gn gc bn bc : Nat) (w : World) (hx : aM w 3 (fasV F) F.length (.slice fa fn fc)) (hr : aM w 1 (inV R) R.length (.slice ra rn rc)) (hp : gP w)
  (hV : ∀ W,Below w.heap.size w W → Calls Tryz.prog 65 #[lgV 3 254,mdK 3 z ra rn rc lo fa fn fc ga gn gc ba bn bc] W (Rt (.bool true) W)) :
  Calls Tryz.prog 16 #[mdK 3 z ra rn rc lo fa fn fc ga gn gc ba bn bc] w (eV ([Lib.itoa z ++ cE] ++ F.map bF ++ dV R) w):=by
 have L1:=Hd hx.len.1
 have L2:=Hd hr.len.1
 have fk : fn ≤ 12:=by have:=L1.out;have:=ok.fl;omega
 have rk : rn ≤ 8:=by have:=L2.out;have:=ok.rl;omega
 have HX:=Hd hx
 have HR:=Hd hr
 have HP:=Hd hp
 have HV:=Hd hV
 have OK:=Hd ok
 obtain ⟨i0,hi0,hz0,hs0,hb0⟩:=info_parts fP
 have BX : Hid ((w.alloc (mdR 3 z ra rn rc lo fa fn fc ga gn gc ba bn bc)).heap[w.heap.size]? = some (mdR 3 z ra rn rc lo fa fn fc ga gn gc ba bn bc)):=heap_alloc_new w _
 have WB : Hid (Below w.heap.size w (w.alloc (mdR 3 z ra rn rc lo fa fn fc ga gn gc ba bn bc))):=bnew
 have IL : Hid ((Lib.itoa z).length ≤ 7):=bC hz hz2
 have IL2 : Hid ((Lib.itoa lo).length ≤ 7):=bC hlo hlo2
 clear hx hr hp hV ok
 go_enter Tryz.func16,Tryz.ntmps16
 go_wp2_with fail
 generalize hW : w.alloc (mdR 3 z ra rn rc lo fa fn fc ga gn gc ba bn bc) = W at *
 clear hW
 have cA : Hid (∀ d os,Calls Tryz.prog 66 #[.int .u8 3] (grow (redrawn W d) os) fun e w''=>e = .returned (.int .u32 254) ∧ ∃ p : Regrown,w'' = grow (redrawn W p.d) p.os):=fun d os=>Calls.regrown_of (hI 3 _)
 have cV : Hid (∀ d os,Calls Tryz.prog 65 #[lgV 3 254,mdK 3 z ra rn rc lo fa fn fc ga gn gc ba bn bc] (grow (redrawn W d) os) fun e w''=>e = .returned (.bool true) ∧ ∃ p : Regrown,w'' = grow (redrawn W p.d) p.os):=fun d os =>
  Calls.regrown_of (HV.out _ (aA WB.out (below_regrown W d os)))
 obtain ⟨⟨k0,k1,k2,k3,k4,k5,k6⟩,-⟩:=aK BX.out
 have r0:=cell_regrown k0;have r1:=cell_regrown k1;have r2:=cell_regrown k2;have r3:=cell_regrown k3;have r4:=cell_regrown k4;have r5:=cell_regrown k5;have r6:=cell_regrown k6
 refine wqb ?_
 repeat (go_big_quiet_step (first | (go_at_call 66;exact cA.out _ _) | (go_at_call 65;exact cV.out _ _)))
 refine wpQuiet_nil ?_
 intro wq hw'
 have WQ : Hid (Below W.heap.size W wq):=by
  obtain ⟨⟨dq,osq⟩,hw''⟩:=hw'
  rw [hw''];exact below_regrown W dq osq
 clear hw' r0 r1 r2 r3 r4 r5 r6 cA cV k0 k1 k2 k3 k4 k5 k6
 have BQ:=Hd (aA WB.out WQ.out)
 have BXq:=Hd (kc WQ.out BX.out)
 obtain ⟨⟨k0,k1,k2,k3,k4,k5,k6⟩,-⟩:=aK BXq.out
 go_wp2_with fail
 refine (eH z hz hz2 _ (HP.out.below BQ.out)).mono ?_
 rintro e w1 ⟨rfl,b1⟩
 have B1:=Hd (aA BQ.out b1)
 have BX1:=Hd (kc b1 BXq.out)
 clear b1 k0 k1 k2 k3 k4 k5 k6
 obtain ⟨⟨k0,k1,k2,k3,k4,k5,k6⟩,-⟩:=aK BX1.out
 have il:=IL.out
 have il2:=IL2.out
 have z1 : w.heap.size < w1.heap.size:=(Array.getElem?_eq_some_iff.1 BX1.out).1
 go_wp2_with fail
 have SH : Hid (Value.string ((⟨(Lib.itoa z).toArray⟩ : ByteArray) ++ ⟨#[32,119,111,114,108,100,115]⟩) = str (Lib.itoa z ++ cE)):=by show _ = _;simp only [str,cE,Value.string.injEq];apply ByteArray.ext;simp
 have O2 : Hid (aD (w.heap.size + 1) (w1.alloc (.cells #[.string ((⟨(Lib.itoa z).toArray⟩ : ByteArray) ++ ⟨#[32,119,111,114,108,100,115]⟩)] 9)) [Lib.itoa z ++ cE] (.slice (some ⟨w1.heap.size,0,none⟩) 1 1)):=by
  have h:=(gI w1 (Lib.itoa z ++ cE)).mono (B':=w.heap.size + 1) (Array.getElem?_eq_some_iff.1 BX1.out).1
  show aD _ _ _ _
  rw [SH.out];exact h
 have B3 : Hid (Below w.heap.size w (w1.alloc (.cells #[.string ((⟨(Lib.itoa z).toArray⟩ : ByteArray) ++ ⟨#[32,119,111,114,108,100,115]⟩)] 9))):=B1.out.alloc B1.out.size _
 have BX3 : Hid ((w1.alloc (.cells #[.string ((⟨(Lib.itoa z).toArray⟩ : ByteArray) ++ ⟨#[32,119,111,114,108,100,115]⟩)] 9)).heap[w.heap.size]? = some (mdR 3 z ra rn rc lo fa fn fc ga gn gc ba bn bc)):=kc bnew BX1.out
 generalize Lib.itoa z ++ cE = hd at *
 go_loopw [5,53] (fun u i wr=>∃ j : Nat,j ≤ fn ∧ i = .int .i64 j ∧ Hid (aD (w.heap.size + 1) wr ([hd] ++ (F.take j).map bF) u ∧ Below w.heap.size w wr ∧ wr.heap[w.heap.size]? = some (mdR 3 z ra rn rc lo fa fn fc ga gn gc ba bn bc))) (fun _ i _=>fn - (intOf i).toNat)
 case atStart=>exact ⟨0,Nat.zero_le _,rfl,by simpa using O2.out,B3.out,BX3.out⟩
 case round =>
  clear O2 B3 BX3 B1 BX1 BQ BXq BX WB WQ SH il il2 IL IL2
  obtain ⟨j,hj,rfl,hs⟩:=hrel
  by_cases hlt : j < fn
  ·obtain ⟨T,hT⟩:=aH (l:=F) (j:=j) (by rw [← L1.out];exact hlt)
   obtain ⟨b,off,rfl,p0,p1,p2⟩:=cL HX.out hT
   have hK:=aC hs.out.2.1
   have c0:=hK _ _ p0;have c1:=hK _ _ p1;have c2:=hK _ _ p2
   have M1:=Hd (cY bF hT)
   have NL:=OK.out.nm T (List.mem_of_getElem? hT)
   have TT:=OK.out.t0 T (List.mem_of_getElem? hT)
   obtain ⟨nm,ar,tr⟩:=T
   simp only [Fa.args,Fa.tru,Fa.name] at *
   obtain ⟨tt0,tt1⟩:=TT
   have OW0:=Hd hs.out.1
   have BW:=Hd hs.out.2.1
   have ROW:=Hd hs.out.2.2
   have ws : w.heap.size < wr.heap.size:=(Array.getElem?_eq_some_iff.1 hs.out.2.2).1
   have LE : Hid (((F.take j).map bF).length ≤ 12):=by show _ ≤ _;simp;omega
   have LN : Hid (bF ⟨nm,ar,tr⟩ = nm ++ mwAt ++ numbers (bJ tr)):=rfl
   have NN:=cR tr
   have nl1 : ¬ 9223372036854775807 < List.length nm + 12:=by omega
   have BO:=Hd (fM tr)
   have A1 : Hid (Below wr.heap.size wr (wr.alloc (.cells #[str nm,.int .i64 ar,.int .i64 tr] 102)).drew):=bnew.drew
   have B0:=Hd (aA BW.out A1.out)
   have hS0 : (wr.alloc (.cells #[str nm,.int .i64 ar,.int .i64 tr] 102)).drew.heap[wr.heap.size]? = some (.cells #[str nm,.int .i64 ar,.int .i64 tr] 102):=heap_alloc_new wr _
   clear hT hK p0 p1 p2 hs
   generalize (F.take j).map bF = M at *
   have C3 : Hid (([hd] ++ M).length + 1 ≤ maxLen ∧ (([hd] ++ M).length + 1) * 16 ≤ 140737488355328):=by
    have h1:=LE.out
    simp only [List.length_append,List.length_cons,List.length_nil]
    exact ⟨by unfold maxLen;omega,by omega⟩
   go_wp2_with fail
   refine wp_region_held_drew (S:=fun w'=>w'.heap[wr.heap.size]? = some (.cells #[str nm,.int .i64 ar,.int .i64 tr] 102)) (by kernel_rfl) hS0 (fun hHeld=>?_)
   refine tk 0 ?_
   try simp only [Act.put,s1,s2,s3,s4,s5,s6]
   refine tk 1 ?_
   try simp only [Act.put,s1,s2,s3,s4,s5,s6]
   refine tk 2 ?_ (hv:=by intro w0 hSw;obtain ⟨⟨z0,z1,z2⟩,-⟩:=bQ hSw;go_simp;try with_reducible rfl)
   try simp only [Act.put,s1,s2,s3,s4,s5,s6]
   refine tk 3 ?_
   try simp only [Act.put,s1,s2,s3,s4,s5,s6]
   refine tk 4 ?_
   try simp only [Act.put,s1,s2,s3,s4,s5,s6]
   refine tk 5 ?_ (hv:=by intro w0 hSw;obtain ⟨⟨z0,z1,z2⟩,-⟩:=bQ hSw;go_simp;try with_reducible rfl)
   try simp only [Act.put,s1,s2,s3,s4,s5,s6]
   refine rd 6 (fun K hK=>?_)
   go_simp
   go_at_call 71
   refine (mG tr tt0 tt1 _).mono ?_
   rintro e w3 ⟨v3,rfl,i3,b3⟩
   obtain ⟨y,yn,yc,rfl⟩:=dF.slice i3
   have I3:=Hd i3
   have B3:=Hd (aA B0.out b3)
   have hSn:=kc b3 hS0
   have hS3:=hSn
   have Z3:=Hd b3
   clear i3 b3
   go_simp
   refine hK.out _ _ hSn (fun _=>?_)
   clear hK K
   try simp only [Act.put,s1,s2,s3,s4,s5,s6]
   refine rd 7 (fun K hK=>?_)
   go_simp
   go_at_call 70
   refine (fD (bJ tr) BO.out.1 (by have:=BO.out.2;omega) _ _ _ _ (HP.out.below B3.out) I3.out).mono ?_
   rintro e w4 ⟨rfl,b4⟩
   have B4:=Hd (aA B3.out b4)
   have hSn:=kc b4 hS3
   have Z4:=Hd (aA A1.out (aA Z3.out b4))
   have OW4:=Hd (aD.below (aD.below OW0.out A1.out) (aA Z3.out b4))
   have ROW4:=Hd (kc b4 (kc Z3.out (kc A1.out ROW.out)))
   have hS4:=hSn
   clear b4
   go_simp
   refine hK.out _ _ hSn (fun _=>?_)
   clear hK K
   try simp only [Act.put,s1,s2,s3,s4,s5,s6]
   obtain ⟨N,hN⟩ : ∃ N,numbers (bJ tr) = N:=⟨_,rfl⟩
   rw [hN] at NN LN
   simp only [hN]
   clear hN
   have SS : Hid (Value.string ((⟨nm.toArray⟩ : ByteArray) ++ ⟨#[32,105,115,32,116,114,117,101,32,97,116,32]⟩ ++ ⟨N.toArray⟩) = str (nm ++ mwAt ++ N)):=by show _ = _;simp only [str,mwAt,Value.string.injEq];apply ByteArray.ext;simp
   have nl2 : ¬ 9223372036854775807 < List.length nm + 12 + List.length N:=by omega
   have ws4 : w.heap.size < w4.heap.size:=(Array.getElem?_eq_some_iff.1 ROW4.out).1
   have wr4 : wr.heap.size < w4.heap.size:=(Array.getElem?_eq_some_iff.1 hS4).1
   refine tk 8 ?_
   try simp only [Act.put,s1,s2,s3,s4,s5,s6]
   refine rd 9 (fun K hK=>?_)
   go_simp
   refine hK.out _ _ ((heap_alloc_old _ _ wr4).trans hS4) (fun _=>?_)
   clear hK K
   try simp only [Act.put,s1,s2,s3,s4,s5,s6]
   refine rd 10 (fun K hK=>?_)
   refine aR rfl _ _ 36 rfl (w.heap.size + 1) 9 i0 (.string ⟨#[]⟩) 1 16 Tryz.underlying36 hi0 hz0 hs0 hb0 rfl (by decide) _ _ _ rfl (OW4.out.alloc _) ⟨w4.heap.size,0,none⟩ 1 1 [.string ((⟨nm.toArray⟩ : ByteArray) ++ ⟨#[32,105,115,32,116,114,117,101,32,97,116,32]⟩ ++ ⟨N.toArray⟩)] rfl rfl (cell_one_new _ _ _) (by intro u hu;simp at hu;subst hu;rfl) C3.out.1 C3.out.2 (by simp;omega) ?_
   intro v5 w5 hown2 hg2 _
   have hg5 : w5.heap[wr.heap.size]? = some (.cells #[str nm,.int .i64 ar,.int .i64 tr] 102):=(hg2.block _ (by simp;omega) (fun e=>by have:=(OW0.out.lt _ e.symm).2;omega)).trans ((heap_alloc_old _ _ wr4).trans hS4)
   have R : Hid (aD (w.heap.size + 1) w5 ([hd] ++ (F.take (j + 1)).map bF) v5 ∧ Below w.heap.size w w5 ∧ w5.heap[w.heap.size]? = some (mdR 3 z ra rn rc lo (some ⟨b,off,none⟩) fn fc ga gn gc ba bn bc)):=by
    refine ⟨?_,(B4.out.alloc B4.out.size _).grown hg2 (by simp;omega) (fun kk hkk=>by have:=(OW4.out.lt kk hkk).1;omega),(hg2.block _ (by simp;omega) (fun e=>by have:=(OW4.out.lt _ e.symm).1;omega)).trans ((heap_alloc_old _ _ ws4).trans ROW4.out)⟩
    rw [M1.out,LN.out,← List.append_assoc]
    unfold aD
    rw [List.length_append,List.map_append]
    rw [SS.out] at hown2
    exact hown2
   clear hown2 hg2
   refine hK.out _ _ hg5 (fun _=>?_)
   clear hK K
   try simp only [Act.put,s1,s2,s3,s4,s5,s6]
   refine rd 11 (fun K hK=>?_)
   go_simp
   refine hK.out _ _ hg5 (fun _=>?_)
   clear hK K
   try simp only [Act.put,s1,s2,s3,s4,s5,s6]
   refine wpAnyH_done (by kernel_rfl) ?_ _
   go_wp2_with fail
   go_roundw
   case rel=>exact ⟨j + 1,by omega,by go_num,R.out⟩
   case measure=>simp [intOf];omega
  ·have e : (F.take j) = F:=List.take_of_length_le (by rw [← L1.out];omega)
   have HS : Hid (aD (w.heap.size + 1) wr ([hd] ++ F.map bF) u5 ∧ Below w.heap.size w wr ∧ wr.heap[w.heap.size]? = some (mdR 3 z ra rn rc lo fa fn fc ga gn gc ba bn bc)):=by have h:=hs.out;rw [e] at h;exact h
   have g1 : decide ((j : Int) < (fn : Int)) = false:=by simp;omega
   obtain ⟨⟨k0,k1,k2,k3,k4,k5,k6⟩,-⟩:=aK HS.out.2.2
   have LF : Hid ((F.map bF).length ≤ 12):=by show _ ≤ _;rw [List.length_map,← L1.out];exact fk
   clear hs e hj
   generalize F.map bF = FL at *
   go_wp2_with fail
   go_loopw [5,72] (fun u i wx=>∃ j : Nat,j ≤ rn ∧ i = .int .i64 j ∧ Hid (aD (w.heap.size + 1) wx ([hd] ++ FL ++ (List.range j).map (aZ R)) u ∧ Below w.heap.size w wx)) (fun _ i _=>rn - (intOf i).toNat)
   case atStart=>exact ⟨0,Nat.zero_le _,rfl,by simpa using HS.out.1,HS.out.2.1⟩
   case round =>
    clear HS k0 k1 k2 k3 k4 k5 k6
    obtain ⟨j,hj,rfl,hs⟩:=hrel
    by_cases hlt : j < rn
    ·obtain ⟨x,hx⟩:=aH (l:=R) (j:=j) (by rw [← L2.out];exact hlt)
     obtain ⟨b,off,rfl,p0⟩:=eS HR.out hx
     have c0:=aC hs.out.2 _ _ p0
     have XR:=OK.out.r0 x (List.mem_of_getElem? hx)
     obtain ⟨xr0,xr1⟩:=XR
     have LN : Hid (aZ R j = Lib.itoa (j : Int) ++ fK ++ numbers (bJ x)):=by show _ = _;unfold aZ;rw [cW hx]
     have NN:=cR x
     have BO:=Hd (fM x)
     have IJ : Hid ((Lib.itoa (j : Int)).length ≤ 7):=bC (by omega) (by omega)
     have ij:=IJ.out
     have OW0:=Hd hs.out.1
     have BW:=Hd hs.out.2
     have M1 : Hid ((List.range (j + 1)).map (aZ R) = (List.range j).map (aZ R) ++ [aZ R j]):=by show _ = _;rw [List.range_succ,List.map_append];rfl
     have LE : Hid (((List.range j).map (aZ R)).length ≤ 8):=by show _ ≤ _;simp;omega
     have jb0 : (0 : Int) ≤ (j : Int):=by omega
     have jb1 : (j : Int) ≤ 1000000:=by omega
     clear hx p0 hs
     generalize (List.range j).map (aZ R) = M at *
     have C3 : Hid (([hd] ++ FL ++ M).length + 1 ≤ maxLen ∧ (([hd] ++ FL ++ M).length + 1) * 16 ≤ 140737488355328):=by
      have h1:=LE.out
      have h2:=LF.out
      simp only [List.length_append,List.length_cons,List.length_nil]
      exact ⟨by unfold maxLen;omega,by omega⟩
     have nl1 : ¬ 9223372036854775807 < List.length (Lib.itoa (j : Int)) + 6:=by omega
     have nl2 : ¬ 9223372036854775807 < List.length (Lib.itoa (j : Int)) + 6 + List.length (numbers (bJ x)):=by omega
     have SS : Hid (Value.string ((⟨(Lib.itoa (j : Int)).toArray⟩ : ByteArray) ++ ⟨#[32,115,101,101,115,32]⟩ ++ ⟨(numbers (bJ x)).toArray⟩) = str (Lib.itoa (j : Int) ++ fK ++ numbers (bJ x))):=by show _ = _;simp only [str,fK,Value.string.injEq];apply ByteArray.ext;simp
     go_wp2_with (first
      | (go_at_call 35;refine (eH (j : Int) jb0 jb1 _ (HP.out.below BW.out)).mono ?_;rintro e w3 ⟨rfl,b3⟩;have B3:=Hd (aA BW.out b3);have Z3:=Hd b3;clear b3)
      | (go_at_call 71;refine (mG x xr0 xr1 _).mono ?_;rintro e w4 ⟨v4,rfl,i4,b4⟩;obtain ⟨y,yn,yc,rfl⟩:=dF.slice i4;have I4:=Hd i4;have B4:=Hd (aA B3.out b4);have Z4:=Hd (aA Z3.out b4);clear i4 b4)
      | (go_at_call 70;refine (fD (bJ x) BO.out.1 (by have:=BO.out.2;omega) _ _ _ _ (HP.out.below B4.out) I4.out).mono ?_;rintro e w5 ⟨rfl,b5⟩;have B5:=Hd (aA B4.out b5);have OW5:=Hd (aD.below OW0.out (aA Z4.out b5));have C6 : Hid (w.heap.size + 1 ≤ (w5.alloc (.cells #[.string ((⟨(Lib.itoa (j : Int)).toArray⟩ : ByteArray) ++ ⟨#[32,115,101,101,115,32]⟩ ++ ⟨(numbers (bJ x)).toArray⟩)] 9)).heap.size):=(by have:=B5.out.size;show _ ≤ _;simp;omega);clear b5)
      | (at_builtin;refine wpList_append_own _ rfl _ _ 36 rfl (w.heap.size + 1) 9 i0 (.string ⟨#[]⟩) 1 16 Tryz.underlying36 hi0 hz0 hs0 hb0 rfl (by decide) _ _ _ rfl (OW5.out.alloc _) ⟨w5.heap.size,0,none⟩ 1 1 [.string ((⟨(Lib.itoa (j : Int)).toArray⟩ : ByteArray) ++ ⟨#[32,115,101,101,115,32]⟩ ++ ⟨(numbers (bJ x)).toArray⟩)] rfl rfl (cell_one_new _ _ _) (by intro u hu;simp at hu;subst hu;rfl) C3.out.1 C3.out.2 C6.out ?_))
     intro v' w6 hown2 hg2 _
     have R6 : Hid (aD (w.heap.size + 1) w6 ([hd] ++ FL ++ (List.range (j + 1)).map (aZ R)) v' ∧ Below w.heap.size w w6):=by
      refine ⟨?_,(B5.out.alloc B5.out.size _).grown hg2 (by have:=C6.out;omega) (fun kk hkk=>by have:=(OW5.out.lt kk hkk).1;omega)⟩
      rw [M1.out,LN.out,← List.append_assoc]
      rw [SS.out] at hown2
      have e9 : FL.length + M.length + 1 + 1 = FL.length + (M.length + 1) + 1:=by omega
      rw [e9] at hown2
      simpa [aD] using hown2
     clear hown2 hg2
     go_wp2_with fail
     go_roundw
     case rel=>exact ⟨j + 1,by omega,by go_num,R6⟩
     case measure=>simp [intOf];omega
    ·have e : j = rn:=by omega
     have HE : Hid (aD (w.heap.size + 1) wr ([hd] ++ FL ++ dV R) u5 ∧ Below w.heap.size w wr):=by
      have h:=hs.out
      rw [e,L2.out] at h
      exact h
     have g2 : decide ((j : Int) < (rn : Int)) = false:=by simp;omega
     clear hs e
     go_wp2_with fail
     go_ret2
     exact ⟨_,rfl,HE.out.1.mono (Nat.le_succ _),HE.out.2⟩
end Go.Proofs.YtcandidgaegghaaGreatDoor
