/- holds.valuation, truth.Model, holds.valuations.valid. Conditions: at most a thousand facts; names fit into memory. -/
import Derived.Test.YtcandidgaegghaaGreatDoorCpZ
import Derived.Test.YtcandidgaegghaaGreatDoorMdRZ
import Derived.Test.YtcandidgaegghaaGreatDoorMdSBZ
set_option maxRecDepth 10000
set_option linter.unusedSimpArgs false
set_option linter.unusedVariables false
namespace Go.Proofs.YtcandidgaegghaaGreatDoor
open Go Go.RowKit Go.Sort Ly
set_option maxHeartbeats 4000000
def nE (F : List Fa) (j : Nat) : Int:=((F[j]?).map Fa.tru).getD 0
theorem sV {F : List Fa} {j : Nat} {f : Fa} (h : F[j]? = some f) : nE F j = f.tru:=by simp [nE,h]
def fH (F : List Fa) : Nat → Int
 | 0=>0
 | j + 1=>2 * fH F j + nE F j % 2
theorem pN (F : List Fa) : ∀ j,0 ≤ fH F j ∧ fH F j < 2 ^ j
 | 0=>⟨Int.le_refl 0,by show (0 : Int) < 1;decide⟩
 | j + 1=>by
  have:=pN F j
  rw [fH,Int.pow_succ]
  have h2 : nE F j % 2 = 0 ∨ nE F j % 2 = 1:=by omega
  generalize (2 : Int) ^ j = p at *
  omega
theorem uX (F : List Fa) : ∀ j i,i < j → fH F j / 2 ^ (j - 1 - i) % 2 = nE F i % 2
 | 0,i,h=>by omega
 | j + 1,i,h=>by
  rcases Nat.lt_succ_iff_lt_or_eq.1 h with h | rfl
  ·rw [fH,show j + 1 - 1 - i = 1 + (j - 1 - i) by omega,Int.pow_add,← Int.ediv_ediv_of_nonneg (by decide)]
   have : (2 * fH F j + nE F j % 2) / 2 ^ 1 = fH F j:=by omega
   rw [this]
   exact uX F j i h
  ·rw [fH,show i + 1 - 1 - i = 0 by omega]
   simp only [Int.pow_zero,Int.ediv_one]
   omega
theorem wrap_i64_small {x : Int} (h0 : -9223372036854775808 ≤ x) (h1 : x ≤ 9223372036854775807) : IntKind.i64.wrap x = x:=by
 rw [IntKind.wrap_i64];omega
def ckVal : Bool:=(List.range 4096).all fun v=>(bits .or .i64 (2 * (v : Int)) 0 == 2 * (v : Int)) && (bits .or .i64 (2 * (v : Int)) 1 == 2 * (v : Int) + 1)
theorem ckVal_true : ckVal = true:=by kernel_rfl
theorem val_step {F : List Fa} {j : Nat} (h : j < 12) : bits .or .i64 (2 * fH F j) (bits .and .i64 (nE F j) 1) = fH F (j + 1):=by
 have h1:=pN F j
 have h2 : (2 : Int) ^ j ≤ 2 ^ 12:=by exact_mod_cast Nat.pow_le_pow_right (by decide : 0 < 2) (show j ≤ 12 by omega)
 rw [rJ,fH]
 obtain ⟨v,hv⟩ : ∃ v : Nat,fH F j = (v : Int):=⟨(fH F j).toNat,by omega⟩
 have:=dT ckVal_true (show v < 4096 by omega)
 rw [Bool.and_eq_true,beq_iff_eq,beq_iff_eq] at this
 rw [hv]
 rcases (show nE F j % 2 = 0 ∨ nE F j % 2 = 1 by omega) with e | e <;> rw [e]
 ·rw [this.1];omega
 ·rw [this.2]
theorem valBit_in (F : List Fa) (n i : Nat) (h : i < n) : bits .and .i64 (fH F n / 2 ^ (n - 1 - i)) 1 = nE F i % 2:=by
 rw [rJ];exact uX F n i h
theorem valuation_no (F : List Fa) (hF : 12 < F.length) (z lo : Int) (ra fa ga ba : Option Addr) (rn rc fn fc gn gc bn bc : Nat) (w : World) (hx : aM w 3 (fasV F) F.length (.slice fa fn fc)) :
  Calls Tryz.prog 340 #[mdK 1 z ra rn rc lo fa fn fc ga gn gc ba bn bc] w (Rt (.tuple #[.slice none 0 0,.int .i64 0,.bool false]) w):=by
 have hk:=hx.len
 have k12 : 12 < fn:=by omega
 have k63 : fn ≤ 9223372036854775807:=le63 (Nat.le_trans (Nat.le_of_eq hk.1) (Nat.le_trans hk.2.1 hk.2.2.1))
 have t1 : decide ((12 : Int) < (fn : Int)) = true:=decide_eq_true (by omega)
 have HB : Hid (Below w.heap.size w (w.alloc (mdR 1 z ra rn rc lo fa fn fc ga gn gc ba bn bc))):=bnew
 clear hk hx hF
 go_enter Tryz.func340,Tryz.ntmps340
 go_wp2_with fail
 go_ret3
 exact ⟨rfl,HB.out⟩
theorem valuation_c (F : List Fa) (hF : F.length ≤ 12) (z lo : Int) (ra fa ga ba : Option Addr) (rn rc fn fc gn gc bn bc : Nat) (w : World) (hx : aM w 3 (fasV F) F.length (.slice fa fn fc)) :
  Calls Tryz.prog 340 #[mdK 1 z ra rn rc lo fa fn fc ga gn gc ba bn bc] w fun e w'=>∃ a n c,e = .returned (.tuple #[.slice a n c,.int .i64 (fH F fn),.bool true]) ∧ aX w' (F.map Fa.name) (.slice a n c) ∧ Below w.heap.size w w':=by
 have hk:=hx.len
 have k12 : fn ≤ 12:=by omega
 have L1:=Hd hk.1
 have HX:=Hd hx
 obtain ⟨i0,hi0,hz0,hs0,hb0⟩:=info_parts fP
 have t1 : decide ((12 : Int) < (fn : Int)) = false:=decide_eq_false (by omega)
 have HB : Hid (Below w.heap.size w (w.alloc (mdR 1 z ra rn rc lo fa fn fc ga gn gc ba bn bc))):=bnew
 clear hk hx hF
 go_enter Tryz.func340,Tryz.ntmps340
 go_wp2_with fail
 go_loopw [5,6,16] (fun u v i wr=>∃ j : Nat,j ≤ fn ∧ i = .int .i64 j ∧ v = .int .i64 (fH F j) ∧ Hid (aD (w.heap.size + 1) wr ((F.take j).map Fa.name) u ∧ Below w.heap.size w wr)) (fun _ _ i _=>fn - (intOf i).toNat)
 case atStart=>exact ⟨0,Nat.zero_le _,rfl,rfl,World.ownsRow_nil _ _ _ _,HB.out⟩
 case round =>
  obtain ⟨j,hj,rfl,rfl,hs⟩:=hrel
  by_cases hlt : j < fn
  ·obtain ⟨T,hT⟩:=aH (l:=F) (j:=j) (by rw [← L1.out];exact hlt)
   obtain ⟨b,off,rfl,p0,p1,p2⟩:=cL HX.out hT
   have hK:=aC hs.out.2
   have c0:=hK _ _ p0;have c1:=hK _ _ p1;have c2:=hK _ _ p2
   have M1:=Hd (cY Fa.name hT)
   have VS:=val_step (F:=F) (show j < 12 by omega)
   rw [sV hT] at VS
   have VI:=pN F j
   have V2 : (2 : Int) ^ j ≤ 2 ^ 11:=by exact_mod_cast Nat.pow_le_pow_right (by decide : 0 < 2) (show j ≤ 11 by omega)
   obtain ⟨v1,hv1⟩ : ∃ v1,fH F (j + 1) = v1:=⟨_,rfl⟩
   have HV1:=Hd hv1
   rw [hv1] at VS
   generalize fH F j = v0 at *
   have v00 : 0 ≤ v0:=VI.1
   have v01 : v0 ≤ 2048:=by omega
   have hor : bits .or .i64 (v0 * 2) (bits .and .i64 T.tru 1) = v1:=by rw [Int.mul_comm];exact VS
   have OW:=Hd hs.out.1
   have BW:=Hd hs.out.2
   have BS:=Hd BW.out.size
   have LE : Hid (((F.take j).map Fa.name).length ≤ 12):=by show _ ≤ _;simp;omega
   obtain ⟨nm,ar,tr⟩:=T
   simp only [Fa.args,Fa.tru,Fa.name] at *
   clear hT hK p0 p1 p2 hs VS VI V2 hv1
   generalize (F.take j).map Fa.name = M at *
   have C3 : Hid (M.length + 1 ≤ maxLen ∧ (M.length + 1) * 16 ≤ 140737488355328):=by
    have h1:=LE.out
    exact ⟨by unfold maxLen;omega,by omega⟩
   have CB : Hid (Below wr.heap.size wr ((wr.alloc (.cells #[str nm,.int .i64 ar,.int .i64 tr] 102)).alloc (.cells #[str nm] 9))):=bnew.alloc (by simp) _
   have CT : Hid (((wr.alloc (.cells #[str nm,.int .i64 ar,.int .i64 tr] 102)).alloc (.cells #[str nm] 9)).heap[wr.heap.size]? = some (.cells #[str nm,.int .i64 ar,.int .i64 tr] 102)):=kc bnew (heap_alloc_new wr _)
   have C6 : Hid (w.heap.size + 1 ≤ ((wr.alloc (.cells #[str nm,.int .i64 ar,.int .i64 tr] 102)).alloc (.cells #[str nm] 9)).heap.size):=by have:=BS.out;show _ ≤ _;simp;omega
   go_wp2_with (at_builtin;refine wpList_append_own _ rfl _ _ 36 rfl (w.heap.size + 1) 9 i0 (.string ⟨#[]⟩) 1 16 Tryz.underlying36 hi0 hz0 hs0 hb0 rfl (by decide) _ _ _ rfl ((OW.out.alloc _).alloc _) ⟨wr.heap.size + 1,0,none⟩ 1 1 [str nm] rfl rfl (news1' _ _ _) (by intro u hu;simp at hu;subst hu;rfl) C3.out.1 C3.out.2 C6.out ?_)
   intro v' w3 hown2 hg2 _
   have R : Hid (aD (w.heap.size + 1) w3 ((F.take (j + 1)).map Fa.name) v' ∧ Below w.heap.size w w3):=by
    refine ⟨?_,(aA BW.out CB.out).grown hg2 (by have:=C6.out;omega) (fun kk hkk=>by have:=(OW.out.lt kk hkk).1;omega)⟩
    rw [M1.out]
    unfold aD
    rw [List.length_append,List.map_append]
    exact hown2
   have T3 : Hid (w3.heap[wr.heap.size]? = some (.cells #[str nm,.int .i64 ar,.int .i64 tr] 102)):=(hg2.block _ (by simp;omega) (fun e=>by have:=(OW.out.lt _ e.symm).2;omega)).trans CT.out
   obtain ⟨⟨f0,f1,f2⟩,-⟩:=bQ T3.out
   clear hown2 hg2
   go_wp2_with fail
   go_roundw
   case rel=>exact ⟨j + 1,by omega,by go_num,by rw [HV1.out],R⟩
   case measure=>simp [intOf];omega
  ·have e : F.take j = F:=List.take_of_length_le (by rw [← L1.out];omega)
   have ej : fn = j:=by omega
   have HO : Hid (aD (w.heap.size + 1) wr (F.map Fa.name) u5):=by have:=hs.out.1;rw [e] at this;exact this
   have HB2:=Hd hs.out.2
   have VE : Hid (fH F j = fH F fn):=by show _ = _;rw [ej]
   clear hs e ej
   go_wp2_with fail
   go_ret3
   obtain ⟨a,c,hu⟩:=bN HO.out
   subst hu
   exact ⟨_,_,_,by rw [VE.out];rfl,HO.out.strsAt,HB2.out⟩
def jK (F : List Fa) : List Fa:=F.map fun f=>⟨f.name,0,f.tru % 2⟩
theorem fas_snoc {F : List Fa} {j : Nat} {f : Fa} (h : F[j]? = some f) : fasV (jK (F.take (j + 1))) = fasV (jK (F.take j)) ++ [str f.name,.int .i64 0,.int .i64 (f.tru % 2)]:=by
 rw [List.take_add_one,h]
 simp [jK,fasV,faV,List.flatMap_append]
theorem info102 : (Tryz.prog.info? 102).map (fun i=>(i.zero,i.size,i.bytes)) = some (some (.agg #[.string ⟨#[]⟩,.int .i64 0,.int .i64 0]),3,32):=by kernel_rfl
structure Va (w w1 : World) (p : Value) (W : World) : Prop where
 bw : Below w.heap.size w W
 sz : w.heap.size < w1.heap.size
 res : W.heap[w.heap.size]? = some (.cells #[.int .u8 0,.int .i64 0,.slice none 0 0,.int .i64 0,.slice none 0 0,.slice none 0 0,.slice none 0 0] 34)
 mod : W.heap[w1.heap.size]? = some (.cells #[.int .u8 1,.int .i64 1,.slice none 0 0,.int .i64 0,p,.slice none 0 0,.slice none 0 0] 34)
theorem Va.size {w w1 W : World} {p : Value} (h : Va w w1 p W) : w1.heap.size < W.heap.size:=(Array.getElem?_eq_some_iff.1 h.mod).1
theorem Va.moved {w w1 W W' : World} {p : Value} (h : Va w w1 p W) (b : Below W.heap.size W W') : Va w w1 p W':=⟨aA h.bw b,h.sz,kc b h.res,kc b h.mod⟩
theorem Va.grown {w w1 W W' : World} {p : Value} {row : Option Nat} (h : Va w w1 p W) (hg : W.grownBy W' row) (hr : ∀ g,row = some g → w1.heap.size + 1 ≤ g) : Va w w1 p W':=by
 have sz:=h.size
 have s2:=h.sz
 refine ⟨h.bw.grown hg (by omega) (fun k hk=>by have:=hr k hk;omega),h.sz, ?_, ?_⟩
 ·exact (hg.block _ (by omega) (fun e=>by have:=hr _ e.symm;omega)).trans h.res
 ·exact (hg.block _ (by omega) (fun e=>by have:=hr _ e.symm;omega)).trans h.mod
theorem Va.put {w w1 W : World} {p : Value} (h : Va w w1 p W) (u : Value) : Va w w1 u (W.setCell ⟨w1.heap.size,4,none⟩ u):=by
 have s2:=h.sz
 refine ⟨h.bw.setCell (by simp;omega) _,h.sz, ?_,aQ (o:=4) (u:=u) h.mod⟩
 rw [Below.heap_setCell _ _ _ _ (by simp;omega)];exact h.res
theorem truthModel_no (l : List Bs) (hl : ∀ x ∈ l,x.length ≤ 9223372036854775807) (hn : l.length ≤ 12) (hr : dP l = false) (v : Int) (a : Option Addr) (n c : Nat) (w : World) (hx : aX w l (.slice a n c)) :
  Calls Tryz.prog 341 #[.slice a n c,.int .i64 v] w (Rt (.tuple #[.agg #[.int .u8 0,.int .i64 0,.slice none 0 0,.int .i64 0,.slice none 0 0,.slice none 0 0,.slice none 0 0],.int .i64 2]) w):=by
 have hk:=hx.len
 have n12 : n ≤ 12:=by omega
 have t1 : decide ((12 : Int) < (n : Int)) = false:=decide_eq_false (by omega)
 have HB : Hid (Below w.heap.size w (w.alloc (.cells #[.int .u8 0,.int .i64 0,.slice none 0 0,.int .i64 0,.slice none 0 0,.slice none 0 0,.slice none 0 0] 34))):=bnew
 have NEW:=Hd (heap_alloc_new w (.cells #[.int .u8 0,.int .i64 0,.slice none 0 0,.int .i64 0,.slice none 0 0,.slice none 0 0,.slice none 0 0] 34))
 have NM : Hid (∀ W,Below w.heap.size w W → Calls Tryz.prog 343 #[.slice a n c] W (Rt (.bool false) W)):=fun W hW=>by
  rw [← hr];exact tT l hl a n c W (hx.keep (aC hW))
 clear hk hx hl hr hn
 go_enter Tryz.func341,Tryz.ntmps341
 go_wp2_with (go_at_call 343;refine (NM.out _ HB.out).mono ?_;rintro e w1 ⟨rfl,b1⟩;have B1:=Hd (aA HB.out b1);have R1:=Hd (kc b1 NEW.out);clear b1;obtain ⟨⟨d0,d1,d2,d3,d4,d5,d6⟩,f0,f1,f2,f3,f4,f5,f6⟩:=aK R1.out)
 have g0:=aQ (o:=0) (u:=.int .u8 0) R1.out
 have g1:=aQ (o:=1) (u:=.int .i64 0) g0
 have g2:=aQ (o:=2) (u:=.slice none 0 0) g1
 have g3:=aQ (o:=3) (u:=.int .i64 0) g2
 have g4:=aQ (o:=4) (u:=.slice none 0 0) g3
 have g5:=aQ (o:=5) (u:=.slice none 0 0) g4
 have g6:=aQ (o:=6) (u:=.slice none 0 0) g5
 exact bodyPost_ret (zN _ _ w.heap.size _ _ _ _ _ _ _ _ rfl rfl g6) rfl ⟨rfl,((((((B1.out.setCell (by simp) _).setCell (by simp) _).setCell (by simp) _).setCell (by simp) _).setCell (by simp) _).setCell (by simp) _).setCell (by simp) _⟩
theorem truthModel_c (F : List Fa) (hF : F.length ≤ 12) (hl : ∀ x ∈ F,x.name.length ≤ 9223372036854775807) (hr : dP (F.map Fa.name) = true) (a : Option Addr) (n c : Nat) (w : World) (hx : aX w (F.map Fa.name) (.slice a n c)) :
  Calls Tryz.prog 341 #[.slice a n c,.int .i64 (fH F n)] w fun e w'=>∃ fa fc,e = .returned (.tuple #[.agg #[.int .u8 1,.int .i64 1,.slice none 0 0,.int .i64 0,.slice fa n fc,.slice none 0 0,.slice none 0 0],.int .i64 0]) ∧ aM w' 3 (fasV (jK F)) n (.slice fa n fc) ∧ Below w.heap.size w w':=by
 have hk:=hx.len
 have hn : n = F.length:=by have:=hk.1;simpa using this
 have n12 : n ≤ 12:=by omega
 have L1:=Hd hn
 have HX:=Hd hx
 obtain ⟨i0,hi0,hz0,hs0,hb0⟩:=info_parts info102
 have t1 : decide ((12 : Int) < (n : Int)) = false:=decide_eq_false (by omega)
 have HB : Hid (Below w.heap.size w (w.alloc (.cells #[.int .u8 0,.int .i64 0,.slice none 0 0,.int .i64 0,.slice none 0 0,.slice none 0 0,.slice none 0 0] 34))):=bnew
 have NEW:=Hd (heap_alloc_new w (.cells #[.int .u8 0,.int .i64 0,.slice none 0 0,.int .i64 0,.slice none 0 0,.slice none 0 0,.slice none 0 0] 34))
 have NM : Hid (∀ W,Below w.heap.size w W → Calls Tryz.prog 343 #[.slice a n c] W (Rt (.bool true) W)):=fun W hW=>by
  rw [← hr];exact tT (F.map Fa.name) (fun x hx=>by obtain ⟨f,hf,rfl⟩:=List.mem_map.1 hx;exact hl f hf) a n c W (hx.keep (aC hW))
 have VI:=pN F n
 have VB : Hid (∀ i (T : Fa),i < n → F[i]? = some T → bits .and .i64 (fH F n / 2 ^ (n - 1 - i)) 1 = T.tru % 2):=fun i T hi hT=>by rw [valBit_in F n i hi,sV hT]
 obtain ⟨lim,hlim⟩ : ∃ lim : Int,(2 : Int) ^ n = lim:=⟨_,rfl⟩
 have V2 : (2 : Int) ^ n ≤ 2 ^ 12:=by exact_mod_cast Nat.pow_le_pow_right (by decide : 0 < 2) n12
 have hl0 : 0 ≤ lim:=by rw [← hlim];exact Int.pow_nonneg (by decide)
 have hl1 : lim ≤ 4096:=by rw [hlim] at V2;exact V2
 have hw : IntKind.i64.wrap ((2 : Int) ^ n) = lim:=by rw [hlim];exact wrap_i64_small (by omega) (by omega)
 have n64 : (n : Int) ≤ 64:=by omega
 rw [hlim] at VI V2
 generalize fH F n = v0 at *
 obtain ⟨VI0,VI1⟩:=VI
 have t2 : decide (v0 < 0) = false:=decide_eq_false (by omega)
 have t3 : decide (lim ≤ v0) = false:=decide_eq_false (by omega)
 clear hk hx hl hr hF hn hlim
 go_enter Tryz.func341,Tryz.ntmps341
 go_wp2_with (go_at_call 343;refine (NM.out _ HB.out).mono ?_;rintro e w1 ⟨rfl,b1⟩;have B1:=Hd (aA HB.out b1);have R1:=Hd (kc b1 NEW.out);clear b1)
 have V1 : Hid (Va w w1 (.slice none 0 0) (w1.alloc (.cells #[.int .u8 1,.int .i64 1,.slice none 0 0,.int .i64 0,.slice none 0 0,.slice none 0 0,.slice none 0 0] 34))):=by
  have zz:=(Array.getElem?_eq_some_iff.1 R1.out).1
  exact ⟨B1.out.alloc B1.out.size _,zz,kc bnew R1.out,heap_alloc_new w1 _⟩
 go_loopw [31] (fun i wr=>∃ j : Nat,j ≤ n ∧ i = .int .i64 j ∧ Hid (∃ P,wr.ownsRow (w1.heap.size + 1) 102 3 P j (fasV (jK (F.take j))) ∧ Va w w1 P wr)) (fun i _=>n - (intOf i).toNat)
 case atStart=>exact ⟨0,Nat.zero_le _,rfl,_,World.ownsRow_nil _ _ _ _,V1.out⟩
 case round =>
  obtain ⟨j,hj,rfl,hs⟩:=hrel
  obtain ⟨P,hown,hsg⟩:=hs.out
  by_cases hlt : j < n
  ·obtain ⟨xa,xc,rfl⟩:=bN hown
   obtain ⟨T,hT⟩:=aH (l:=F) (j:=j) (by rw [← L1.out];exact hlt)
   have hN : (F.map Fa.name)[j]? = some T.name:=iU hT
   obtain ⟨b,off,rfl,hc⟩:=jH HX.out hN
   have c0:=aC hsg.bw _ _ (hc j _ hN)
   have SN:=Hd (fas_snoc hT)
   have hbit:=VB.out j T hlt hT
   obtain ⟨dd,hdd⟩ : ∃ dd,n - 1 - j = dd:=⟨_,rfl⟩
   rw [hdd] at hbit
   have d64 : (dd : Int) ≤ 64:=by omega
   have ws1 : IntKind.i64.wrap ((n : Int) - 1) = (n : Int) - 1:=wrap_i64_small (by omega) (by omega)
   have ws2 : IntKind.i64.wrap ((n : Int) - 1 - (j : Int)) = (dd : Int):=by rw [wrap_i64_small (by omega) (by omega)];omega
   have ws3 : (n : Int) - 1 - (j : Int) = (dd : Int):=by omega
   have ws4 : IntKind.i64.wrap (dd : Int) = (dd : Int):=wrap_i64_small (by omega) (by omega)
   have OWd:=Hd (pA hown)
   have SGd:=Hd (hsg.moved (Below.refl _ _).drew)
   have hsz:=hsg.size
   have hs2:=hsg.sz
   obtain ⟨nm,ar,tr⟩:=T
   simp only [Fa.args,Fa.tru,Fa.name] at *
   clear hT hN hc hs
   generalize fasV (jK (F.take j)) = xs at *
   have C1 : Hid (j + 1 ≤ maxLen ∧ (j + 1) * 32 ≤ 140737488355328):=⟨by unfold maxLen;omega,by omega⟩
   have CB : Hid (Below wr.drew.heap.size wr.drew (wr.drew.alloc (.cells #[str nm,.int .i64 0,.int .i64 (tr % 2)] 102))):=bnew
   have C6 : Hid (w1.heap.size + 1 ≤ (wr.drew.alloc (.cells #[str nm,.int .i64 0,.int .i64 (tr % 2)] 102)).heap.size):=by show _ ≤ _;simp;omega
   have NW : Hid (∀ (j : Nat) (u : Value),([str nm,.int .i64 0,.int .i64 (tr % 2)] : List Value)[j]? = some u → (wr.drew.alloc (.cells #[str nm,.int .i64 0,.int .i64 (tr % 2)] 102)).cell? ((⟨wr.heap.size,0,none⟩ : Addr).add j) = some u):=wQ _ _ _ _ _
   go_wp2_with fail
   obtain ⟨⟨s0,s1,s2,s3,s4,s5,s6⟩,f0,f1,f2,f3,f4,f5,f6⟩:=aK SGd.out.mod
   obtain ⟨⟨q0,q1,q2,q3,q4,q5,q6⟩,-⟩:=aK hsg.mod
   clear hsg hown
   refine wp_region_held_drew (S:=fun _=>True) (by kernel_rfl) True.intro (fun hHeld=>?_)
   refine tk 0 ?_
   try simp only [Act.put,s1,s2,s3,s4,s5,s6]
   refine tk 2 ?_
   try simp only [Act.put,s1,s2,s3,s4,s5,s6]
   refine tk 3 ?_
   try simp only [Act.put,s1,s2,s3,s4,s5,s6]
   refine tk 4 ?_
   try simp only [Act.put,s1,s2,s3,s4,s5,s6]
   refine tk 5 ?_
   try simp only [Act.put,s1,s2,s3,s4,s5,s6]
   refine tk 6 ?_
   try simp only [Act.put,s1,s2,s3,s4,s5,s6]
   refine tk 7 ?_
   try simp only [Act.put,s1,s2,s3,s4,s5,s6]
   refine tk 8 ?_
   try simp only [Act.put,s1,s2,s3,s4,s5,s6]
   refine tk 9 ?_
   try simp only [Act.put,s1,s2,s3,s4,s5,s6]
   refine tk 10 ?_
   try simp only [Act.put,s1,s2,s3,s4,s5,s6]
   refine tk 11 ?_
   try simp only [Act.put,s1,s2,s3,s4,s5,s6]
   refine wpAnyH_ready (rs:=[1,12]) (by kernel_rfl) (by simp) ?_
   refine AllReadyH.cons rfl (fun K hK=>?_) (AllReadyH.cons rfl (fun K hK=>?_) AllReadyH.nil)
   ·go_simp
    refine hK.out _ _ True.intro (fun _=>?_)
    clear hK K
    try simp only [Act.put,s1,s2,s3,s4,s5,s6]
    refine rd 12 (fun K hK=>?_)
    go_simp
    refine hK.out _ _ True.intro (fun _=>?_)
    clear hK K
    try simp only [Act.put,s1,s2,s3,s4,s5,s6]
    refine rd 13 (fun K hK=>?_)
    refine aR rfl _ _ 30 rfl (w1.heap.size + 1) 102 i0 (.agg #[.string ⟨#[]⟩,.int .i64 0,.int .i64 0]) 3 32 Tryz.underlying30 hi0 hz0 hs0 hb0 rfl (by decide) _ j xs rfl (OWd.out.alloc _) ⟨wr.heap.size,0,none⟩ 1 1 [str nm,.int .i64 0,.int .i64 (tr % 2)] rfl rfl NW.out (by intro u hu;simp at hu;rcases hu with rfl | rfl | rfl <;> rfl) C1.out.1 C1.out.2 C6.out ?_
    intro v5 w5 hown2 hg2 _
    obtain ⟨ya,yc,rfl⟩:=bN hown2
    have S3:=Hd ((SGd.out.moved CB.out).grown hg2 (fun g hg=>(OWd.out.lt g hg).1))
    have O3:=Hd hown2
    obtain ⟨⟨t0,t1,t2,t3,t4,t5,t6⟩,g0,g1,g2,g3,g4,g5,g6⟩:=aK S3.out.mod
    clear hown2 hg2
    refine hK.out _ _ True.intro (fun _=>?_)
    clear hK K
    try simp only [Act.put,s1,s2,s3,s4,s5,s6]
    refine rd 14 (fun K hK=>?_)
    go_simp
    refine hK.out _ _ True.intro (fun _=>?_)
    clear hK K
    try simp only [Act.put,s1,s2,s3,s4,s5,s6]
    refine rd 15 (fun K hK=>?_)
    go_simp
    refine hK.out _ _ True.intro (fun _=>?_)
    clear hK K
    try simp only [Act.put,s1,s2,s3,s4,s5,s6]
    refine wpAnyH_done (by kernel_rfl) ?_ _
    go_wp2_with fail
    go_roundw
    case rel=>exact ⟨j + 1,by omega,by go_num,_,by rw [SN.out];exact iK O3.out (by omega),S3.out.put _⟩
    case measure=>simp [intOf];omega
   ·go_simp
    refine hK.out _ _ True.intro (fun _=>?_)
    clear hK K
    try simp only [Act.put,s1,s2,s3,s4,s5,s6]
    refine rd 1 (fun K hK=>?_)
    go_simp
    refine hK.out _ _ True.intro (fun _=>?_)
    clear hK K
    try simp only [Act.put,s1,s2,s3,s4,s5,s6]
    refine rd 13 (fun K hK=>?_)
    refine aR rfl _ _ 30 rfl (w1.heap.size + 1) 102 i0 (.agg #[.string ⟨#[]⟩,.int .i64 0,.int .i64 0]) 3 32 Tryz.underlying30 hi0 hz0 hs0 hb0 rfl (by decide) _ j xs rfl (OWd.out.alloc _) ⟨wr.heap.size,0,none⟩ 1 1 [str nm,.int .i64 0,.int .i64 (tr % 2)] rfl rfl NW.out (by intro u hu;simp at hu;rcases hu with rfl | rfl | rfl <;> rfl) C1.out.1 C1.out.2 C6.out ?_
    intro v5 w5 hown2 hg2 _
    obtain ⟨ya,yc,rfl⟩:=bN hown2
    have S3:=Hd ((SGd.out.moved CB.out).grown hg2 (fun g hg=>(OWd.out.lt g hg).1))
    have O3:=Hd hown2
    obtain ⟨⟨t0,t1,t2,t3,t4,t5,t6⟩,g0,g1,g2,g3,g4,g5,g6⟩:=aK S3.out.mod
    clear hown2 hg2
    refine hK.out _ _ True.intro (fun _=>?_)
    clear hK K
    try simp only [Act.put,s1,s2,s3,s4,s5,s6]
    refine rd 14 (fun K hK=>?_)
    go_simp
    refine hK.out _ _ True.intro (fun _=>?_)
    clear hK K
    try simp only [Act.put,s1,s2,s3,s4,s5,s6]
    refine rd 15 (fun K hK=>?_)
    go_simp
    refine hK.out _ _ True.intro (fun _=>?_)
    clear hK K
    try simp only [Act.put,s1,s2,s3,s4,s5,s6]
    refine wpAnyH_done (by kernel_rfl) ?_ _
    go_wp2_with fail
    go_roundw
    case rel=>exact ⟨j + 1,by omega,by go_num,_,by rw [SN.out];exact iK O3.out (by omega),S3.out.put _⟩
    case measure=>simp [intOf];omega
  ·have e : n = j:=by omega
   subst e
   have et : F.take n = F:=List.take_of_length_le (by rw [← L1.out];exact Nat.le_refl _)
   rw [et] at hown
   obtain ⟨va,vc,rfl⟩:=bN hown
   have FLC : Hid (aM (hide (fun i=>decide (i < w1.heap.size + 1)) wr) 3 (fasV (jK F)) n (.slice va n vc)):=jE hown
   have SGC:=Hd hsg
   clear hs hown hsg et
   obtain ⟨⟨s0,s1,s2,s3,s4,s5,s6⟩,f0,f1,f2,f3,f4,f5,f6⟩:=aK SGC.out.mod
   obtain ⟨⟨d0,d1,d2,d3,d4,d5,d6⟩,h0,h1,h2,h3,h4,h5,h6⟩:=aK SGC.out.res
   go_wp2_with fail
   have sz2:=SGC.out.sz
   have g0:=aQ (o:=0) (u:=.int .u8 1) SGC.out.res
   have g1:=aQ (o:=1) (u:=.int .i64 1) g0
   have g2:=aQ (o:=2) (u:=.slice none 0 0) g1
   have g3:=aQ (o:=3) (u:=.int .i64 0) g2
   have g4:=aQ (o:=4) (u:=.slice va n vc) g3
   have g5:=aQ (o:=5) (u:=.slice none 0 0) g4
   have g6:=aQ (o:=6) (u:=.slice none 0 0) g5
   refine bodyPost_ret (zN _ _ w.heap.size _ _ _ _ _ _ _ _ rfl rfl g6) rfl ⟨va,vc,rfl, ?_,((((((SGC.out.bw.setCell (by simp) _).setCell (by simp) _).setCell (by simp) _).setCell (by simp) _).setCell (by simp) _).setCell (by simp) _).setCell (by simp) _⟩
   have P4:=((((((((Past.refl (w1.heap.size + 1) wr).set (g:=w.heap.size) (o:=0) (by omega) (.int .u8 1)).set (g:=w.heap.size) (o:=1) (by omega) (.int .i64 1)).set (g:=w.heap.size) (o:=2) (by omega) (.slice none 0 0)).set (g:=w.heap.size) (o:=3) (by omega) (.int .i64 0)).set (g:=w.heap.size) (o:=4) (by omega) (.slice va n vc)).set (g:=w.heap.size) (o:=5) (by omega) (.slice none 0 0)).set (g:=w.heap.size) (o:=6) (by omega) (.slice none 0 0))
   exact (FLC.out.keep (bP fun k h1 h2=>⟨h2,P4.2 k (by simpa using h2) h1⟩)).keep (dM _ _)
end Go.Proofs.YtcandidgaegghaaGreatDoor
