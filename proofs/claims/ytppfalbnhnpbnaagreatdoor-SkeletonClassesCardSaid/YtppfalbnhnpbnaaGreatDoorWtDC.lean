/- format.head, weak, basic. Conditions: those of each statement; the table of operators lies as laid. -/
import Derived.Test.YtppfalbnhnpbnaaGreatDoorWtBC
import Derived.Test.YtppfalbnhnpbnaaGreatDoorKyAC
import Derived.Test.YtppfalbnhnpbnaaGreatDoorNmCC
import Derived.BigQuiet
import Derived.Test.YtppfalbnhnpbnaaGreatDoorRgmC
set_option linter.unusedSimpArgs false
set_option linter.unusedVariables false
namespace Go.Proofs.YtppfalbnhnpbnaaGreatDoor
open Go Go.RowKit Ly
set_option maxRecDepth 10000
def iJ (w : World) : Prop:=∀ op : Int,1 ≤ op → op ≤ 14 → w.cell? ⟨1,op.toNat * 2,none⟩ = some (str (eK op)) ∧ w.cell? ⟨1,op.toNat * 2 + 1,none⟩ = some (.int .i64 (wStr op : Nat))
theorem iJ.keep {w w' : World} (h : iJ w) (k : bI w w') : iJ w':=fun op h1 h2=>⟨k _ _ (h op h1 h2).1,k _ _ (h op h1 h2).2⟩
def yP (s : Bs) (W : World) (e : Ending) (w' : World) : Prop:=e = .returned (str s) ∧ Below W.heap.size W w'
theorem bR {B : Nat} {a w : World} (h : Below B a w) (n : Nat) : Below B a (w.drewN n):=h.trans ⟨rfl,rfl,rfl,Nat.le_refl _,fun _ _=>rfl⟩
theorem q_tx (s nm : Bs) : ({ data:=s.toArray } ++ { data:=#[32] } ++ { data:=nm.toArray } ++ { data:=#[32] } : ByteArray) = ⟨(s ++ 32 :: (nm ++ [32])).toArray⟩:=by
 rw [show (⟨#[32]⟩ : ByteArray) = ⟨([32] : Bs).toArray⟩ from rfl,iB,iB,iB]
 simp
theorem h_tx (s : Bs) : ({ data:=s.toArray } ++ { data:=#[32] } : ByteArray) = ⟨(s ++ [32]).toArray⟩:=by
 rw [show (⟨#[32]⟩ : ByteArray) = ⟨([32] : Bs).toArray⟩ from rfl,iB]
set_option maxHeartbeats 4000000 in
theorem head_c (op : Int) (nm : Bs) (a b : Option Addr) (n c m d : Nat) (W : World) (ho : iJ W) (hop : op = 3 ∨ op = 8 ∨ op = 9 ∨ op = 10 ∨ op = 11 ∨ op = 12 ∨ op = 13) (hn : nm.length ≤ 1000) :
  Calls Tryz.prog 211 #[.agg #[.int .u8 op,str nm,.slice a n c,.slice b m d]] W (yP (jQ op nm) W):=by
 obtain ⟨W1,hW1⟩ : ∃ W1,W.alloc (.cells #[.int .u8 op,str nm,.slice a n c,.slice b m d] 40) = W1:=⟨_,rfl⟩
 have B1 : Hid (Below W.heap.size W W1):=by rw [← hW1];exact (Below.refl _ _).alloc (Nat.le_refl _) _
 have R1 : Hid (W1.heap[W.heap.size]? = some (.cells #[.int .u8 op,str nm,.slice a n c,.slice b m d] 40 (0,0))):=by rw [Hid,← hW1];exact heap_alloc_new _ _
 have O1:=Lib.hid ((ho.keep (aA B1.out)) op (by omega) (by omega)).1
 have nl : ¬ 9223372036854775807 < nm.length:=by omega
 have nl2 : ¬ 9223372036854775807 < 4 + nm.length:=by omega
 have nl3 : ¬ 9223372036854775807 < 5 + nm.length:=by omega
 clear ho
 rcases hop with rfl | rfl | rfl | rfl | rfl | rfl | rfl
 all_goals
  obtain ⟨⟨p0,p1,p2,p3⟩,-⟩:=aL R1.out
  have o1:=O1.out
  simp only [show Int.toNat 3 * 2 = 6 from rfl,show Int.toNat 8 * 2 = 16 from rfl,show Int.toNat 9 * 2 = 18 from rfl,show Int.toNat 10 * 2 = 20 from rfl,show Int.toNat 11 * 2 = 22 from rfl,show Int.toNat 12 * 2 = 24 from rfl,show Int.toNat 13 * 2 = 26 from rfl] at o1
  simp [eK,wAll,mI,mH,gU] at o1
  go_enter Tryz.func211,Tryz.ntmps211
  go_wp2_with fail
  try (go_quiet (fail);go_wp2_with fail)
  go_ret
  refine ⟨congrArg Ending.returned ?_,by first | exact B1.out | exact bR B1.out _⟩
  first | rfl | exact congrArg Value.string (q_tx wAll nm) | exact congrArg Value.string (q_tx mI nm) | exact congrArg Value.string (h_tx mH) | exact congrArg Value.string (h_tx gU)
set_option maxHeartbeats 8000000 in
theorem zW (op : Int) (hop : bin op) (nm : Bs) (a b : Option Addr) (n c d : Nat) (W : World) (T U : Fm) (ho : iJ W) (hy : aN W [T,U] (.slice b 2 d)) (i : Nat) (hi : i = 0 ∨ i = 1) (V : Fm) (hV : [T,U][i]? = some V) (h1 : 1 ≤ V.op) (h2 : V.op ≤ 14) :
  Calls Tryz.prog 212 #[.agg #[.int .u8 op,str nm,.slice a n c,.slice b 2 d],.int .i64 i] W fun e w'=>e = .returned (.bool (bH op (decide (i = 0)) V.op)) ∧ Below W.heap.size W w':=by
 obtain ⟨W1,hW1⟩ : ∃ W1,W.alloc (.cells #[.int .u8 op,str nm,.slice a n c,.slice b 2 d] 40) = W1:=⟨_,rfl⟩
 have B1 : Hid (Below W.heap.size W W1):=by rw [← hW1];exact (Below.refl _ _).alloc (Nat.le_refl _) _
 have R1 : Hid (W1.heap[W.heap.size]? = some (.cells #[.int .u8 op,str nm,.slice a n c,.slice b 2 d] 40 (0,0))):=by rw [Hid,← hW1];exact heap_alloc_new _ _
 have K:=aA B1.out
 have HO:=Lib.hid (ho.keep K)
 obtain ⟨bb,off,rfl,hc⟩:=(hy.keep K).get (by simp)
 obtain ⟨x0,x1,x2,x3,x4,x5,hx⟩:=hc i _ hV
 have cv:=hx.c0
 have ov:=(HO.out V.op h1 h2).2
 obtain ⟨so,hso⟩ : ∃ so,wStr V.op = so:=⟨_,rfl⟩
 rw [hso] at ov
 have HS:=Lib.hid hso
 obtain ⟨o,hoo⟩ : ∃ o,V.op = o:=⟨_,rfl⟩
 rw [hoo] at cv ov h1 h2
 have HV:=Lib.hid hoo
 have CV:=Lib.hid cv
 have OV:=Lib.hid ov
 have o0 : (0 : Int) ≤ o:=by omega
 have o17 : o < 17:=by omega
 clear ho hy K hc hx hV hso hoo cv ov h1 h2
 have TRI : so < wStr op ∨ so = wStr op ∨ wStr op < so:=by omega
 rcases hop with rfl | rfl | rfl | rfl | rfl
 ·have OW:=(HO.out 4 (by decide) (by decide)).2
  simp [wStr] at OW TRI
  rcases hi with rfl | rfl
  ·have cv:=CV.out
   simp only [Nat.zero_mul,Nat.add_zero,Nat.one_mul] at cv
   have ov:=OV.out
   obtain ⟨⟨p0,p1,p2,p3⟩,-⟩:=aL R1.out
   rcases TRI with h | h | h
   ·have hl : (so : Int) < 5:=by omega
    have WB : Hid (bH 4 (decide (0 = 0)) V.op = true):=by rw [Hid];unfold bH;rw [HS.out];simp [wStr];omega
    clear h
    go_enter Tryz.func212,Tryz.ntmps212
    go_wp2_with fail
    go_quiet (fail)
    go_wp2_with fail
    go_ret
    rw [WB.out]
    exact ⟨rfl,by first | exact B1.out | exact bR B1.out _⟩
   ·subst h
    have WB : Hid (bH 4 (decide (0 = 0)) V.op = false):=by rw [Hid];unfold bH;rw [HS.out];simp [wStr]
    go_enter Tryz.func212,Tryz.ntmps212
    go_wp2_with fail
    go_quiet (fail)
    go_wp2_with fail
    go_ret
    rw [WB.out]
    exact ⟨rfl,by first | exact B1.out | exact bR B1.out _⟩
   ·have hl : decide ((so : Int) < 5) = false:=decide_eq_false (by omega)
    have hl4 : ((so : Int) == 5) = false:=by rw [beq_eq_false_iff_ne];omega
    have WB : Hid (bH 4 (decide (0 = 0)) V.op = false):=by rw [Hid];unfold bH;rw [HS.out];simp [wStr];omega
    clear h
    go_enter Tryz.func212,Tryz.ntmps212
    go_wp2_with fail
    go_quiet (fail)
    go_wp2_with fail
    go_ret
    rw [WB.out]
    exact ⟨rfl,by first | exact B1.out | exact bR B1.out _⟩
  ·have cv:=CV.out
   simp only [Nat.zero_mul,Nat.add_zero,Nat.one_mul] at cv
   have ov:=OV.out
   obtain ⟨⟨p0,p1,p2,p3⟩,-⟩:=aL R1.out
   rcases TRI with h | h | h
   ·have hl : (so : Int) < 5:=by omega
    have WB : Hid (bH 4 (decide (1 = 0)) V.op = true):=by rw [Hid];unfold bH;rw [HS.out];simp [wStr];omega
    clear h
    go_enter Tryz.func212,Tryz.ntmps212
    go_wp2_with fail
    go_quiet (fail)
    go_wp2_with fail
    go_ret
    rw [WB.out]
    exact ⟨rfl,by first | exact B1.out | exact bR B1.out _⟩
   ·subst h
    have WB : Hid (bH 4 (decide (1 = 0)) V.op = true):=by rw [Hid];unfold bH;rw [HS.out];simp [wStr]
    go_enter Tryz.func212,Tryz.ntmps212
    go_wp2_with fail
    go_quiet (fail)
    go_wp2_with fail
    go_ret
    rw [WB.out]
    exact ⟨rfl,by first | exact B1.out | exact bR B1.out _⟩
   ·have hl : decide ((so : Int) < 5) = false:=decide_eq_false (by omega)
    have hl4 : ((so : Int) == 5) = false:=by rw [beq_eq_false_iff_ne];omega
    have WB : Hid (bH 4 (decide (1 = 0)) V.op = false):=by rw [Hid];unfold bH;rw [HS.out];simp [wStr];omega
    clear h
    go_enter Tryz.func212,Tryz.ntmps212
    go_wp2_with fail
    go_quiet (fail)
    go_wp2_with fail
    go_ret
    rw [WB.out]
    exact ⟨rfl,by first | exact B1.out | exact bR B1.out _⟩
 ·have OW:=(HO.out 5 (by decide) (by decide)).2
  simp [wStr] at OW TRI
  rcases hi with rfl | rfl
  ·have cv:=CV.out
   simp only [Nat.zero_mul,Nat.add_zero,Nat.one_mul] at cv
   have ov:=OV.out
   obtain ⟨⟨p0,p1,p2,p3⟩,-⟩:=aL R1.out
   rcases TRI with h | h | h
   ·have hl : (so : Int) < 4:=by omega
    have WB : Hid (bH 5 (decide (0 = 0)) V.op = true):=by rw [Hid];unfold bH;rw [HS.out];simp [wStr];omega
    clear h
    go_enter Tryz.func212,Tryz.ntmps212
    go_wp2_with fail
    go_quiet (fail)
    go_wp2_with fail
    go_ret
    rw [WB.out]
    exact ⟨rfl,by first | exact B1.out | exact bR B1.out _⟩
   ·subst h
    have WB : Hid (bH 5 (decide (0 = 0)) V.op = false):=by rw [Hid];unfold bH;rw [HS.out];simp [wStr]
    go_enter Tryz.func212,Tryz.ntmps212
    go_wp2_with fail
    go_quiet (fail)
    go_wp2_with fail
    go_ret
    rw [WB.out]
    exact ⟨rfl,by first | exact B1.out | exact bR B1.out _⟩
   ·have hl : decide ((so : Int) < 4) = false:=decide_eq_false (by omega)
    have hl4 : ((so : Int) == 4) = false:=by rw [beq_eq_false_iff_ne];omega
    have WB : Hid (bH 5 (decide (0 = 0)) V.op = false):=by rw [Hid];unfold bH;rw [HS.out];simp [wStr];omega
    clear h
    go_enter Tryz.func212,Tryz.ntmps212
    go_wp2_with fail
    go_quiet (fail)
    go_wp2_with fail
    go_ret
    rw [WB.out]
    exact ⟨rfl,by first | exact B1.out | exact bR B1.out _⟩
  ·have cv:=CV.out
   simp only [Nat.zero_mul,Nat.add_zero,Nat.one_mul] at cv
   have ov:=OV.out
   obtain ⟨⟨p0,p1,p2,p3⟩,-⟩:=aL R1.out
   rcases TRI with h | h | h
   ·have hl : (so : Int) < 4:=by omega
    have WB : Hid (bH 5 (decide (1 = 0)) V.op = true):=by rw [Hid];unfold bH;rw [HS.out];simp [wStr];omega
    clear h
    go_enter Tryz.func212,Tryz.ntmps212
    go_wp2_with fail
    go_quiet (fail)
    go_wp2_with fail
    go_ret
    rw [WB.out]
    exact ⟨rfl,by first | exact B1.out | exact bR B1.out _⟩
   ·subst h
    have WB : Hid (bH 5 (decide (1 = 0)) V.op = true):=by rw [Hid];unfold bH;rw [HS.out];simp [wStr]
    go_enter Tryz.func212,Tryz.ntmps212
    go_wp2_with fail
    go_quiet (fail)
    go_wp2_with fail
    go_ret
    rw [WB.out]
    exact ⟨rfl,by first | exact B1.out | exact bR B1.out _⟩
   ·have hl : decide ((so : Int) < 4) = false:=decide_eq_false (by omega)
    have hl4 : ((so : Int) == 4) = false:=by rw [beq_eq_false_iff_ne];omega
    have WB : Hid (bH 5 (decide (1 = 0)) V.op = false):=by rw [Hid];unfold bH;rw [HS.out];simp [wStr];omega
    clear h
    go_enter Tryz.func212,Tryz.ntmps212
    go_wp2_with fail
    go_quiet (fail)
    go_wp2_with fail
    go_ret
    rw [WB.out]
    exact ⟨rfl,by first | exact B1.out | exact bR B1.out _⟩
 ·have OW:=(HO.out 6 (by decide) (by decide)).2
  simp [wStr] at OW TRI
  rcases hi with rfl | rfl
  ·have cv:=CV.out
   simp only [Nat.zero_mul,Nat.add_zero,Nat.one_mul] at cv
   have ov:=OV.out
   obtain ⟨⟨p0,p1,p2,p3⟩,-⟩:=aL R1.out
   rcases TRI with h | h | h
   ·have hl : (so : Int) < 2:=by omega
    have WB : Hid (bH 6 (decide (0 = 0)) V.op = true):=by rw [Hid];unfold bH;rw [HS.out];simp [wStr];omega
    clear h
    go_enter Tryz.func212,Tryz.ntmps212
    go_wp2_with fail
    go_quiet (fail)
    go_wp2_with fail
    go_ret
    rw [WB.out]
    exact ⟨rfl,by first | exact B1.out | exact bR B1.out _⟩
   ·subst h
    have WB : Hid (bH 6 (decide (0 = 0)) V.op = true):=by rw [Hid];unfold bH;rw [HS.out];simp [wStr]
    go_enter Tryz.func212,Tryz.ntmps212
    go_wp2_with fail
    go_quiet (fail)
    go_wp2_with fail
    go_ret
    rw [WB.out]
    exact ⟨rfl,by first | exact B1.out | exact bR B1.out _⟩
   ·have hl : decide ((so : Int) < 2) = false:=decide_eq_false (by omega)
    have hl4 : ((so : Int) == 2) = false:=by rw [beq_eq_false_iff_ne];omega
    have WB : Hid (bH 6 (decide (0 = 0)) V.op = false):=by rw [Hid];unfold bH;rw [HS.out];simp [wStr];omega
    clear h
    go_enter Tryz.func212,Tryz.ntmps212
    go_wp2_with fail
    go_quiet (fail)
    go_wp2_with fail
    go_ret
    rw [WB.out]
    exact ⟨rfl,by first | exact B1.out | exact bR B1.out _⟩
  ·have cv:=CV.out
   simp only [Nat.zero_mul,Nat.add_zero,Nat.one_mul] at cv
   have ov:=OV.out
   obtain ⟨⟨p0,p1,p2,p3⟩,-⟩:=aL R1.out
   rcases TRI with h | h | h
   ·have hl : (so : Int) < 2:=by omega
    have WB : Hid (bH 6 (decide (1 = 0)) V.op = true):=by rw [Hid];unfold bH;rw [HS.out];simp [wStr];omega
    clear h
    go_enter Tryz.func212,Tryz.ntmps212
    go_wp2_with fail
    go_quiet (fail)
    go_wp2_with fail
    go_ret
    rw [WB.out]
    exact ⟨rfl,by first | exact B1.out | exact bR B1.out _⟩
   ·subst h
    have WB : Hid (bH 6 (decide (1 = 0)) V.op = false):=by rw [Hid];unfold bH;rw [HS.out];simp [wStr]
    go_enter Tryz.func212,Tryz.ntmps212
    go_wp2_with fail
    go_quiet (fail)
    go_wp2_with fail
    go_ret
    rw [WB.out]
    exact ⟨rfl,by first | exact B1.out | exact bR B1.out _⟩
   ·have hl : decide ((so : Int) < 2) = false:=decide_eq_false (by omega)
    have hl4 : ((so : Int) == 2) = false:=by rw [beq_eq_false_iff_ne];omega
    have WB : Hid (bH 6 (decide (1 = 0)) V.op = false):=by rw [Hid];unfold bH;rw [HS.out];simp [wStr];omega
    clear h
    go_enter Tryz.func212,Tryz.ntmps212
    go_wp2_with fail
    go_quiet (fail)
    go_wp2_with fail
    go_ret
    rw [WB.out]
    exact ⟨rfl,by first | exact B1.out | exact bR B1.out _⟩
 ·have OW:=(HO.out 7 (by decide) (by decide)).2
  simp [wStr] at OW TRI
  rcases hi with rfl | rfl
  ·have cv:=CV.out
   simp only [Nat.zero_mul,Nat.add_zero,Nat.one_mul] at cv
   have ov:=OV.out
   obtain ⟨⟨p0,p1,p2,p3⟩,-⟩:=aL R1.out
   rcases TRI with h | h | h
   ·have hl : (so : Int) < 1:=by omega
    have WB : Hid (bH 7 (decide (0 = 0)) V.op = true):=by rw [Hid];unfold bH;rw [HS.out];simp [wStr];omega
    clear h
    go_enter Tryz.func212,Tryz.ntmps212
    go_wp2_with fail
    go_quiet (fail)
    go_wp2_with fail
    go_ret
    rw [WB.out]
    exact ⟨rfl,by first | exact B1.out | exact bR B1.out _⟩
   ·subst h
    have WB : Hid (bH 7 (decide (0 = 0)) V.op = false):=by rw [Hid];unfold bH;rw [HS.out];simp [wStr]
    go_enter Tryz.func212,Tryz.ntmps212
    go_wp2_with fail
    go_quiet (fail)
    go_wp2_with fail
    go_ret
    rw [WB.out]
    exact ⟨rfl,by first | exact B1.out | exact bR B1.out _⟩
   ·have hl : decide ((so : Int) < 1) = false:=decide_eq_false (by omega)
    have hl4 : ((so : Int) == 1) = false:=by rw [beq_eq_false_iff_ne];omega
    have WB : Hid (bH 7 (decide (0 = 0)) V.op = false):=by rw [Hid];unfold bH;rw [HS.out];simp [wStr];omega
    clear h
    go_enter Tryz.func212,Tryz.ntmps212
    go_wp2_with fail
    go_quiet (fail)
    go_wp2_with fail
    go_ret
    rw [WB.out]
    exact ⟨rfl,by first | exact B1.out | exact bR B1.out _⟩
  ·have cv:=CV.out
   simp only [Nat.zero_mul,Nat.add_zero,Nat.one_mul] at cv
   have ov:=OV.out
   obtain ⟨⟨p0,p1,p2,p3⟩,-⟩:=aL R1.out
   rcases TRI with h | h | h
   ·have hl : (so : Int) < 1:=by omega
    have WB : Hid (bH 7 (decide (1 = 0)) V.op = true):=by rw [Hid];unfold bH;rw [HS.out];simp [wStr];omega
    clear h
    go_enter Tryz.func212,Tryz.ntmps212
    go_wp2_with fail
    go_quiet (fail)
    go_wp2_with fail
    go_ret
    rw [WB.out]
    exact ⟨rfl,by first | exact B1.out | exact bR B1.out _⟩
   ·subst h
    have WB : Hid (bH 7 (decide (1 = 0)) V.op = true):=by rw [Hid];unfold bH;rw [HS.out];simp [wStr]
    go_enter Tryz.func212,Tryz.ntmps212
    go_wp2_with fail
    go_quiet (fail)
    go_wp2_with fail
    go_ret
    rw [WB.out]
    exact ⟨rfl,by first | exact B1.out | exact bR B1.out _⟩
   ·have hl : decide ((so : Int) < 1) = false:=decide_eq_false (by omega)
    have hl4 : ((so : Int) == 1) = false:=by rw [beq_eq_false_iff_ne];omega
    have WB : Hid (bH 7 (decide (1 = 0)) V.op = false):=by rw [Hid];unfold bH;rw [HS.out];simp [wStr];omega
    clear h
    go_enter Tryz.func212,Tryz.ntmps212
    go_wp2_with fail
    go_quiet (fail)
    go_wp2_with fail
    go_ret
    rw [WB.out]
    exact ⟨rfl,by first | exact B1.out | exact bR B1.out _⟩
 ·have OW:=(HO.out 14 (by decide) (by decide)).2
  simp [wStr] at OW TRI
  rcases hi with rfl | rfl
  ·have cv:=CV.out
   simp only [Nat.zero_mul,Nat.add_zero,Nat.one_mul] at cv
   have ov:=OV.out
   obtain ⟨⟨p0,p1,p2,p3⟩,-⟩:=aL R1.out
   rcases TRI with h | h | h
   ·have hl : (so : Int) < 3:=by omega
    have WB : Hid (bH 14 (decide (0 = 0)) V.op = true):=by rw [Hid];unfold bH;rw [HS.out];simp [wStr];omega
    clear h
    go_enter Tryz.func212,Tryz.ntmps212
    go_wp2_with fail
    go_quiet (fail)
    go_wp2_with fail
    go_ret
    rw [WB.out]
    exact ⟨rfl,by first | exact B1.out | exact bR B1.out _⟩
   ·subst h
    have WB : Hid (bH 14 (decide (0 = 0)) V.op = true):=by rw [Hid];unfold bH;rw [HS.out];simp [wStr]
    go_enter Tryz.func212,Tryz.ntmps212
    go_wp2_with fail
    go_quiet (fail)
    go_wp2_with fail
    go_ret
    rw [WB.out]
    exact ⟨rfl,by first | exact B1.out | exact bR B1.out _⟩
   ·have hl : decide ((so : Int) < 3) = false:=decide_eq_false (by omega)
    have hl4 : ((so : Int) == 3) = false:=by rw [beq_eq_false_iff_ne];omega
    have WB : Hid (bH 14 (decide (0 = 0)) V.op = false):=by rw [Hid];unfold bH;rw [HS.out];simp [wStr];omega
    clear h
    go_enter Tryz.func212,Tryz.ntmps212
    go_wp2_with fail
    go_quiet (fail)
    go_wp2_with fail
    go_ret
    rw [WB.out]
    exact ⟨rfl,by first | exact B1.out | exact bR B1.out _⟩
  ·have cv:=CV.out
   simp only [Nat.zero_mul,Nat.add_zero,Nat.one_mul] at cv
   have ov:=OV.out
   obtain ⟨⟨p0,p1,p2,p3⟩,-⟩:=aL R1.out
   rcases TRI with h | h | h
   ·have hl : (so : Int) < 3:=by omega
    have WB : Hid (bH 14 (decide (1 = 0)) V.op = true):=by rw [Hid];unfold bH;rw [HS.out];simp [wStr];omega
    clear h
    go_enter Tryz.func212,Tryz.ntmps212
    go_wp2_with fail
    go_quiet (fail)
    go_wp2_with fail
    go_ret
    rw [WB.out]
    exact ⟨rfl,by first | exact B1.out | exact bR B1.out _⟩
   ·subst h
    have WB : Hid (bH 14 (decide (1 = 0)) V.op = false):=by rw [Hid];unfold bH;rw [HS.out];simp [wStr]
    go_enter Tryz.func212,Tryz.ntmps212
    go_wp2_with fail
    go_quiet (fail)
    go_wp2_with fail
    go_ret
    rw [WB.out]
    exact ⟨rfl,by first | exact B1.out | exact bR B1.out _⟩
   ·have hl : decide ((so : Int) < 3) = false:=decide_eq_false (by omega)
    have hl4 : ((so : Int) == 3) = false:=by rw [beq_eq_false_iff_ne];omega
    have WB : Hid (bH 14 (decide (1 = 0)) V.op = false):=by rw [Hid];unfold bH;rw [HS.out];simp [wStr];omega
    clear h
    go_enter Tryz.func212,Tryz.ntmps212
    go_wp2_with fail
    go_quiet (fail)
    go_wp2_with fail
    go_ret
    rw [WB.out]
    exact ⟨rfl,by first | exact B1.out | exact bR B1.out _⟩
end Go.Proofs.YtppfalbnhnpbnaaGreatDoor
namespace Go.Proofs.YtppfalbnhnpbnaaGreatDoor
open Go Go.RowKit Ly
set_option maxRecDepth 10000
theorem cells233 : Tryz.prog.cellsOf 233 = 2:=by kernel_rfl
theorem cellsR9 : Tryz.prog.cellsOf 9 = 1:=by kernel_rfl
theorem gOps : Tryz.prog.globalNamed "lyceum/format.operators" = some 1:=by kernel_rfl
theorem gOpsT : (Tryz.prog.globals[1]?).map (·.type) = some 234:=by kernel_rfl
section
variable {H : Type} {enc : TypeId × Value → H} {w : World} {base : Nat} {sp : Nat → Bool} {held : Bool}
theorem op_cells {fuel : Nat} {cs : List Value} {s : Bs} {z : Int} {p : List MemPlace} (h : DataW.trod enc Tryz.prog w base sp held fuel 233 cs = some (.agg [.lit (.string s),.lit (.int .i64 z)],p)) : cs[0]? = some (str s) ∧ cs[1]? = some (.int .i64 z):=by
 obtain ⟨xs,n,rfl,hx,hl,hxl,hall⟩:=DataW.trod_struct Tryz.underlying233 h
 have hxs : xs.map (·.1) = [.lit (.string s),.lit (.int .i64 z)]:=by
  have:=congrArg Prod.fst hx
  simpa using this.symm
 have get : ∀ (i : Nat) (d : DataW H),([.lit (.string s),.lit (.int .i64 z)] : List (DataW H))[i]? = some d → ∃ q,xs[i]? = some (d,q):=by
  intro i d hd
  rw [← hxs,List.getElem?_map] at hd
  obtain ⟨⟨d',q⟩,e,rfl⟩:=Option.map_eq_some_iff.1 hd
  exact ⟨q,e⟩
 have at_ : ∀ (i : Nat) (v : Value),(cs.drop i).take 1 = [v] → cs[i]? = some v:=by
  intro i v e
  have:=congrArg (·[0]?) e
  simpa [List.getElem?_take,List.getElem?_drop] using this
 obtain ⟨q0,g0⟩:=get 0 _ rfl
 obtain ⟨q1,g1⟩:=get 1 _ rfl
 have h0 : DataW.trod enc Tryz.prog w base sp held n 9 ((cs.drop 0).take (Tryz.prog.cellsOf 9)) = _:=(hall 0 _ rfl).trans g0
 rw [cellsR9] at h0
 have h1 : DataW.trod enc Tryz.prog w base sp held n 3 ((cs.drop 1).take (Tryz.prog.cellsOf 3)) = _:=(hall 1 _ rfl).trans g1
 rw [uL] at h1
 obtain ⟨v0,e0,k0,_⟩:=DataW.trod_string Tryz.underlying9 h0
 obtain ⟨v1,e1,k1,_⟩:=DataW.trod_int Tryz.underlying3 h1
 cases k1
 have ks : s = v0.data.toList:=by
  have:=congrArg Prod.fst k0
  simpa using this
 have : str s = .string v0:=by rw [ks]
 exact ⟨by rw [this];exact at_ 0 _ e0,at_ 1 _ e1⟩
end
theorem ops_at {W : World} {L : List (String × DataW Unit)} (h : laidMet Tryz.prog L W) (hm : ("lyceum/format.operators",Rows.laid_lyceum_format_operators) ∈ L) : iJ W:=by
 obtain ⟨g,t,cs,fuel,p,hg,ht,hv,hd⟩:=Lib.laidMet.reads h hm
 obtain rfl:=Option.some.inj (gOps.symm.trans hg)
 obtain rfl:=Option.some.inj (gOpsT.symm.trans ht)
 have one : ∀ (i : Nat) (s : Bs) (z : Int),i < 17 → (match (Rows.laid_lyceum_format_operators : DataW Unit) with | .agg ds=>ds[i]? | _=>none) = some (.agg [.lit (.string s),.lit (.int .i64 z)]) →
   W.cell? ⟨1,i * 2,none⟩ = some (str s) ∧ W.cell? ⟨1,i * 2 + 1,none⟩ = some (.int .i64 z):=by
  intro i s z hi e
  obtain ⟨f',d,q,e2,hd'⟩:=Lib.array_elem Tryz.underlying234 hd i hi
  have : d = .agg [.lit (.string s),.lit (.int .i64 z)]:=Option.some.inj (e2.symm.trans e)
  subst this
  rw [cells233] at hd'
  obtain ⟨k0,k1⟩:=op_cells hd'
  have cell : ∀ (j : Nat) (v : Value),j < 2 → ((cs.toList.drop (i * 2)).take 2)[j]? = some v → W.cell? ⟨1,i * 2 + j,none⟩ = some v:=by
   intro j v hj e
   rw [List.getElem?_take,if_pos hj,List.getElem?_drop] at e
   have:=World.var?_cell hg hv (i * 2 + j)
   rw [this]
   simpa using e
  exact ⟨cell 0 _ (by omega) k0,cell 1 _ (by omega) k1⟩
 intro op h1 h2
 rcases (show op = 1 ∨ op = 2 ∨ op = 3 ∨ op = 4 ∨ op = 5 ∨ op = 6 ∨ op = 7 ∨ op = 8 ∨ op = 9 ∨ op = 10 ∨ op = 11 ∨ op = 12 ∨ op = 13 ∨ op = 14 by omega) with rfl | rfl | rfl | rfl | rfl | rfl | rfl | rfl | rfl | rfl | rfl | rfl | rfl | rfl
 all_goals exact one _ _ _ (by decide) rfl
end Go.Proofs.YtppfalbnhnpbnaaGreatDoor
namespace Go.Proofs.YtppfalbnhnpbnaaGreatDoor
open Go Go.RowKit Ly
set_option maxRecDepth 10000
theorem rG {W X : World} (h : Below W.heap.size W X) : bI W (hide (up W.heap.size) X):=fun a v hv=>by
 have hl : a.block < W.heap.size:=by
  rcases Nat.lt_or_ge a.block W.heap.size with h | h
  ·exact h
  ·simp [World.cell?,Array.getElem?_eq_none h] at hv
 rw [cD (by simp [up,hl])]
 exact aA h _ _ hv
theorem uI (B b : Nat) (w : World) (hB : B ≤ b) (h : w.heap[b]? = some (.cells #[.pointer none,.slice none 0 0] 196 (0,0))) : Bld B b [] w :=
 .inl ⟨hB,.slice none 0 0,h,World.ownsRowF_nil w B 5 1,by simp [Value.ownBlock]⟩
set_option maxHeartbeats 4000000 in
theorem basic_atom (nm : Bs) (ts : List Tm) (a b : Option Addr) (n c m d : Nat) (W : World) (hx : bG W ts (.slice a n c)) (hl : (mK nm ts).length ≤ 400000000) :
  Calls Tryz.prog 210 #[.agg #[.int .u8 1,str nm,.slice a n c,.slice b m d]] W (yP (mK nm ts) W):=by
 obtain ⟨W2,hW2⟩ : ∃ W2,(W.alloc (.cells #[.int .u8 1,str nm,.slice a n c,.slice b m d] 40)).alloc (.cells #[.pointer none,.slice none 0 0] 196) = W2:=⟨_,rfl⟩
 have B2 : Hid (Below W.heap.size W W2):=by rw [← hW2];exact ((Below.refl _ _).alloc (Nat.le_refl _) _).alloc (by simp) _
 have R1 : Hid (W2.heap[W.heap.size]? = some (.cells #[.int .u8 1,str nm,.slice a n c,.slice b m d] 40 (0,0))):=by rw [Hid,← hW2];exact aI _ (heap_alloc_new _ _)
 have D2 : Hid (Bld W.heap.size (W.heap.size + 1) [] W2):=by
  refine uI _ _ _ (Nat.le_succ _) ?_
  rw [← hW2]
  have:=heap_alloc_new (W.alloc (.cells #[.int .u8 1,str nm,.slice a n c,.slice b m d] 40)) (.cells #[.pointer none,.slice none 0 0] 196)
  rw [World.size_alloc] at this
  exact this
 have V2 : Hid (dC (hide (up W.heap.size) W2) (.mk false nm ts) (.agg #[.bool false,str nm,.slice a n c])):=⟨_,_,_,rfl,hx.keep (rG B2.out)⟩
 have HL:=Lib.hid hl
 obtain ⟨⟨p0,p1,p2,p3⟩,-⟩:=aL R1.out
 clear hx hl
 go_enter Tryz.func210,Tryz.ntmps210
 go_wp2_with (first
  | (
    have Z:=S3.out;clear Z;go_at_call 172
    refine (rQ _ _ _ _ S3.out.bld).mono ?_
    rintro e w4 ⟨rfl,h4⟩
    have B4:=Lib.hid (B2.out.trans (S3.out.bw.trans h4))
    clear h4)
  | (
    go_at_call 237
    refine (zX (.mk false nm ts) _ _ _ _ _ D2.out V2.out (by show 0 + _ ≤ _;have:=HL.out;show 0 + (mK nm ts).length ≤ _;omega)).mono ?_
    rintro e w3 ⟨rfl,h3⟩
    have S3 : Hid (Wrote W.heap.size (W.heap.size + 1) (mK nm ts) W2 w3):=h3
    clear h3))
 go_ret
 exact ⟨rfl,B4.out⟩
set_option maxHeartbeats 4000000 in
theorem basic_false (a b : Option Addr) (n c m d : Nat) (W : World) (ho : iJ W) :
  Calls Tryz.prog 210 #[.agg #[.int .u8 2,str [],.slice a n c,.slice b m d]] W (yP jM W):=by
 obtain ⟨W2,hW2⟩ : ∃ W2,(W.alloc (.cells #[.int .u8 2,str [],.slice a n c,.slice b m d] 40)).alloc (.cells #[.pointer none,.slice none 0 0] 196) = W2:=⟨_,rfl⟩
 have B2 : Hid (Below W.heap.size W W2):=by rw [← hW2];exact ((Below.refl _ _).alloc (Nat.le_refl _) _).alloc (by simp) _
 have R1 : Hid (W2.heap[W.heap.size]? = some (.cells #[.int .u8 2,str [],.slice a n c,.slice b m d] 40 (0,0))):=by rw [Hid,← hW2];exact aI _ (heap_alloc_new _ _)
 have D2 : Hid (Bld W.heap.size (W.heap.size + 1) [] W2):=by
  refine uI _ _ _ (Nat.le_succ _) ?_
  rw [← hW2]
  have:=heap_alloc_new (W.alloc (.cells #[.int .u8 2,str [],.slice a n c,.slice b m d] 40)) (.cells #[.pointer none,.slice none 0 0] 196)
  rw [World.size_alloc] at this
  exact this
 have o2:=((ho.keep (aA B2.out)) 2 (by decide) (by decide)).1
 simp only [show Int.toNat 2 * 2 = 4 from rfl,show eK 2 = jM from rfl] at o2
 obtain ⟨⟨p0,p1,p2,p3⟩,-⟩:=aL R1.out
 clear ho
 go_enter Tryz.func210,Tryz.ntmps210
 go_wp2_with (first
  | (
    have Z:=S3.out;clear Z;go_at_call 172
    refine (rQ _ _ _ _ S3.out.bld).mono ?_
    rintro e w4 ⟨rfl,h4⟩
    have B4:=Lib.hid (B2.out.trans (S3.out.bw.trans h4))
    clear h4)
  | (
    go_at_call 207
    refine (ws_c _ _ _ _ _ D2.out (by decide) D2.out.le).mono ?_
    rintro e w3 ⟨⟨n2,rfl⟩,h3⟩
    have S3 : Hid (Wrote W.heap.size (W.heap.size + 1) jM W2 w3):=h3
    clear h3))
 go_ret
 exact ⟨rfl,B4.out⟩
end Go.Proofs.YtppfalbnhnpbnaaGreatDoor
