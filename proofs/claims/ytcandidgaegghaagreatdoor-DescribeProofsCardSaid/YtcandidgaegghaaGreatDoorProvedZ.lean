/- lyceumlaw30.Built returns the formula of its bytes, in memory of its own. Conditions: a slice of bytes that lies in memory. -/
import Derived.Test.YtcandidgaegghaaGreatDoorBuiltC0Z
import Derived.Test.YtcandidgaegghaaGreatDoorBuiltC9Z
import Derived.Test.YtcandidgaegghaaGreatDoorOvAZ
import Derived.Deep.RegionHeld3
import Derived.Deep.RegionLawGrows
import Derived.Outline
import Derived.Deep.CutBlock
import Derived.IntWalk
import Derived.Deep.DrawnRows
set_option maxRecDepth 10000
set_option linter.unusedSimpArgs false
set_option linter.unusedVariables false
namespace Go.Proofs.YtcandidgaegghaaGreatDoor
open Go Go.RowKit Ly
set_option maxHeartbeats 2000000
attribute [local go_sem ↓] Go.wp_at_zero Go.wp_at_succ
open Go Go.RowKit Ly
set_option maxHeartbeats 2000000
theorem tA (a b : List Pf) : cX (a ++ b) = cX a ++ cX b:=by
 induction a with
 | nil=>rfl
 | cons t a ih=>simp [cX,ih]
theorem tB (a : List Pf) : (cX a).length = a.length * 8:=by
 induction a with
 | nil=>rfl
 | cons t a ih=>simp [cX,ih,Pf.ds_length,Nat.succ_mul];omega
theorem pfsDs_take (a : List Pf) : ∀ j,cX (a.take j) = (cX a).take (j * 8):=by
 induction a with
 | nil=>intro j;simp [cX]
 | cons t a ih =>
  intro j
  cases j with
  | zero=>simp [cX]
  | succ j =>
   simp only [List.take_succ_cons,cX,ih]
   rw [List.take_append,Pf.ds_length,Nat.succ_mul,List.take_of_length_le (l:=t.ds) (by rw [Pf.ds_length];omega),show j * 8 + 8 - 8 = j * 8 by omega]
theorem KZ : (Tryz.prog.info? 53).map (fun i=>(i.zero,i.size,i.bytes)) = some (some (.agg #[.string ⟨#[]⟩,.int .u8 0,.string ⟨#[]⟩,.slice none 0 0,.slice none 0 0,.int .i64 0,.slice none 0 0,.slice none 0 0]),8,144):=by kernel_rfl
theorem info29 : (Tryz.prog.info? 29).map (fun i=>(i.zero,i.size,i.bytes)) = some (some (.slice none 0 0),1,24):=by kernel_rfl
theorem lo1_off {w : World} : ∀ k,w.heap.size + 1 ≤ k → lo1 w k = false:=fun k hk=>by simp [lo1];omega
open Go Go.RowKit Ly
set_option maxHeartbeats 2000000
theorem JQ (w : World) (a b c d e f g h : Value) (t : TypeId) : ∀ (j : Nat) (u : Value),[a,b,c,d,e,f,g,h][j]? = some u → (w.alloc (.cells #[a,b,c,d,e,f,g,h] t)).cell? ((⟨w.heap.size,0,none⟩ : Addr).add j) = some u:=by
 intro j u hu
 have hg:=heap_alloc_new w (.cells #[a,b,c,d,e,f,g,h] t)
 rw [show ((⟨w.heap.size,0,none⟩ : Addr).add j) = ⟨w.heap.size,j,none⟩ by simp [Addr.add];omega,box_cell hg]
 simpa using hu
theorem oneCells8 {r nm : Bs} {op lb : Int} {a b s q : Option Addr} {n c m d sn sc qn qc : Nat} : ∀ u ∈ [str r,Value.int .u8 op,str nm,.slice a n c,.slice b m d,.int .i64 lb,.slice s sn sc,.slice q qn qc],u.oneCell' = true:=by
 intro u hu
 simp at hu
 rcases hu with rfl | rfl | rfl | rfl | rfl | rfl | rfl | rfl <;> rfl
def p7 (wF : World) (pb : Nat) (v6 : Value) : Nat → Bool:=fun j=>lo wF j || (decide (j = pb) || decide (v6.ownBlock = some j))
section
variable {w wb wF wr : World} {l : Bs} {k : Nat} {sa : Option Addr} {N sc M b pb : Nat} {rn : Bs} {F : Fm} {fa : Option Addr} {fn fc : Nat} {fb : Option Addr} {fm fd : Nat} {i6 i7 : Nat} {v6 v7 : Value}
end
open Go Go.RowKit Ly
set_option maxHeartbeats 2000000
theorem eV {w : World} {b : Nat} {x0 x1 x2 x3 x4 x5 x6 x7 : Value} (h : w.heap[b]? = some (.cells #[x0,x1,x2,x3,x4,x5,x6,x7] 53 (0,0))) :
  w.cell? ⟨b,0,none⟩ = some x0 ∧ w.cell? ⟨b,1,none⟩ = some x1 ∧ w.cell? ⟨b,2,none⟩ = some x2 ∧ w.cell? ⟨b,3,none⟩ = some x3 ∧ w.cell? ⟨b,4,none⟩ = some x4 ∧ w.cell? ⟨b,5,none⟩ = some x5 ∧ w.cell? ⟨b,6,none⟩ = some x6 ∧ w.cell? ⟨b,7,none⟩ = some x7 :=
 ⟨(box_cell h 0).trans rfl,(box_cell h 1).trans rfl,(box_cell h 2).trans rfl,(box_cell h 3).trans rfl,(box_cell h 4).trans rfl,(box_cell h 5).trans rfl,(box_cell h 6).trans rfl,(box_cell h 7).trans rfl⟩
theorem gP {base size n : Nat} {w : World} {e : TypeId} {v : Value} {xs : List Value} (ho : w.ownsRow base e size v n xs) : ∃ a c,v = .slice a n c:=by
 rcases ho.2 with ⟨rfl,rfl⟩ | ⟨g,cap,cur,rfl,hb,hg,h1,h2,h3,h4⟩
 ·exact ⟨none,0,rfl⟩
 ·exact ⟨_,_,rfl⟩
theorem u53 : ∃ fs,Tryz.prog.underlying 53 = some (.struct fs):=⟨_,Tryz.underlying53⟩
theorem i53 : (Tryz.prog.info? 53).map (·.size) = some 8:=by kernel_rfl
def W8 (w3 : World) (g : Nat) (r : Bs) (op : Int) (nm : Bs) (a : Option Addr) (n c : Nat) (b : Option Addr) (m d : Nat) (lb : Int) (s : Option Addr) (sn sc : Nat) (q : Option Addr) (qn qc : Nat) : World :=
 (((((((w3.setCell ⟨g,0,none⟩ (str r)).setCell ⟨g,1,none⟩ (.int .u8 op)).setCell ⟨g,2,none⟩ (str nm)).setCell ⟨g,3,none⟩ (.slice a n c)).setCell ⟨g,4,none⟩ (.slice b m d)).setCell ⟨g,5,none⟩ (.int .i64 lb)).setCell ⟨g,6,none⟩ (.slice s sn sc)).setCell ⟨g,7,none⟩ (.slice q qn qc)
theorem fO {w : World} {b : Nat} {x0 x1 x2 x3 x4 x5 x6 x7 : Value} (h : w.heap[b]? = some (.cells #[x0,x1,x2,x3,x4,x5,x6,x7] 53 (0,0))) :
  w.frozen? ⟨b,0,none⟩ = false ∧ w.frozen? ⟨b,1,none⟩ = false ∧ w.frozen? ⟨b,2,none⟩ = false ∧ w.frozen? ⟨b,3,none⟩ = false ∧ w.frozen? ⟨b,4,none⟩ = false ∧ w.frozen? ⟨b,5,none⟩ = false ∧ w.frozen? ⟨b,6,none⟩ = false ∧ w.frozen? ⟨b,7,none⟩ = false:=by
 refine ⟨?_, ?_, ?_, ?_, ?_, ?_, ?_, ?_⟩ <;> simp [World.frozen?,h]
end Go.Proofs.YtcandidgaegghaaGreatDoor
