/- The reader of words: a formula laid into its own cell, formula where the reader has failed, left, and the closures that read one and two parts. Conditions: words of at most the greatest length. -/
import Derived.Test.YtppfalbnhnpbnaaGreatDoorRdCZ
import Derived.Laws.Rows
import Derived.Deep.RegionHeld3
import Derived.Deep.RegionLaw
import Derived.Deep.LoopGhost
import Derived.LoopN
import Derived.Lib.QuietBelow
import Derived.BigQuiet
import Derived.Test.YtppfalbnhnpbnaaGreatDoorMakeZ
import Derived.Test.YtppfalbnhnpbnaaGreatDoorRightZ
import Derived.Test.YtppfalbnhnpbnaaGreatDoorShelfZ
import Derived.Test.YtppfalbnhnpbnaaGreatDoorSameBZ
import Derived.Lib.Split
import Derived.Deep.DeepCutAuto
import Derived.Lib.AppendZerosOnto
import Derived.Lib.SliceRun
import Derived.Maps.AppendAt
import Derived.Lib.SplitLaws
import Derived.Deep.RegionWith
set_option linter.unusedSimpArgs false
set_option linter.unusedVariables false
namespace Go.Proofs.YtppfalbnhnpbnaaGreatDoor
open Go Go.RowKit Ly
set_option maxRecDepth 10000
set_option maxHeartbeats 4000000
end Go.Proofs.YtppfalbnhnpbnaaGreatDoor
namespace Go.Proofs.YtppfalbnhnpbnaaGreatDoor
open Go Go.RowKit Ly
set_option maxRecDepth 10000
set_option maxHeartbeats 4000000
end Go.Proofs.YtppfalbnhnpbnaaGreatDoor
namespace Go.Proofs.YtppfalbnhnpbnaaGreatDoor
open Go Go.RowKit Ly
set_option maxRecDepth 10000
set_option maxHeartbeats 4000000
end Go.Proofs.YtppfalbnhnpbnaaGreatDoor
namespace Go.Proofs.YtppfalbnhnpbnaaGreatDoor
open Go Go.RowKit Ly
set_option maxRecDepth 10000
set_option maxHeartbeats 4000000
theorem fm_cells {W : World} {x : Fm} {a b : Option Addr} {n c m d : Nat} (ht : TmsAt W x.args (.slice a n c)) (hs : FmsAt W x.sub (.slice b m d)) : CellsAt W x.ds [.int .u8 x.op, str x.name, .slice a n c, .slice b m d] := by
  obtain ⟨op, nm, ta, sub⟩ := x
  exact CellsAt.cons rfl (CellsAt.cons rfl (CellsAt.cons ht (CellsAt.cons hs (CellsAt.nil _))))
end Go.Proofs.YtppfalbnhnpbnaaGreatDoor
namespace Go.Proofs.YtppfalbnhnpbnaaGreatDoor
open Go Go.RowKit Ly
set_option maxRecDepth 10000
set_option maxHeartbeats 4000000
section
variable {I : RdIx} {ws : List Bs} {w : World} {b1 b2 b3 : Nat} {x : Bs} {op : Int} {fx : Fm} {h : Nat} {a : Option Addr} {na ca : Nat} {b : Option Addr} {nb cb : Nat} {k2 : Nat} {f2 : Bool} {wx : World}
end
theorem keeps_drewn (w : World) : Keeps w w.drew := fun _ _ h => h
end Go.Proofs.YtppfalbnhnpbnaaGreatDoor
namespace Go.Proofs.YtppfalbnhnpbnaaGreatDoor
open Go Go.RowKit Ly
set_option maxRecDepth 10000
set_option maxHeartbeats 4000000
section
variable {I : RdIx} {ws : List Bs} {w : World} {op : Int} {nm : Bs} {k : Nat} {f : Bool} {wx : World}
end
theorem row25' {w : World} {b : Nat} {x y z t : Value} (h : w.heap[b]? = some (.cells #[x, y, z, t] 40 (0, 0))) :
    w.cell? ⟨b, 0, none⟩ = some x ∧ w.cell? ⟨b, 1, none⟩ = some y ∧ w.cell? ⟨b, 2, none⟩ = some z ∧ w.cell? ⟨b, 3, none⟩ = some t ∧
    w.frozen? ⟨b, 0, none⟩ = false ∧ w.frozen? ⟨b, 1, none⟩ = false ∧ w.frozen? ⟨b, 2, none⟩ = false ∧ w.frozen? ⟨b, 3, none⟩ = false :=
  ⟨(box_cell h 0).trans rfl, (box_cell h 1).trans rfl, (box_cell h 2).trans rfl, (box_cell h 3).trans rfl, by simp [World.frozen?, h], by simp [World.frozen?, h], by simp [World.frozen?, h], by simp [World.frozen?, h]⟩
end Go.Proofs.YtppfalbnhnpbnaaGreatDoor
namespace Go.Proofs.YtppfalbnhnpbnaaGreatDoor
open Go Go.RowKit Ly
set_option maxRecDepth 10000
set_option maxHeartbeats 4000000
end Go.Proofs.YtppfalbnhnpbnaaGreatDoor
namespace Go
theorem step_append_own {P : Program} {ops : Array Oper} {o : Oper} {a : Act} {w : World} {K : Act → World → Prop} {Q : Exit → Act → World → Prop} {E : Prop}
    (hgd : o.guard = none) (s x : Operand) (t : TypeId) (hop : o.op = Op.call { callee := Callee.builtin Builtin.append, args := #[s, x], argTypes := #[t, t] })
    (base : Nat) (e : TypeId) (i : TypeInfo) (z : Value) (size bytes : Nat) (ht : P.underlying t = some (.slice e)) (hi : P.info? e = some i) (hz : i.zero = some z)
    (hsize : i.size = size) (hby : i.bytes = bytes) (hzs : z.cells.size = size) (hsz : 0 < size)
    (v : Value) (n : Nat) (xs : List Value) (hs : a.eval s = v) (hown : w.ownsRow base e size v n xs)
    (ad : Addr) (m c : Nat) (news : List Value) (hx : a.eval x = .slice (some ad) m c) (hl : news.length = m * size) (hnews : ∀ j u, news[j]? = some u → w.cell? (ad.add j) = some u) (h1 : ∀ u ∈ news, u.oneCell' = true)
    (h63 : n + m ≤ maxLen) (hbytes : (n + m) * bytes ≤ 140737488355328) (hbase : base ≤ w.heap.size)
    (hK : ∀ v' w', w'.ownsRow base e size v' (n + m) (xs ++ news) → w.grownBy w' v.ownBlock → (v'.ownBlock = v.ownBlock ∨ v'.ownBlock = some w.heap.size) → K (a.put o.dst v') w') :
    if Region.wanted o (yielded ops a.tmps) = true then Oper.wp P o a w K Q else E := by
  have hw : Region.wanted o (yielded ops a.tmps) = true := by simp [Region.wanted, hgd]
  rw [if_pos hw]
  obtain ⟨v', w', hr, h2, h3, h4, h5⟩ := run_append_own_at (P := P) w base t o.type e i z size bytes ht hi hz hsize hby hzs hsz v n xs hown ad m c news hl hnews h1 h63 hbytes hbase
  have := hK v' w' h2 h3 h5
  unfold Oper.wp execOp
  simp only [hop, resolve, invoke, builtin, Sem.run_bind, Sem.run_pure, Result.andThen_ok, List.map_toArray, List.map_cons, List.map_nil, hs, hx, hr]
  exact this
end Go
namespace Go.Proofs.YtppfalbnhnpbnaaGreatDoor
open Go Go.RowKit Ly
open Go.Sort (grow)
set_option maxRecDepth 10000
set_option maxHeartbeats 4000000
end Go.Proofs.YtppfalbnhnpbnaaGreatDoor
namespace Go.Proofs.YtppfalbnhnpbnaaGreatDoor
open Go Go.RowKit Ly
set_option maxRecDepth 10000
set_option maxHeartbeats 800000
/- What lies in blocks that are known whole. -/
section
variable {W w w' : World} {g : Nat}
theorem kc {o : Obj} (b : Below w.heap.size w w') (h : w.heap[g]? = some o) : w'.heap[g]? = some o := (b.block g (Array.getElem?_eq_some_iff.1 h).1).trans h
theorem kd {o : Obj} (h : w.heap[g]? = some o) : w.drew.heap[g]? = some o := h
theorem row_of {W : World} {g size n : Nat} {cs : Array Value} {t : TypeId} {ds : List D} (hg : W.heap[g]? = some (.cells cs t (0, 0))) (h : cs.toList.length = ds.length ∧ ∀ (j : Nat) (d : D), ds[j]? = some d → ∃ u, cs.toList[j]? = some u ∧ At W d u) (hn : ds.length = n * size) (hc : n ≤ maxLen) : At W (.sl size n ds) (.slice (some ⟨g, 0, none⟩) n n) := by
  refine At.sl_mk hn (Nat.le_refl _) hc fun j d hd => ?_
  obtain ⟨u, h1, h2⟩ := h.2 j d hd
  refine ⟨u, ?_, h2⟩
  rw [box_cell hg]
  simpa using h1
end
end Go.Proofs.YtppfalbnhnpbnaaGreatDoor
namespace Go.Proofs.YtppfalbnhnpbnaaGreatDoor
open Go Go.RowKit Ly
set_option maxRecDepth 10000
end Go.Proofs.YtppfalbnhnpbnaaGreatDoor
namespace Go.Proofs.YtppfalbnhnpbnaaGreatDoor
open Go Go.RowKit Ly
set_option maxRecDepth 10000
set_option maxHeartbeats 800000
section
variable {W : World} {g : Nat} {f f' : Fm} {a b a' b' : Option Addr} {n c m d n' c' m' d' : Nat}
theorem fms_of1 (hg : W.heap[g]? = some (.cells #[.int .u8 f.op, str f.name, .slice a n c, .slice b m d] 40 (0, 0))) (ht : TmsAt W f.args (.slice a n c)) (hs : FmsAt W f.sub (.slice b m d)) : FmsAt W [f] (.slice (some ⟨g, 0, none⟩) 1 1) := by
  refine row_of (ds := fmsDs [f]) hg ?_ (by simp [fmsDs, Fm.ds_length]) (by simp [maxLen])
  rw [show fmsDs [f] = f.ds by simp [fmsDs]]
  exact fm_cells ht hs
theorem fms_of2 (hg : W.heap[g]? = some (.cells #[.int .u8 f.op, str f.name, .slice a n c, .slice b m d, .int .u8 f'.op, str f'.name, .slice a' n' c', .slice b' m' d'] 40 (0, 0))) (ht : TmsAt W f.args (.slice a n c)) (hs : FmsAt W f.sub (.slice b m d)) (ht' : TmsAt W f'.args (.slice a' n' c')) (hs' : FmsAt W f'.sub (.slice b' m' d')) : FmsAt W [f, f'] (.slice (some ⟨g, 0, none⟩) 2 2) := by
  refine row_of (ds := fmsDs [f, f']) hg ?_ (by simp [fmsDs, Fm.ds_length]) (by simp [maxLen])
  rw [show fmsDs [f, f'] = f.ds ++ f'.ds by simp [fmsDs]]
  exact (fm_cells ht hs).append (fm_cells ht' hs')
theorem tm_cells {t : Tm} (ht : TmsAt W t.args (.slice a n c)) : CellsAt W t.ds [.bool t.v, str t.name, .slice a n c] := by
  obtain ⟨v, nm, ta⟩ := t
  exact CellsAt.cons rfl (CellsAt.cons rfl (CellsAt.cons ht (CellsAt.nil _)))
theorem tms_of2 {t t' : Tm} (hg : W.heap[g]? = some (.cells #[.bool t.v, str t.name, .slice a n c, .bool t'.v, str t'.name, .slice a' n' c'] 38 (0, 0))) (ht : TmsAt W t.args (.slice a n c)) (ht' : TmsAt W t'.args (.slice a' n' c')) : TmsAt W [t, t'] (.slice (some ⟨g, 0, none⟩) 2 2) := by
  refine row_of (ds := tmsDs [t, t']) hg ?_ (by simp [tmsDs, Tm.ds_length]) (by simp [maxLen])
  rw [show tmsDs [t, t'] = t.ds ++ t'.ds by simp [tmsDs]]
  exact (tm_cells ht).append (tm_cells ht')
end
section
variable {W : World} {g : Nat} {p p' : Pf} {a b s q a' b' s' q' : Option Addr} {n c m d sn sc qn qc n' c' m' d' sn' sc' qn' qc' : Nat}
end
end Go.Proofs.YtppfalbnhnpbnaaGreatDoor
namespace Go.Proofs.YtppfalbnhnpbnaaGreatDoor
open Go Go.RowKit Ly
set_option maxRecDepth 10000
set_option maxHeartbeats 800000
theorem variable30_x (n : Bs) (w : World) : Calls Tryz.prog 33 #[str n] w fun e w' => e = .returned (.agg #[.bool true, str n, .slice none 0 0]) ∧ Below w.heap.size w w' := by
  go_enter Tryz.func33, Tryz.ntmps33
  go_wp2
  exact bodyPost_ret (v := .agg #[.bool true, str n, .slice none 0 0]) (by simp [results, Tryz.results33, go_sem]) rfl ⟨rfl, (Below.refl _ _).alloc (Nat.le_refl _) _⟩
theorem apply30_x (n : Bs) (a : Option Addr) (k c : Nat) (w : World) : Calls Tryz.prog 34 #[str n, .slice a k c] w fun e w' => e = .returned (.agg #[.bool false, str n, .slice a k c]) ∧ Below w.heap.size w w' := by
  go_enter Tryz.func34, Tryz.ntmps34
  go_wp2
  exact bodyPost_ret (v := .agg #[.bool false, str n, .slice a k c]) (by simp [results, Tryz.results34, go_sem]) rfl ⟨rfl, (Below.refl _ _).alloc (Nat.le_refl _) _⟩
section
variable {W w w' : World} {g : Nat}
theorem kc30 {o : Obj} (b : Below w.heap.size w w') (h : w.heap[g]? = some o) : w'.heap[g]? = some o := (b.block g (Array.getElem?_eq_some_iff.1 h).1).trans h
end
theorem row95' {w : World} {b : Nat} {x y z : Value} (h : w.heap[b]? = some (.cells #[x, y, z] 38 (0, 0))) :
    w.cell? ⟨b, 0, none⟩ = some x ∧ w.cell? ⟨b, 1, none⟩ = some y ∧ w.cell? ⟨b, 2, none⟩ = some z ∧ w.frozen? ⟨b, 0, none⟩ = false ∧ w.frozen? ⟨b, 1, none⟩ = false ∧ w.frozen? ⟨b, 2, none⟩ = false :=
  ⟨(box_cell h 0).trans rfl, (box_cell h 1).trans rfl, (box_cell h 2).trans rfl, by simp [World.frozen?, h], by simp [World.frozen?, h], by simp [World.frozen?, h]⟩
def RetH (t : Tm) (w : World) (e : Ending) (w' : World) : Prop := ∃ v, e = .returned v ∧ TmVal (hide (lo w) w') t v ∧ Below w.heap.size w w'
theorem term_end30 {w w3 : World} {t r : Tm} {a : Option Addr} {n c : Nat} {tmps : Array Value} (B : Below w.heap.size w w3) (hg : w3.heap[w.heap.size]? = some (.cells #[.bool false, str [], .slice none 0 0] 38 (0, 0)))
    (hv : TmsAt (hide (fun k => decide (k ≤ w.heap.size)) w3) t.args (.slice a n c)) (hr : r = t) (h2 : tmps.getD 2 undef = one w.heap.size) :
    bodyPost Tryz.prog Tryz.f43 (RetH r w) .ret ⟨tmps, []⟩ (((w3.setCell ⟨w.heap.size, 0, none⟩ (.bool t.v)).setCell ⟨w.heap.size, 1, none⟩ (str t.name)).setCell ⟨w.heap.size, 2, none⟩ (.slice a n c)) := by
  have g1 := set_block (o := 0) (u := .bool t.v) hg
  have g2 := set_block (o := 1) (u := str t.name) g1
  have g3 := set_block (o := 2) (u := .slice a n c) g2
  refine bodyPost_ret (res95 rfl _ _ w.heap.size _ _ _ (0, 0) h2 g3) rfl ?_
  refine ⟨_, rfl, ⟨a, n, c, by rw [hr], ?_⟩, ((B.setCell (by simp) _).setCell (by simp) _).setCell (by simp) _⟩
  rw [hr]
  refine hv.keep (hide_keeps2 fun k h1 h2 => ?_)
  have h3 : w.heap.size < k := by simpa using h2
  have hne : k ≠ w.heap.size := by omega
  exact ⟨by simp [lo]; omega, by rw [Below.heap_setCell _ _ _ _ hne, Below.heap_setCell _ _ _ _ hne, Below.heap_setCell _ _ _ _ hne]⟩
theorem tms_of1 {W : World} {g : Nat} {t : Tm} {a : Option Addr} {n c : Nat} {ty : TypeId} (hg : W.heap[g]? = some (.cells #[.bool t.v, str t.name, .slice a n c] ty (0, 0))) (ht : TmsAt W t.args (.slice a n c)) : TmsAt W [t] (.slice (some ⟨g, 0, none⟩) 1 1) := by
  refine row_of (ds := tmsDs [t]) hg ?_ (by simp [tmsDs, Tm.ds_length]) (by simp [maxLen])
  rw [show tmsDs [t] = t.ds by simp [tmsDs]]
  exact tm_cells ht
theorem term30_fin {w w4 : World} {r : Tm} {g h : Nat} {v : Bool} {nm f : Bs} {tmps : Array Value} {ty : TypeId} (B : Below w.heap.size w w4) (G : w4.heap[g]? = some (.cells #[.bool v, str nm, .slice none 0 0] 38 (0, 0))) (D : w4.heap[w.heap.size]? = some (.cells #[.bool false, str [], .slice none 0 0] 38 (0, 0))) (hne : w.heap.size ≠ g)
    (hh : w4.heap[h]? = some (.cells #[.bool v, str nm, .slice none 0 0] ty (0, 0))) (hg : g < h) (hw : w.heap.size < h) (hgw : w.heap.size ≤ g) (hr : r = .mk false f [.mk v nm []]) (h2 : tmps.getD 2 undef = one w.heap.size) :
    bodyPost Tryz.prog Tryz.f43 (RetH r w) .ret ⟨tmps, []⟩ ((((((w4.setCell ⟨g, 0, none⟩ (.bool false)).setCell ⟨g, 1, none⟩ (str f)).setCell ⟨g, 2, none⟩ (.slice (some ⟨h, 0, none⟩) 1 1)).setCell ⟨w.heap.size, 0, none⟩ (.bool false)).setCell ⟨w.heap.size, 1, none⟩ (str f)).setCell ⟨w.heap.size, 2, none⟩ (.slice (some ⟨h, 0, none⟩) 1 1)) := by
  have E : ∀ j, j ≠ g → (((w4.setCell ⟨g, 0, none⟩ (.bool false)).setCell ⟨g, 1, none⟩ (str f)).setCell ⟨g, 2, none⟩ (.slice (some ⟨h, 0, none⟩) 1 1)).heap[j]? = w4.heap[j]? := fun j hj => by
    rw [Below.heap_setCell _ _ _ _ hj, Below.heap_setCell _ _ _ _ hj, Below.heap_setCell _ _ _ _ hj]
  refine term_end30 (t := .mk false f [.mk v nm []]) (((B.setCell hgw _).setCell hgw _).setCell hgw _) ((E _ hne).trans D) ?_ hr h2
  refine tms_of1 (t := .mk v nm []) (ty := ty) (a := none) (n := 0) (c := 0) ?_ (At.sl_nil (Nat.zero_le _))
  rw [hide_get _ _ _ (by simp; omega), E _ (by omega)]
  exact hh
theorem u8_small {x : Int} (h0 : 0 ≤ x) (h1 : x < 256) : IntKind.u8.wrap x = x := by
  show x % 256 = x
  exact Int.emod_eq_of_lt h0 h1
set_option maxHeartbeats 2000000 in
theorem term30_c (b : Nat) (hb : b < 256) (w : World) : Calls Tryz.prog 43 #[.int .u8 b] w (RetH (builtTm b) w) := by
  have h0 : (0 : Int) ≤ b := by omega
  have h1 : (b : Int) < 256 := by omega
  go_enter Tryz.func43, Tryz.ntmps43
  go_upto_region 1 with fail
  go_cut [3] from 4 to 13 (fun u3 wx => ∃ g v nm, u3 = one g ∧ Hid (wx.heap[g]? = some (.cells #[.bool v, str nm, .slice none 0 0] 38 (0, 0)) ∧ leafTm (b % 5) = .mk v nm [] ∧ Below w.heap.size w wx ∧ wx.heap[w.heap.size]? = some (.cells #[.bool false, str [], .slice none 0 0] 38 (0, 0)) ∧ w.heap.size < g))
  case first =>
    rcases (show b % 5 = 0 ∨ b % 5 = 1 ∨ b % 5 = 2 ∨ b % 5 = 3 ∨ b % 5 = 4 by omega) with hk | hk | hk | hk | hk
    all_goals
      go_wp2_with (first
        | (go_at_call_of 33 (Value.string ⟨#[120]⟩); refine (variable30_x _ _).mono ?_; rintro e w1 ⟨rfl, b1⟩)
        | (go_at_call_of 33 (Value.string ⟨#[121]⟩); refine (variable30_x _ _).mono ?_; rintro e w2 ⟨rfl, b2⟩)
        | (go_at_call_of 33 (Value.string ⟨#[122]⟩); refine (variable30_x _ _).mono ?_; rintro e w3 ⟨rfl, b3⟩)
        | (go_at_call_of 34 (Value.string ⟨#[97]⟩); refine (apply30_x [97] _ _ _ _).mono ?_; rintro e w4 ⟨rfl, b4⟩)
        | (go_at_call_of 34 (Value.string ⟨#[98]⟩); refine (apply30_x [98] _ _ _ _).mono ?_; rintro e w5 ⟨rfl, b5⟩))
      go_meet
      have B5 : Below (w.alloc (.cells #[.bool false, str [], .slice none 0 0] 38)).heap.size (w.alloc (.cells #[.bool false, str [], .slice none 0 0] 38)) w5 := belowThen (belowThen (belowThen (belowThen b1 b2) b3) b4) b5
      have B6 := belowThen (below1 B5) (((Below.refl w5.heap.size w5).alloc (Nat.le_refl _) (.cells #[.bool true, str [120], .slice none 0 0, .bool true, str [121], .slice none 0 0, .bool true, str [122], .slice none 0 0, .bool false, str [97], .slice none 0 0, .bool false, str [98], .slice none 0 0] 38)))
      have hz : w.heap.size < w5.heap.size := by have := B5.size; simp at this; omega
      have hG := kc30 B5 (heap_alloc_new w _)
      refine ⟨_, _, _, rfl, heap_alloc2_new _ _ _, by rw [hk]; rfl, belowThen (below1 B5) (((Below.refl w5.heap.size w5).alloc (Nat.le_refl _) _).alloc (by simp) _), ?_, by omega⟩
      rw [heap_alloc_old _ _ (by simp; omega), heap_alloc_old _ _ hz]; exact hG
  case rest =>
  obtain ⟨g, v, nm, rfl, C⟩ := hcut
  obtain ⟨c0, c1, c2, k0, k1, k2⟩ := row95' C.out.1
  obtain ⟨d0, d1, d2, l0, l1, l2⟩ := row95' C.out.2.2.2.1
  have hne : w.heap.size ≠ g := Nat.ne_of_lt C.out.2.2.2.2
  have hzg := (Array.getElem?_eq_some_iff.1 C.out.1).1
  have hzw := (Array.getElem?_eq_some_iff.1 C.out.2.2.2.1).1
  rcases (show b / 5 % 3 = 0 ∨ b / 5 % 3 = 1 ∨ b / 5 % 3 = 2 by omega) with hj | hj | hj
  · have hi : (b : Int) / 5 % 3 = 0 := by omega
    go_wp2_with fail
    refine term_end30 (t := .mk v nm []) C.out.2.2.1 C.out.2.2.2.1 (At.sl_nil (Nat.zero_le _)) ?_ rfl
    unfold builtTm; rw [hj, if_neg (by decide), C.out.2.1]
  · have hi : (b : Int) / 5 % 3 = 1 := by omega
    have hx1 : IntKind.u8.wrap ((b : Int) / 5) = (b : Int) / 5 := u8_small (by omega) (by omega)
    have hx2 : (IntKind.u8.wrap ((b : Int) / 5)).tmod 3 = 1 := by rw [hx1, Int.tmod_eq_emod_of_nonneg (by omega)]; exact hi
    have hi6 : IntKind.u8.wrap 0 = 0 := rfl
    have hi7 : IntKind.u8.wrap (1 - 1) = 0 := rfl
    clear hx1
    go_upto_region 3 with fail
    go_region_law (first
      | (go_simp; go_at_call 34; refine (apply30_x [102] _ _ _ _).mono ?_; rintro e w4 ⟨rfl, b4⟩; have BX : Below wc.heap.size wc w4 := belowThen (((Below.refl _ _).alloc (Nat.le_refl _) _).alloc (by simp) _).drew b4
         have G4 := kc BX C.out.1
         have D4 := kc BX C.out.2.2.2.1
         obtain ⟨c0', c1', c2', k0', k1', k2'⟩ := row95' G4; obtain ⟨d0', d1', d2', l0', l1', l2'⟩ := row95' D4; have Q4 := Lib.hid (And.intro G4 (And.intro D4 (And.intro BX b4))); clear G4 D4 BX b4; go_simp))
    all_goals go_wp2_with fail
    all_goals
      refine term30_fin (g := g) (v := v) (nm := nm) (f := [102]) (belowThen C.out.2.2.1 Q4.out.2.2.1) Q4.out.1 Q4.out.2.1 hne (kc Q4.out.2.2.2 (kd (by first | exact heap_alloc2_new _ _ _ | exact heap_alloc2_old _ _ _))) (by omega) (by omega) (by have := C.out.2.2.2.2; omega) ?_ rfl
      unfold builtTm; rw [hj, C.out.2.1]; rfl
  · have hi : (b : Int) / 5 % 3 = 2 := by omega
    have hx1 : IntKind.u8.wrap ((b : Int) / 5) = (b : Int) / 5 := u8_small (by omega) (by omega)
    have hx2 : (IntKind.u8.wrap ((b : Int) / 5)).tmod 3 = 2 := by rw [hx1, Int.tmod_eq_emod_of_nonneg (by omega)]; exact hi
    have hi6 : IntKind.u8.wrap 1 = 1 := rfl
    have hi7 : IntKind.u8.wrap (2 - 1) = 1 := rfl
    clear hx1
    go_upto_region 3 with fail
    go_region_law (first
      | (go_simp; go_at_call 34; refine (apply30_x [103] _ _ _ _).mono ?_; rintro e w4 ⟨rfl, b4⟩; have BX : Below wc.heap.size wc w4 := belowThen (((Below.refl _ _).alloc (Nat.le_refl _) _).alloc (by simp) _).drew b4
         have G4 := kc BX C.out.1
         have D4 := kc BX C.out.2.2.2.1
         obtain ⟨c0', c1', c2', k0', k1', k2'⟩ := row95' G4; obtain ⟨d0', d1', d2', l0', l1', l2'⟩ := row95' D4; have Q4 := Lib.hid (And.intro G4 (And.intro D4 (And.intro BX b4))); clear G4 D4 BX b4; go_simp))
    all_goals go_wp2_with fail
    all_goals
      refine term30_fin (g := g) (v := v) (nm := nm) (f := [103]) (belowThen C.out.2.2.1 Q4.out.2.2.1) Q4.out.1 Q4.out.2.1 hne (kc Q4.out.2.2.2 (kd (by first | exact heap_alloc2_new _ _ _ | exact heap_alloc2_old _ _ _))) (by omega) (by omega) (by have := C.out.2.2.2.2; omega) ?_ rfl
      unfold builtTm; rw [hj, C.out.2.1]; rfl
theorem term30_z (z : Int) (b : Nat) (hz : z = b) (hb : b < 256) (w : World) : Calls Tryz.prog 43 #[.int .u8 z] w (RetH (builtTm b) w) := by
  subst hz; exact term30_c b hb w
end Go.Proofs.YtppfalbnhnpbnaaGreatDoor
