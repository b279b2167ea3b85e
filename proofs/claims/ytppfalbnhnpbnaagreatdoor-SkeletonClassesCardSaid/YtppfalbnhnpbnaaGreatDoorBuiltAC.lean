/- The reader of words: a formula laid into its own cell, formula where the reader has failed, left, and the closures that read one and two parts. Conditions: words of at most the greatest length. -/
import Derived.Test.YtppfalbnhnpbnaaGreatDoorRdCC
import Derived.Laws.Rows
import Derived.Deep.RegionHeld3
import Derived.Deep.RegionLaw
import Derived.Deep.LoopGhost
import Derived.LoopN
import Derived.Lib.QuietBelow
import Derived.BigQuiet
import Derived.Test.YtppfalbnhnpbnaaGreatDoorMakeC
import Derived.Test.YtppfalbnhnpbnaaGreatDoorRightC
import Derived.Test.YtppfalbnhnpbnaaGreatDoorShelfC
import Derived.Test.YtppfalbnhnpbnaaGreatDoorSameBC
import Derived.Lib.Split
import Derived.Deep.DeepCutAuto
import Derived.Lib.AppendZerosOnto
import Derived.Lib.SliceRun
import Derived.Maps.AppendAt
import Derived.Lib.SplitLaws
import Derived.Deep.RegionWith
import Derived.Deep.QuietTactic
set_option linter.unusedSimpArgs false
set_option linter.unusedVariables false
namespace Go.Proofs.YtppfalbnhnpbnaaGreatDoor
open Go Go.RowKit Ly
set_option maxRecDepth 10000
set_option maxHeartbeats 4000000
end Go.Proofs.YtppfalbnhnpbnaaGreatDoor
namespace Go.Proofs.YtppfalbnhnpbnaaGreatDoor
open Go Go.RowKit Ly
set_option maxRecDepth 10000
set_option maxHeartbeats 4000000
end Go.Proofs.YtppfalbnhnpbnaaGreatDoor
namespace Go.Proofs.YtppfalbnhnpbnaaGreatDoor
open Go Go.RowKit Ly
set_option maxRecDepth 10000
set_option maxHeartbeats 4000000
end Go.Proofs.YtppfalbnhnpbnaaGreatDoor
namespace Go.Proofs.YtppfalbnhnpbnaaGreatDoor
open Go Go.RowKit Ly
set_option maxRecDepth 10000
set_option maxHeartbeats 4000000
theorem eV {W : World} {x : Fm} {a b : Option Addr} {n c m d : Nat} (ht : bG W x.args (.slice a n c)) (hs : aN W x.sub (.slice b m d)) : aU W x.ds [.int .u8 x.op,str x.name,.slice a n c,.slice b m d]:=by
 obtain ⟨op,nm,ta,sub⟩:=x
 exact aU.cons rfl (aU.cons rfl (aU.cons ht (aU.cons hs (aU.nil _))))
end Go.Proofs.YtppfalbnhnpbnaaGreatDoor
namespace Go.Proofs.YtppfalbnhnpbnaaGreatDoor
open Go Go.RowKit Ly
set_option maxRecDepth 10000
set_option maxHeartbeats 4000000
section
variable {I : RdIx} {ws : List Bs} {w : World} {b1 b2 b3 : Nat} {x : Bs} {op : Int} {fx : Fm} {h : Nat} {a : Option Addr} {na ca : Nat} {b : Option Addr} {nb cb : Nat} {k2 : Nat} {f2 : Bool} {wx : World}
end
theorem lG (w : World) : bI w w.drew:=fun _ _ h=>h
end Go.Proofs.YtppfalbnhnpbnaaGreatDoor
namespace Go.Proofs.YtppfalbnhnpbnaaGreatDoor
open Go Go.RowKit Ly
set_option maxRecDepth 10000
set_option maxHeartbeats 4000000
section
variable {I : RdIx} {ws : List Bs} {w : World} {op : Int} {nm : Bs} {k : Nat} {f : Bool} {wx : World}
end
theorem row25' {w : World} {b : Nat} {x y z t : Value} (h : w.heap[b]? = some (.cells #[x,y,z,t] 40 (0,0))) :
  w.cell? ⟨b,0,none⟩ = some x ∧ w.cell? ⟨b,1,none⟩ = some y ∧ w.cell? ⟨b,2,none⟩ = some z ∧ w.cell? ⟨b,3,none⟩ = some t ∧
  w.frozen? ⟨b,0,none⟩ = false ∧ w.frozen? ⟨b,1,none⟩ = false ∧ w.frozen? ⟨b,2,none⟩ = false ∧ w.frozen? ⟨b,3,none⟩ = false :=
 ⟨(bE h 0).trans rfl,(bE h 1).trans rfl,(bE h 2).trans rfl,(bE h 3).trans rfl,by simp [World.frozen?,h],by simp [World.frozen?,h],by simp [World.frozen?,h],by simp [World.frozen?,h]⟩
end Go.Proofs.YtppfalbnhnpbnaaGreatDoor
namespace Go.Proofs.YtppfalbnhnpbnaaGreatDoor
open Go Go.RowKit Ly
set_option maxRecDepth 10000
set_option maxHeartbeats 4000000
end Go.Proofs.YtppfalbnhnpbnaaGreatDoor
namespace Go
theorem bT {P : Program} {ops : Array Oper} {o : Oper} {a : Act} {w : World} {K : Act → World → Prop} {Q : Exit → Act → World → Prop} {E : Prop}
  (hgd : o.guard = none) (s x : Operand) (t : TypeId) (hop : o.op = Op.call { callee:=Callee.builtin Builtin.append,args:=#[s,x],argTypes:=#[t,t] })
  (base : Nat) (e : TypeId) (i : TypeInfo) (z : Value) (size bytes : Nat) (ht : P.underlying t = some (.slice e)) (hi : P.info? e = some i) (hz : i.zero = some z)
  (hsize : i.size = size) (hby : i.bytes = bytes) (hzs : z.cells.size = size) (hsz : 0 < size)
  (v : Value) (n : Nat) (xs : List Value) (hs : a.eval s = v) (hown : w.ownsRow base e size v n xs)
  (ad : Addr) (m c : Nat) (news : List Value) (hx : a.eval x = .slice (some ad) m c) (hl : news.length = m * size) (hnews : ∀ j u,news[j]? = some u → w.cell? (ad.add j) = some u) (h1 : ∀ u ∈ news,u.oneCell' = true)
  (h63 : n + m ≤ maxLen) (hbytes : (n + m) * bytes ≤ 140737488355328) (hbase : base ≤ w.heap.size)
  (hK : ∀ v' w',w'.ownsRow base e size v' (n + m) (xs ++ news) → w.grownBy w' v.ownBlock → (v'.ownBlock = v.ownBlock ∨ v'.ownBlock = some w.heap.size) → K (a.put o.dst v') w') :
  if Region.wanted o (yielded ops a.tmps) = true then Oper.wp P o a w K Q else E:=by
 have hw : Region.wanted o (yielded ops a.tmps) = true:=by simp [Region.wanted,hgd]
 rw [if_pos hw]
 obtain ⟨v',w',hr,h2,h3,h4,h5⟩:=run_append_own_at (P:=P) w base t o.type e i z size bytes ht hi hz hsize hby hzs hsz v n xs hown ad m c news hl hnews h1 h63 hbytes hbase
 have:=hK v' w' h2 h3 h5
 unfold Oper.wp execOp
 simp only [hop,resolve,invoke,builtin,Sem.run_bind,Sem.run_pure,Result.andThen_ok,List.map_toArray,List.map_cons,List.map_nil,hs,hx,hr]
 exact this
end Go
namespace Go.Proofs.YtppfalbnhnpbnaaGreatDoor
open Go Go.RowKit Ly
open Go.Sort (grow)
set_option maxRecDepth 10000
set_option maxHeartbeats 4000000
end Go.Proofs.YtppfalbnhnpbnaaGreatDoor
namespace Go.Proofs.YtppfalbnhnpbnaaGreatDoor
open Go Go.RowKit Ly
set_option maxRecDepth 10000
set_option maxHeartbeats 800000
/- What lies in blocks that are known whole. -/
section
variable {W w w' : World} {g : Nat}
theorem kc {o : Obj} (b : Below w.heap.size w w') (h : w.heap[g]? = some o) : w'.heap[g]? = some o:=(b.block g (Array.getElem?_eq_some_iff.1 h).1).trans h
theorem kd {o : Obj} (h : w.heap[g]? = some o) : w.drew.heap[g]? = some o:=h
theorem row_of {W : World} {g size n : Nat} {cs : Array Value} {t : TypeId} {ds : List D} (hg : W.heap[g]? = some (.cells cs t (0,0))) (h : cs.toList.length = ds.length ∧ ∀ (j : Nat) (d : D),ds[j]? = some d → ∃ u,cs.toList[j]? = some u ∧ At W d u) (hn : ds.length = n * size) (hc : n ≤ maxLen) : At W (.sl size n ds) (.slice (some ⟨g,0,none⟩) n n):=by
 refine At.sl_mk hn (Nat.le_refl _) hc fun j d hd=>?_
 obtain ⟨u,h1,h2⟩:=h.2 j d hd
 refine ⟨u, ?_,h2⟩
 rw [bE hg]
 simpa using h1
end
end Go.Proofs.YtppfalbnhnpbnaaGreatDoor
namespace Go.Proofs.YtppfalbnhnpbnaaGreatDoor
open Go Go.RowKit Ly
set_option maxRecDepth 10000
end Go.Proofs.YtppfalbnhnpbnaaGreatDoor
namespace Go.Proofs.YtppfalbnhnpbnaaGreatDoor
open Go Go.RowKit Ly
set_option maxRecDepth 10000
set_option maxHeartbeats 800000
section
variable {W : World} {g : Nat} {f f' : Fm} {a b a' b' : Option Addr} {n c m d n' c' m' d' : Nat}
theorem uS (hg : W.heap[g]? = some (.cells #[.int .u8 f.op,str f.name,.slice a n c,.slice b m d] 40 (0,0))) (ht : bG W f.args (.slice a n c)) (hs : aN W f.sub (.slice b m d)) : aN W [f] (.slice (some ⟨g,0,none⟩) 1 1):=by
 refine row_of (ds:=bJ [f]) hg ?_ (by simp [bJ,Fm.ds_length]) (by simp [maxLen])
 rw [show bJ [f] = f.ds by simp [bJ]]
 exact eV ht hs
theorem uT (hg : W.heap[g]? = some (.cells #[.int .u8 f.op,str f.name,.slice a n c,.slice b m d,.int .u8 f'.op,str f'.name,.slice a' n' c',.slice b' m' d'] 40 (0,0))) (ht : bG W f.args (.slice a n c)) (hs : aN W f.sub (.slice b m d)) (ht' : bG W f'.args (.slice a' n' c')) (hs' : aN W f'.sub (.slice b' m' d')) : aN W [f,f'] (.slice (some ⟨g,0,none⟩) 2 2):=by
 refine row_of (ds:=bJ [f,f']) hg ?_ (by simp [bJ,Fm.ds_length]) (by simp [maxLen])
 rw [show bJ [f,f'] = f.ds ++ f'.ds by simp [bJ]]
 exact (eV ht hs).append (eV ht' hs')
theorem fM {t : Tm} (ht : bG W t.args (.slice a n c)) : aU W t.ds [.bool t.v,str t.name,.slice a n c]:=by
 obtain ⟨v,nm,ta⟩:=t
 exact aU.cons rfl (aU.cons rfl (aU.cons ht (aU.nil _)))
theorem yH {t t' : Tm} (hg : W.heap[g]? = some (.cells #[.bool t.v,str t.name,.slice a n c,.bool t'.v,str t'.name,.slice a' n' c'] 38 (0,0))) (ht : bG W t.args (.slice a n c)) (ht' : bG W t'.args (.slice a' n' c')) : bG W [t,t'] (.slice (some ⟨g,0,none⟩) 2 2):=by
 refine row_of (ds:=bS [t,t']) hg ?_ (by simp [bS,Tm.ds_length]) (by simp [maxLen])
 rw [show bS [t,t'] = t.ds ++ t'.ds by simp [bS]]
 exact (fM ht).append (fM ht')
end
section
variable {W : World} {g : Nat} {p p' : Pf} {a b s q a' b' s' q' : Option Addr} {n c m d sn sc qn qc n' c' m' d' sn' sc' qn' qc' : Nat}
end
end Go.Proofs.YtppfalbnhnpbnaaGreatDoor
namespace Go.Proofs.YtppfalbnhnpbnaaGreatDoor
open Go Go.RowKit Ly
set_option maxRecDepth 10000
set_option maxHeartbeats 800000
theorem eI (n : Bs) (w : World) : Calls Tryz.prog 33 #[str n] w fun e w'=>e = .returned (.agg #[.bool true,str n,.slice none 0 0]) ∧ Below w.heap.size w w':=by
 go_enter Tryz.func33,Tryz.ntmps33
 go_wp2
 exact bodyPost_ret (v:=.agg #[.bool true,str n,.slice none 0 0]) (by simp [results,Tryz.results33,go_sem]) rfl ⟨rfl,(Below.refl _ _).alloc (Nat.le_refl _) _⟩
theorem lR (n : Bs) (a : Option Addr) (k c : Nat) (w : World) : Calls Tryz.prog 34 #[str n,.slice a k c] w fun e w'=>e = .returned (.agg #[.bool false,str n,.slice a k c]) ∧ Below w.heap.size w w':=by
 go_enter Tryz.func34,Tryz.ntmps34
 go_wp2
 exact bodyPost_ret (v:=.agg #[.bool false,str n,.slice a k c]) (by simp [results,Tryz.results34,go_sem]) rfl ⟨rfl,(Below.refl _ _).alloc (Nat.le_refl _) _⟩
section
variable {W w w' : World} {g : Nat}
theorem kc30 {o : Obj} (b : Below w.heap.size w w') (h : w.heap[g]? = some o) : w'.heap[g]? = some o:=(b.block g (Array.getElem?_eq_some_iff.1 h).1).trans h
end
theorem row95' {w : World} {b : Nat} {x y z : Value} (h : w.heap[b]? = some (.cells #[x,y,z] 38 (0,0))) :
  w.cell? ⟨b,0,none⟩ = some x ∧ w.cell? ⟨b,1,none⟩ = some y ∧ w.cell? ⟨b,2,none⟩ = some z ∧ w.frozen? ⟨b,0,none⟩ = false ∧ w.frozen? ⟨b,1,none⟩ = false ∧ w.frozen? ⟨b,2,none⟩ = false :=
 ⟨(bE h 0).trans rfl,(bE h 1).trans rfl,(bE h 2).trans rfl,by simp [World.frozen?,h],by simp [World.frozen?,h],by simp [World.frozen?,h]⟩
def RetH (t : Tm) (w : World) (e : Ending) (w' : World) : Prop:=∃ v,e = .returned v ∧ dC (hide (lo w) w') t v ∧ Below w.heap.size w w'
theorem rU {w w3 : World} {t r : Tm} {a : Option Addr} {n c : Nat} {tmps : Array Value} (B : Below w.heap.size w w3) (hg : w3.heap[w.heap.size]? = some (.cells #[.bool false,str [],.slice none 0 0] 38 (0,0)))
  (hv : bG (hide (fun k=>decide (k ≤ w.heap.size)) w3) t.args (.slice a n c)) (hr : r = t) (h2 : tmps.getD 2 undef = one w.heap.size) :
  bodyPost Tryz.prog Tryz.f43 (RetH r w) .ret ⟨tmps,[]⟩ (((w3.setCell ⟨w.heap.size,0,none⟩ (.bool t.v)).setCell ⟨w.heap.size,1,none⟩ (str t.name)).setCell ⟨w.heap.size,2,none⟩ (.slice a n c)):=by
 have g1:=aC (o:=0) (u:=.bool t.v) hg
 have g2:=aC (o:=1) (u:=str t.name) g1
 have g3:=aC (o:=2) (u:=.slice a n c) g2
 refine bodyPost_ret (gJ rfl _ _ w.heap.size _ _ _ (0,0) h2 g3) rfl ?_
 refine ⟨_,rfl,⟨a,n,c,by rw [hr], ?_⟩,((B.setCell (by simp) _).setCell (by simp) _).setCell (by simp) _⟩
 rw [hr]
 refine hv.keep (aH fun k h1 h2=>?_)
 have h3 : w.heap.size < k:=by simpa using h2
 have hne : k ≠ w.heap.size:=by omega
 exact ⟨by simp [lo];omega,by rw [Below.heap_setCell _ _ _ _ hne,Below.heap_setCell _ _ _ _ hne,Below.heap_setCell _ _ _ _ hne]⟩
theorem uZ {W : World} {g : Nat} {t : Tm} {a : Option Addr} {n c : Nat} {ty : TypeId} (hg : W.heap[g]? = some (.cells #[.bool t.v,str t.name,.slice a n c] ty (0,0))) (ht : bG W t.args (.slice a n c)) : bG W [t] (.slice (some ⟨g,0,none⟩) 1 1):=by
 refine row_of (ds:=bS [t]) hg ?_ (by simp [bS,Tm.ds_length]) (by simp [maxLen])
 rw [show bS [t] = t.ds by simp [bS]]
 exact fM ht
theorem rS {w w4 : World} {r : Tm} {g h : Nat} {v : Bool} {nm f : Bs} {tmps : Array Value} {ty : TypeId} (B : Below w.heap.size w w4) (G : w4.heap[g]? = some (.cells #[.bool v,str nm,.slice none 0 0] 38 (0,0))) (D : w4.heap[w.heap.size]? = some (.cells #[.bool false,str [],.slice none 0 0] 38 (0,0))) (hne : w.heap.size ≠ g)
  (hh : w4.heap[h]? = some (.cells #[.bool v,str nm,.slice none 0 0] ty (0,0))) (hg : g < h) (hw : w.heap.size < h) (hgw : w.heap.size ≤ g) (hr : r = .mk false f [.mk v nm []]) (h2 : tmps.getD 2 undef = one w.heap.size) :
  bodyPost Tryz.prog Tryz.f43 (RetH r w) .ret ⟨tmps,[]⟩ ((((((w4.setCell ⟨g,0,none⟩ (.bool false)).setCell ⟨g,1,none⟩ (str f)).setCell ⟨g,2,none⟩ (.slice (some ⟨h,0,none⟩) 1 1)).setCell ⟨w.heap.size,0,none⟩ (.bool false)).setCell ⟨w.heap.size,1,none⟩ (str f)).setCell ⟨w.heap.size,2,none⟩ (.slice (some ⟨h,0,none⟩) 1 1)):=by
 have E : ∀ j,j ≠ g → (((w4.setCell ⟨g,0,none⟩ (.bool false)).setCell ⟨g,1,none⟩ (str f)).setCell ⟨g,2,none⟩ (.slice (some ⟨h,0,none⟩) 1 1)).heap[j]? = w4.heap[j]?:=fun j hj=>by
  rw [Below.heap_setCell _ _ _ _ hj,Below.heap_setCell _ _ _ _ hj,Below.heap_setCell _ _ _ _ hj]
 refine rU (t:=.mk false f [.mk v nm []]) (((B.setCell hgw _).setCell hgw _).setCell hgw _) ((E _ hne).trans D) ?_ hr h2
 refine uZ (t:=.mk v nm []) (ty:=ty) (a:=none) (n:=0) (c:=0) ?_ (At.sl_nil (Nat.zero_le _))
 rw [gX _ _ _ (by simp;omega),E _ (by omega)]
 exact hh
theorem wP {x : Int} (h0 : 0 ≤ x) (h1 : x < 256) : IntKind.u8.wrap x = x:=by
 show x % 256 = x
 exact Int.emod_eq_of_lt h0 h1
set_option maxHeartbeats 2000000 in
theorem term30_c (b : Nat) (hb : b < 256) (w : World) : Calls Tryz.prog 43 #[.int .u8 b] w (RetH (bX b) w):=by
 have h0 : (0 : Int) ≤ b:=by omega
 have h1 : (b : Int) < 256:=by omega
 go_enter Tryz.func43,Tryz.ntmps43
 go_upto_region 1 with fail
 go_cut [3] from 4 to 13 (fun u3 wx=>∃ g v nm,u3 = one g ∧ Hid (wx.heap[g]? = some (.cells #[.bool v,str nm,.slice none 0 0] 38 (0,0)) ∧ mS (b % 5) = .mk v nm [] ∧ Below w.heap.size w wx ∧ wx.heap[w.heap.size]? = some (.cells #[.bool false,str [],.slice none 0 0] 38 (0,0)) ∧ w.heap.size < g))
 case first =>
  rcases (show b % 5 = 0 ∨ b % 5 = 1 ∨ b % 5 = 2 ∨ b % 5 = 3 ∨ b % 5 = 4 by omega) with hk | hk | hk | hk | hk
  all_goals
   go_wp2_with (first
    | (go_at_call_of 33 (Value.string ⟨#[120]⟩);refine (eI _ _).mono ?_;rintro e w1 ⟨rfl,b1⟩)
    | (go_at_call_of 33 (Value.string ⟨#[121]⟩);refine (eI _ _).mono ?_;rintro e w2 ⟨rfl,b2⟩)
    | (go_at_call_of 33 (Value.string ⟨#[122]⟩);refine (eI _ _).mono ?_;rintro e w3 ⟨rfl,b3⟩)
    | (go_at_call_of 34 (Value.string ⟨#[97]⟩);refine (lR [97] _ _ _ _).mono ?_;rintro e w4 ⟨rfl,b4⟩)
    | (go_at_call_of 34 (Value.string ⟨#[98]⟩);refine (lR [98] _ _ _ _).mono ?_;rintro e w5 ⟨rfl,b5⟩))
   go_meet
   have B5 : Below (w.alloc (.cells #[.bool false,str [],.slice none 0 0] 38)).heap.size (w.alloc (.cells #[.bool false,str [],.slice none 0 0] 38)) w5:=aG (aG (aG (aG b1 b2) b3) b4) b5
   have B6:=aG (bV B5) (((Below.refl w5.heap.size w5).alloc (Nat.le_refl _) (.cells #[.bool true,str [120],.slice none 0 0,.bool true,str [121],.slice none 0 0,.bool true,str [122],.slice none 0 0,.bool false,str [97],.slice none 0 0,.bool false,str [98],.slice none 0 0] 38)))
   have hz : w.heap.size < w5.heap.size:=by have:=B5.size;simp at this;omega
   have hG:=kc30 B5 (heap_alloc_new w _)
   refine ⟨_,_,_,rfl,heap_alloc2_new _ _ _,by rw [hk];rfl,aG (bV B5) (((Below.refl w5.heap.size w5).alloc (Nat.le_refl _) _).alloc (by simp) _), ?_,by omega⟩
   rw [heap_alloc_old _ _ (by simp;omega),heap_alloc_old _ _ hz];exact hG
 case rest =>
 obtain ⟨g,v,nm,rfl,C⟩:=hcut
 obtain ⟨c0,c1,c2,k0,k1,k2⟩:=row95' C.out.1
 obtain ⟨d0,d1,d2,l0,l1,l2⟩:=row95' C.out.2.2.2.1
 have hne : w.heap.size ≠ g:=Nat.ne_of_lt C.out.2.2.2.2
 have hzg:=(Array.getElem?_eq_some_iff.1 C.out.1).1
 have hzw:=(Array.getElem?_eq_some_iff.1 C.out.2.2.2.1).1
 rcases (show b / 5 % 3 = 0 ∨ b / 5 % 3 = 1 ∨ b / 5 % 3 = 2 by omega) with hj | hj | hj
 ·have hi : (b : Int) / 5 % 3 = 0:=by omega
  go_wp2_with fail
  refine rU (t:=.mk v nm []) C.out.2.2.1 C.out.2.2.2.1 (At.sl_nil (Nat.zero_le _)) ?_ rfl
  unfold bX;rw [hj,if_neg (by decide),C.out.2.1]
 ·have hi : (b : Int) / 5 % 3 = 1:=by omega
  have hx1 : IntKind.u8.wrap ((b : Int) / 5) = (b : Int) / 5:=wP (by omega) (by omega)
  have hx2 : (IntKind.u8.wrap ((b : Int) / 5)).tmod 3 = 1:=by rw [hx1,Int.tmod_eq_emod_of_nonneg (by omega)];exact hi
  have hi6 : IntKind.u8.wrap 0 = 0:=rfl
  have hi7 : IntKind.u8.wrap (1 - 1) = 0:=rfl
  clear hx1
  go_upto_region 3 with fail
  go_region_law (first
   | (
     go_simp;go_at_call 34;refine (lR [102] _ _ _ _).mono ?_;rintro e w4 ⟨rfl,b4⟩;have BX : Below wc.heap.size wc w4:=aG (((Below.refl _ _).alloc (Nat.le_refl _) _).alloc (by simp) _).drew b4
     have G4:=kc BX C.out.1
     have D4:=kc BX C.out.2.2.2.1
     obtain ⟨c0',c1',c2',k0',k1',k2'⟩:=row95' G4;obtain ⟨d0',d1',d2',l0',l1',l2'⟩:=row95' D4;have Q4:=Lib.hid (And.intro G4 (And.intro D4 (And.intro BX b4)));clear G4 D4 BX b4;go_simp))
  all_goals go_wp2_with fail
  all_goals
   refine rS (g:=g) (v:=v) (nm:=nm) (f:=[102]) (aG C.out.2.2.1 Q4.out.2.2.1) Q4.out.1 Q4.out.2.1 hne (kc Q4.out.2.2.2 (kd (by first | exact heap_alloc2_new _ _ _ | exact heap_alloc2_old _ _ _))) (by omega) (by omega) (by have:=C.out.2.2.2.2;omega) ?_ rfl
   unfold bX;rw [hj,C.out.2.1];rfl
 ·have hi : (b : Int) / 5 % 3 = 2:=by omega
  have hx1 : IntKind.u8.wrap ((b : Int) / 5) = (b : Int) / 5:=wP (by omega) (by omega)
  have hx2 : (IntKind.u8.wrap ((b : Int) / 5)).tmod 3 = 2:=by rw [hx1,Int.tmod_eq_emod_of_nonneg (by omega)];exact hi
  have hi6 : IntKind.u8.wrap 1 = 1:=rfl
  have hi7 : IntKind.u8.wrap (2 - 1) = 1:=rfl
  clear hx1
  go_upto_region 3 with fail
  go_region_law (first
   | (
     go_simp;go_at_call 34;refine (lR [103] _ _ _ _).mono ?_;rintro e w4 ⟨rfl,b4⟩;have BX : Below wc.heap.size wc w4:=aG (((Below.refl _ _).alloc (Nat.le_refl _) _).alloc (by simp) _).drew b4
     have G4:=kc BX C.out.1
     have D4:=kc BX C.out.2.2.2.1
     obtain ⟨c0',c1',c2',k0',k1',k2'⟩:=row95' G4;obtain ⟨d0',d1',d2',l0',l1',l2'⟩:=row95' D4;have Q4:=Lib.hid (And.intro G4 (And.intro D4 (And.intro BX b4)));clear G4 D4 BX b4;go_simp))
  all_goals go_wp2_with fail
  all_goals
   refine rS (g:=g) (v:=v) (nm:=nm) (f:=[103]) (aG C.out.2.2.1 Q4.out.2.2.1) Q4.out.1 Q4.out.2.1 hne (kc Q4.out.2.2.2 (kd (by first | exact heap_alloc2_new _ _ _ | exact heap_alloc2_old _ _ _))) (by omega) (by omega) (by have:=C.out.2.2.2.2;omega) ?_ rfl
   unfold bX;rw [hj,C.out.2.1];rfl
theorem oA (z : Int) (b : Nat) (hz : z = b) (hb : b < 256) (w : World) : Calls Tryz.prog 43 #[.int .u8 z] w (RetH (bX b) w):=by
 subst hz;exact term30_c b hb w
end Go.Proofs.YtppfalbnhnpbnaaGreatDoor
namespace Go.Proofs.YtppfalbnhnpbnaaGreatDoor
open Go Go.RowKit Ly
set_option maxRecDepth 10000
set_option maxHeartbeats 2000000
def iI (w : World) (l : Bs) (u : Value) : Prop:=At w (.sl 1 l.length (l.map fun c=>.val (.int .u8 c.toNat))) u
theorem iI.keep {w w' : World} {l : Bs} {u : Value} (h : iI w l u) (k : bI w w') : iI w' l u:=At.keep k _ _ h
theorem iI.len {w : World} {l : Bs} {a : Option Addr} {n c : Nat} (h : iI w l (.slice a n c)) : n = l.length ∧ n ≤ c ∧ c ≤ maxLen:=by
 obtain ⟨a',cap,e,h1,h2,_⟩:=h
 simp only [Value.slice.injEq] at e
 obtain ⟨_,rfl,rfl⟩:=e
 exact ⟨rfl,h1,h2⟩
theorem iI.get {w : World} {l : Bs} {a : Option Addr} {n c : Nat} (h : iI w l (.slice a n c)) (hn : l ≠ []) :
  ∃ b off,a = some ⟨b,off,none⟩ ∧ ∀ (i : Nat) (x : UInt8),l[i]? = some x → w.cell? ⟨b,off + i,none⟩ = some (.int .u8 x.toNat):=by
 obtain ⟨a',cap,e,_,_,_,h5⟩:=h.sl_inv
 simp only [Value.slice.injEq] at e
 obtain ⟨rfl,rfl,rfl⟩:=e
 rcases h5 with h5 | ⟨b,off,rfl,h5⟩
 ·exact absurd (List.eq_nil_of_length_eq_zero h5) hn
 ·refine ⟨b,off,rfl,fun i x hx=>?_⟩
  obtain ⟨u,k,p⟩:=h5 i (.val (.int .u8 x.toNat)) (by rw [List.getElem?_map,hx];rfl)
  have p' : u = _:=p
  subst p';exact k
theorem dV : (Tryz.prog.info? 40).map (fun i=>(i.zero,i.size,i.bytes)) = some (some (.agg #[.int .u8 0,.string ⟨#[]⟩,.slice none 0 0,.slice none 0 0]),4,72):=by kernel_rfl
def lo1 (w : World) : Nat → Bool:=fun k=>decide (k < w.heap.size + 1)
def bAt (l : Bs) (k : Nat) : List Fm:=(l.take k).foldl (fun s c=>cI s c.toNat) []
theorem qL (l : Bs) (k : Nat) {c : UInt8} (h : l[k]? = some c) : bAt l (k + 1) = cI (bAt l k) c.toNat:=by
 unfold bAt
 have e : l.take (k + 1) = l.take k ++ [c]:=by
  rw [List.take_add_one,h];rfl
 rw [e,List.foldl_append];rfl
structure BRel (w : World) (l : Bs) (k : Nat) (v : Value) (wr : World) : Prop where
 own : eJ (lo1 w) (w.heap.size + 1) wr 40 4 (bAt l k).length (bJ (bAt l k)) v
 bw : Below w.heap.size w wr
 res : wr.heap[w.heap.size]? = some (.cells #[.int .u8 0,str [],.slice none 0 0,.slice none 0 0] 40 (0,0))
theorem eJ.form {p : Nat → Bool} {base : Nat} {w : World} {e : TypeId} {size n : Nat} {ds : List D} {v : Value} (h : eJ p base w e size n ds v) : ∃ a c,v = .slice a n c ∧ c ≤ maxLen:=by
 obtain ⟨xs,ho,_⟩:=h
 rcases ho.2 with ⟨rfl,rfl⟩ | ⟨g,cap,cur,rfl,hb,hg,h1,h2,h3,h4⟩
 ·exact ⟨none,0,rfl,Nat.zero_le _⟩
 ·exact ⟨_,_,rfl,h2⟩
theorem xB (l : Bs) (k : Nat) : (bAt l k).length ≤ k:=by
 have h:=sM (l.take k)
 have h1:=h.1
 have : (l.take k).length ≤ k:=by simp;omega
 exact Nat.le_trans h1 this
theorem BRel.drewN {w : World} {l : Bs} {k : Nat} {v : Value} {wr : World} (h : BRel w l k v wr) (m : Nat) : BRel w l k v (wr.drewN m) :=
 ⟨h.own.moved (fun k hk=>by simp [lo1];omega) (fun k _ _=>rfl),⟨h.bw.os,h.bw.tape,h.bw.output,h.bw.size,h.bw.block⟩,h.res⟩
theorem nN (a b : List Fm) : bJ (a ++ b) = bJ a ++ bJ b:=by
 induction a with
 | nil=>rfl
 | cons t a ih=>simp [bJ,ih]
theorem fmsDs_take (a : List Fm) : ∀ j,bJ (a.take j) = (bJ a).take (j * 4):=by
 induction a with
 | nil=>intro j;simp [bJ]
 | cons t a ih =>
  intro j
  cases j with
  | zero=>simp [bJ]
  | succ j =>
   simp only [List.take_succ_cons,bJ,ih]
   rw [List.take_append,Fm.ds_length,Nat.succ_mul,List.take_of_length_le (l:=t.ds) (by rw [Fm.ds_length];omega),show j * 4 + 4 - 4 = j * 4 by omega]
theorem aU.take {W : World} {ds : List D} {xs : List Value} (h : aU W ds xs) (m : Nat) : aU W (ds.take m) (xs.take m):=by
 refine ⟨by simp [h.1],fun j d hd=>?_⟩
 rw [List.getElem?_take] at hd ⊢
 split at hd
 ·rename_i hlt;rw [if_pos hlt];exact h.2 j d hd
 ·cases hd
theorem uW {p : Nat → Bool} {base : Nat} {w : World} {e : TypeId} {size n : Nat} {ds : List D} {v : Value} (h : eJ p base w e size n ds v) : ∀ g,v.ownBlock = some g → base ≤ g ∧ g < w.heap.size:=by
 obtain ⟨xs,ho,_⟩:=h
 exact ho.lt
theorem fresh_keeps {w wx w1 : World} {v : Value} {o : Obj} (hw : w.heap.size + 1 ≤ wx.heap.size) (hv : ∀ g,v.ownBlock = some g → g < wx.heap.size) : bI (hide (lo wx) w1) (hide (fun k=>lo1 w k || decide (v.ownBlock = some k)) (w1.alloc o)):=aH fun k h1 h2=>by
 simp only [lo,lo1,decide_eq_false_iff_not,Nat.not_lt,Bool.or_eq_false_iff] at h2 ⊢
 exact ⟨⟨by omega,fun e=>by have:=hv k e;omega⟩,heap_alloc_old _ _ h1⟩
theorem dH {w wx w1 : World} {l : Bs} {k xx : Nat} {x : UInt8} {v : Value} {fm : Fm} {a b : Option Addr} {n c m d : Nat} (H : BRel w l k v wx) (hx : l[k]? = some x ∧ x.toNat = xx) (b1 : Below wx.heap.size wx w1) (hst : cI (bAt l k) xx = bAt l k ++ [fm])
  (ht : bG (hide (lo wx) w1) fm.args (.slice a n c)) (hs : aN (hide (lo wx) w1) fm.sub (.slice b m d)) :
  ∃ xs,(w1.alloc (.cells #[.int .u8 fm.op,str fm.name,.slice a n c,.slice b m d] 40)).ownsRow (w.heap.size + 1) 40 4 v (bAt l k).length xs ∧
   ∀ v' w5,w5.ownsRow (w.heap.size + 1) 40 4 v' ((bAt l k).length + 1) (xs ++ [.int .u8 fm.op,str fm.name,.slice a n c,.slice b m d]) → (w1.alloc (.cells #[.int .u8 fm.op,str fm.name,.slice a n c,.slice b m d] 40)).grownBy w5 v.ownBlock →
    (v'.ownBlock = v.ownBlock ∨ v'.ownBlock = some (w1.alloc (.cells #[.int .u8 fm.op,str fm.name,.slice a n c,.slice b m d] 40)).heap.size) → BRel w l (k + 1) v' w5:=by
 have zw : w.heap.size + 1 ≤ wx.heap.size:=(Array.getElem?_eq_some_iff.1 H.res).1
 have hv:=uW H.own
 have B1 : Below wx.heap.size wx (w1.alloc (.cells #[.int .u8 fm.op,str fm.name,.slice a n c,.slice b m d] 40)):=aG b1 ((Below.refl _ _).alloc (Nat.le_refl _) _)
 have O1:=H.own.moved (w':=w1.alloc (.cells #[.int .u8 fm.op,str fm.name,.slice a n c,.slice b m d] 40)) (fun k hk=>by simp [lo1];omega) (fun k h1 _=>B1.block k h1)
 obtain ⟨xs,ho,hc⟩:=O1
 refine ⟨xs,ho,fun v' w5 h5 hg hat=>?_⟩
 have K:=fresh_keeps (w:=w) (w1:=w1) (v:=v) (o:=.cells #[.int .u8 fm.op,str fm.name,.slice a n c,.slice b m d] 40) zw (fun g hg=>(hv g hg).2)
 have he : aU (hide (fun k=>lo1 w k || decide (v.ownBlock = some k)) (w1.alloc (.cells #[.int .u8 fm.op,str fm.name,.slice a n c,.slice b m d] 40))) fm.ds [.int .u8 fm.op,str fm.name,.slice a n c,.slice b m d]:=eV (ht.keep K) (hs.keep K)
 have hb:=qL l k hx.1
 rw [hx.2,hst] at hb
 have gb : ∀ j,j < w.heap.size + 1 → w5.heap[j]? = wx.heap[j]?:=fun j hj=>by
  rw [hg.block j (by have:=B1.size;omega) (fun e=>by have:=(hv j e.symm).1;omega)]
  exact B1.block j (by omega)
 refine ⟨?_,⟨?_, ?_, ?_, ?_,fun j hj=>?_⟩, ?_⟩
 ·rw [hb,List.length_append,List.length_singleton,nN,show bJ [fm] = fm.ds by simp [bJ]]
  exact eJ.appended hc he h5 hg hat
 ·exact hg.os.trans (B1.os.trans H.bw.os)
 ·exact hg.tape.trans (B1.tape.trans H.bw.tape)
 ·exact hg.output.trans (B1.output.trans H.bw.output)
 ·exact Nat.le_trans H.bw.size (Nat.le_trans B1.size hg.size)
 ·rw [gb j (by omega)];exact H.bw.block j hj
 ·rw [gb _ (by omega)];exact H.res
theorem sU {w wx w1 : World} {l : Bs} {k xx j N sc : Nat} {x : UInt8} {sa : Option Addr} {fm : Fm} {a b : Option Addr} {n c m d : Nat} (H : BRel w l k (.slice sa N sc) wx) (hx : l[k]? = some x ∧ x.toNat = xx) (b1 : Below wx.heap.size wx w1) (hj : j ≤ (bAt l k).length) (hst : cI (bAt l k) xx = (bAt l k).take j ++ [fm])
  (ht : bG (hide (fun k=>lo1 w k || decide ((Value.slice sa N sc).ownBlock = some k)) w1) fm.args (.slice a n c)) (hs : aN (hide (fun k=>lo1 w k || decide ((Value.slice sa N sc).ownBlock = some k)) w1) fm.sub (.slice b m d)) :
  ∃ olds,olds.length = j * 4 ∧ (∀ p,sa = some p → ∀ i u,olds[i]? = some u → (w1.alloc (.cells #[.int .u8 fm.op,str fm.name,.slice a n c,.slice b m d] 40)).cell? (p.add i) = some u) ∧
   ∀ v' w5,w5.ownsRow (w1.alloc (.cells #[.int .u8 fm.op,str fm.name,.slice a n c,.slice b m d] 40)).heap.size 40 4 v' (j + 1) (olds ++ [.int .u8 fm.op,str fm.name,.slice a n c,.slice b m d]) → (w1.alloc (.cells #[.int .u8 fm.op,str fm.name,.slice a n c,.slice b m d] 40)).grownBy w5 none → BRel w l (k + 1) v' w5:=by
 have zw : w.heap.size + 1 ≤ wx.heap.size:=(Array.getElem?_eq_some_iff.1 H.res).1
 have hv:=uW H.own
 have B1 : Below wx.heap.size wx (w1.alloc (.cells #[.int .u8 fm.op,str fm.name,.slice a n c,.slice b m d] 40)):=aG b1 ((Below.refl _ _).alloc (Nat.le_refl _) _)
 have O1:=H.own.moved (w':=w1.alloc (.cells #[.int .u8 fm.op,str fm.name,.slice a n c,.slice b m d] 40)) (fun k hk=>by simp [lo1];omega) (fun k h1 _=>B1.block k h1)
 obtain ⟨xs,ho,hc⟩:=O1
 have hxl : xs.length = (bAt l k).length * 4:=ho.1
 have hb:=qL l k hx.1
 rw [hx.2,hst] at hb
 refine ⟨xs.take (j * 4),by rw [List.length_take,hxl];omega, ?_,fun v' w5 h5 hg=>?_⟩
 ·rintro p rfl i u hu
  rcases ho.2 with ⟨e,_⟩ | ⟨g,cap,cur,e,_,hg,_⟩
  ·cases e
  ·cases e
   refine ho.cells (g:=g) rfl i u ?_
   rw [List.getElem?_take] at hu
   split at hu
   ·exact hu
   ·cases hu
 have gb : ∀ i,i < (w1.alloc (.cells #[.int .u8 fm.op,str fm.name,.slice a n c,.slice b m d] 40)).heap.size → w5.heap[i]? = (w1.alloc (.cells #[.int .u8 fm.op,str fm.name,.slice a n c,.slice b m d] 40)).heap[i]?:=fun i hi=>hg.block i hi (by simp)
 have B5 : Below wx.heap.size wx w5:=aG B1 ⟨hg.os,hg.tape,hg.output,hg.size,fun i hi=>gb i hi⟩
 have K1 : bI (hide (fun k=>lo1 w k || decide ((Value.slice sa N sc).ownBlock = some k)) w1) (hide (fun k=>lo1 w k || decide ((Value.slice sa N sc).ownBlock = some k)) (w1.alloc (.cells #[.int .u8 fm.op,str fm.name,.slice a n c,.slice b m d] 40))):=aH fun k h1 h2=>⟨h2,heap_alloc_old _ _ h1⟩
 have he:=eV (ht.keep K1) (hs.keep K1)
 have hsz:=B1.size
 have K2 : bI (hide (fun k=>lo1 w k || decide ((Value.slice sa N sc).ownBlock = some k)) (w1.alloc (.cells #[.int .u8 fm.op,str fm.name,.slice a n c,.slice b m d] 40))) (hide (fun k=>lo1 w k || decide (v'.ownBlock = some k)) w5):=aH fun i h1 h2=>by
  simp only [Bool.or_eq_false_iff,decide_eq_false_iff_not] at h2 ⊢
  exact ⟨⟨h2.1,fun e=>by have:=(h5.lt i e).1;omega⟩,gb i h1⟩
 refine ⟨?_,aG H.bw B5,(B5.block _ (by omega)).trans H.res⟩
 have hl : ((bAt l k).take j ++ [fm]).length = j + 1:=by simp;omega
 rw [hb,hl,nN,show bJ [fm] = fm.ds by simp [bJ],fmsDs_take]
 refine ⟨_,⟨h5.1, ?_⟩,((hc.take (j * 4)).append he).keep K2⟩
 rcases h5.2 with h | ⟨g,cap,cur,e1,e2,e3⟩
 ·exact .inl h
 ·exact .inr ⟨g,cap,cur,e1,by omega,e3⟩
theorem BRel.same {w : World} {l : Bs} {k xx : Nat} {x : UInt8} {v : Value} {wr : World} (h : BRel w l k v wr) (hx : l[k]? = some x ∧ x.toNat = xx) (hst : cI (bAt l k) xx = bAt l k) : BRel w l (k + 1) v wr:=by
 have hb:=qL l k hx.1
 rw [hx.2,hst] at hb
 exact ⟨by rw [hb];exact h.own,h.bw,h.res⟩
structure Elem (w wx : World) (sa : Option Addr) (N sc g i : Nat) (f : Fm) (a : Option Addr) (n c : Nat) (b : Option Addr) (m d : Nat) : Prop where
 c0 : wx.cell? ⟨g,i * 4,none⟩ = some (.int .u8 f.op)
 c1 : wx.cell? ⟨g,i * 4 + 1,none⟩ = some (str f.name)
 c2 : wx.cell? ⟨g,i * 4 + 2,none⟩ = some (.slice a n c)
 c3 : wx.cell? ⟨g,i * 4 + 3,none⟩ = some (.slice b m d)
 ht : bG (hide (fun k=>lo1 w k || decide ((Value.slice sa N sc).ownBlock = some k)) wx) f.args (.slice a n c)
 hs : aN (hide (fun k=>lo1 w k || decide ((Value.slice sa N sc).ownBlock = some k)) wx) f.sub (.slice b m d)
theorem iP {w wx : World} {l : Bs} {k N sc : Nat} {sa : Option Addr} (H : BRel w l k (.slice sa N sc) wx) (hN : 0 < (bAt l k).length) : ∃ g,sa = some ⟨g,0,none⟩ ∧ g < wx.heap.size ∧ N ≤ sc:=by
 obtain ⟨xs,ho,hc⟩:=H.own
 rcases ho.2 with ⟨e,h0⟩ | ⟨g,cap,cur,e,hb,hg,h1,h2,h3,h4⟩
 ·omega
 ·cases e
  exact ⟨g,rfl,(Array.getElem?_eq_some_iff.1 hg).1,h1⟩
theorem eZ {w wx : World} {l : Bs} {k N sc g : Nat} (H : BRel w l k (.slice (some ⟨g,0,none⟩) N sc) wx) {i : Nat} (hi : i < (bAt l k).length) :
  ∃ a n c b m d,Elem w wx (some ⟨g,0,none⟩) N sc g i ((bAt l k).getD i fls) a n c b m d:=by
 obtain ⟨xs,ho,hc⟩:=H.own
 have hx:=fun j u h=>ho.cells (g:=g) rfl j u h
 have hf : (bAt l k)[i]? = some ((bAt l k).getD i fls):=by rw [List.getD_eq_getElem?_getD,List.getElem?_eq_getElem hi];rfl
 generalize (bAt l k).getD i fls = f at hf ⊢
 obtain ⟨op,nm,ta,sub⟩:=f
 have cell : ∀ j d,(bJ (bAt l k))[i * 4 + j]? = some d → ∃ u,wx.cell? ⟨g,i * 4 + j,none⟩ = some u ∧ At (hide (fun k=>lo1 w k || decide ((Value.slice (some ⟨g,0,none⟩) N sc).ownBlock = some k)) wx) d u:=by
  intro j d hd
  obtain ⟨u,h1,h2⟩:=hc.2 _ d hd
  have:=hx _ u h1
  rw [show ((⟨g,0,none⟩ : Addr).add (i * 4 + j)) = ⟨g,i * 4 + j,none⟩ by simp [Addr.add];omega] at this
  exact ⟨u,this,h2⟩
 obtain ⟨u0,k0,p0⟩:=cell 0 (.val (.int .u8 op)) (fY _ i _ hf 0 (by omega))
 obtain ⟨u1,k1,p1⟩:=cell 1 (.val (str nm)) (fY _ i _ hf 1 (by omega))
 obtain ⟨u2,k2,p2⟩:=cell 2 (.sl 3 ta.length (bS ta)) (fY _ i _ hf 2 (by omega))
 obtain ⟨u3,k3,p3⟩:=cell 3 (.sl 4 sub.length (bJ sub)) (fY _ i _ hf 3 (by omega))
 obtain ⟨xa,xn,xc,rfl⟩:=bG.slice (l:=ta) p2
 obtain ⟨y,m,d,rfl⟩:=aN.slice (l:=sub) p3
 have e0 : u0 = _:=p0
 have e1 : u1 = _:=p1
 subst e0 e1
 exact ⟨xa,xn,xc,y,m,d,k0,k1,k2,k3,p2,p3⟩
theorem qS {w wx w1 : World} {g M sc i : Nat} {F : Fm} {ea eb : Option Addr} {en ec em ed : Nat} (BX : Below wx.heap.size wx w1) (EL : Elem w wx (some ⟨g,0,none⟩) M sc g i F ea en ec eb em ed) :
  bG (hide (fun k=>lo1 w k || decide ((Value.slice (some ⟨g,0,none⟩) M sc).ownBlock = some k)) w1) F.args (.slice ea en ec) ∧ aN (hide (fun k=>lo1 w k || decide ((Value.slice (some ⟨g,0,none⟩) M sc).ownBlock = some k)) w1) F.sub (.slice eb em ed) :=
 have K : bI (hide (fun k=>lo1 w k || decide ((Value.slice (some ⟨g,0,none⟩) M sc).ownBlock = some k)) wx) (hide (fun k=>lo1 w k || decide ((Value.slice (some ⟨g,0,none⟩) M sc).ownBlock = some k)) w1):=aH fun k h1 h2=>⟨h2,BX.block k h1⟩
 ⟨EL.ht.keep K,EL.hs.keep K⟩
theorem uP {w wx w1 : World} {l : Bs} {k xx M sc g h : Nat} {x : UInt8} {F : Fm} {ea eb : Option Addr} {en ec em ed : Nat} {op : Int} {nm : Bs} (H : BRel w l k (.slice (some ⟨g,0,none⟩) (M + 1) sc) wx) (hx : l[k]? = some x ∧ x.toNat = xx) (hN : (bAt l k).length = M + 1) (BX : Below wx.heap.size wx w1)
  (EL : Elem w wx (some ⟨g,0,none⟩) (M + 1) sc g M F ea en ec eb em ed) (hh : w1.heap[h]? = some (.cells #[.int .u8 F.op,str F.name,.slice ea en ec,.slice eb em ed] 40 (0,0))) (hl : wx.heap.size ≤ h) (hst : cI (bAt l k) xx = (bAt l k).take M ++ [.mk op nm [] [F]]) :
  ∃ olds,olds.length = M * 4 ∧ (∀ p,some (⟨g,0,none⟩ : Addr) = some p → ∀ i u,olds[i]? = some u → (w1.alloc (.cells #[.int .u8 op,str nm,.slice none 0 0,.slice (some ⟨h,0,none⟩) 1 1] 40)).cell? (p.add i) = some u) ∧
   ∀ v' w5,w5.ownsRow (w1.alloc (.cells #[.int .u8 op,str nm,.slice none 0 0,.slice (some ⟨h,0,none⟩) 1 1] 40)).heap.size 40 4 v' (M + 1) (olds ++ [.int .u8 op,str nm,.slice none 0 0,.slice (some ⟨h,0,none⟩) 1 1]) → (w1.alloc (.cells #[.int .u8 op,str nm,.slice none 0 0,.slice (some ⟨h,0,none⟩) 1 1] 40)).grownBy w5 none → BRel w l (k + 1) v' w5:=by
 have hv:=uW H.own g rfl
 have e:=qS BX EL
 refine sU (fm:=.mk op nm [] [F]) H hx BX (by omega) hst (At.sl_nil (Nat.zero_le _)) ?_
 refine uS (f:=F) ?_ e.1 e.2
 rw [gX _ _ _ (by simp [lo1,Value.ownBlock];omega)]
 exact hh
theorem lU {w wx w1 : World} {l : Bs} {k xx M sc g h : Nat} {x : UInt8} {F G : Fm} {ea eb fa fb : Option Addr} {en ec em ed fn fc fm fd : Nat} {op : Int} (H : BRel w l k (.slice (some ⟨g,0,none⟩) (M + 2) sc) wx) (hx : l[k]? = some x ∧ x.toNat = xx) (hN : (bAt l k).length = M + 2) (BX : Below wx.heap.size wx w1)
  (EL : Elem w wx (some ⟨g,0,none⟩) (M + 2) sc g M F ea en ec eb em ed) (EL2 : Elem w wx (some ⟨g,0,none⟩) (M + 2) sc g (M + 1) G fa fn fc fb fm fd)
  (hh : w1.heap[h]? = some (.cells #[.int .u8 F.op,str F.name,.slice ea en ec,.slice eb em ed,.int .u8 G.op,str G.name,.slice fa fn fc,.slice fb fm fd] 40 (0,0))) (hl : wx.heap.size ≤ h) (hst : cI (bAt l k) xx = (bAt l k).take M ++ [.mk op [] [] [F,G]]) :
  ∃ olds,olds.length = M * 4 ∧ (∀ p,some (⟨g,0,none⟩ : Addr) = some p → ∀ i u,olds[i]? = some u → (w1.alloc (.cells #[.int .u8 op,str [],.slice none 0 0,.slice (some ⟨h,0,none⟩) 2 2] 40)).cell? (p.add i) = some u) ∧
   ∀ v' w5,w5.ownsRow (w1.alloc (.cells #[.int .u8 op,str [],.slice none 0 0,.slice (some ⟨h,0,none⟩) 2 2] 40)).heap.size 40 4 v' (M + 1) (olds ++ [.int .u8 op,str [],.slice none 0 0,.slice (some ⟨h,0,none⟩) 2 2]) → (w1.alloc (.cells #[.int .u8 op,str [],.slice none 0 0,.slice (some ⟨h,0,none⟩) 2 2] 40)).grownBy w5 none → BRel w l (k + 1) v' w5:=by
 have hv:=uW H.own g rfl
 have e:=qS BX EL
 have e':=qS BX EL2
 refine sU (fm:=.mk op [] [] [F,G]) H hx BX (by omega) hst (At.sl_nil (Nat.zero_le _)) ?_
 refine uT (f:=F) (f':=G) ?_ e.1 e.2 e'.1 e'.2
 rw [gX _ _ _ (by simp [lo1,Value.ownBlock];omega)]
 exact hh
end Go.Proofs.YtppfalbnhnpbnaaGreatDoor
