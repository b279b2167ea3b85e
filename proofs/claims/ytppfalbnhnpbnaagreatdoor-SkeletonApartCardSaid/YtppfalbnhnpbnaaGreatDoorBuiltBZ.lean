/- lyceumlaw30.Built: what the cases of its loop's round share, and its end. Conditions: none but those of each statement. -/
import Derived.Test.YtppfalbnhnpbnaaGreatDoorRowZ
import Derived.Test.YtppfalbnhnpbnaaGreatDoorTerm30Z
import Derived.Deep.RegionLawGrows
import Derived.Outline
import Derived.Deep.CutBlock
import Derived.IntWalk
import Derived.Deep.DrawnRows
set_option linter.unusedSimpArgs false
set_option linter.unusedVariables false
namespace Go.Proofs.YtppfalbnhnpbnaaGreatDoor
open Go Go.RowKit Ly
set_option maxRecDepth 10000
set_option maxHeartbeats 2000000
theorem join30_x (o : Int) (a : Option Addr) (k c : Nat) (w : World) : Calls Tryz.prog 17 #[.int .u8 o, .slice a k c] w fun e w' => e = .returned (.agg #[.int .u8 o, str [], .slice none 0 0, .slice a k c]) ∧ Below w.heap.size w w' := by
  go_enter Tryz.func17, Tryz.ntmps17
  go_wp2
  exact bodyPost_ret (v := .agg #[.int .u8 o, str [], .slice none 0 0, .slice a k c]) (by simp [results, Tryz.results17, go_sem]) rfl ⟨rfl, (Below.refl _ _).alloc (Nat.le_refl _) _⟩
theorem atom30_x (n : Bs) (a : Option Addr) (k c : Nat) (w : World) : Calls Tryz.prog 18 #[str n, .slice a k c] w fun e w' => e = .returned (.agg #[.int .u8 1, str n, .slice a k c, .slice none 0 0]) ∧ Below w.heap.size w w' := by
  go_enter Tryz.func18, Tryz.ntmps18
  go_wp2
  exact bodyPost_ret (v := .agg #[.int .u8 1, str n, .slice a k c, .slice none 0 0]) (by simp [results, Tryz.results18, go_sem]) rfl ⟨rfl, (Below.refl _ _).alloc (Nat.le_refl _) _⟩
theorem news4 (w : World) (a b c d : Value) (t : TypeId) : ∀ (j : Nat) (u : Value), [a, b, c, d][j]? = some u → (w.alloc (.cells #[a, b, c, d] t)).cell? ((⟨w.heap.size, 0, none⟩ : Addr).add j) = some u := by
  intro j u hu
  have hg := heap_alloc_new w (.cells #[a, b, c, d] t)
  rw [show ((⟨w.heap.size, 0, none⟩ : Addr).add j) = ⟨w.heap.size, j, none⟩ by simp [Addr.add]; omega, box_cell hg]
  simpa using hu
theorem oneCells {op : Int} {nm : Bs} {a b : Option Addr} {n c m d : Nat} : ∀ u ∈ [Value.int .u8 op, str nm, .slice a n c, .slice b m d], u.oneCell' = true := by
  intro u hu
  simp at hu
  rcases hu with rfl | rfl | rfl | rfl <;> rfl
def BoundY (o : Int) (n : Bs) (cs : Array Value) (w : World) (e : Ending) (w' : World) : Prop := ∃ g, e = .returned (.agg #[.int .u8 o, str n, .slice none 0 0, .slice (some ⟨g, 0, none⟩) 1 1]) ∧ w'.heap[g]? = some (.cells cs 40 (0, 0)) ∧ Below w.heap.size w w' ∧ w.heap.size ≤ g
theorem bound30_x (o : Int) (n : Bs) (o' : Int) (n' : Bs) (a : Option Addr) (k c : Nat) (b : Option Addr) (m d : Nat) (w : World) :
    Calls Tryz.prog 32 #[.int .u8 o, str n, .agg #[.int .u8 o', str n', .slice a k c, .slice b m d]] w (BoundY o n #[.int .u8 o', str n', .slice a k c, .slice b m d] w) := by
  have h3 : Hid ((((w.alloc (.cells #[.int .u8 o', str n', .slice a k c, .slice b m d] 40)).alloc (.cells #[.int .u8 o, str n, .slice none 0 0, .slice (some ⟨w.heap.size + 1 + 1, 0, none⟩) 1 1] 40)).alloc (.cells #[.int .u8 o', str n', .slice a k c, .slice b m d] 40)).heap[w.heap.size + 1 + 1]? = some (.cells #[.int .u8 o', str n', .slice a k c, .slice b m d] 40 (0, 0))) := by
    have := heap_alloc_new ((w.alloc (.cells #[.int .u8 o', str n', .slice a k c, .slice b m d] 40)).alloc (.cells #[.int .u8 o, str n, .slice none 0 0, .slice (some ⟨w.heap.size + 1 + 1, 0, none⟩) 1 1] 40)) (.cells #[.int .u8 o', str n', .slice a k c, .slice b m d] 40)
    simpa [Hid] using this
  go_enter Tryz.func32, Tryz.ntmps32
  go_wp2
  refine bodyPost_ret (v := .agg #[.int .u8 o, str n, .slice none 0 0, .slice (some ⟨w.heap.size + 1 + 1, 0, none⟩) 1 1]) (by simp [results, Tryz.results32, go_sem]) rfl ⟨_, rfl, ?_, ?_, by omega⟩
  · exact h3.out
  · exact (((Below.refl _ _).alloc (Nat.le_refl _) _).alloc (by simp) _).alloc (by simp; omega) _
theorem held_mono {P : Program} {md : Region.Mode} {ops : Array Oper} {Q : Exit → Act → World → Prop} {S S' : World → Prop} (h : ∀ w, S' w → S w) : ∀ (fuel : Nat) (listed : Array Bool) (a : Act) (w : World), wpAnyH P md ops Q S' fuel listed a w → wpAnyH P md ops Q S fuel listed a w
  | 0, _, _, _, hk => hk
  | fuel + 1, _, _, _, hk => ⟨hk.1, fun i hi => wpOp_mono (fun a' w' q => ⟨h w' q.1, held_mono h fuel _ a' w' q.2⟩) (hk.2 i hi)⟩
theorem held_now {P : Program} {md : Region.Mode} {ops : Array Oper} {Q : Exit → Act → World → Prop} {wc w : World} {fuel : Nat} {listed : Array Bool} {a : Act} (h : Keeps wc w) (hk : Keeps w w → wpAnyH P md ops Q (fun w' => Keeps w w') fuel listed a w) : wpAnyH P md ops Q (fun w' => Keeps wc w') fuel listed a w :=
  held_mono (fun _ k => h.trans k) _ _ _ _ (hk (Keeps.refl w))
theorem hid_up {w1 w2 w3 : World} (h : w1.heap.size ≤ w2.heap.size) (b : Below w2.heap.size w2 w3) : Keeps (hide (lo w1) w2) (hide (lo w1) w3) := hide_keeps2 fun k h1 h2 => ⟨h2, b.block k h1⟩
theorem tms_two_hid {wx w1 w2 w3 : World} {t t' : Tm} {a a' : Option Addr} {n c n' c' : Nat} {ty : TypeId} (b1 : Below wx.heap.size wx w1) (b2 : Below w1.heap.size w1 w2) (b3 : Below (w2.alloc (.cells #[.bool t.v, str t.name, .slice a n c, .bool t'.v, str t'.name, .slice a' n' c'] 38)).heap.size (w2.alloc (.cells #[.bool t.v, str t.name, .slice a n c, .bool t'.v, str t'.name, .slice a' n' c'] 38)) w3)
    (h1 : TmsAt (hide (lo wx) w1) t.args (.slice a n c)) (h2 : TmsAt (hide (lo w1) w2) t'.args (.slice a' n' c')) : TmsAt (hide (lo wx) w3) [t, t'] (.slice (some ⟨w2.heap.size, 0, none⟩) 2 2) := by
  have b23 := below1 b3
  refine tms_of2 (t := t) (t' := t') ?_ (h1.keep (hid_up b1.size (belowThen b2 b23))) (h2.keep (lo_keeps b1.size fun k h1 h2 => b23.block k h2))
  rw [hide_get _ _ _ (by simp [lo]; have := b1.size; have := b2.size; omega)]
  exact kc b3 (heap_alloc_new _ _)
theorem tms_one_hid {wx w1 w2 : World} {t : Tm} {a : Option Addr} {n c : Nat} {g : Nat} {ty : TypeId} (b1 : Below wx.heap.size wx w1) (b2 : Below w1.heap.size w1 w2) (hg : w2.heap[g]? = some (.cells #[.bool t.v, str t.name, .slice a n c] ty (0, 0))) (hl : wx.heap.size ≤ g)
    (h1 : TmsAt (hide (lo wx) w1) t.args (.slice a n c)) : TmsAt (hide (lo wx) w2) [t] (.slice (some ⟨g, 0, none⟩) 1 1) := by
  refine tms_of1 (t := t) (ty := ty) ?_ (h1.keep (hid_up b1.size b2))
  rw [hide_get _ _ _ (by simp [lo]; omega)]
  exact hg
def RetF (r : Fm) (w : World) (e : Ending) (w' : World) : Prop := ∃ a n c b m d, e = .returned (.agg #[.int .u8 r.op, str r.name, .slice a n c, .slice b m d]) ∧ TmsAt (hide (lo w) w') r.args (.slice a n c) ∧ FmsAt (hide (lo w) w') r.sub (.slice b m d) ∧ Below w.heap.size w w'
theorem lo1_lo {w w3 w4 : World} (h : ∀ k, k < w3.heap.size → k ≠ w.heap.size → w4.heap[k]? = w3.heap[k]?) : Keeps (hide (lo1 w) w3) (hide (lo w) w4) := hide_keeps2 fun k h1 h2 => by
  simp only [lo1, lo, decide_eq_false_iff_not, Nat.not_lt] at h2 ⊢
  exact ⟨by omega, h k h1 (by omega)⟩
theorem built_end {w w3 : World} {f r : Fm} {a b : Option Addr} {n c m d : Nat} {tmps : Array Value} (B : Below w.heap.size w w3) (hg : w3.heap[w.heap.size]? = some (.cells #[.int .u8 0, str [], .slice none 0 0, .slice none 0 0] 40 (0, 0)))
    (ht : TmsAt (hide (lo1 w) w3) f.args (.slice a n c)) (hs : FmsAt (hide (lo1 w) w3) f.sub (.slice b m d)) (hr : r = f) (h2 : tmps.getD 2 undef = one w.heap.size) :
    bodyPost Tryz.prog Tryz.f19 (RetF r w) .ret ⟨tmps, []⟩ ((((w3.setCell ⟨w.heap.size, 0, none⟩ (.int .u8 f.op)).setCell ⟨w.heap.size, 1, none⟩ (str f.name)).setCell ⟨w.heap.size, 2, none⟩ (.slice a n c)).setCell ⟨w.heap.size, 3, none⟩ (.slice b m d)) := by
  have g1 := set_block (o := 0) (u := .int .u8 f.op) hg
  have g2 := set_block (o := 1) (u := str f.name) g1
  have g3 := set_block (o := 2) (u := .slice a n c) g2
  have g4 := set_block (o := 3) (u := .slice b m d) g3
  refine bodyPost_ret (res25 rfl _ _ w.heap.size _ _ _ _ (0, 0) h2 g4) rfl ?_
  subst hr
  have K : Keeps (hide (lo1 w) w3) (hide (lo w) ((((w3.setCell ⟨w.heap.size, 0, none⟩ (.int .u8 r.op)).setCell ⟨w.heap.size, 1, none⟩ (str r.name)).setCell ⟨w.heap.size, 2, none⟩ (.slice a n c)).setCell ⟨w.heap.size, 3, none⟩ (.slice b m d))) := lo1_lo fun k _ hne => by
    rw [Below.heap_setCell _ _ _ _ hne, Below.heap_setCell _ _ _ _ hne, Below.heap_setCell _ _ _ _ hne, Below.heap_setCell _ _ _ _ hne]
  exact ⟨_, _, _, _, _, _, rfl, ht.keep K, hs.keep K, (((B.setCell (by simp) _).setCell (by simp) _).setCell (by simp) _).setCell (by simp) _⟩
def p8 (w wc : World) : Nat → Bool := fun k => lo1 w k || decide (k = wc.heap.size)
structure URel (w wc : World) (F : Fm) (a : Option Addr) (n c : Nat) (b : Option Addr) (m d : Nat) (wr : World) : Prop where
  bw : Below wc.heap.size wc wr
  cell : wr.heap[wc.heap.size]? = some (.cells #[.int .u8 F.op, str F.name, .slice a n c, .slice b m d] 40 (0, 0))
  ht : TmsAt (hide (p8 w wc) wr) F.args (.slice a n c)
  hs : FmsAt (hide (p8 w wc) wr) F.sub (.slice b m d)
theorem elem_p8 {w wc wr : World} {sa : Option Addr} {N sc g i : Nat} {f : Fm} {a b : Option Addr} {n c m d : Nat} (E : Elem w wc sa N sc g i f a n c b m d) (h : Below wc.heap.size wc wr) :
    TmsAt (hide (p8 w wc) wr) f.args (.slice a n c) ∧ FmsAt (hide (p8 w wc) wr) f.sub (.slice b m d) := by
  have K : Keeps (hide (fun k => lo1 w k || decide ((Value.slice sa N sc).ownBlock = some k)) wc) (hide (p8 w wc) wr) := hide_keeps2 fun k h1 h2 => by
    simp only [p8, Bool.or_eq_false_iff, decide_eq_false_iff_not] at h2 ⊢
    exact ⟨⟨h2.1, by omega⟩, h.block k h1⟩
  exact ⟨E.ht.keep K, E.hs.keep K⟩
theorem urel_first {w wc : World} {sa : Option Addr} {N sc g i : Nat} {f : Fm} {a b : Option Addr} {n c m d : Nat} (E : Elem w wc sa N sc g i f a n c b m d) : URel w wc f a n c b m d (wc.alloc (.cells #[.int .u8 f.op, str f.name, .slice a n c, .slice b m d] 40)) := by
  have B : Below wc.heap.size wc (wc.alloc (.cells #[.int .u8 f.op, str f.name, .slice a n c, .slice b m d] 40)) := (Below.refl _ _).alloc (Nat.le_refl _) _
  exact ⟨B, heap_alloc_new _ _, (elem_p8 E B).1, (elem_p8 E B).2⟩
theorem urel_next {w wc wr w1 : World} {sa : Option Addr} {N sc g i h : Nat} {F f : Fm} {a b a' b' : Option Addr} {n c m d n' c' m' d' : Nat} (U : URel w wc F a n c b m d wr) (hw : w.heap.size + 1 ≤ wc.heap.size) (E : Elem w wc sa N sc g i f a' n' c' b' m' d') (b1 : Below wr.heap.size wr w1)
    (hh : w1.heap[h]? = some (.cells #[.int .u8 F.op, str F.name, .slice a n c, .slice b m d, .int .u8 f.op, str f.name, .slice a' n' c', .slice b' m' d'] 40 (0, 0))) (hl : wr.heap.size ≤ h) :
    URel w wc (.mk 14 [] [] [F, f]) none 0 0 (some ⟨h, 0, none⟩) 2 2 ((((w1.setCell ⟨wc.heap.size, 0, none⟩ (.int .u8 14)).setCell ⟨wc.heap.size, 1, none⟩ (str [])).setCell ⟨wc.heap.size, 2, none⟩ (.slice none 0 0)).setCell ⟨wc.heap.size, 3, none⟩ (.slice (some ⟨h, 0, none⟩) 2 2)) := by
  have z := (Array.getElem?_eq_some_iff.1 U.cell).1
  have B1 : Below wc.heap.size wc w1 := belowThen U.bw b1
  have g0 := (b1.block _ z).trans U.cell
  have g1 := set_block (o := 0) (u := .int .u8 14) g0
  have g2 := set_block (o := 1) (u := str []) g1
  have g3 := set_block (o := 2) (u := .slice none 0 0) g2
  have g4 := set_block (o := 3) (u := .slice (some ⟨h, 0, none⟩) 2 2) g3
  have B4 : Below wc.heap.size wc ((((w1.setCell ⟨wc.heap.size, 0, none⟩ (.int .u8 14)).setCell ⟨wc.heap.size, 1, none⟩ (str [])).setCell ⟨wc.heap.size, 2, none⟩ (.slice none 0 0)).setCell ⟨wc.heap.size, 3, none⟩ (.slice (some ⟨h, 0, none⟩) 2 2)) := (((B1.setCell (by simp) _).setCell (by simp) _).setCell (by simp) _).setCell (by simp) _
  have off : ∀ k, k ≠ wc.heap.size → ((((w1.setCell ⟨wc.heap.size, 0, none⟩ (.int .u8 14)).setCell ⟨wc.heap.size, 1, none⟩ (str [])).setCell ⟨wc.heap.size, 2, none⟩ (.slice none 0 0)).setCell ⟨wc.heap.size, 3, none⟩ (.slice (some ⟨h, 0, none⟩) 2 2)).heap[k]? = w1.heap[k]? := fun k hne => by
    rw [Below.heap_setCell _ _ _ _ hne, Below.heap_setCell _ _ _ _ hne, Below.heap_setCell _ _ _ _ hne, Below.heap_setCell _ _ _ _ hne]
  refine ⟨B4, g4, At.sl_nil (Nat.zero_le _), ?_⟩
  generalize ((((w1.setCell ⟨wc.heap.size, 0, none⟩ (.int .u8 14)).setCell ⟨wc.heap.size, 1, none⟩ (str [])).setCell ⟨wc.heap.size, 2, none⟩ (.slice none 0 0)).setCell ⟨wc.heap.size, 3, none⟩ (.slice (some ⟨h, 0, none⟩) 2 2)) = W4 at B4 off
  obtain ⟨e1, e2⟩ := elem_p8 E B4
  have K : Keeps (hide (p8 w wc) wr) (hide (p8 w wc) W4) := hide_keeps2 fun k h1 h2 => by
    refine ⟨h2, (off k ?_).trans (b1.block k h1)⟩
    simp only [p8, Bool.or_eq_false_iff, decide_eq_false_iff_not] at h2
    exact h2.2
  refine fms_of2 (f := F) (f' := f) ?_ (U.ht.keep K) (U.hs.keep K) e1 e2
  rw [hide_get _ _ _ (by simp [p8, lo1]; omega), off _ (by omega)]
  exact hh
theorem untils_snoc (f : Fm) (r : List Fm) (g : Fm) : untils f (r ++ [g]) = .mk 14 [] [] [untils f r, g] := by simp [untils, List.foldl_append]
theorem untils_at (S : List Fm) (j : Nat) (h : j + 1 < S.length) : untils (S.getD 0 fls) ((S.drop 1).take (j + 1)) = .mk 14 [] [] [untils (S.getD 0 fls) ((S.drop 1).take j), S.getD (j + 1) fls] := by
  have e : (S.drop 1).take (j + 1) = (S.drop 1).take j ++ [S.getD (j + 1) fls] := by
    rw [List.take_add_one, List.getElem?_drop, List.getD_eq_getElem?_getD, show 1 + j = j + 1 by omega, List.getElem?_eq_getElem h]; rfl
  rw [e, untils_snoc]
theorem builtOf_at (S : List Fm) (h : 0 < S.length) : builtOf S = untils (S.getD 0 fls) ((S.drop 1).take (S.length - 1)) := by
  cases S with
  | nil => simp at h
  | cons f r => simp [builtOf]
theorem bAt_end (l : Bs) (n k : Nat) (hn : n = l.length) (h1 : k ≤ n) (h2 : k ≤ 20) (h3 : ¬ (k < n ∧ k < 20)) : built l = builtOf (bAt l k) := by
  unfold built bFold bAt
  rcases Nat.lt_or_ge k n with h | h
  · obtain rfl : k = 20 := by omega
    rfl
  · have e : l.take k = l.take 20 := by rw [List.take_of_length_le (by omega), List.take_of_length_le (by omega)]
    rw [e]
def findBlk (n : Nat) : Code → Option Code
  | .block i c => if i = n then some (.block i c) else findBlk n c
  | .seq a b => match findBlk n a with
    | some c => some c
    | none => findBlk n b
  | .cond _ a b => match findBlk n a with
    | some c => some c
    | none => findBlk n b
  | .loop c => findBlk n c
  | .scope c => findBlk n c
  | _ => none
noncomputable def blk20 : Code := ((Tryz.f19.body).bind (findBlk 1)).getD .skip
theorem then_mono {K : Act → World → Prop} {Q : Exit → Act → World → Prop} : ∀ (e : Exit) (a : Act) (w : World), Exit.then K (fun _ _ _ => False) e a w → Exit.then K Q e a w := fun e a w h => by
  cases e <;> first | exact h | exact (h : False).elim
set_option maxRecDepth 100000 in
def R20 (w : World) (l : Bs) (k b off n c : Nat) (act : Act) (w' : World) : Prop := ∃ u3 u5 u6 u7 u8 u9 u10 u11 u12 u13 u14 u15 u16 u17 u18 u19 u20 u21 u22 u23 u24 u25 u26 u27 u28 u29 u30 u31 u32 u33 u34 u35 u36 u37 u38 u39 u40 u41 u42 u43 u44 u45 u46 u47 u48 u49 u50 u51 u52 u53 u54 u55 u56 u57 u58 u59 u60 u61 u62 u63 u64 u65 u66 u67 u68 u69 u70 u71 u72 u73 u74 u75 u76 u77 u78 u79 u80 u81 u82 u83 u84 u85 u86 u87 u88 u89 u90 u91 u92 u93 u94 u95 u96 u97 u98 u99 u100 u101 u102 u103 u104 u105 u106 u107 u108 u109 u110 u111 u112 u113 u114 u115 u116 u117 u118 u119 u120 u121 u122 u123 u124 u125 u126 u127 u128 u129 u130 u131 u132 u133 u134 u135 u136 u137 u138 u139 u140 u141 u142 u143 u144 u145 u146 u147 u148 u149 u150 u151 u152 u153 u154 u155 u156 u157 u158 u159 u160 u161 u162 u163 u164 u165 u166 u167 u168 u169 u170 : Value, (u8 = undef ∧ u9 = undef ∧ Hid (BRel w l (k + 1) u3 w')) ∧ act = ⟨List.toArray ((.slice (some ⟨b, off, none⟩) n c) :: undef :: (one w.heap.size) :: u3 :: (.int .i64 k) :: u5 :: u6 :: u7 :: u8 :: u9 :: u10 :: u11 :: u12 :: u13 :: u14 :: u15 :: u16 :: u17 :: u18 :: u19 :: u20 :: u21 :: u22 :: u23 :: u24 :: u25 :: u26 :: u27 :: u28 :: u29 :: u30 :: u31 :: u32 :: u33 :: u34 :: u35 :: u36 :: u37 :: u38 :: u39 :: u40 :: u41 :: u42 :: u43 :: u44 :: u45 :: u46 :: u47 :: u48 :: u49 :: u50 :: u51 :: u52 :: u53 :: u54 :: u55 :: u56 :: u57 :: u58 :: u59 :: u60 :: u61 :: u62 :: u63 :: u64 :: u65 :: u66 :: u67 :: u68 :: u69 :: u70 :: u71 :: u72 :: u73 :: u74 :: u75 :: u76 :: u77 :: u78 :: u79 :: u80 :: u81 :: u82 :: u83 :: u84 :: u85 :: u86 :: u87 :: u88 :: u89 :: u90 :: u91 :: u92 :: u93 :: u94 :: u95 :: u96 :: u97 :: u98 :: u99 :: u100 :: u101 :: u102 :: u103 :: u104 :: u105 :: u106 :: u107 :: u108 :: u109 :: u110 :: u111 :: u112 :: u113 :: u114 :: u115 :: u116 :: u117 :: u118 :: u119 :: u120 :: u121 :: u122 :: u123 :: u124 :: u125 :: u126 :: u127 :: u128 :: u129 :: u130 :: u131 :: u132 :: u133 :: u134 :: u135 :: u136 :: u137 :: u138 :: u139 :: u140 :: u141 :: u142 :: u143 :: u144 :: u145 :: u146 :: u147 :: u148 :: u149 :: u150 :: u151 :: u152 :: u153 :: u154 :: u155 :: u156 :: u157 :: u158 :: u159 :: u160 :: u161 :: u162 :: u163 :: u164 :: u165 :: u166 :: u167 :: u168 :: u169 :: u170 :: undef :: undef :: undef :: undef :: undef :: undef :: undef :: undef :: undef :: undef :: undef :: undef :: undef :: undef :: undef :: undef :: undef :: undef :: undef :: undef :: undef :: []), []⟩
end Go.Proofs.YtppfalbnhnpbnaaGreatDoor
