/- lyceumref41.split. Conditions: texts of at most a million bytes. lyceumref41.readTerm, readArgs: what is read of right words. Conditions: words fit into memory. lyceumref41.readArgs, and readTerm at every fuel. Conditions: words fit into memory. -/
import Derived.Test.YtcandidgaegghaaGreatDoorPlJ
import Derived.Deep.RegionHeld3
import Derived.Test.YtcandidgaegghaaGreatDoorClaim
import Derived.Test.YtcandidgaegghaaGreatDoorTxCZ
import Derived.Test.YtcandidgaegghaaGreatDoorLnBZ
import Derived.Test.YtcandidgaegghaaGreatDoorFmOfZ
import Derived.Deep.DeepCutAuto
import Derived.Test.YtcandidgaegghaaGreatDoorRdD
section
namespace Go.Proofs.YtcandidgaegghaaGreatDoor
open Go Go.RowKit Ly
set_option maxRecDepth 10000
set_option linter.unusedSimpArgs false
set_option linter.unusedVariables false
set_option maxHeartbeats 1600000
theorem own_setStr {B g n c q : Nat} {w : World} {L : List Bs} {y : Bs} (h : OwnStrs B w L (.slice (some ⟨g, 0, none⟩) n c)) (hn : n = L.length) : OwnStrs B (w.setCell ⟨g, q, none⟩ (str y)) (L.set q y) (.slice (some ⟨g, 0, none⟩) n c) := by
  obtain ⟨h1, h2⟩ := h
  refine ⟨by simp, ?_⟩
  rcases h2 with ⟨e, _⟩ | ⟨g', cap, cur, e, hb, hg, hc, hm, hs, ht⟩
  · cases e
  · simp only [Value.slice.injEq, Option.some.injEq, Addr.mk.injEq, and_true, true_and] at e
    obtain ⟨rfl, _, rfl⟩ := e
    refine .inr ⟨g, c, cur.setIfInBounds q (str y), by simp [hn], hb, set_block hg, by simpa using hc, hm, by simpa using hs, ?_⟩
    simp only [Array.toList_setIfInBounds, List.length_set, List.map_set, ← ht]
    rw [List.take_set]
theorem own_cell {B g n c q : Nat} {w : World} {L : List Bs} {x : Bs} (h : OwnStrs B w L (.slice (some ⟨g, 0, none⟩) n c)) (hx : L[q]? = some x) : w.cell? ⟨g, q, none⟩ = some (str x) ∧ w.frozen? ⟨g, q, none⟩ = false := by
  obtain ⟨h1, h2⟩ := h
  rcases h2 with ⟨e, _⟩ | ⟨g', cap, cur, e, hb, hg, hc, hm, hs, ht⟩
  · cases e
  · simp only [Value.slice.injEq, Option.some.injEq, Addr.mk.injEq, and_true, true_and] at e
    obtain ⟨rfl, _, rfl⟩ := e
    refine ⟨?_, by simp [World.frozen?, hg]⟩
    rw [box_cell hg]
    have hxx : (L.map str)[q]? = some (str x) := by rw [List.getElem?_map, hx]; rfl
    rw [← ht, List.getElem?_take] at hxx
    split at hxx
    · simpa using hxx
    · cases hxx
theorem spStep_sp (p : List Bs) (x : Bs) : spStep (p ++ [x]) 32 = p ++ [x] ++ [[]] := by simp [spStep]
theorem spStep_char (p : List Bs) (x : Bs) {c : UInt8} (h : c ≠ 32) : spStep (p ++ [x]) c = (p ++ [x]).set p.length (x ++ [c]) := by
  simp [spStep, h]
theorem sp_len : ∀ (s : Bs) (l : List Bs), (s.foldl spStep l).length ≤ l.length + s.length
  | [], l => by simp
  | c :: s, l => by
    have h := sp_len s (spStep l c)
    have h2 : (spStep l c).length ≤ l.length + 1 := by
      unfold spStep
      split
      · simp
      · simp
    simp only [List.foldl_cons, List.length_cons]; omega
theorem sp_take {s : Bs} {i : Nat} (h : i < s.length) : (s.take (i + 1)).foldl spStep [[]] = spStep ((s.take i).foldl spStep [[]]) s[i] := by
  rw [List.take_succ_eq_append_getElem h, List.foldl_append]; rfl
theorem sp_snoc (s : Bs) : ∃ p x, s.foldl spStep [[]] = p ++ [x] := by
  have h := (sp_fold s [[]] (by simp) (by intro x hx; simp at hx; subst hx; simp)).2.1
  exact ⟨_, _, (List.dropLast_concat_getLast h).symm⟩
theorem refSplit_c (s : Bs) (hs : s.length ≤ 1000000) (w : World) : Calls Tryz.prog 135 #[str s] w (RetStrs (wordsOf s) w) := by
  cases s with
  | nil =>
    go_enter Tryz.func135, Tryz.ntmps135
    go_wp2_with fail
    go_ret
    exact ⟨_, rfl, ⟨by simp [wordsOf], .inl ⟨rfl, by simp [wordsOf]⟩⟩, Below.refl _ _⟩
  | cons c0 r0 =>
    have HW : Hid (wordsOf (c0 :: r0) = (c0 :: r0).foldl spStep [[]]) := by show _ = _; rw [wordsOf, if_neg (by simp), sp_split]
    have hne : ((c0 :: r0 : Bs) == []) = false := rfl
    generalize hS : (c0 :: r0 : Bs) = S at *
    clear hS
    obtain ⟨N, hN⟩ : ∃ n, S.length = n := ⟨_, rfl⟩
    have hN1 : N ≤ 1000000 := by omega
    have LN := Lib.hid hN
    clear hs
    obtain ⟨i0, hi0, hz0, hs0, hb0⟩ := info_parts info9
    go_enter Tryz.func135, Tryz.ntmps135
    go_wp2_with fail
    go_loopw [3, 4] (fun u i wr => ∃ (j q g cap : Nat) (p : List Bs) (x : Bs), j ≤ N ∧ i = .int .i64 j ∧ q ≤ j ∧ x.length ≤ j ∧ u = .slice (some ⟨g, 0, none⟩) (q + 1) cap ∧ cap ≤ 9223372036854775807 ∧ Hid (q = p.length ∧ (S.take j).foldl spStep [[]] = p ++ [x] ∧ OwnStrs w.heap.size wr (p ++ [x]) (.slice (some ⟨g, 0, none⟩) (q + 1) cap) ∧ Below w.heap.size w wr)) (fun _ i _ => N - (intOf i).toNat)
    case atStart => exact ⟨0, 0, _, _, [], [], Nat.zero_le _, rfl, Nat.zero_le _, Nat.zero_le _, rfl, by omega, rfl, by simp, own_at _ _ rfl (Nat.le_refl _), (Below.refl _ _).alloc (Nat.le_refl _) _⟩
    case round =>
      obtain ⟨j, q, g, cap, p, x, hj, rfl, hq, hx, rfl, hcap, hs⟩ := hrel
      by_cases hlt : j < N
      · have hlt' : j < S.length := by omega
        have TK := Lib.hid (sp_take hlt')
        have hC : ∀ (i : Nat) (y : Bs), (p ++ [x])[i]? = some y → wr.cell? ⟨g, i, none⟩ = some (str y) ∧ wr.frozen? ⟨g, i, none⟩ = false := fun i y h => own_cell (n := q + 1) hs.out.2.2.1 h
        have hlast : (p ++ [x])[q]? = some x := by rw [hs.out.1]; simp
        obtain ⟨c1, f1⟩ := hC q x hlast
        clear hC hlast
        have hb : j < (⟨S.toArray⟩ : ByteArray).size := by simpa [ByteArray.size] using hlt'
        obtain ⟨ch, hch⟩ : ∃ ch, S[j]'hlt' = ch := ⟨_, rfl⟩
        have eb : (⟨S.toArray⟩ : ByteArray)[j]'hb = ch := hch
        have HCH := Lib.hid hch
        clear hch
        by_cases h32 : ch = 32
        · subst h32
          go_wp2_with (at_builtin; refine wpList_append_own_at _ rfl _ _ 36 rfl w.heap.size 9 i0 (.string ⟨#[]⟩) 1 16 Tryz.underlying36 hi0 hz0 hs0 hb0 rfl (by decide) _ _ _ rfl (World.ownsRow.alloc hs.out.2.2.1 _) ⟨wr.heap.size, 0, none⟩ 1 1 [str []] rfl rfl (cell_one_new _ _ _) (by intro u hu; simp at hu; subst hu; rfl) (by have := hs.out.1; unfold maxLen; simp; omega) (by have := hs.out.1; simp; omega) (by have := hs.out.2.2.2.size; simp; omega) ?_; intro v4 w4 hown4 hg4 _ hat4)
          go_roundw
          case rel =>
            obtain ⟨e1, e2, e3, e4⟩ := hs.out
            have hl : (p ++ [x]).length = q + 1 := by rw [e1]; simp
            have hown : OwnStrs w.heap.size w4 (p ++ [x] ++ [[]]) v4 := by
              unfold OwnStrs
              rw [List.length_append, List.map_append]
              exact hown4
            obtain ⟨g', cap', hv⟩ := own_slice hown (by simp)
            rw [List.length_append, hl] at hv
            have hv' : v4 = .slice (some ⟨g', 0, none⟩) (q + 1 + 1) cap' := hv
            subst hv'
            have hcap' : cap' ≤ maxLen := (hown.strsAt.len).2.2
            refine ⟨j + 1, q + 1, g', cap', p ++ [x], [], by omega, by go_num, by omega, by simp, rfl, le63 hcap', hl.symm, ?_, hown, ?_⟩
            · rw [TK.out, e2, HCH.out]; exact spStep_sp p x
            · exact Below.trans (e4.alloc e4.size _) (below_grown hg4 (fun gg hgg => (World.ownsRow.lt e3 gg hgg).1) (by have := e4.size; simp; omega))
          case measure => simp [intOf]; omega
        · have ev : ¬ ch.toNat = 32 := fun e => h32 (UInt8.toNat_inj.1 e)
          have k1 : (j : Int) + 1 ≤ N := by omega
          have k2 : j + 1 ≤ N := by omega
          have k3 : (0 : Int) ≤ (j : Int) + 1 := by omega
          have k4 : (j : Int) ≤ (j : Int) + 1 := by omega
          have k5 : ((j : Int) + 1).toNat = j + 1 := by omega
          have k6 : IntKind.i64.wrap ((j : Int) + 1) = (j : Int) + 1 := IntWalk.i64_in _ (by omega)
          go_wp2_with fail
          have ex : Hid ((⟨S.toArray⟩ : ByteArray).extract j (j + 1) = ⟨[ch].toArray⟩) := by
            show _ = _
            apply ByteArray.ext
            apply Array.toList_inj.1
            simp only [ByteArray.data_extract, Array.toList_extract, List.extract_eq_take_drop]
            rw [show j + 1 - j = 1 by omega, List.drop_eq_getElem_cons hlt', HCH.out]
            simp
          go_region
          rw [show (⟨S.toArray⟩ : ByteArray).extract j (j + 1) = ⟨[ch].toArray⟩ from ex.out]
          go_wp2_with fail
          go_roundw
          case rel =>
            obtain ⟨e1, e2, e3, e4⟩ := hs.out
            have hl : (p ++ [x]).length = q + 1 := by rw [e1]; simp
            have est : Value.string (⟨x.toArray⟩ ++ ⟨[ch].toArray⟩) = str (x ++ [ch]) := by simp [bytes_app]
            have hset := own_setStr (q := q) (y := x ++ [ch]) e3 hl.symm
            have hpl : (p ++ [x]).set q (x ++ [ch]) = p ++ [x ++ [ch]] := by rw [e1]; simp
            rw [hpl] at hset
            refine ⟨j + 1, q, g, cap, p, x ++ [ch], by omega, by go_num, by omega, by simp; omega, rfl, hcap, e1, ?_, ?_, ?_⟩
            · rw [TK.out, e2, HCH.out, spStep_char p x h32]; simp
            · rw [est]; exact hset
            · exact (e4.setCell (World.ownsRow.lt e3 g rfl).1 _).drew
          case measure => simp [intOf]; omega
      · have hjN : j = N := by omega
        go_wp2_with fail
        go_ret
        obtain ⟨e1, e2, e3, e4⟩ := hs.out
        refine ⟨_, rfl, ?_, e4⟩
        rw [HW.out]
        rw [List.take_of_length_le (by omega)] at e2
        rw [e2]
        exact e3
end Go.Proofs.YtcandidgaegghaaGreatDoor
end
section
namespace Go.Proofs.YtcandidgaegghaaGreatDoor
open Go Go.RowKit Ly
set_option maxRecDepth 10000
set_option linter.unusedSimpArgs false
set_option linter.unusedVariables false
set_option maxHeartbeats 1600000
theorem res279 (tmps : Array Value) (w : World) (g : Nat) (a b c y : Value) (fr : Nat × Nat) (h2 : tmps.getD 2 undef = one g) (h3 : tmps.getD 3 undef = y) (hg : w.heap[g]? = some (.cells #[a, b, c] 95 fr)) :
    (results Tryz.f279 tmps).run Tryz.prog w = .ok (.tuple #[.agg #[a, b, c], y]) w := by
  obtain ⟨fs, h1⟩ := u95
  have e2 : tmps[2]?.getD undef = .pointer (some ⟨g, 0, none⟩) := by simpa using h2
  have e3 : tmps[3]?.getD undef = y := by simpa using h3
  simp [results, Tryz.results279, e2, e3, asAddr, run_loadVar_row w g 95 95 #[a, b, c] fr _ hg h1 rfl i95]
theorem strs_cell {w : World} {x : Bs} {ws : List Bs} {a : Option Addr} {k c : Nat} (h : StrsAt w (x :: ws) (.slice a k c)) : ∃ b off, a = some ⟨b, off, none⟩ ∧ k = ws.length + 1 ∧ k ≤ c ∧ c ≤ maxLen ∧ (∀ (i : Nat) (y : Bs), (x :: ws)[i]? = some y → w.cell? ⟨b, off + i, none⟩ = some (str y)) := by
  obtain ⟨b, off, rfl, hc⟩ := h.get (by simp)
  exact ⟨b, off, rfl, h.len.1, h.len.2.1, h.len.2.2, fun i y hy => hc i y hy⟩
theorem strs_mk {w : World} {ws : List Bs} {b off k c : Nat} (hk : k = ws.length) (h1 : k ≤ c) (h2 : c ≤ maxLen) (h : ∀ (i : Nat) (y : Bs), ws[i]? = some y → w.cell? ⟨b, off + i, none⟩ = some (str y)) : StrsAt w ws (.slice (some ⟨b, off, none⟩) k c) := by
  subst hk
  refine At.sl_mk (by simp) h1 h2 fun j d hd => ?_
  rw [List.getElem?_map] at hd
  obtain ⟨y, hy, rfl⟩ := Option.map_eq_some_iff.1 hd
  exact ⟨_, h j y hy, rfl⟩
theorem strs_none {w : World} {a : Option Addr} {c : Nat} (h : c ≤ maxLen) : StrsAt w [] (.slice a 0 c) := At.sl_nil h
/-- A slice of words whose words lie wherever those of another one lie. -/
def SubAt (ws r : List Bs) (v v' : Value) : Prop := ∀ W, StrsAt W ws v → StrsAt W r v'
theorem SubAt.trans {a b c : List Bs} {u v x : Value} (h : SubAt a b u v) (h' : SubAt b c v x) : SubAt a c u x := fun W hW => h' W (h W hW)
theorem strs_from {w : World} {x : Bs} {ws : List Bs} {b off n c : Nat} (h : ∀ (i : Nat) (y : Bs), (x :: ws)[i]? = some y → w.cell? ⟨b, off + i, none⟩ = some (str y)) (hn : ws.length = n) (h1 : n + 1 ≤ c) (h2 : c ≤ maxLen) : StrsAt w ws (.slice (some ⟨b, off + 1, none⟩) n (c - 1)) :=
  strs_mk hn.symm (by omega) (by omega) fun i y hy => by
    have := h (i + 1) y (by simpa using hy)
    rwa [show off + (i + 1) = off + 1 + i by omega] at this
theorem sub_tail {x : Bs} {ws : List Bs} {b off n c : Nat} : SubAt (x :: ws) ws (.slice (some ⟨b, off, none⟩) (n + 1) c) (.slice (some ⟨b, off + 1, none⟩) n (c - 1)) := fun W h => by
  obtain ⟨b', off', e, h0, h1, h2, hc⟩ := strs_cell h
  cases e
  exact strs_from hc (by omega) h1 h2
theorem sub_nil {ws : List Bs} {v : Value} {a : Option Addr} {c : Nat} (h : c ≤ maxLen) : SubAt ws [] v (.slice a 0 c) := fun W _ => strs_none h
/-- Behind the first word: the term's variable. -/
structure RtV (w : World) (v : Bool) (x : Bs) (W : World) : Prop where
  r0 : W.heap[w.heap.size]? = some (.cells #[.bool false, str [], .slice none 0 0] 95 (0, 0))
  r1 : W.heap[w.heap.size + 1]? = some (.cells #[.bool v, str x, .slice none 0 0] 95 (0, 0))
  bw : Below w.heap.size w W
theorem rtv_new (w : World) (v : Bool) (x : Bs) : RtV w v x ((w.alloc (.cells #[.bool false, .string ⟨#[]⟩, .slice none 0 0] 95)).alloc (.cells #[.bool v, .string ⟨x.toArray⟩, .slice none 0 0] 95)).drew := by
  refine ⟨?_, ?_, (((Below.refl _ _).alloc (Nat.le_refl _) _).alloc (by simp) _).drew⟩
  · show ((w.alloc _).alloc _).heap[w.heap.size]? = _
    exact kc ((Below.refl _ _).alloc (Nat.le_refl _) _) (heap_alloc_new w _)
  · show ((w.alloc _).alloc _).heap[w.heap.size + 1]? = _
    have := heap_alloc_new (w.alloc (.cells #[.bool false, .string ⟨#[]⟩, .slice none 0 0] 95)) (.cells #[.bool v, .string ⟨x.toArray⟩, .slice none 0 0] 95)
    rwa [World.size_alloc] at this
/-- What readTerm answers. -/
def RtAns (ws : List Bs) (v : Value) (t : Tm) (r : List Bs) (w : World) (e : Ending) (w' : World) : Prop := ∃ ga gn gc ra rn rc, e = .returned (.tuple #[.agg #[.bool t.v, str t.name, .slice ga gn gc], .slice ra rn rc]) ∧ TmsAt (hide (lo w) w') t.args (.slice ga gn gc) ∧ SubAt ws r v (.slice ra rn rc) ∧ Below w.heap.size w w'
/-- What readArgs answers. -/
def RaAns (ws : List Bs) (v : Value) (l : List Tm) (r : List Bs) (w : World) (e : Ending) (w' : World) : Prop := ∃ ga gn gc ra rn rc, e = .returned (.tuple #[.slice ga gn gc, .slice ra rn rc]) ∧ TmsAt (hide (lo w) w') l (.slice ga gn gc) ∧ SubAt ws r v (.slice ra rn rc) ∧ Below w.heap.size w w'
theorem rt_end {w W : World} {ws : List Bs} {v : Value} {t : Tm} {r : List Bs} {ga : Option Addr} {gn gc : Nat} {ra : Option Addr} {rn rc : Nat} {tmps : Array Value} (r0 : W.heap[w.heap.size]? = some (.cells #[.bool false, str [], .slice none 0 0] 95 (0, 0))) (hB : Below w.heap.size w W) (hA : TmsAt (hide (fun i => decide (i < w.heap.size + 1)) W) t.args (.slice ga gn gc)) (hR : SubAt ws r v (.slice ra rn rc))
    (h2 : tmps.getD 2 undef = one w.heap.size) (h3 : tmps.getD 3 undef = .slice ra rn rc) :
    bodyPost Tryz.prog Tryz.f279 (RtAns ws v t r w) .ret ⟨tmps, []⟩
      (((W.setCell ⟨w.heap.size, 0, none⟩ (.bool t.v)).setCell ⟨w.heap.size, 1, none⟩ (str t.name)).setCell ⟨w.heap.size, 2, none⟩ (.slice ga gn gc)) := by
  have g1 := set_block (o := 0) (u := .bool t.v) r0
  have g2 := set_block (o := 1) (u := str t.name) g1
  have g3 := set_block (o := 2) (u := .slice ga gn gc) g2
  have B3 : Below w.heap.size w (((W.setCell ⟨w.heap.size, 0, none⟩ (.bool t.v)).setCell ⟨w.heap.size, 1, none⟩ (str t.name)).setCell ⟨w.heap.size, 2, none⟩ (.slice ga gn gc)) := ((hB.setCell (by simp) _).setCell (by simp) _).setCell (by simp) _
  refine bodyPost_ret (res279 _ _ w.heap.size _ _ _ _ (0, 0) h2 h3 g3) rfl ?_
  refine ⟨ga, gn, gc, ra, rn, rc, rfl, ?_, hR, B3⟩
  refine hA.keep (hide_keeps2 fun i h1 h4 => ?_)
  simp only [decide_eq_false_iff_not, Nat.not_lt, lo] at h4 ⊢
  have hne : i ≠ w.heap.size := by omega
  exact ⟨by omega, by rw [Below.heap_setCell _ _ _ _ hne, Below.heap_setCell _ _ _ _ hne, Below.heap_setCell _ _ _ _ hne]⟩
theorem rt_c (x : Bs) (ws : List Bs) (l : List Tm) (r : List Bs) (hx : x.length ≤ maxLen) (a : Option Addr) (k c : Nat) (w : World) (hl : StrsAt w (x :: ws) (.slice a k c))
    (h : (varName x = true ∧ l = [] ∧ r = ws) ∨ (varName x = false ∧ l = [] ∧ r = ws ∧ NotOf ws) ∨ (varName x = false ∧ ∃ ws', ws = wOf :: ws' ∧ ∀ (a : Option Addr) (k c : Nat) (w : World), StrsAt w ws (.slice a k c) → Calls Tryz.prog 217 #[.slice a k c] w (RaAns ws (.slice a k c) l r w))) :
    Calls Tryz.prog 279 #[.slice a k c] w (RtAns (x :: ws) (.slice a k c) (.mk (varName x) x l) r w) := by
  obtain ⟨b, off, rfl, rfl, h1, h2, hc⟩ := strs_cell hl
  have c0 : w.cell? ⟨b, off, none⟩ = some (str x) := hc 0 x rfl
  have hb : b < w.heap.size := World.block_lt_of_cell? w ⟨b, off, none⟩ c0
  have hmx := le63 h2
  have HC := Lib.hid hc
  have HMX := Lib.hid h2
  have hxl := le63 hx
  obtain ⟨v, hv⟩ : ∃ v, varName x = v := ⟨_, rfl⟩
  have HV := Lib.hid hv
  rw [hv] at h ⊢
  have HH := Lib.hid h
  obtain ⟨n, hn⟩ : ∃ n, ws.length = n := ⟨_, rfl⟩
  have HN := Lib.hid hn
  rw [hn] at h1 ⊢
  clear hv hl hc hn h2 hx h
  have NIL : ∀ W, TmsAt (hide (fun i => decide (i < w.heap.size + 1)) W) [] (.slice none 0 0) := fun W => At.sl_nil (Nat.zero_le _)
  go_enter Tryz.func279, Tryz.ntmps279
  go_upto_region 1 with fail
  go_cut [4] from 5 to 12 (fun u4 wx => u4 = one (w.heap.size + 1) ∧ Hid (RtV w v x wx))
  case first =>
    go_region_with (go_at_call 214; refine (Variable2_c x _ hxl).mono ?_; rintro e w6 ⟨rfl, rfl⟩; rw [show varName x = _ from HV.out])
    all_goals
      go_wp2_with fail
      go_meet
      exact ⟨rfl, rtv_new w v x⟩
  case rest =>
  obtain ⟨rfl, HR⟩ := hcut
  obtain ⟨x0, x1, x2, f0, f1, f2⟩ := row95' HR.out.r1
  obtain ⟨y0, y1, y2, z0, z1, z2⟩ := row95 HR.out.r0
  have zs : w.heap.size + 1 < wc.heap.size := (Array.getElem?_eq_some_iff.1 HR.out.r1).1
  cases v with
  | true =>
    rcases HH.out with ⟨_, rfl, rfl⟩ | ⟨h, _⟩ | ⟨h, _⟩
    · go_wp2_with fail
      · have hn0 : n = 0 := by omega
        subst hn0
        have hws : r = [] := List.eq_nil_of_length_eq_zero HN.out
        subst hws
        exact rt_end (t := .mk true x []) HR.out.r0 HR.out.bw (NIL _) (sub_nil (by unfold maxLen; omega)) rfl rfl
      · exact rt_end (t := .mk true x []) HR.out.r0 HR.out.bw (NIL _) sub_tail rfl rfl
    · cases h
    · cases h
  | false =>
    cases ws with
    | nil =>
      have hn0 : n = 0 := HN.out.symm
      subst hn0
      rcases HH.out with ⟨h, _⟩ | ⟨_, rfl, rfl, _⟩ | ⟨_, ws', h, _⟩
      · cases h
      · go_wp2_with fail
        · exact rt_end (t := .mk false x []) HR.out.r0 HR.out.bw (NIL _) (sub_nil (by unfold maxLen; omega)) rfl rfl
        · exact rt_end (t := .mk false x []) HR.out.r0 HR.out.bw (NIL _) sub_tail rfl rfl
      · cases h
    | cons y ws =>
      obtain ⟨m, hm⟩ : ∃ m, n = m + 1 := ⟨ws.length, HN.out.symm⟩
      subst hm
      have hc2 : ¬ c = 1 := by omega
      have cy := keeps_of_below HR.out.bw _ _ (HC.out 1 y rfl)
      have ST : Hid (StrsAt w (y :: ws) (.slice (some ⟨b, off + 1, none⟩) (m + 1) (c - 1))) := strs_from HC.out HN.out (by omega) HMX.out
      rcases HH.out with ⟨h, _⟩ | ⟨_, rfl, rfl, hno⟩ | ⟨_, ws', hof, hcall⟩
      · cases h
      · have t1 : (y == [111, 102]) = false := beq_no (hno y ws rfl)
        clear hno
        go_wp2_with fail
        exact rt_end (t := .mk false x []) HR.out.r0 HR.out.bw (NIL _) sub_tail rfl rfl
      · have t1 : (y == [111, 102]) = true := by cases hof; rfl
        have CALL := Lib.hid hcall
        clear hcall hof HH
        go_wp2_with (go_at_call 217; refine (CALL.out _ _ _ _ (ST.out.keep (keeps_of_below HR.out.bw))).mono ?_; rintro e w7 ⟨ga, gn, gc, ra, rn, rc, rfl, hA, hS, b7⟩; have HA := Lib.hid (And.intro hA (And.intro hS b7)); have E0 := Lib.hid (kc b7 HR.out.r0); have E1 := Lib.hid (kc b7 HR.out.r1); clear hA hS b7 x0 x1 x2 f0 f1 f2 y0 y1 y2 z0 z1 z2; obtain ⟨x0, x1, x2, f0, f1, f2⟩ := row95' E1.out; obtain ⟨y0, y1, y2, z0, z1, z2⟩ := row95 E0.out)
        obtain ⟨hA, hS, b7⟩ := HA.out
        have sz := b7.size
        have B7 : Below w.heap.size w (w7.setCell ⟨w.heap.size + 1, 2, none⟩ (.slice ga gn gc)) := (belowThen HR.out.bw b7).setCell (by simp) _
        refine rt_end (t := .mk false x l) ((Below.heap_setCell _ _ _ _ (by simp)).trans E0.out) B7 (hA.keep (hide_keeps2 fun i h1 h4 => ?_)) (sub_tail.trans hS) rfl rfl
        simp only [decide_eq_false_iff_not, Nat.not_lt, lo] at h4 ⊢
        exact ⟨by omega, Below.heap_setCell _ _ _ _ (by simp; omega)⟩
def RTm (n : Nat) : Prop := ∀ (ws : List Bs) (t : Tm) (r : List Bs) (a : Option Addr) (k c : Nat) (w : World), pTerm n ws = .good t r → StrsAt w ws (.slice a k c) → (∀ y ∈ ws, y.length ≤ maxLen) → ws.length ≤ 1000001 → Calls Tryz.prog 279 #[.slice a k c] w (RtAns ws (.slice a k c) t r w)
def RAg (n : Nat) : Prop := ∀ (ws : List Bs) (ts : List Tm) (r : List Bs) (y : Bs) (a : Option Addr) (k c : Nat) (w : World), pArgs n ws = .good ts r → y ≠ wClose → StrsAt w (y :: ws) (.slice a k c) → (∀ y ∈ ws, y.length ≤ maxLen) → ws.length ≤ 1000001 → Calls Tryz.prog 217 #[.slice a k c] w (RaAns (y :: ws) (.slice a k c) ts r w)
theorem rtm_step (n : Nat) (h : ∀ m, m < n → RAg m) : RTm n := by
  intro ws t r a k c w hp hl hw hL
  cases n with
  | zero => simp [pTerm] at hp
  | succ n =>
    cases ws with
    | nil => simp [pTerm] at hp
    | cons x ws =>
      simp only [pTerm] at hp
      by_cases hv : varName x = true
      · rw [if_pos hv] at hp
        simp only [PR.good.injEq] at hp
        obtain ⟨rfl, rfl⟩ := hp
        have := rt_c x ws [] ws (hw x (by simp)) a k c w hl (.inl ⟨hv, rfl, rfl⟩)
        rwa [hv] at this
      · rw [if_neg hv] at hp
        have hv' : varName x = false := by simpa using hv
        split at hp
        · split at hp
          · cases hp
          · rename_i l r' e
            simp only [PR.good.injEq] at hp
            obtain ⟨rfl, rfl⟩ := hp
            have key := rt_c x ws l r' (hw x (by simp)) a k c w hl (by
              cases n with
              | zero => simp [pTerms] at e
              | succ m =>
                cases ws with
                | nil =>
                  simp only [pTerms, PR.good.injEq] at e
                  obtain ⟨rfl, rfl⟩ := e
                  exact .inr (.inl ⟨hv', rfl, rfl, notOf_nil⟩)
                | cons y ws =>
                  simp only [pTerms] at e
                  by_cases hy : y = wOf
                  · rw [if_pos hy] at e
                    subst hy
                    exact .inr (.inr ⟨hv', ws, rfl, fun a k c w hs => h m (by omega) ws l r' wOf a k c w e (by decide) hs (fun z hz => hw z (by simp [hz])) (by simp at hL; omega)⟩)
                  · rw [if_neg hy] at e
                    simp only [PR.good.injEq] at e
                    obtain ⟨rfl, rfl⟩ := e
                    exact .inr (.inl ⟨hv', rfl, rfl, notOf_cons hy⟩))
            rwa [hv'] at key
        · cases hp
end Go.Proofs.YtcandidgaegghaaGreatDoor
end
section
namespace Go.Proofs.YtcandidgaegghaaGreatDoor
open Go Go.RowKit Ly
set_option maxRecDepth 10000
set_option linter.unusedSimpArgs false
set_option linter.unusedVariables false
set_option maxHeartbeats 1600000
theorem ra_laws {w wr W : World} {n : Nat} {ds : List D} {u : Value} {t : Tm} {ta : Option Addr} {tn tc : Nat} (hO : OwnDs (lo w) w.heap.size wr 95 3 n ds u) (b : Below wr.heap.size wr W) (hw : w.heap.size ≤ wr.heap.size) (ht : TmsAt (hide (lo wr) W) t.args (.slice ta tn tc)) :
    ∃ xs, W.ownsRow w.heap.size 95 3 u n xs ∧ CellsAt (hide (fun k => lo w k || decide (u.ownBlock = some k)) W) ds xs ∧ CellsAt (hide (fun k => lo w k || decide (u.ownBlock = some k)) W) t.ds [.bool t.v, str t.name, .slice ta tn tc] := by
  have hu : ∀ k, u.ownBlock = some k → k < wr.heap.size := fun k hk => (own_lt hO k hk).2
  obtain ⟨xs, h1, h2⟩ := hO.moved (w' := W) (fun k hk => by simp [lo]; omega) (fun k h1 _ => b.block k h1)
  refine ⟨xs, h1, h2, ?_⟩
  have e : t.ds = [.val (.bool t.v), .val (str t.name), .sl 3 t.args.length (tmsDs t.args)] := by cases t; rfl
  rw [e]
  refine CellsAt.cons rfl (CellsAt.cons rfl (CellsAt.cons (At.keep (hide_keeps2 fun k h1 h2 => ?_) _ _ ht) (CellsAt.nil _)))
  simp only [lo, decide_eq_false_iff_not, Nat.not_lt, Bool.or_eq_false_iff] at h2 ⊢
  exact ⟨⟨by omega, fun e => by have := hu k e; omega⟩, trivial⟩
/-- At the head of a round: what is left of the words, and the terms so far. -/
structure RaI (w : World) (n : Nat) (y : Bs) (ws : List Bs) (v0 : Value) (ts : List Tm) (r : List Bs) (cur : List Bs) (acc : List Tm) (u v : Value) (W : World) : Prop where
  sub : SubAt (y :: ws) cur v0 u
  own : OwnDs (lo w) w.heap.size W 95 3 acc.length (tmsDs acc) v
  bw : Below w.heap.size w W
  st : (∃ y' ws' m, cur = y' :: ws' ∧ y' ≠ wClose ∧ m ≤ n ∧ pArgs n ws = glue acc (pArgs m ws') ∧ (∀ z ∈ ws', z.length ≤ maxLen)) ∨ (cur = wClose :: r ∧ ts = acc)
theorem glue_good {acc ts : List Tm} {p : PR (List Tm)} {r : List Bs} (h : glue acc p = .good ts r) : ∃ l, p = .good l r ∧ ts = acc ++ l := by
  cases p with
  | bad s => cases h
  | good l s => simp only [glue, PR.good.injEq] at h; exact ⟨l, by rw [h.2], h.1.symm⟩
theorem pArgs_good {m : Nat} {ws : List Bs} {l : List Tm} {r : List Bs} (h : pArgs m ws = .good l r) : ∃ m' t z r', m = m' + 1 ∧ pTerm m' ws = .good t (z :: r') ∧ ((z = wAnd ∧ pArgs m ws = glue [t] (pArgs m' r')) ∨ (z = wClose ∧ l = [t] ∧ r = r')) := by
  cases m with
  | zero => simp [pArgs] at h
  | succ m =>
    have h0 := h
    simp only [pArgs] at h
    split at h
    · cases h
    · cases h
    · rename_i t z r' e
      refine ⟨m, t, z, r', rfl, e, ?_⟩
      split at h
      · rename_i hz
        refine .inl ⟨hz, ?_⟩
        simp only [pArgs, e, if_pos hz]
        cases pArgs m r' <;> rfl
      · split at h
        · rename_i hz
          simp only [PR.good.injEq] at h
          exact .inr ⟨hz, h.1.symm, h.2.symm⟩
        · cases h
theorem pTerms_sub : ∀ n : Nat,
    (∀ (ws : List Bs) (t : Tm) (r : List Bs), pTerm n ws = .good t r → ∀ y ∈ r, y ∈ ws) ∧
    (∀ (ws : List Bs) (t : List Tm) (r : List Bs), pTerms n ws = .good t r → ∀ y ∈ r, y ∈ ws) ∧
    (∀ (ws : List Bs) (t : List Tm) (r : List Bs), pArgs n ws = .good t r → ∀ y ∈ r, y ∈ ws) := by
  intro n
  induction n with
  | zero =>
    refine ⟨fun ws t r h => ?_, fun ws t r h => ?_, fun ws t r h => ?_⟩
    · simp [pTerm] at h
    · simp [pTerms] at h
    · simp [pArgs] at h
  | succ n ih =>
    obtain ⟨i1, i2, i3⟩ := ih
    refine ⟨fun ws t r h => ?_, fun ws t r h => ?_, fun ws t r h => ?_⟩
    · cases ws with
      | nil => simp [pTerm] at h
      | cons w ws =>
        simp only [pTerm] at h
        split at h
        · simp at h; obtain ⟨rfl, rfl⟩ := h
          exact fun y hy => by simp [hy]
        · split at h
          · split at h
            · cases h
            · rename_i l r' e
              have b := i2 ws l r' e
              simp at h; obtain ⟨rfl, rfl⟩ := h
              exact fun y hy => by simp [b y hy]
          · cases h
    · cases ws with
      | nil => simp [pTerms] at h; obtain ⟨rfl, rfl⟩ := h; exact fun y hy => hy
      | cons w ws =>
        simp only [pTerms] at h
        split at h
        · have b := i3 ws t r h
          exact fun y hy => by simp [b y hy]
        · simp at h; obtain ⟨rfl, rfl⟩ := h; exact fun y hy => hy
    · obtain ⟨m', t', z, r', e, hpt, hz⟩ := pArgs_good h
      cases e
      have b := i1 ws t' _ hpt
      rcases hz with ⟨_, e2⟩ | ⟨_, _, rfl⟩
      · rw [e2] at h
        obtain ⟨l, hl, _⟩ := glue_good h
        exact fun y hy => b y (by simp [i3 r' l r hl y hy])
      · exact fun y hy => b y (by simp [hy])
theorem pTerm_mem {n : Nat} {ws : List Bs} {t : Tm} {r : List Bs} (h : pTerm n ws = .good t r) (hw : ∀ y ∈ ws, y.length ≤ maxLen) : ∀ z ∈ r, z.length ≤ maxLen := fun z hz => hw z (((pTerms_sub n).1 ws t r h) z hz)
theorem ra_two {w3 : World} {o o' : Obj} {p : Nat → Bool} {l : List Tm} {u : Value} (h : TmsAt (hide p w3) l u) : TmsAt (hide p ((w3.alloc o).alloc o')) l u :=
  h.keep (hide_keeps2 fun i h1 h2 => ⟨h2, (((Below.refl w3.heap.size w3).alloc (Nat.le_refl _) o).alloc (by simp) o').block i h1⟩)
theorem ra_s {w wr w3 : World} {o o' : Obj} (h : Below w.heap.size w wr) (h' : Below wr.heap.size wr w3) : w.heap.size ≤ ((w3.alloc o).alloc o').heap.size := by have := h.size; have := h'.size; simp; omega
theorem ra_m {l : List Tm} {n p k : Nat} (h : l.length = n) (hn : n + (p + 1) ≤ k) (hk : k ≤ 1000002) : l.length + 1 ≤ maxLen := by unfold maxLen; omega
theorem ra_b {l : List Tm} {n p k : Nat} (h : l.length = n) (hn : n + (p + 1) ≤ k) (hk : k ≤ 1000002) : (l.length + 1) * 48 ≤ 140737488355328 := by omega
def sliceLen : Value → Nat
  | .slice _ n _ => n
  | _ => 0
theorem rag_step (n : Nat) (h : ∀ m, m < n → RTm m) : RAg n := by
  intro ws ts r y a k c w hp hy hl hw hL
  have HP := Lib.hid hp
  have HL := Lib.hid hl
  have H := Lib.hid h
  have I0 : Hid (RaI w n y ws (.slice a k c) ts r (y :: ws) [] (.slice a k c) (.slice none 0 0) w) := ⟨fun _ h => h, OwnDs.nil _ _ _ _ _, Below.refl _ _, .inl ⟨y, ws, n, rfl, hy, Nat.le_refl _, by cases pArgs n ws <;> rfl, hw⟩⟩
  have hlen := hl.len
  have hmx : c ≤ 9223372036854775807 := le63 hlen.2.2
  have hkn : k ≤ 1000002 := by rw [hlen.1]; simp; omega
  clear hp hl h hy hw hlen hL
  obtain ⟨i0, hi0, hz0, hs0, hb0⟩ := info_parts info95
  go_enter Tryz.func217, Tryz.ntmps217
  go_wp2_with fail
  go_loopw [0, 4] (fun u v wr => ∃ (a' : Option Addr) (k' c' : Nat) (va : Option Addr) (vn vc : Nat), u = .slice a' k' c' ∧ v = .slice va vn vc ∧ k' ≤ k ∧ vn + k' ≤ k ∧ Hid (∃ cur acc, acc.length = vn ∧ RaI w n y ws (.slice a k c) ts r cur acc (.slice a' k' c') (.slice va vn vc) wr)) (fun u _ _ => sliceLen u)
  case atStart => exact ⟨a, k, c, none, 0, 0, rfl, rfl, Nat.le_refl _, by omega, _, [], rfl, I0.out⟩
  case round =>
    clear I0
    obtain ⟨a', k', c', va, vn, vc, rfl, rfl, hk', hvn, hs⟩ := hrel
    obtain ⟨cur, acc, hacc, RI⟩ := hs.out
    have SA := RI.sub w HL.out
    have RIH := Lib.hid RI
    have HACC := Lib.hid hacc
    clear hs hacc
    rcases RI.st with ⟨y', ws', m, rfl, hy', hm, hpm, hws'⟩ | ⟨rfl, hts⟩
    · obtain ⟨b, off, rfl, rfl, h1, h2, hc⟩ := strs_cell SA
      have c0 : wr.cell? ⟨b, off, none⟩ = some (str y') := keeps_of_below RI.bw _ _ (hc 0 y' rfl)
      have t0 : (y' == [99, 108, 111, 115, 101]) = false := beq_no hy'
      have t1 : (y' != [99, 108, 111, 115, 101]) = true := by rw [bne, t0]; rfl
      have hcx := le63 h2
      rw [HP.out] at hpm
      obtain ⟨l, hl, htl⟩ := glue_good hpm.symm
      obtain ⟨m', t, z, r', rfl, hpt, hz⟩ := pArgs_good hl
      have hplen := pTerm_len m' ws' t _ hpt
      obtain ⟨p, hpp⟩ : ∃ p, ws'.length = p := ⟨_, rfl⟩
      have c2 : 2 ≤ p + 1 := by simp only [List.length_cons] at hplen; omega
      have hc2 : ¬ c' = 1 := by omega
      have SW : Hid (StrsAt wr ws' (.slice (some ⟨b, off + 1, none⟩) ws'.length (c' - 1))) := sub_tail wr (RI.sub wr (HL.out.keep (keeps_of_below RI.bw)))
      have SS : Hid (SubAt (y :: ws) ws' (.slice a k c) (.slice (some ⟨b, off + 1, none⟩) ws'.length (c' - 1))) := RI.sub.trans sub_tail
      have HM := Lib.hid (show m' < n by omega)
      have HPT := Lib.hid hpt
      have HWS := Lib.hid hws'
      have HZ := Lib.hid hz
      have HTL := Lib.hid htl
      have HLL := Lib.hid hl
      have HPL := Lib.hid hplen
      rw [hpp] at SW SS HPL h1 hk' hvn
      rw [hpp]
      have HPP := Lib.hid hpp
      have hK1 : p + 1 ≤ 9223372036854775807 := by omega
      clear SA RI hpm hl htl hpt hz hplen hc hws' hy' hm h2 hpp
      go_wp2_with (first
        | (go_at_call 279; refine (H.out m' HM.out ws' t (z :: r') _ _ _ _ HPT.out SW.out HWS.out (by rw [HPP.out]; omega)).mono ?_; rintro e w3 ⟨ga, gn, gc, ra, rn, rc, rfl, hA, hS, b3⟩; obtain ⟨xs, ow, cl, ct⟩ := ra_laws (W := (w3.alloc (.cells #[.bool t.v, str t.name, .slice ga gn gc] 95)).alloc (.cells #[.bool t.v, str t.name, .slice ga gn gc] 95)) RIH.out.own (belowThen b3 (((Below.refl _ _).alloc (Nat.le_refl _) _).alloc (by simp) _)) RIH.out.bw.size (ra_two hA); have RS := Lib.hid hS; have B3 := Lib.hid b3; have OW := Lib.hid ow; have CL := Lib.hid cl; have CT := Lib.hid ct; clear hA hS b3 ow cl ct)
        | (at_builtin; refine wpList_append_own_at _ rfl _ _ 22 rfl w.heap.size 95 i0 (.agg #[.bool false, .string ⟨#[]⟩, .slice none 0 0]) 3 48 Tryz.underlying22 hi0 hz0 hs0 hb0 rfl (by decide) _ _ _ rfl OW.out ⟨w3.heap.size + 1, 0, none⟩ 1 1 [.bool t.v, str t.name, .slice ga gn gc] rfl rfl (news3' _ _ _ _ _ _) (one95 _ _ _ rfl) (ra_m HACC.out hvn hkn) (ra_b HACC.out hvn hkn) (ra_s RIH.out.bw B3.out) ?_; intro v5 w5 hown5 hg5 _ hat5))
      go_roundw
      case rel =>
        have hO := OwnDs.appended CL.out CT.out hown5 hg5 hat5
        obtain ⟨va5, vc5, hv5, _⟩ := hO.form
        subst hv5
        have hsub := SS.out.trans RS.out
        obtain ⟨_, _, _, hrn, _, _, _⟩ := strs_cell (hsub w HL.out)
        have hpl := HPL.out
        simp only [List.length_cons] at hpl
        have b4 : Below wr.heap.size wr ((w3.alloc (.cells #[.bool t.v, str t.name, .slice ga gn gc] 95)).alloc (.cells #[.bool t.v, str t.name, .slice ga gn gc] 95)) := belowThen B3.out (((Below.refl _ _).alloc (Nat.le_refl _) _).alloc (by simp) _)
        have bw5 : Below w.heap.size w w5 := (belowThen RIH.out.bw b4).trans (below_grown hg5 (fun gg e => (World.ownsRow.lt OW.out gg e).1) (ra_s RIH.out.bw B3.out))
        have hlen : (acc ++ [t]).length = acc.length + 1 := by simp
        have hds : tmsDs (acc ++ [t]) = tmsDs acc ++ t.ds := by rw [tmsDs_append]; simp [tmsDs]
        refine ⟨ra, rn, rc, va5, acc.length + 1, vc5, rfl, rfl, by omega, by have := HACC.out; omega, z :: r', acc ++ [t], hlen, hsub, by rw [hlen, hds]; exact hO, bw5, ?_⟩
        have hzm := pTerm_mem HPT.out HWS.out
        rcases HZ.out with ⟨hz, he⟩ | ⟨hz, hl, hr⟩
        · refine .inl ⟨z, r', m', rfl, by rw [hz]; decide, Nat.le_of_lt HM.out, ?_, fun x hx => hzm x (by simp [hx])⟩
          rw [HP.out, ← glue_glue, ← he, HLL.out, HTL.out]
          rfl
        · refine .inr ⟨by rw [hz, hr], by rw [HTL.out, hl]⟩
      case measure =>
        have hsub := SS.out.trans RS.out
        obtain ⟨_, _, _, hrn, _, _, _⟩ := strs_cell (hsub w HL.out)
        have hpl := HPL.out
        simp only [List.length_cons] at hpl
        simp only [sliceLen]
        omega
    · obtain ⟨b, off, rfl, rfl, h1, h2, hc⟩ := strs_cell SA
      have c0 : wr.cell? ⟨b, off, none⟩ = some (str wClose) := keeps_of_below RI.bw _ _ (hc 0 wClose rfl)
      have hcx := le63 h2
      have HMC := Lib.hid h2
      have HSUB := Lib.hid RI.sub
      have HOWN := Lib.hid RI.own
      have HBW := Lib.hid RI.bw
      obtain ⟨p, hpp⟩ : ∃ p, r.length = p := ⟨_, rfl⟩
      rw [hpp] at h1 hk' hvn ⊢
      have HPP := Lib.hid hpp
      rw [hpp] at HSUB
      subst hts
      clear SA RI hc h2 hpp RIH
      unfold wClose at c0
      have hfin : ∀ W, Below wr.heap.size wr W → TmsAt (hide (lo w) W) ts (.slice va vn vc) := fun W hW => by
        have h := (HOWN.out.at (fun i hi => by simp [lo]; omega)).keep (w' := hide (lo w) W) (hide_keeps2 fun i h1 h2 => ⟨h2, hW.block i h1⟩)
        exact h
      have HFIN := Lib.hid hfin
      clear hfin
      have hc' : c' - 1 ≤ 9223372036854775807 := by omega
      by_cases hc1 : c' = 1
      · subst hc1
        have hp0 : p = 0 := by omega
        subst hp0
        have hr : r = [] := List.eq_nil_of_length_eq_zero HPP.out
        subst hr
        go_wp2_with fail
        go_region
        all_goals
          go_wp2_with fail
          go_ret2
          exact ⟨va, vn, vc, _, _, _, rfl, HFIN.out _ (Below.refl _ _).drew, sub_nil (Nat.zero_le _), HBW.out.drew⟩
      · go_wp2_with fail
        go_region
        all_goals
          go_wp2_with fail
          go_ret2
          exact ⟨va, vn, vc, _, _, _, rfl, HFIN.out _ (Below.refl _ _).drew, HSUB.out.trans sub_tail, HBW.out.drew⟩
/-- Both, at every fuel. -/
theorem rf_all : ∀ n : Nat, RTm n ∧ RAg n := by
  intro n
  induction n using Nat.strongRecOn with
  | _ n ih => exact ⟨rtm_step n fun m hm => (ih m hm).2, rag_step n fun m hm => (ih m hm).1⟩
end Go.Proofs.YtcandidgaegghaaGreatDoor
end
