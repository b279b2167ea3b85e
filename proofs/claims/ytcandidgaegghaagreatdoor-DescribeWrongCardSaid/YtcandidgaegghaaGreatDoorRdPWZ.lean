/- DERIVED: THE SHELF's CONTRACTS AT THIS DUMP, IN PLAIN WORDS (tools/lay-plain.mjs out of 'TryzShelf.lean', which tools/lay-shelf.mjs wrote): THE SAME DECLARATIONS UNDER THE SAME NAMES: 'import', 'namespace', 'open', 'def', 'theorem' AND NOTHING ELSE: no command of the shelf's: FOR A HAND-IN. Each laying: the table of numbers ('.._ren') and one theorem, a field a fact of the dump's own or the kernel's comparison; each contract: ONE APPLICATION. describe.ReadProof at the lines of a right proof: the walk. Conditions: those of the statement; the program's tables lie as laid. -/
import Derived.Test.YtcandidgaegghaaGreatDoorShelf
import Derived.Shelf.Slices.Turned
import Derived.Shelf.Slices.Equal
import Derived.Shelf.Slices.Empties2
import Derived.Test.YtcandidgaegghaaGreatDoorProg
import Derived.Test.YtcandidgaegghaaGreatDoorRdPZ
import Derived.Test.YtcandidgaegghaaGreatDoorProofB
import Derived.Outline
section
namespace Go.Proofs
open Go.Shelf
def Tryz.lays193_ren : Go.Shelf.Ren := ⟨fun | 193 => 122 | n => n, fun | 31 => 36 | 9 => 9 | 4 => 4 | 3 => 3 | 0 => 0 | n => n, fun | n => n⟩
theorem Tryz.lays193 : Go.Proofs.Lays.n193 Tryz.prog Tryz.lays193_ren := {
  mixed := by kernel_rfl
  f193 := Tryz.func122.trans (congrArg some (by kernel_rfl))
  t0 := Tryz.underlying0
  a0 := Tryz.isAgg0
  z0 := Tryz.sizeOf0
  v0 := Tryz.zeroValue0
  t3 := Tryz.underlying3
  a3 := Tryz.isAgg3
  z3 := Tryz.sizeOf3
  v3 := Tryz.zeroValue3
  t4 := Tryz.underlying4
  a4 := Tryz.isAgg4
  z4 := Tryz.sizeOf4
  v4 := Tryz.zeroValue4
  t9 := Tryz.underlying9
  a9 := Tryz.isAgg9
  z9 := Tryz.sizeOf9
  v9 := Tryz.zeroValue9
  t31 := Tryz.underlying36
  a31 := Tryz.isAgg36
  z31 := Tryz.sizeOf36
  v31 := Tryz.zeroValue36 }
open Go.RowKit Go.Lib in
/-- slices.Equal at []string: "Equal reports whether two slices are equal: the same length and all elements equal. If the lengths are different, Equal returns false. Otherwise, the elements are compared in increasing index order, and the comparison stops at the first unequal pair. Empty and nil slices are considered equal.": IT RETURNS WHETHER THE TWO LISTS OF ELEMENTS ARE ONE; the world is as it was but for the count of draws (the test 's1[i] != s2[i]' has two reads, whose order the model draws, once a round). 'xs', 'ys': what the cells behind the two addresses hold (the spare capacity too, if you have it); 'xs.take n', 'ys.take m': the elements. THE TWO SLICES MAY OVERLAP. (LAID: no walk: one application.) -/
theorem Tryz.slices_Equal_string (b1 o1 n c b2 o2 m d : Nat) (xs ys : List ByteArray) (w : World) (hx : n ≤ xs.length) (hy : m ≤ ys.length) (hbig : n ≤ 9223372036854775807) (hbig2 : m ≤ 9223372036854775807) (hc1 : ∀ j, j < xs.length → w.cell? ⟨b1, o1 + j, none⟩ = some (.string (xs.getD j ByteArray.empty))) (hc2 : ∀ j, j < ys.length → w.cell? ⟨b2, o2 + j, none⟩ = some (.string (ys.getD j ByteArray.empty))) :
    Calls Tryz.prog 122 #[.slice (some ⟨b1, o1, none⟩) n c, .slice (some ⟨b2, o2, none⟩) m d] w fun e w' => e = .returned (.bool (decide (xs.take n = ys.take m))) ∧ ∃ q, w' = w.drewN q := Any.slices_Equal_string Tryz.lays193 b1 o1 n c b2 o2 m d xs ys w hx hy hbig hbig2 hc1 hc2
end Go.Proofs
end
section
namespace Go.Proofs.YtcandidgaegghaaGreatDoor
open Go Go.RowKit Ly
set_option maxRecDepth 10000
set_option linter.unusedSimpArgs false
set_option linter.unusedVariables false
theorem res46 (tmps : Array Value) (w : World) (g : Nat) (a b c d e f x y z : Value) (h2 : tmps.getD 2 undef = one g) (h3 : tmps.getD 3 undef = z) (hg : w.heap[g]? = some (.cells #[a, b, c, d, e, f, x, y] 53 (0, 0))) :
    (results Tryz.f46 tmps).run Tryz.prog w = .ok (.tuple #[.agg #[a, b, c, d, e, f, x, y], z]) w := by
  obtain ⟨fs, h1⟩ := u53
  have e2 : tmps[2]?.getD undef = .pointer (some ⟨g, 0, none⟩) := by simpa using h2
  have e3 : tmps[3]?.getD undef = z := by simpa using h3
  simp [results, Tryz.results46, e2, e3, asAddr, run_loadVar_row w g 53 53 #[a, b, c, d, e, f, x, y] (0, 0) _ hg h1 rfl i53]
theorem equal_c (L : List Bs) (hne : L ≠ []) (sa : Option Addr) (sN sC : Nat) (la : Option Addr) (N lc : Nat) (w : World) (h1 : StrsAt w L (.slice sa sN sC)) (h2 : StrsAt w L (.slice la N lc)) :
    Calls Tryz.prog 122 #[.slice sa sN sC, .slice la N lc] w fun e w' => e = .returned (.bool true) ∧ Below w.heap.size w w' := by
  have l1 := h1.len
  have l2 := h2.len
  have m1 := le63 l1.2.2
  have m2 := le63 l2.2.2
  obtain ⟨b1, o1, rfl, c1⟩ := h1.get hne
  obtain ⟨b2, o2, rfl, c2⟩ := h2.get hne
  have cell : ∀ (b o : Nat), (∀ (j : Nat) (x : Bs), L[j]? = some x → w.cell? ⟨b, o + j, none⟩ = some (str x)) → ∀ j, j < (L.map fun s => (⟨s.toArray⟩ : ByteArray)).length → w.cell? ⟨b, o + j, none⟩ = some (.string ((L.map fun s => (⟨s.toArray⟩ : ByteArray)).getD j ⟨#[]⟩)) := fun b o h j hj => by
    rw [List.length_map] at hj
    rw [h j _ (List.getElem?_eq_getElem hj)]
    simp [List.getD_eq_getElem?_getD, hj, str]
  refine (Tryz.slices_Equal_string b1 o1 sN sC b2 o2 N lc (L.map fun s => ⟨s.toArray⟩) (L.map fun s => ⟨s.toArray⟩) w (by simp; omega) (by simp; omega) (by omega) (by omega) (cell b1 o1 c1) (cell b2 o2 c2)).mono fun e w' ⟨h3, q, h4⟩ => ⟨?_, ?_⟩
  · rw [h3, l1.1, l2.1]; simp
  · rw [h4]; exact ⟨rfl, rfl, rfl, Nat.le_refl _, fun _ _ => rfl⟩
/-- A line that readLine does not read. -/
def BadLine (ln : Bs) : Prop := ∀ w, MaxAt w → RowsAt w → Calls Tryz.prog 120 #[str ln] w fun e w' => e = .returned (.tuple #[.agg #[str [], .int .u8 0, str [], .slice none 0 0, .slice none 0 0, .int .i64 0, .slice none 0 0, .slice none 0 0], .int .i64 0, .bool false]) ∧ Below w.heap.size w w'
/-- What ReadProof returns at the lines of some proofs, and lines that are none behind them. -/
def RetProof (Ps : List Pf) (X : List Bs) (w : World) (e : Ending) (w' : World) : Prop :=
  Below w.heap.size w w' ∧ ((X = [] ∧ ∃ P v, Ps = [P] ∧ e = .returned (.tuple #[v, .int .i64 0]) ∧ PfVal w' P v) ∨
    ((X ≠ [] ∨ Ps.length ≠ 1) ∧ e = .returned (.tuple #[.agg #[str [], .int .u8 0, str [], .slice none 0 0, .slice none 0 0, .int .i64 0, .slice none 0 0, .slice none 0 0], .int .i64 2])))
theorem proof_end46 {Ps : List Pf} {X : List Bs} {w W : World} {a b c d e f x y z z0 z1 z2 z3 z4 z5 z6 z7 : Value} {tmps : Array Value} (bw : Below w.heap.size w W) (hres : W.heap[w.heap.size]? = some (.cells #[z0, z1, z2, z3, z4, z5, z6, z7] 53 (0, 0)))
    (h2 : tmps.getD 2 undef = one w.heap.size) (h3 : tmps.getD 3 undef = z) (post : ∀ W', Below w.heap.size w W' → Keeps (hide (lo1 w) W) W' → RetProof Ps X w (.returned (.tuple #[.agg #[a, b, c, d, e, f, x, y], z])) W') :
    bodyPost Tryz.prog Tryz.f46 (RetProof Ps X w) .ret ⟨tmps, []⟩ (proofW W w.heap.size a b c d e f x y) := by
  obtain ⟨q1, q2, q3⟩ := proof_fin (W' := proofW W w.heap.size a b c d e f x y) bw hres rfl
  exact bodyPost_ret (res46 tmps _ w.heap.size a b c d e f x y z h2 h3 q2) rfl (post _ q1 q3)
set_option maxHeartbeats 800000 in
theorem ReadProof_all (Ps : List Pf) (X : List Bs) (hok : pfsOk Ps = true) (hst : pfsSteps Ps + X.length ≤ 300) (hX : ∀ ln ∈ X, ln.length ≤ 1000000000 ∧ BadLine ln ∧ Lib.hasPrefix ln (Lib.itoa ((pfsSteps Ps : Nat) + 1 : Int) ++ colon) = false) (hX1 : X.length ≤ 1)
    (hone : ∀ P, X = [] → Ps = [P] → P.right = true) (la : Option Addr) (N lc : Nat) (w : World) (hm : MaxAt w) (hr : RowsAt w) (hp : PowAt w) (hL : StrsAt w (pfsLines 0 Ps ++ X) (.slice la N lc)) :
    Calls Tryz.prog 46 #[.slice la N lc] w (RetProof Ps X w) := by
  have HM := Lib.hid hm
  have HR := Lib.hid hr
  have HPW := Lib.hid hp
  have HL := Lib.hid hL
  have OKS := Lib.hid hok
  have HX := Lib.hid hX
  have ONE := Lib.hid hone
  obtain ⟨K, hK⟩ : ∃ K, pfsSteps Ps = K := ⟨_, rfl⟩
  have LK : Hid ((pfsPost 0 Ps).length = K) := by rw [← hK]; exact pfsPost_length Ps 0
  have hN : Hid (N = K + X.length ∧ N ≤ lc ∧ lc ≤ maxLen) := by
    have := hL.len
    rw [List.length_append, pfsLines_post, List.length_map, LK.out] at this
    exact this
  rw [hK] at hst HX
  have N2 : N ≤ 300 := by have := hN.out; omega
  have n0 : ¬ ((N : Int) > 300) := by omega
  clear hm hr hp hL hok hX hone hK
  have zr := heap_alloc_new w (.cells #[str [], .int .u8 0, str [], .slice none 0 0, .slice none 0 0, .int .i64 0, .slice none 0 0, .slice none 0 0] 53)
  have R0 : Hid (RP w [] (.slice none 0 0) (w.alloc (.cells #[str [], .int .u8 0, str [], .slice none 0 0, .slice none 0 0, .int .i64 0, .slice none 0 0, .slice none 0 0] 53))) := ⟨(Below.refl _ _).alloc (Nat.le_refl _) _, zr, OwnDs.nil _ _ _ _ _⟩
  clear zr
  go_enter Tryz.func46, Tryz.ntmps46
  go_wp2_with fail
  go_loopw [4, 21] (fun u4 u21 wr => ∃ j : Nat, j ≤ K ∧ u21 = .int .i64 j ∧ Hid (∃ S, S.length ≤ j ∧ RP w S u4 wr ∧ Runs S ((pfsPost 0 Ps).drop j) Ps)) (fun _ u21 _ => N - (intOf u21).toNat)
  case atStart => exact ⟨0, Nat.zero_le _, rfl, [], Nat.le_refl _, R0.out, by have := pfs_runs Ps 0 []; simpa using this⟩
  case round =>
    obtain ⟨j, hj, rfl, hR⟩ := hrel
    obtain ⟨S, hS, R, hrun⟩ := hR.out
    clear hR R0
    by_cases hltK : j < K
    · have hlt : j < N := by have := hN.out; omega
      obtain ⟨⟨kk, q⟩, hq⟩ := get_of_lt (l := pfsPost 0 Ps) (j := j) (by rw [LK.out]; exact hltK)
      have hln : (pfsLines 0 Ps ++ X)[j]? = some (lineOf (kk, q)) := by rw [List.getElem?_append_left (by rw [pfsLines_post, List.length_map, LK.out]; exact hltK), pfsLines_post, List.getElem?_map, hq]; rfl
      obtain ⟨T, rfl, hrun'⟩ := hrun.next hq
      have qok := pfsPost_ok Ps 0 OKS.out _ (List.mem_of_getElem? hq)
      have hnum := pfsPost_num Ps 0 j kk q hq
      obtain ⟨a, c, rfl⟩ := R.form
      obtain ⟨B, hB⟩ : ∃ B, bodyText q.rule q.form q.label (premTexts kk q.sub q.marks) = B := ⟨_, rfl⟩
      have qs : kk + q.steps ≤ 1000000 := by
        have : q.steps = pfsSteps q.sub + 1 := by cases q; rfl
        omega
      have RL : Hid (∀ w, MaxAt w → RowsAt w → Calls Tryz.prog 120 #[str B] w (RetLine q q.sub.length w)) := fun w h1 h2 => by rw [← hB]; exact readLine_c q qok kk qs w h1 h2
      obtain ⟨T1, hT⟩ : ∃ T1, Lib.itoa ((j : Int) + 1) = T1 := ⟨_, rfl⟩
      have tl : T1.length ≤ 7 := by rw [← hT]; exact itoa_len (by omega) (by omega)
      have HB : Hid (lineOf (kk, q) = (T1 ++ colon) ++ B) := by
        show _ = _
        unfold lineOf
        rw [hB, show ((kk + pfsSteps q.sub + 1 : Nat) : Int) = (j : Int) + 1 by omega, hT]
      have IT : Hid (∀ w, PowAt w → Calls Tryz.prog 35 #[.int .i64 ((j : Int) + 1)] w fun e w' => e = .returned (str T1) ∧ Below w.heap.size w w') := fun w hp => by rw [← hT]; exact Itoa_c _ (by omega) (by omega) w hp
      obtain ⟨lb, lo, rfl, hc⟩ := HL.out.get (ne_of_get hln)
      have c0 := keeps_of_below R.bw _ _ (hc j _ hln)
      have QS := Lib.hid hq
      have RN := Lib.hid hrun'
      have RR := Lib.hid R
      have BW := Lib.hid R.bw
      generalize lineOf (kk, q) = LN at *
      obtain ⟨m, hm⟩ : ∃ m, q.sub.length = m := ⟨_, rfl⟩
      obtain ⟨D, hD⟩ : ∃ D, T.length = D := ⟨_, rfl⟩
      have hM : (T ++ q.sub).length = D + m := by rw [List.length_append, hm, hD]
      obtain ⟨M, hM'⟩ : ∃ M, D + m = M := ⟨_, rfl⟩
      rw [hM'] at hM
      rw [hM] at RR hS ⊢
      rw [hm] at RL
      have HMM := Lib.hid hM'
      have Hm := Lib.hid hm
      have HD := Lib.hid hD
      have dz : (M : Int) - m = D := by omega
      have dw : IntKind.i64.wrap (D : Int) = D := IntWalk.i64_in _ (by omega)
      have gz : decide (M < m) = false := by simp; omega
      have gz' : ¬ (M < m) := by omega
      clear hq hln hrun hrun' qok hnum hB qs hT R hc hM hM' hm hD
      go_upto_region 9 with (first
        | (go_at_call 35; refine (IT.out _ (HPW.out.below BW.out)).mono ?_; rintro e w5 ⟨rfl, b5⟩; have B5 := Lib.hid b5; clear b5)
        | (go_at_call 39; refine (cutPrefix_c HB.out _).mono ?_; rintro e w6 ⟨rfl, rfl⟩)
        | (go_at_call 120; refine (RL.out _ ((HM.out.keep (keeps_of_below BW.out)).keep (keeps_of_below B5.out)) ((HR.out.keep (keeps_of_below BW.out)).keep (keeps_of_below B5.out))).mono ?_; rintro e w7 ⟨v, rfl, ⟨fa, fn, fc, fb, fm, fd, s, sn, sc, qa, qn, qc, rfl, h1, h2, h3, h4⟩, b7⟩; have H4 := Lib.hid (And.intro h1 (And.intro h2 h4)); have B7 := Lib.hid b7; clear h1 h2 h3 h4 b7))
      go_upto_region 12 with fail
      obtain ⟨xs, xl, x1, xc, xa⟩ := RR.out.tail
      have XL := Lib.hid xl
      have X1 := Lib.hid x1
      have XC := Lib.hid xc
      have XA := Lib.hid xa
      clear xl x1 xc xa
      obtain ⟨mc, cm⟩ := RR.out.cap
      have md : M - D = m := by have := HMM.out; omega
      have CLN : Hid (∀ w8 a' n' c', Below wr.heap.size wr w8 → n' = m → (a' = a.map (fun x => x.add (D * 8)) ∨ (a' = a ∧ m = 0)) → Calls Tryz.prog 121 #[.slice a' n' c'] w8 fun e w' => ∃ v', e = .returned v' ∧ w'.ownsRow w8.heap.size 53 8 v' m xs ∧ Below w8.heap.size w8 w') := fun w8 a' n' c' b8 hn ha => by
        have hmm := Hm.out
        subst hmm
        have hdd := HD.out
        subst hdd
        exact RR.out.clone b8 XL.out X1.out XA.out (by omega) a' n' c' hn ha
      have B8 : Hid (∀ o, Below wr.heap.size wr (w7.alloc o)) := fun o => belowThen (belowThen B5.out B7.out) ((Below.refl _ _).alloc (Nat.le_refl _) o)
      go_cut [] from 58 to 62 (fun wx => ∃ ca cc, Hid (wx.heap[w7.heap.size]? = some (.cells #[str q.rule, .int .u8 q.form.op, str q.form.name, .slice fa fn fc, .slice fb fm fd, .int .i64 q.label, .slice ca m cc, .slice qa qn qc] 53 (0, 0)) ∧ Below wr.heap.size wr wx ∧ CellsAt (hide (fun k => lo1 w k || decide ((Value.slice a M c).ownBlock = some k)) wx) q.ds [str q.rule, .int .u8 q.form.op, str q.form.name, .slice fa fn fc, .slice fb fm fd, .int .i64 q.label, .slice ca m cc, .slice qa qn qc]))
      case first =>
        by_cases hcd : c = D
        · subst hcd
          go_wp2_with (go_at_call 121; refine (CLN.out _ _ _ _ (B8.out _) rfl (.inr ⟨rfl, by have := HMM.out; omega⟩)).mono ?_; rintro e w9 ⟨vc, rfl, ho9, b9⟩; obtain ⟨ca, cc, rfl⟩ := row_form ho9; obtain ⟨g9, FL⟩ := RR.out.filled B5.out B7.out H4.out.1 H4.out.2.1 H4.out.2.2 XC.out (by rw [Hm.out]; exact ho9) b9; have FLH := Lib.hid FL; obtain ⟨-, -, -, -, -, -, y6, -⟩ := row53 g9; obtain ⟨-, -, -, -, -, -, v6, -⟩ := row53f g9; clear g9 FL ho9 b9)
          go_meet
          exact ⟨ca, cc, FLH.out _ rfl⟩
        · go_wp2_with (go_at_call 121; refine (CLN.out _ _ _ _ (B8.out _) rfl (.inl rfl)).mono ?_; rintro e w9 ⟨vc, rfl, ho9, b9⟩; obtain ⟨ca, cc, rfl⟩ := row_form ho9; obtain ⟨g9, FL⟩ := RR.out.filled B5.out B7.out H4.out.1 H4.out.2.1 H4.out.2.2 XC.out (by rw [Hm.out]; exact ho9) b9; have FLH := Lib.hid FL; obtain ⟨-, -, -, -, -, -, y6, -⟩ := row53 g9; obtain ⟨-, -, -, -, -, -, v6, -⟩ := row53f g9; clear g9 FL ho9 b9)
          go_meet
          exact ⟨ca, cc, FLH.out _ rfl⟩
      case rest =>
      obtain ⟨ca, cc, HF⟩ := hcut
      clear CLN XL X1 XC XA B8 c0
      go_upto_region 13 with fail
      have dc : D ≤ c := by have := HMM.out; have := RR.out.cap.1; omega
      obtain ⟨zs, OW, CT⟩ := RR.out.step HF.out.2.1 HF.out.2.2
      rw [HD.out] at OW CT
      have OWH := Lib.hid OW
      have CTH := Lib.hid CT
      obtain ⟨i0, hi0, hz0, hs0, hb0⟩ := info_parts info53
      have zc : w.heap.size + 1 ≤ wc.heap.size := by have := RR.out.base; have := HF.out.2.1.size; omega
      clear OW CT
      refine wp_region_held_drew (S := fun w' => w'.heap[w7.heap.size]? = wc.heap[w7.heap.size]?) (by kernel_rfl) rfl (fun hHeld => ?_)
      refine wpAnyH_take (i := 0) (v := ?_) rfl (by kernel_rfl) (by kernel_rfl) (by kernel_rfl) (fun _ _ _ h => h) (Or.inl ⟨by rfl, ?_⟩) (by assumption) ?_
      rotate_left
      · (intro w hSw; go_simp; (try with_reducible rfl))
      try simp only [Act.put, List.getElem_toArray, List.getElem_cons_succ, List.getElem_cons_zero, List.setIfInBounds_toArray, List.set_cons_zero, List.set_cons_succ]
      refine wpAnyH_take (i := 1) (v := ?_) rfl (by kernel_rfl) (by kernel_rfl) (by kernel_rfl) (fun _ _ _ h => h) (Or.inl ⟨by rfl, ?_⟩) (by assumption) ?_
      rotate_left
      · (intro w hSw; go_simp; (try with_reducible rfl))
      try simp only [Act.put, List.getElem_toArray, List.getElem_cons_succ, List.getElem_cons_zero, List.setIfInBounds_toArray, List.set_cons_zero, List.set_cons_succ]
      refine wpAnyH_take (i := 2) (v := ?_) rfl (by kernel_rfl) (by kernel_rfl) (by kernel_rfl) (fun _ _ _ h => h) (Or.inl ⟨by rfl, ?_⟩) (by assumption) ?_
      rotate_left
      · (intro w hSw; go_simp; (try with_reducible rfl))
      try simp only [Act.put, List.getElem_toArray, List.getElem_cons_succ, List.getElem_cons_zero, List.setIfInBounds_toArray, List.set_cons_zero, List.set_cons_succ]
      refine wpAnyH_take (i := 3) (v := ?_) rfl (by kernel_rfl) (by kernel_rfl) (by kernel_rfl) (fun _ _ _ h => h) (Or.inl ⟨by rfl, ?_⟩) (by assumption) ?_
      rotate_left
      · (intro w hSw; have z0 := (World.cell?_of_block (a := ⟨w7.heap.size, 0, none⟩) hSw).trans (row53 HF.out.1).1; have z1 := (World.cell?_of_block (a := ⟨w7.heap.size, 1, none⟩) hSw).trans (row53 HF.out.1).2.1; have z2 := (World.cell?_of_block (a := ⟨w7.heap.size, 2, none⟩) hSw).trans (row53 HF.out.1).2.2.1; have z3 := (World.cell?_of_block (a := ⟨w7.heap.size, 3, none⟩) hSw).trans (row53 HF.out.1).2.2.2.1; have z4 := (World.cell?_of_block (a := ⟨w7.heap.size, 4, none⟩) hSw).trans (row53 HF.out.1).2.2.2.2.1; have z5 := (World.cell?_of_block (a := ⟨w7.heap.size, 5, none⟩) hSw).trans (row53 HF.out.1).2.2.2.2.2.1; have z6 := (World.cell?_of_block (a := ⟨w7.heap.size, 6, none⟩) hSw).trans (row53 HF.out.1).2.2.2.2.2.2.1; have z7 := (World.cell?_of_block (a := ⟨w7.heap.size, 7, none⟩) hSw).trans (row53 HF.out.1).2.2.2.2.2.2.2; go_simp; (try with_reducible rfl))
      try simp only [Act.put, List.getElem_toArray, List.getElem_cons_succ, List.getElem_cons_zero, List.setIfInBounds_toArray, List.set_cons_zero, List.set_cons_succ]
      refine wpAnyH_ready (rs := [4]) (by kernel_rfl) (by simp) ?_
      refine AllReadyH.cons rfl (fun K hK => ?_) AllReadyH.nil
      go_simp
      refine hK.out _ _ ((Below.heap_alloc _ _ _ (Array.getElem?_eq_some_iff.1 HF.out.1).1).trans hHeld) (fun hHeld2 => ?_)
      clear hK K
      try simp only [Act.put, List.getElem_toArray, List.getElem_cons_succ, List.getElem_cons_zero, List.setIfInBounds_toArray, List.set_cons_zero, List.set_cons_succ]
      refine wpAnyH_ready (rs := [5]) (by kernel_rfl) (by simp) ?_
      refine AllReadyH.cons rfl (fun K hK => ?_) AllReadyH.nil
      refine step_append_own rfl _ _ 50 rfl (w.heap.size + 1) 53 i0 (.agg #[.string ⟨#[]⟩, .int .u8 0, .string ⟨#[]⟩, .slice none 0 0, .slice none 0 0, .int .i64 0, .slice none 0 0, .slice none 0 0]) 8 144 Tryz.underlying50 hi0 hz0 hs0 hb0 rfl (by decide) _ D zs (by rfl) OWH.out ⟨wc.heap.size, 0, none⟩ 1 1 [str q.rule, .int .u8 q.form.op, str q.form.name, .slice fa fn fc, .slice fb fm fd, .int .i64 q.label, .slice ca m cc, .slice qa qn qc] (by rfl) rfl (news8 _ _ _ _ _ _ _ _ _ _) oneCells8 (by unfold maxLen; omega) (by omega) (by simp; omega) ?_
      intro v5 w5 h5 hg5 hat5
      have R5 := Lib.hid (CTH.out v5 w5 h5 ⟨hg5.os, hg5.tape, hg5.output, hg5.size, hg5.block⟩ hat5)
      have g5 : w5.heap[w7.heap.size]? = wc.heap[w7.heap.size]? := (hg5.block _ (by have := (Array.getElem?_eq_some_iff.1 HF.out.1).1; simp; omega) (fun e => by have := (own_lt RR.out.own _ (by cases a <;> exact e.symm)).2; have := B5.out.size; have := B7.out.size; omega)).trans hHeld2
      clear h5 hg5 hat5
      refine hK.out _ _ g5 (fun hHeld3 => ?_)
      clear hK K
      try simp only [Act.put, List.getElem_toArray, List.getElem_cons_succ, List.getElem_cons_zero, List.setIfInBounds_toArray, List.set_cons_zero, List.set_cons_succ]
      refine wpAnyH_ready (rs := [6]) (by kernel_rfl) (by simp) ?_
      refine AllReadyH.cons rfl (fun K hK => ?_) AllReadyH.nil
      go_simp
      refine hK.out _ _ hHeld3 (fun hHeld4 => ?_)
      clear hK K
      try simp only [Act.put, List.getElem_toArray, List.getElem_cons_succ, List.getElem_cons_zero, List.setIfInBounds_toArray, List.set_cons_zero, List.set_cons_succ]
      refine wpAnyH_done (by kernel_rfl) ?_ _
      go_wp2_with fail
      go_roundw
      case rel => exact ⟨j + 1, by omega, by go_num, T ++ [q], by have := HMM.out; have := HD.out; simp; omega, R5.out, RN.out⟩
      case measure => simp [intOf]; omega
    · have ej : j = K := by omega
      have hS1 : S = Ps := hrun.done (by rw [LK.out]; omega)
      subst hS1
      clear hrun
      rcases X with _ | ⟨ln, X'⟩
      · have nlt : ¬ ((j : Int) < N) := by have := hN.out; simp at this; omega
        by_cases h1 : S.length = 1
        · obtain ⟨P, rfl⟩ := List.length_eq_one_iff.1 h1
          have rP : Hid (P.right = true) := ONE.out P rfl rfl
          obtain ⟨a, c, rfl⟩ := R.form
          obtain ⟨g, x, xk, xe, y, m, d, s, sn, sc, qa, qn, qc, rfl, -, hg2, O⟩ := R.only
          obtain ⟨c0, c1, c2, c3, c4, c5, c6, c7⟩ : _ ∧ _ ∧ _ ∧ _ ∧ _ ∧ _ ∧ _ ∧ _ := ⟨O.c0, O.c1, O.c2, O.c3, O.c4, O.c5, O.c6, O.c7⟩
          have OH := Lib.hid O
          have RR := Lib.hid R
          have LNS : Hid (StrsAt w (P.lines 0) (.slice la N lc)) := by show StrsAt _ _ _; have := HL.out; simpa [pfsLines] using this
          have NE : Hid (P.lines 0 ≠ []) := fun e => by have h2 := Pf.lines_length P 0; have h3 := Pf.steps_pos P; rw [e] at h2; simp at h2; omega
          have VP : Hid (PfVal wr P (.agg #[str P.rule, .int .u8 P.form.op, str P.form.name, .slice x xk xe, .slice y m d, .int .i64 P.label, .slice s sn sc, .slice qa qn qc])) := ⟨_, _, _, _, _, _, _, _, _, _, _, _, rfl, O.h1.keep unhide, O.h2.keep unhide, O.h3.keep unhide, O.h4.keep unhide⟩
          clear R O hS
          go_upto_region 18 with (go_at_call 24; refine (Proof_c P _ _ (HR.out.keep (keeps_of_below RR.out.bw)) (HPW.out.below RR.out.bw) VP.out rP.out).mono ?_; rintro e w8 ⟨v, rfl, ho8, b8⟩; obtain ⟨sa, sN, sC, rfl⟩ := StrsAt.slice ho8.strsAt; have S8 := Lib.hid ho8.strsAt; have B8 := Lib.hid b8; clear ho8 b8)
          have BW8 : Hid (Below w.heap.size w w8) := belowThen RR.out.bw B8.out
          have EQ := Lib.hid (equal_c (P.lines 0) NE.out sa sN sC la N lc w8 S8.out (LNS.out.keep (keeps_of_below BW8.out)))
          clear c0 c1 c2 c3 c4 c5 c6 c7
          go_upto_region 20 with (go_at_call 122; refine EQ.out.mono ?_; rintro e w9 ⟨rfl, b9⟩; have B9 := Lib.hid b9; clear b9)
          have O9 := Lib.hid ((OH.out.below B8.out).below B9.out)
          have BW9 : Hid (Below w.heap.size w w9) := belowThen BW8.out B9.out
          have R9 : Hid (w9.heap[w.heap.size]? = some (.cells #[str [], .int .u8 0, str [], .slice none 0 0, .slice none 0 0, .int .i64 0, .slice none 0 0, .slice none 0 0] 53 (0, 0))) := kc B9.out (kc B8.out RR.out.res)
          obtain ⟨c0, c1, c2, c3, c4, c5, c6, c7⟩ : _ ∧ _ ∧ _ ∧ _ ∧ _ ∧ _ ∧ _ ∧ _ := ⟨O9.out.c0, O9.out.c1, O9.out.c2, O9.out.c3, O9.out.c4, O9.out.c5, O9.out.c6, O9.out.c7⟩
          obtain ⟨v0, v1, v2, v3, v4, v5, v6, v7⟩ := row53 R9.out
          obtain ⟨f0, f1, f2, f3, f4, f5, f6, f7⟩ := row53f R9.out
          have hz := (Array.getElem?_eq_some_iff.1 R9.out).1
          go_wp2_with fail
          exact proof_end46 BW9.out R9.out rfl rfl fun W' q1 q3 => ⟨q1, .inl ⟨rfl, P, _, rfl, rfl, _, _, _, _, _, _, _, _, _, _, _, _, rfl, O9.out.h1.keep q3, O9.out.h2.keep q3, O9.out.h3.keep q3, O9.out.h4.keep q3⟩⟩
        · obtain ⟨a, c, rfl⟩ := R.form
          have RR := Lib.hid R
          have z1 : ¬ ((S.length : Int) = 1) := by omega
          obtain ⟨v0, v1, v2, v3, v4, v5, v6, v7⟩ := row53 R.res
          obtain ⟨f0, f1, f2, f3, f4, f5, f6, f7⟩ := row53f R.res
          have hz := (Array.getElem?_eq_some_iff.1 R.res).1
          clear R
          go_wp2_with fail
          exact proof_end46 RR.out.bw RR.out.res rfl rfl fun W' q1 q3 => ⟨q1, .inr ⟨.inr h1, rfl⟩⟩
      · obtain rfl : X' = [] := by cases X' with
          | nil => rfl
          | cons y r => simp at hX1
        obtain ⟨hl1, hbad, hpre⟩ := HX.out ln (by simp)
        have hlt : (j : Int) < N := by have := hN.out; simp at this; omega
        have hln : (pfsLines 0 S ++ [ln])[j]? = some ln := by
          rw [List.getElem?_append_right (by rw [pfsLines_post, List.length_map, LK.out]; omega), pfsLines_post, List.length_map, LK.out, ej]; simp
        obtain ⟨lb, lo, rfl, hc⟩ := HL.out.get (ne_of_get hln)
        obtain ⟨a, c, rfl⟩ := R.form
        have c0 := keeps_of_below R.bw _ _ (hc j _ hln)
        have RR := Lib.hid R
        have BAD := Lib.hid hbad
        obtain ⟨T1, hT⟩ : ∃ T1, Lib.itoa ((j : Int) + 1) = T1 := ⟨_, rfl⟩
        have tl : T1.length ≤ 7 := by rw [← hT]; exact itoa_len (by omega) (by omega)
        have HPRE : Hid (Lib.hasPrefix ln (T1 ++ colon) = false) := by show _ = _; rw [← hT, ej]; exact hpre
        have IT : Hid (∀ w, PowAt w → Calls Tryz.prog 35 #[.int .i64 ((j : Int) + 1)] w fun e w' => e = .returned (str T1) ∧ Below w.heap.size w w') := fun w hp => by rw [← hT]; exact Itoa_c _ (by omega) (by omega) w hp
        clear R hS hln hc hbad hpre hT ej hltK
        go_upto_region 9 with (first
          | (go_at_call 35; refine (IT.out _ (HPW.out.below RR.out.bw)).mono ?_; rintro e w5 ⟨rfl, b5⟩; have B5 := Lib.hid b5; clear b5)
          | (go_at_call 39; refine (cutPrefix_no _ _ HPRE.out _).mono ?_; rintro e w6 ⟨rfl, rfl⟩)
          | (go_at_call 120; refine (BAD.out _ ((HM.out.keep (keeps_of_below RR.out.bw)).keep (keeps_of_below B5.out)) ((HR.out.keep (keeps_of_below RR.out.bw)).keep (keeps_of_below B5.out))).mono ?_; rintro e w7 ⟨rfl, b7⟩; have B7 := Lib.hid b7; clear b7))
        have B8 : Hid (∀ o, Below wr.heap.size wr (w7.alloc o)) := fun o => belowThen (belowThen B5.out B7.out) ((Below.refl _ _).alloc (Nat.le_refl _) o)
        have BW9 : Hid (∀ o, Below w.heap.size w (w7.alloc o)) := fun o => belowThen RR.out.bw (B8.out o)
        have R9 : Hid (∀ o, (w7.alloc o).heap[w.heap.size]? = some (.cells #[str [], .int .u8 0, str [], .slice none 0 0, .slice none 0 0, .int .i64 0, .slice none 0 0, .slice none 0 0] 53 (0, 0))) := fun o => kc (B8.out o) RR.out.res
        clear c0
        obtain ⟨v0, v1, v2, v3, v4, v5, v6, v7⟩ := row53 (R9.out (.cells #[str [], .int .u8 0, str [], .slice none 0 0, .slice none 0 0, .int .i64 0, .slice none 0 0, .slice none 0 0] 53))
        obtain ⟨f0, f1, f2, f3, f4, f5, f6, f7⟩ := row53f (R9.out (.cells #[str [], .int .u8 0, str [], .slice none 0 0, .slice none 0 0, .int .i64 0, .slice none 0 0, .slice none 0 0] 53))
        have hz := (Array.getElem?_eq_some_iff.1 (R9.out (.cells #[str [], .int .u8 0, str [], .slice none 0 0, .slice none 0 0, .int .i64 0, .slice none 0 0, .slice none 0 0] 53))).1
        go_wp2_with fail
        exact proof_end46 (BW9.out _) (R9.out _) rfl rfl fun W' q1 q3 => ⟨q1, .inr ⟨.inl (by simp), rfl⟩⟩
end Go.Proofs.YtcandidgaegghaaGreatDoor
end
