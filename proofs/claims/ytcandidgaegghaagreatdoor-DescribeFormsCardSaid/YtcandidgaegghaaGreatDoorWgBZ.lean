/- lyceumref41.Wrong. Conditions: texts of at most a million bytes. -/
import Derived.Test.YtcandidgaegghaaGreatDoorRfBZ
import Derived.Test.YtcandidgaegghaaGreatDoorFmOfZ
import Derived.Deep.DeepCutAuto
namespace Go.Proofs.YtcandidgaegghaaGreatDoor
open Go Go.RowKit Ly
set_option maxRecDepth 10000
set_option linter.unusedSimpArgs false
set_option linter.unusedVariables false
set_option maxHeartbeats 4000000
/-- What must come, in a list of the call's own, the last one first. -/
structure WgI (w1 : World) (L : List Bs) (i : Nat) (st : List Bs) (u : Value) (W : World) : Prop where
  own : OwnStrs w1.heap.size W st.reverse u
  run : kRun [kForm] L = kRun st (L.drop i)
  bw : Below w1.heap.size w1 W
  last : st.getLast? ≠ some kTerm
theorem own_form {B : Nat} {w : World} {l : List Bs} {v : Value} (h : OwnStrs B w l v) : ∃ a c, v = .slice a l.length c := by
  rcases h.2 with ⟨rfl, hn⟩ | ⟨g, cap, cur, rfl, _⟩
  · exact ⟨none, 0, by rw [hn]⟩
  · exact ⟨_, cap, rfl⟩
def wgAns (L : List Bs) : Int := match kRun [kForm] L with | none => -1 | some r => (L.length : Int) - r.length
theorem wg_ret {L : List Bs} {i : Nat} (h : kRun [kForm] L = some (L.drop i)) (hi : i ≤ L.length) : wgAns L = i := by
  unfold wgAns
  rw [h]
  simp; omega
theorem run_nil {L : List Bs} {i : Nat} {x : Bs} (hx : L[i]? = some x) : kRun [] (L.drop i) = some (L.drop i) := by
  rw [drop_at hx]; rfl
theorem run_none {L : List Bs} {i : Nat} {x : Bs} {st : List Bs} (hx : L[i]? = some x) (h : kNext st x = none) : kRun st (L.drop i) = some (L.drop i) := by
  rw [drop_at hx]; simp only [kRun, h]
theorem run_some {L : List Bs} {i : Nat} {x : Bs} {st st' : List Bs} (hx : L[i]? = some x) (h : kNext st x = some st') : kRun st (L.drop i) = kRun st' (L.drop (i + 1)) := by
  rw [drop_at hx]; simp only [kRun, h]
theorem own_push {B m k : Nat} {W : World} {st add : List Bs} {v : Value} (h : W.ownsRow B 9 1 v (m + k) (st.reverse.map str ++ add.reverse.map str)) (hm : m = st.length) (hk : k = add.length) : OwnStrs B W (add ++ st).reverse v := by
  unfold OwnStrs
  rw [List.reverse_append, List.length_append, List.length_reverse, List.length_reverse, List.map_append, ← hm, ← hk]
  exact h
theorem own_room {B g n c : Nat} {W : World} {l : List Bs} (h : OwnStrs B W l (.slice (some ⟨g, 0, none⟩) n c)) : n ≤ c := by
  obtain ⟨a, cap, e, h1, _⟩ := h.strsAt
  simp only [Value.slice.injEq] at e
  obtain ⟨-, rfl, rfl⟩ := e
  exact h1
theorem own_take {B g n c m : Nat} {W : World} {l : List Bs} (h : OwnStrs B W l (.slice (some ⟨g, 0, none⟩) n c)) (hn : n = l.length) (hm : m ≤ l.length) : OwnStrs B W (l.take m) (.slice (some ⟨g, 0, none⟩) m c) := by
  obtain ⟨h1, h2⟩ := h
  have hl : (l.take m).length = m := by rw [List.length_take]; omega
  unfold OwnStrs
  rw [hl]
  refine ⟨by simp; omega, ?_⟩
  rcases h2 with ⟨e, _⟩ | ⟨g', cap, cur, e, hb, hg, hc, hmx, hs, ht⟩
  · cases e
  · simp only [Value.slice.injEq, Option.some.injEq, Addr.mk.injEq, and_true, true_and] at e
    obtain ⟨rfl, _, rfl⟩ := e
    refine .inr ⟨g, c, cur, rfl, hb, hg, by omega, hmx, hs, ?_⟩
    rw [List.map_take, ← ht, List.take_take]
    congr 1
    omega
theorem one3 {a b c : Bs} : ∀ u ∈ [str a, str b, str c], u.oneCell' = true := by
  intro u hu
  simp only [List.mem_cons, List.not_mem_nil, or_false] at hu
  rcases hu with rfl | rfl | rfl <;> rfl
theorem one1 {a : Bs} : ∀ u ∈ [str a], u.oneCell' = true := by
  intro u hu
  simp only [List.mem_cons, List.not_mem_nil, or_false] at hu
  rcases hu with rfl; rfl
theorem wg_m3 {st : List Bs} {n j N : Nat} (h : st.length = n) (hn : n ≤ 3 * j) (hj : j ≤ N) (hN : N ≤ 1000001) : st.reverse.length + 3 ≤ maxLen := by rw [List.length_reverse]; unfold maxLen; omega
theorem wg_b3 {st : List Bs} {n j N : Nat} (h : st.length = n) (hn : n ≤ 3 * j) (hj : j ≤ N) (hN : N ≤ 1000001) : (st.reverse.length + 3) * 16 ≤ 140737488355328 := by rw [List.length_reverse]; omega
theorem wg_s {w1 w : World} {o : Obj} (h : Below w1.heap.size w1 w) : w1.heap.size ≤ (w.alloc o).heap.size := by have := h.size; simp; omega
theorem wg_m1 {st : List Bs} {n j N : Nat} (h : st.length = n) (hn : n ≤ 3 * j) (hj : j ≤ N) (hN : N ≤ 1000001) : st.reverse.length + 1 ≤ maxLen := by rw [List.length_reverse]; unfold maxLen; omega
theorem wg_b1 {st : List Bs} {n j N : Nat} (h : st.length = n) (hn : n ≤ 3 * j) (hj : j ≤ N) (hN : N ≤ 1000001) : (st.reverse.length + 1) * 16 ≤ 140737488355328 := by rw [List.length_reverse]; omega
theorem last_tail {t : Bs} {st : List Bs} (h : (t :: st).getLast? ≠ some kTerm) : st.getLast? ≠ some kTerm := by
  cases st with
  | nil => simp
  | cons a st => rwa [List.getLast?_cons_cons] at h
theorem last_app {add st : List Bs} (h : st.getLast? ≠ some kTerm) (ha : add.getLast? ≠ some kTerm) : (add ++ st).getLast? ≠ some kTerm := by
  rw [List.getLast?_append]
  cases e : st.getLast? with
  | none => simpa using ha
  | some y => rw [e] at h; simpa using h
theorem wg_pushed {w1 W W' : World} {L st add : List Bs} {T : Bs} {j k : Nat} {u v : Value} {o : Obj} {news : List Value} (own : OwnStrs w1.heap.size W st.reverse u) (bw : Below w1.heap.size w1 W)
    (h : W'.ownsRow w1.heap.size 9 1 v (st.reverse.length + k) (st.reverse.map str ++ news)) (hg : (W.alloc o).grownBy W' u.ownBlock) (hr : kRun [kForm] L = kRun (add ++ st) (L.drop (j + 1))) (hk : news = add.reverse.map str) (ha : k = add.length ∧ add.getLast? ≠ some kTerm) (hl : (T :: st).getLast? ≠ some kTerm) :
    ∃ n c a, v = .slice a n c ∧ n = (add ++ st).length ∧ c ≤ 9223372036854775807 ∧ WgI w1 L (j + 1) (add ++ st) (.slice a n c) W' := by
  subst hk
  have ho : OwnStrs w1.heap.size W' (add ++ st).reverse v := own_push (m := st.length) (k := k) (by simpa using h) rfl ha.1
  obtain ⟨a, c, hv⟩ := own_form ho
  rw [List.length_reverse] at hv
  subst hv
  refine ⟨_, c, a, rfl, rfl, le63 ho.strsAt.len.2.2, ho, hr, (bw.alloc bw.size _).trans (below_grown hg (fun gg e => (World.ownsRow.lt own gg e).1) ?_), last_app (last_tail hl) ha.2⟩
  have := bw.size; simp; omega
theorem wg_own_tail {B g n c : Nat} {W : World} {t : Bs} {st : List Bs} (h : OwnStrs B W (t :: st).reverse (.slice (some ⟨g, 0, none⟩) (n + 1) c)) (hn : n + 1 = (t :: st).length) : OwnStrs B W st.reverse (.slice (some ⟨g, 0, none⟩) n c) := by
  have h' := own_take (m := n) h (by rw [List.length_reverse]; exact hn) (by simp; simp at hn; omega)
  simp at hn
  rw [List.reverse_cons, List.take_append_of_le_length (by simp; omega), List.take_of_length_le (by simp; omega)] at h'
  exact h'
theorem kstep_and {st : List Bs} {x : Bs} (h1 : ¬ x = wAnd) (h2 : ¬ x = wClose) : kStep kAnd st x = none := by simp [kStep, h1, h2]
theorem kstep_var {t : Bs} {st : List Bs} {x : Bs} (h1 : varName x = true) : kStep kTerm (t :: st) x = some st := by simp [kStep, h1, show kTerm ≠ kAnd by decide]
theorem kstep_term {st : List Bs} {x : Bs} (h1 : varName x = false) (h2 : funName x = true) : kStep kTerm st x = some st := by simp [kStep, h1, h2, show kTerm ≠ kAnd by decide]
theorem kstep_term_no {st : List Bs} {x : Bs} (h1 : varName x = false) (h2 : funName x = false) : kStep kTerm st x = none := by simp [kStep, h1, h2, show kTerm ≠ kAnd by decide]
theorem kstep_bound {st : List Bs} {x : Bs} (h1 : varName x = true) : kStep kBound st x = some st := by simp [kStep, h1, show kBound ≠ kAnd by decide, show kBound ≠ kTerm by decide]
theorem kstep_bound_no {st : List Bs} {x : Bs} (h1 : varName x = false) : kStep kBound st x = none := by simp [kStep, h1, show kBound ≠ kAnd by decide, show kBound ≠ kTerm by decide]
theorem kstep_kind {st : List Bs} {x : Bs} (h1 : ¬ x = wAll) (h2 : ¬ x = wSome) : kStep kKind st x = none := by simp [kStep, h1, h2, show kKind ≠ kAnd by decide, show kKind ≠ kTerm by decide, show kKind ≠ kBound by decide]
theorem kstep_pred {st : List Bs} {x : Bs} (h : oneOp x = 0 ∧ twoOp x = 0 ∧ x ≠ wFalse ∧ x ≠ wFor) (h1 : predName x = true) : kStep kForm st x = some (kOf :: st) := by
  simp [kStep, h.1, h.2.1, h.2.2.1, h.2.2.2, h1, show kForm ≠ kAnd by decide, show kForm ≠ kTerm by decide, show kForm ≠ kBound by decide, show kForm ≠ kKind by decide]
theorem kstep_pred_no {st : List Bs} {x : Bs} (h : oneOp x = 0 ∧ twoOp x = 0 ∧ x ≠ wFalse ∧ x ≠ wFor) (h1 : predName x = false) : kStep kForm st x = none := by
  simp [kStep, h.1, h.2.1, h.2.2.1, h.2.2.2, h1, show kForm ≠ kAnd by decide, show kForm ≠ kTerm by decide, show kForm ≠ kBound by decide, show kForm ≠ kKind by decide]
theorem wrong_c (s : Bs) (hs : s.length ≤ 1000000) (w : World) : Calls Tryz.prog 133 #[str s] w fun e w' => e = .returned (.int .i64 (wgAns (wordsOf s))) ∧ Below w.heap.size w w' := by
  have WL := wordsOf_len s hs
  have R := Lib.hid (refSplit_c s hs w)
  generalize wordsOf s = L at *
  obtain ⟨N, hN⟩ : ∃ n, L.length = n := ⟨_, rfl⟩
  have LN := Lib.hid hN
  have hN1 : N ≤ 1000001 := by omega
  have WM := Lib.hid WL.2
  clear WL hs hN
  obtain ⟨i0, hi0, hz0, hs0, hb0⟩ := info_parts info9
  go_enter Tryz.func133, Tryz.ntmps133
  go_wp2_with (go_at_call 135; refine R.out.mono ?_; rintro e w1 ⟨v, rfl, o1, b1⟩; obtain ⟨la, lc, rfl⟩ := own_form o1; rw [show L.length = N from LN.out]; have LS := Lib.hid o1.strsAt; have B1 := Lib.hid b1; clear o1 b1)
  go_loopw [4, 5] (fun u i wr => ∃ (j n cap : Nat) (a : Option Addr) (st : List Bs), j ≤ N ∧ i = .int .i64 j ∧ u = .slice a n cap ∧ n ≤ 3 * j + 1 ∧ cap ≤ 9223372036854775807 ∧ Hid (n = st.length ∧ WgI w1 L j st (.slice a n cap) wr)) (fun _ i _ => N - (intOf i).toNat)
  case atStart => exact ⟨0, 1, 1, _, [kForm], Nat.zero_le _, rfl, rfl, by omega, by omega, rfl, ⟨own_at _ _ rfl (Nat.le_refl _), rfl, (Below.refl _ _).alloc (Nat.le_refl _) _, by decide⟩⟩
  case round =>
    obtain ⟨j, n, cap, a, st, hj, rfl, rfl, hn, hcap, hs⟩ := hrel
    by_cases hlt : j < N
    · obtain ⟨x, hx⟩ := get_of_lt (l := L) (j := j) (by rw [LN.out]; exact hlt)
      have HX := Lib.hid hx
      obtain ⟨lb, lo, rfl, hc⟩ := LS.out.get (ne_of_get hx)
      have cx := keeps_of_below hs.out.2.bw _ _ (hc j x hx)
      clear hc hx
      cases st with
      | nil =>
        have hn0 : n = 0 := hs.out.1
        subst hn0
        go_wp2_with fail
        go_ret
        refine ⟨?_, belowThen B1.out hs.out.2.bw⟩
        rw [wg_ret (hs.out.2.run.trans (run_nil HX.out)) (by rw [LN.out]; exact hj)]
        rfl
      | cons top st =>
        obtain ⟨m, hm⟩ : ∃ m, st.length = m := ⟨_, rfl⟩
        have hnm : n = m + 1 := by rw [hs.out.1, List.length_cons, hm]
        subst hnm
        obtain ⟨g, cap', hv⟩ := own_slice hs.out.2.own (by simp)
        simp only [Value.slice.injEq] at hv
        obtain ⟨rfl, -, -⟩ := hv
        have HMM := Lib.hid hm
        have hg := own_cell (q := m) (x := top) hs.out.2.own (by rw [List.reverse_cons, ← hm]; simp)
        have c1 := hg.1
        clear hg hm
        have t0 : ((m : Int) + 1 == 0) = false := by simp; omega
        have hcc : m + 1 ≤ cap := (own_room hs.out.2.own)
        have OT : Hid (OwnStrs w1.heap.size wr st.reverse (.slice (some ⟨g, 0, none⟩) m cap)) := by
          have h := own_take (m := m) hs.out.2.own (by rw [List.length_reverse]; exact hs.out.1) (by simp; have := HMM.out; omega)
          rw [List.reverse_cons, List.take_append_of_le_length (by simp; have := HMM.out; omega), List.take_of_length_le (by simp; have := HMM.out; omega)] at h
          exact h
        have C5 : Hid ((st.reverse.map str).length = m * 1) := by show _ = _; simp; exact HMM.out
        have C1 : Hid (∀ j u, (st.reverse.map str)[j]? = some u → (wr.alloc (.cells #[] 9)).cell? ((⟨g, 0, none⟩ : Addr).add j) = some u) := fun j u hu => (World.ownsRow.alloc OT.out _).cells (g := g) rfl j u hu
        have C2 : Hid (∀ u ∈ st.reverse.map str, u.oneCell' = true) := fun u hu => by obtain ⟨y, _, rfl⟩ := List.mem_map.1 hu; rfl
        have C3 : Hid (0 + m ≤ maxLen) := by show _ ≤ _; unfold maxLen; omega
        have C4 : Hid ((0 + m) * 16 ≤ 140737488355328) := by show _ ≤ _; omega
        have C6 : Hid (w1.heap.size ≤ (wr.alloc (.cells #[] 9)).heap.size) := by show _ ≤ _; have := hs.out.2.bw.size; simp; omega
        have OE : Hid ((wr.alloc (.cells #[] 9)).ownsRow w1.heap.size 9 1 (.slice (some ⟨wr.heap.size, 0, none⟩) 0 0) 0 []) := World.ownsRow_lit wr #[] 0 hs.out.2.bw.size (Nat.zero_le _) rfl
        go_upto_region 10 with fail
        go_cut [4] from 32 to 38 (fun u4 wx => ∃ n4 c4 a4, u4 = .slice a4 n4 c4 ∧ n4 = m ∧ c4 ≤ 9223372036854775807 ∧ Hid (OwnStrs w1.heap.size wx st.reverse (.slice a4 n4 c4) ∧ Below w1.heap.size w1 wx))
        case first =>
          go_wp2_with (at_builtin; refine wpList_append_own _ rfl _ _ 36 rfl w1.heap.size 9 i0 (.string ⟨#[]⟩) 1 16 Tryz.underlying36 hi0 hz0 hs0 hb0 rfl (by decide) _ 0 [] rfl OE.out ⟨g, 0, none⟩ m cap (st.reverse.map str) rfl C5.out C1.out C2.out C3.out C4.out C6.out ?_; intro v4 w4 hown4 hg4 _)
          go_meet
          have ho : OwnStrs w1.heap.size w4 st.reverse v4 := by
            unfold OwnStrs
            rw [List.length_reverse, HMM.out]
            simpa using hown4
          obtain ⟨a4, c4, hv⟩ := own_form ho
          rw [List.length_reverse, HMM.out] at hv
          subst hv
          exact ⟨m, c4, a4, rfl, rfl, le63 ho.strsAt.len.2.2, ho, (hs.out.2.bw.alloc hs.out.2.bw.size _).trans (below_grown hg4 (fun gg e => by cases e; exact hs.out.2.bw.size) C6.out)⟩
        case rest =>
        obtain ⟨n4, c4, a4, rfl, rfl, hc4, h4⟩ := hcut
        have RUN := Lib.hid hs.out.2.run
        have LA := Lib.hid hs.out.2.last
        clear C1 C2 C3 C4 C5 C6 OE OT hs cx c1 hcc
        go_upto_if 40 with fail
        go_cut [4, 7] from 39 to 60 (fun u4 u7 wx => ∃ n5 c5 a5 T st5, u4 = .slice a5 n5 c5 ∧ u7 = str T ∧ n5 ≤ 3 * j ∧ c5 ≤ 9223372036854775807 ∧ Hid (n5 = st5.length ∧ kNext (top :: st) x = kStep T st5 x ∧ (T :: st5).getLast? ≠ some kTerm ∧ OwnStrs w1.heap.size wx st5.reverse (.slice a5 n5 c5) ∧ Below w1.heap.size w1 wx))
        case first =>
          by_cases hk : top = kOf
          · have tk : (top == [111, 102, 63]) = true := by rw [hk]; rfl
            simp only [tk]
            have HK := Lib.hid hk
            clear hk
            by_cases hw : x = wOf
            · have tw : (x == [111, 102]) = true := by rw [hw]; rfl
              have HWX := Lib.hid hw
              clear hw
              go_wp2_with (at_builtin; refine wpList_append_own _ rfl _ _ 36 rfl w1.heap.size 9 i0 (.string ⟨#[]⟩) 1 16 Tryz.underlying36 hi0 hz0 hs0 hb0 rfl (by decide) _ _ _ rfl (World.ownsRow.alloc h4.out.1 _) ⟨wc.heap.size, 0, none⟩ 3 3 [str kAnd, str kOf, str kTerm] rfl rfl (news3 _ _ _ _ _) one3 (wg_m3 HMM.out (Nat.le_of_succ_le_succ hn) hj hN1) (wg_b3 HMM.out (Nat.le_of_succ_le_succ hn) hj hN1) (wg_s h4.out.2) ?_; intro v5 w5 hown5 hg5 _)
              go_roundw
              case rel =>
                obtain ⟨n6, c6, a6, rfl, hn6, hc6, I6⟩ := wg_pushed (add := [kTerm, kOf, kAnd]) h4.out.1 h4.out.2 hown5 hg5 (RUN.out.trans (run_some HX.out (by rw [HK.out, HWX.out]; rfl))) rfl (by decide) LA.out
                exact ⟨j + 1, n6, c6, a6, _, by omega, by go_num, rfl, by have e := HMM.out; simp only [List.length_append, List.length_cons, List.length_nil] at hn6; omega, hc6, hn6, I6⟩
              case measure => simp [intOf]; omega
            · have tw : (x == [111, 102]) = false := beq_no hw
              have HWX := Lib.hid hw
              clear hw
              cases st with
              | nil =>
                have hn0 : n4 = 0 := HMM.out.symm
                subst hn0
                go_wp2_with fail
                go_ret
                refine ⟨?_, belowThen B1.out h4.out.2⟩
                rw [wg_ret (RUN.out.trans (run_none HX.out (by rw [HK.out]; simp [kNext, HWX.out]))) (by rw [LN.out]; exact hj)]
                rfl
              | cons t2 st2 =>
                obtain ⟨g6, cap6, hv6⟩ := own_slice h4.out.1 (by simp)
                simp only [Value.slice.injEq] at hv6
                obtain ⟨rfl, -, -⟩ := hv6
                obtain ⟨n6, hn6⟩ : ∃ n, n4 = n + 1 := ⟨st2.length, by rw [← HMM.out]; rfl⟩
                subst hn6
                have hc6 := own_room h4.out.1
                have e6 : st2.length = n6 := by have := HMM.out; simpa using this
                have hg6 := own_cell (q := n6) (x := t2) h4.out.1 (by rw [List.reverse_cons, ← e6]; simp)
                have cc := hg6.1
                have HMM2 := Lib.hid e6
                have t6 : ((n6 : Int) + 1 == 0) = false := by simp; omega
                clear hg6 e6
                go_wp2_with fail
                go_meet
                exact ⟨n6, c4, _, t2, st2, rfl, rfl, by omega, hc4, HMM2.out.symm, by rw [HK.out]; simp [kNext, HWX.out], last_tail LA.out, wg_own_tail h4.out.1 HMM.out.symm, h4.out.2⟩
          · have tk : (top == [111, 102, 63]) = false := beq_no hk
            simp only [tk]
            have HK := Lib.hid hk
            clear hk
            go_wp2_with fail
            go_meet
            exact ⟨n4, c4, a4, top, st, rfl, rfl, by omega, hc4, HMM.out.symm, by simp [kNext, HK.out], LA.out, h4.out⟩
        case rest =>
        obtain ⟨n5, c5, a5, T, st5, rfl, rfl, hn5, hc5, h5⟩ := hcut
        have FIN : Hid (kStep T st5 x = none → wgAns L = (j : Int)) := fun h => wg_ret (RUN.out.trans (run_none HX.out (h5.out.2.1.trans h))) (by rw [LN.out]; exact hj)
        have NX : Hid (∀ st', kStep T st5 x = some st' → kRun [kForm] L = kRun st' (L.drop (j + 1))) := fun st' h => RUN.out.trans (run_some HX.out (h5.out.2.1.trans h))
        have hxl : x.length ≤ 9223372036854775807 := le63 (WM.out x (List.mem_of_getElem? HX.out))
        clear h4 RUN HMM R HX LA
        by_cases hTkAnd : T = kAnd
        · as_aux_lemma =>
          have eT : T = [97, 110, 100, 63] := hTkAnd
          subst eT
          by_cases hxwAnd : x = wAnd
          · have ex : x = [97, 110, 100] := hxwAnd
            subst ex
            go_wp2_with (at_builtin; refine wpList_append_own _ rfl _ _ 36 rfl w1.heap.size 9 i0 (.string ⟨#[]⟩) 1 16 Tryz.underlying36 hi0 hz0 hs0 hb0 rfl (by decide) _ _ _ rfl (World.ownsRow.alloc h5.out.2.2.2.1 _) ⟨wc.heap.size, 0, none⟩ 3 3 [str kAnd, str kOf, str kTerm] rfl rfl (news3 _ _ _ _ _) one3 (wg_m3 h5.out.1.symm hn5 hj hN1) (wg_b3 h5.out.1.symm hn5 hj hN1) (wg_s h5.out.2.2.2.2) ?_; intro v5 w5 hown5 hg5 _)
            go_roundw
            case rel =>
              obtain ⟨n6, c6, a6, rfl, hn6, hc6, I6⟩ := wg_pushed (add := [kTerm, kOf, kAnd]) h5.out.2.2.2.1 h5.out.2.2.2.2 hown5 hg5 (NX.out _ (rfl)) rfl (by decide) h5.out.2.2.1
              exact ⟨j + 1, n6, c6, a6, _, by omega, by go_num, rfl, by have e := h5.out.1; simp only [List.length_append, List.length_cons, List.length_nil] at hn6; omega, hc6, hn6, I6⟩
            case measure => simp [intOf]; omega
          · have nwAnd : (x == [97, 110, 100]) = false := beq_no hxwAnd
            by_cases hxwClose : x = wClose
            · have ex : x = [99, 108, 111, 115, 101] := hxwClose
              subst ex
              go_wp2_with (fail)
              go_roundw
              case rel => exact ⟨j + 1, n5, c5, a5, st5, by omega, by go_num, rfl, by omega, hc5, h5.out.1, ⟨h5.out.2.2.2.1, NX.out _ (rfl), h5.out.2.2.2.2, last_tail h5.out.2.2.1⟩⟩
              case measure => simp [intOf]; omega
            · have nwClose : (x == [99, 108, 111, 115, 101]) = false := beq_no hxwClose
              go_wp2_with (fail)
              go_ret
              refine ⟨?_, belowThen B1.out h5.out.2.2.2.2⟩
              rw [FIN.out (kstep_and hxwAnd hxwClose)]
              rfl
        · have n1 : (T == [97, 110, 100, 63]) = false := beq_no hTkAnd
          by_cases hTkTerm : T = kTerm
          · as_aux_lemma =>
            have eT : T = [97, 32, 116, 101, 114, 109] := hTkTerm
            subst eT
            cases bv : varName x with
            | true =>
              have HV := Lib.hid bv
              cases st5 with
              | nil => exact absurd h5.out.2.2.1 (by decide)
              | cons t6 st6 =>
                obtain ⟨g6, cap6, hv6⟩ := own_slice h5.out.2.2.2.1 (by simp)
                simp only [Value.slice.injEq] at hv6
                obtain ⟨rfl, -, -⟩ := hv6
                obtain ⟨n6, hn6⟩ : ∃ n, n5 = n + 1 := ⟨st6.length, by rw [h5.out.1]; rfl⟩
                subst hn6
                have hc6 := own_room h5.out.2.2.2.1
                clear bv
                go_wp2_with (go_at_call 214; refine (Variable2_c x _ hxl).mono ?_; rintro e w6 ⟨rfl, rfl⟩; rw [show varName x = _ from HV.out])
                go_roundw
                case rel => exact ⟨j + 1, n6, c5, _, st6, by omega, by go_num, rfl, by omega, hc5, by have e := h5.out.1; simp at e; exact e, ⟨wg_own_tail h5.out.2.2.2.1 h5.out.1, NX.out _ (kstep_var HV.out), h5.out.2.2.2.2, last_tail (last_tail h5.out.2.2.1)⟩⟩
                case measure => simp [intOf]; omega
            | false =>
              have HV := Lib.hid bv
              cases bf : funName x with
              | true =>
                have HF := Lib.hid bf
                clear bv bf
                go_wp2_with (first | (go_at_call 214; refine (Variable2_c x _ hxl).mono ?_; rintro e w6 ⟨rfl, rfl⟩; rw [show varName x = _ from HV.out]) | (go_at_call 215; refine (Function2_c x _ hxl).mono ?_; rintro e w6 ⟨rfl, rfl⟩; rw [show funName x = _ from HF.out]))
                go_roundw
                case rel => exact ⟨j + 1, n5, c5, a5, st5, by omega, by go_num, rfl, by omega, hc5, h5.out.1, ⟨h5.out.2.2.2.1, NX.out _ (kstep_term HV.out HF.out), h5.out.2.2.2.2, last_tail h5.out.2.2.1⟩⟩
                case measure => simp [intOf]; omega
              | false =>
                have HF := Lib.hid bf
                clear bv bf
                go_wp2_with (first | (go_at_call 214; refine (Variable2_c x _ hxl).mono ?_; rintro e w6 ⟨rfl, rfl⟩; rw [show varName x = _ from HV.out]) | (go_at_call 215; refine (Function2_c x _ hxl).mono ?_; rintro e w6 ⟨rfl, rfl⟩; rw [show funName x = _ from HF.out]))
                go_ret
                refine ⟨?_, belowThen B1.out h5.out.2.2.2.2⟩
                rw [FIN.out (kstep_term_no HV.out HF.out)]
                rfl
          · have n2 : (T == [97, 32, 116, 101, 114, 109]) = false := beq_no hTkTerm
            by_cases hTkBound : T = kBound
            · as_aux_lemma =>
              have eT : T = [97, 32, 118, 97, 114, 105, 97, 98, 108, 101] := hTkBound
              subst eT
              cases bv : varName x with
              | true =>
                have HV := Lib.hid bv
                clear bv
                go_wp2_with (go_at_call 214; refine (Variable2_c x _ hxl).mono ?_; rintro e w6 ⟨rfl, rfl⟩; rw [show varName x = _ from HV.out])
                go_roundw
                case rel => exact ⟨j + 1, n5, c5, a5, st5, by omega, by go_num, rfl, by omega, hc5, h5.out.1, ⟨h5.out.2.2.2.1, NX.out _ (kstep_bound HV.out), h5.out.2.2.2.2, last_tail h5.out.2.2.1⟩⟩
                case measure => simp [intOf]; omega
              | false =>
                have HV := Lib.hid bv
                clear bv
                go_wp2_with (go_at_call 214; refine (Variable2_c x _ hxl).mono ?_; rintro e w6 ⟨rfl, rfl⟩; rw [show varName x = _ from HV.out])
                go_ret
                refine ⟨?_, belowThen B1.out h5.out.2.2.2.2⟩
                rw [FIN.out (kstep_bound_no HV.out)]
                rfl
            · have n3 : (T == [97, 32, 118, 97, 114, 105, 97, 98, 108, 101]) = false := beq_no hTkBound
              by_cases hTkKind : T = kKind
              · as_aux_lemma =>
                have eT : T = [97, 108, 108, 32, 111, 114, 32, 115, 111, 109, 101] := hTkKind
                subst eT
                by_cases hxwAll : x = wAll
                · have ex : x = [97, 108, 108] := hxwAll
                  subst ex
                  go_wp2_with (fail)
                  go_roundw
                  case rel => exact ⟨j + 1, n5, c5, a5, st5, by omega, by go_num, rfl, by omega, hc5, h5.out.1, ⟨h5.out.2.2.2.1, NX.out _ (rfl), h5.out.2.2.2.2, last_tail h5.out.2.2.1⟩⟩
                  case measure => simp [intOf]; omega
                · have nwAll : (x == [97, 108, 108]) = false := beq_no hxwAll
                  by_cases hxwSome : x = wSome
                  · have ex : x = [115, 111, 109, 101] := hxwSome
                    subst ex
                    go_wp2_with (fail)
                    go_roundw
                    case rel => exact ⟨j + 1, n5, c5, a5, st5, by omega, by go_num, rfl, by omega, hc5, h5.out.1, ⟨h5.out.2.2.2.1, NX.out _ (rfl), h5.out.2.2.2.2, last_tail h5.out.2.2.1⟩⟩
                    case measure => simp [intOf]; omega
                  · have nwSome : (x == [115, 111, 109, 101]) = false := beq_no hxwSome
                    go_wp2_with (fail)
                    go_ret
                    refine ⟨?_, belowThen B1.out h5.out.2.2.2.2⟩
                    rw [FIN.out (kstep_kind hxwAll hxwSome)]
                    rfl
              · have n4 : (T == [97, 108, 108, 32, 111, 114, 32, 115, 111, 109, 101]) = false := beq_no hTkKind
                by_cases hTkForm : T = kForm
                · as_aux_lemma =>
                  have eT : T = [97, 32, 102, 111, 114, 109, 117, 108, 97] := hTkForm
                  subst eT
                  by_cases hxwFalse : x = wFalse
                  · have ex : x = [102, 97, 108, 115, 101] := hxwFalse
                    subst ex
                    go_wp2_with (fail)
                    go_roundw
                    case rel => exact ⟨j + 1, n5, c5, a5, st5, by omega, by go_num, rfl, by omega, hc5, h5.out.1, ⟨h5.out.2.2.2.1, NX.out _ (rfl), h5.out.2.2.2.2, last_tail h5.out.2.2.1⟩⟩
                    case measure => simp [intOf]; omega
                  have nwFalse : (x == [102, 97, 108, 115, 101]) = false := beq_no hxwFalse
                  by_cases hxwNot : x = wNot
                  · have ex : x = [110, 111, 116] := hxwNot
                    subst ex
                    go_wp2_with (at_builtin; refine wpList_append_own _ rfl _ _ 36 rfl w1.heap.size 9 i0 (.string ⟨#[]⟩) 1 16 Tryz.underlying36 hi0 hz0 hs0 hb0 rfl (by decide) _ _ _ rfl (World.ownsRow.alloc h5.out.2.2.2.1 _) ⟨wc.heap.size, 0, none⟩ 1 1 [str kForm] rfl rfl (cell_one_new _ _ _) one1 (wg_m1 h5.out.1.symm hn5 hj hN1) (wg_b1 h5.out.1.symm hn5 hj hN1) (wg_s h5.out.2.2.2.2) ?_; intro v5 w5 hown5 hg5 _)
                    go_roundw
                    case rel =>
                      obtain ⟨n6, c6, a6, rfl, hn6, hc6, I6⟩ := wg_pushed (add := [kForm]) h5.out.2.2.2.1 h5.out.2.2.2.2 hown5 hg5 (NX.out _ (rfl)) rfl (by decide) h5.out.2.2.1
                      exact ⟨j + 1, n6, c6, a6, _, by omega, by go_num, rfl, by have e := h5.out.1; simp only [List.length_append, List.length_cons, List.length_nil] at hn6; omega, hc6, hn6, I6⟩
                    case measure => simp [intOf]; omega
                  have nwNot : (x == [110, 111, 116]) = false := beq_no hxwNot
                  by_cases hxwNec : x = wNec
                  · have ex : x = [110, 101, 99, 101, 115, 115, 97, 114, 105, 108, 121] := hxwNec
                    subst ex
                    go_wp2_with (at_builtin; refine wpList_append_own _ rfl _ _ 36 rfl w1.heap.size 9 i0 (.string ⟨#[]⟩) 1 16 Tryz.underlying36 hi0 hz0 hs0 hb0 rfl (by decide) _ _ _ rfl (World.ownsRow.alloc h5.out.2.2.2.1 _) ⟨wc.heap.size, 0, none⟩ 1 1 [str kForm] rfl rfl (cell_one_new _ _ _) one1 (wg_m1 h5.out.1.symm hn5 hj hN1) (wg_b1 h5.out.1.symm hn5 hj hN1) (wg_s h5.out.2.2.2.2) ?_; intro v5 w5 hown5 hg5 _)
                    go_roundw
                    case rel =>
                      obtain ⟨n6, c6, a6, rfl, hn6, hc6, I6⟩ := wg_pushed (add := [kForm]) h5.out.2.2.2.1 h5.out.2.2.2.2 hown5 hg5 (NX.out _ (rfl)) rfl (by decide) h5.out.2.2.1
                      exact ⟨j + 1, n6, c6, a6, _, by omega, by go_num, rfl, by have e := h5.out.1; simp only [List.length_append, List.length_cons, List.length_nil] at hn6; omega, hc6, hn6, I6⟩
                    case measure => simp [intOf]; omega
                  have nwNec : (x == [110, 101, 99, 101, 115, 115, 97, 114, 105, 108, 121]) = false := beq_no hxwNec
                  by_cases hxwPos : x = wPos
                  · have ex : x = [112, 111, 115, 115, 105, 98, 108, 121] := hxwPos
                    subst ex
                    go_wp2_with (at_builtin; refine wpList_append_own _ rfl _ _ 36 rfl w1.heap.size 9 i0 (.string ⟨#[]⟩) 1 16 Tryz.underlying36 hi0 hz0 hs0 hb0 rfl (by decide) _ _ _ rfl (World.ownsRow.alloc h5.out.2.2.2.1 _) ⟨wc.heap.size, 0, none⟩ 1 1 [str kForm] rfl rfl (cell_one_new _ _ _) one1 (wg_m1 h5.out.1.symm hn5 hj hN1) (wg_b1 h5.out.1.symm hn5 hj hN1) (wg_s h5.out.2.2.2.2) ?_; intro v5 w5 hown5 hg5 _)
                    go_roundw
                    case rel =>
                      obtain ⟨n6, c6, a6, rfl, hn6, hc6, I6⟩ := wg_pushed (add := [kForm]) h5.out.2.2.2.1 h5.out.2.2.2.2 hown5 hg5 (NX.out _ (rfl)) rfl (by decide) h5.out.2.2.1
                      exact ⟨j + 1, n6, c6, a6, _, by omega, by go_num, rfl, by have e := h5.out.1; simp only [List.length_append, List.length_cons, List.length_nil] at hn6; omega, hc6, hn6, I6⟩
                    case measure => simp [intOf]; omega
                  have nwPos : (x == [112, 111, 115, 115, 105, 98, 108, 121]) = false := beq_no hxwPos
                  by_cases hxwNext : x = wNext
                  · have ex : x = [110, 101, 120, 116] := hxwNext
                    subst ex
                    go_wp2_with (at_builtin; refine wpList_append_own _ rfl _ _ 36 rfl w1.heap.size 9 i0 (.string ⟨#[]⟩) 1 16 Tryz.underlying36 hi0 hz0 hs0 hb0 rfl (by decide) _ _ _ rfl (World.ownsRow.alloc h5.out.2.2.2.1 _) ⟨wc.heap.size, 0, none⟩ 1 1 [str kForm] rfl rfl (cell_one_new _ _ _) one1 (wg_m1 h5.out.1.symm hn5 hj hN1) (wg_b1 h5.out.1.symm hn5 hj hN1) (wg_s h5.out.2.2.2.2) ?_; intro v5 w5 hown5 hg5 _)
                    go_roundw
                    case rel =>
                      obtain ⟨n6, c6, a6, rfl, hn6, hc6, I6⟩ := wg_pushed (add := [kForm]) h5.out.2.2.2.1 h5.out.2.2.2.2 hown5 hg5 (NX.out _ (rfl)) rfl (by decide) h5.out.2.2.1
                      exact ⟨j + 1, n6, c6, a6, _, by omega, by go_num, rfl, by have e := h5.out.1; simp only [List.length_append, List.length_cons, List.length_nil] at hn6; omega, hc6, hn6, I6⟩
                    case measure => simp [intOf]; omega
                  have nwNext : (x == [110, 101, 120, 116]) = false := beq_no hxwNext
                  by_cases hxwAlways : x = wAlways
                  · have ex : x = [97, 108, 119, 97, 121, 115] := hxwAlways
                    subst ex
                    go_wp2_with (at_builtin; refine wpList_append_own _ rfl _ _ 36 rfl w1.heap.size 9 i0 (.string ⟨#[]⟩) 1 16 Tryz.underlying36 hi0 hz0 hs0 hb0 rfl (by decide) _ _ _ rfl (World.ownsRow.alloc h5.out.2.2.2.1 _) ⟨wc.heap.size, 0, none⟩ 1 1 [str kForm] rfl rfl (cell_one_new _ _ _) one1 (wg_m1 h5.out.1.symm hn5 hj hN1) (wg_b1 h5.out.1.symm hn5 hj hN1) (wg_s h5.out.2.2.2.2) ?_; intro v5 w5 hown5 hg5 _)
                    go_roundw
                    case rel =>
                      obtain ⟨n6, c6, a6, rfl, hn6, hc6, I6⟩ := wg_pushed (add := [kForm]) h5.out.2.2.2.1 h5.out.2.2.2.2 hown5 hg5 (NX.out _ (rfl)) rfl (by decide) h5.out.2.2.1
                      exact ⟨j + 1, n6, c6, a6, _, by omega, by go_num, rfl, by have e := h5.out.1; simp only [List.length_append, List.length_cons, List.length_nil] at hn6; omega, hc6, hn6, I6⟩
                    case measure => simp [intOf]; omega
                  have nwAlways : (x == [97, 108, 119, 97, 121, 115]) = false := beq_no hxwAlways
                  by_cases hxwFor : x = wFor
                  · have ex : x = [102, 111, 114] := hxwFor
                    subst ex
                    go_wp2_with (at_builtin; refine wpList_append_own _ rfl _ _ 36 rfl w1.heap.size 9 i0 (.string ⟨#[]⟩) 1 16 Tryz.underlying36 hi0 hz0 hs0 hb0 rfl (by decide) _ _ _ rfl (World.ownsRow.alloc h5.out.2.2.2.1 _) ⟨wc.heap.size, 0, none⟩ 3 3 [str kForm, str kBound, str kKind] rfl rfl (news3 _ _ _ _ _) one3 (wg_m3 h5.out.1.symm hn5 hj hN1) (wg_b3 h5.out.1.symm hn5 hj hN1) (wg_s h5.out.2.2.2.2) ?_; intro v5 w5 hown5 hg5 _)
                    go_roundw
                    case rel =>
                      obtain ⟨n6, c6, a6, rfl, hn6, hc6, I6⟩ := wg_pushed (add := [kKind, kBound, kForm]) h5.out.2.2.2.1 h5.out.2.2.2.2 hown5 hg5 (NX.out _ (rfl)) rfl (by decide) h5.out.2.2.1
                      exact ⟨j + 1, n6, c6, a6, _, by omega, by go_num, rfl, by have e := h5.out.1; simp only [List.length_append, List.length_cons, List.length_nil] at hn6; omega, hc6, hn6, I6⟩
                    case measure => simp [intOf]; omega
                  have nwFor : (x == [102, 111, 114]) = false := beq_no hxwFor
                  by_cases hxwBoth : x = wBoth
                  · have ex : x = [98, 111, 116, 104] := hxwBoth
                    subst ex
                    go_wp2_with (at_builtin; refine wpList_append_own _ rfl _ _ 36 rfl w1.heap.size 9 i0 (.string ⟨#[]⟩) 1 16 Tryz.underlying36 hi0 hz0 hs0 hb0 rfl (by decide) _ _ _ rfl (World.ownsRow.alloc h5.out.2.2.2.1 _) ⟨wc.heap.size, 0, none⟩ 3 3 [str kForm, str wAnd, str kForm] rfl rfl (news3 _ _ _ _ _) one3 (wg_m3 h5.out.1.symm hn5 hj hN1) (wg_b3 h5.out.1.symm hn5 hj hN1) (wg_s h5.out.2.2.2.2) ?_; intro v5 w5 hown5 hg5 _)
                    go_roundw
                    case rel =>
                      obtain ⟨n6, c6, a6, rfl, hn6, hc6, I6⟩ := wg_pushed (add := [kForm, wAnd, kForm]) h5.out.2.2.2.1 h5.out.2.2.2.2 hown5 hg5 (NX.out _ (rfl)) rfl (by decide) h5.out.2.2.1
                      exact ⟨j + 1, n6, c6, a6, _, by omega, by go_num, rfl, by have e := h5.out.1; simp only [List.length_append, List.length_cons, List.length_nil] at hn6; omega, hc6, hn6, I6⟩
                    case measure => simp [intOf]; omega
                  have nwBoth : (x == [98, 111, 116, 104]) = false := beq_no hxwBoth
                  by_cases hxwEither : x = wEither
                  · have ex : x = [101, 105, 116, 104, 101, 114] := hxwEither
                    subst ex
                    go_wp2_with (at_builtin; refine wpList_append_own _ rfl _ _ 36 rfl w1.heap.size 9 i0 (.string ⟨#[]⟩) 1 16 Tryz.underlying36 hi0 hz0 hs0 hb0 rfl (by decide) _ _ _ rfl (World.ownsRow.alloc h5.out.2.2.2.1 _) ⟨wc.heap.size, 0, none⟩ 3 3 [str kForm, str wOr, str kForm] rfl rfl (news3 _ _ _ _ _) one3 (wg_m3 h5.out.1.symm hn5 hj hN1) (wg_b3 h5.out.1.symm hn5 hj hN1) (wg_s h5.out.2.2.2.2) ?_; intro v5 w5 hown5 hg5 _)
                    go_roundw
                    case rel =>
                      obtain ⟨n6, c6, a6, rfl, hn6, hc6, I6⟩ := wg_pushed (add := [kForm, wOr, kForm]) h5.out.2.2.2.1 h5.out.2.2.2.2 hown5 hg5 (NX.out _ (rfl)) rfl (by decide) h5.out.2.2.1
                      exact ⟨j + 1, n6, c6, a6, _, by omega, by go_num, rfl, by have e := h5.out.1; simp only [List.length_append, List.length_cons, List.length_nil] at hn6; omega, hc6, hn6, I6⟩
                    case measure => simp [intOf]; omega
                  have nwEither : (x == [101, 105, 116, 104, 101, 114]) = false := beq_no hxwEither
                  by_cases hxwIf : x = wIf
                  · have ex : x = [105, 102] := hxwIf
                    subst ex
                    go_wp2_with (at_builtin; refine wpList_append_own _ rfl _ _ 36 rfl w1.heap.size 9 i0 (.string ⟨#[]⟩) 1 16 Tryz.underlying36 hi0 hz0 hs0 hb0 rfl (by decide) _ _ _ rfl (World.ownsRow.alloc h5.out.2.2.2.1 _) ⟨wc.heap.size, 0, none⟩ 3 3 [str kForm, str wThen, str kForm] rfl rfl (news3 _ _ _ _ _) one3 (wg_m3 h5.out.1.symm hn5 hj hN1) (wg_b3 h5.out.1.symm hn5 hj hN1) (wg_s h5.out.2.2.2.2) ?_; intro v5 w5 hown5 hg5 _)
                    go_roundw
                    case rel =>
                      obtain ⟨n6, c6, a6, rfl, hn6, hc6, I6⟩ := wg_pushed (add := [kForm, wThen, kForm]) h5.out.2.2.2.1 h5.out.2.2.2.2 hown5 hg5 (NX.out _ (rfl)) rfl (by decide) h5.out.2.2.1
                      exact ⟨j + 1, n6, c6, a6, _, by omega, by go_num, rfl, by have e := h5.out.1; simp only [List.length_append, List.length_cons, List.length_nil] at hn6; omega, hc6, hn6, I6⟩
                    case measure => simp [intOf]; omega
                  have nwIf : (x == [105, 102]) = false := beq_no hxwIf
                  by_cases hxwAs : x = wAs
                  · have ex : x = [97, 115] := hxwAs
                    subst ex
                    go_wp2_with (at_builtin; refine wpList_append_own _ rfl _ _ 36 rfl w1.heap.size 9 i0 (.string ⟨#[]⟩) 1 16 Tryz.underlying36 hi0 hz0 hs0 hb0 rfl (by decide) _ _ _ rfl (World.ownsRow.alloc h5.out.2.2.2.1 _) ⟨wc.heap.size, 0, none⟩ 3 3 [str kForm, str wSo, str kForm] rfl rfl (news3 _ _ _ _ _) one3 (wg_m3 h5.out.1.symm hn5 hj hN1) (wg_b3 h5.out.1.symm hn5 hj hN1) (wg_s h5.out.2.2.2.2) ?_; intro v5 w5 hown5 hg5 _)
                    go_roundw
                    case rel =>
                      obtain ⟨n6, c6, a6, rfl, hn6, hc6, I6⟩ := wg_pushed (add := [kForm, wSo, kForm]) h5.out.2.2.2.1 h5.out.2.2.2.2 hown5 hg5 (NX.out _ (rfl)) rfl (by decide) h5.out.2.2.1
                      exact ⟨j + 1, n6, c6, a6, _, by omega, by go_num, rfl, by have e := h5.out.1; simp only [List.length_append, List.length_cons, List.length_nil] at hn6; omega, hc6, hn6, I6⟩
                    case measure => simp [intOf]; omega
                  have nwAs : (x == [97, 115]) = false := beq_no hxwAs
                  by_cases hxwWhile : x = wWhile
                  · have ex : x = [119, 104, 105, 108, 101] := hxwWhile
                    subst ex
                    go_wp2_with (at_builtin; refine wpList_append_own _ rfl _ _ 36 rfl w1.heap.size 9 i0 (.string ⟨#[]⟩) 1 16 Tryz.underlying36 hi0 hz0 hs0 hb0 rfl (by decide) _ _ _ rfl (World.ownsRow.alloc h5.out.2.2.2.1 _) ⟨wc.heap.size, 0, none⟩ 3 3 [str kForm, str wUntil, str kForm] rfl rfl (news3 _ _ _ _ _) one3 (wg_m3 h5.out.1.symm hn5 hj hN1) (wg_b3 h5.out.1.symm hn5 hj hN1) (wg_s h5.out.2.2.2.2) ?_; intro v5 w5 hown5 hg5 _)
                    go_roundw
                    case rel =>
                      obtain ⟨n6, c6, a6, rfl, hn6, hc6, I6⟩ := wg_pushed (add := [kForm, wUntil, kForm]) h5.out.2.2.2.1 h5.out.2.2.2.2 hown5 hg5 (NX.out _ (rfl)) rfl (by decide) h5.out.2.2.1
                      exact ⟨j + 1, n6, c6, a6, _, by omega, by go_num, rfl, by have e := h5.out.1; simp only [List.length_append, List.length_cons, List.length_nil] at hn6; omega, hc6, hn6, I6⟩
                    case measure => simp [intOf]; omega
                  have nwWhile : (x == [119, 104, 105, 108, 101]) = false := beq_no hxwWhile
                  have NO1 : Hid (oneOp x = 0 ∧ twoOp x = 0 ∧ x ≠ wFalse ∧ x ≠ wFor) := ⟨by simp [oneOp, hxwNot, hxwNec, hxwPos, hxwNext, hxwAlways], by simp [twoOp, hxwBoth, hxwEither, hxwIf, hxwAs, hxwWhile], hxwFalse, hxwFor⟩
                  clear hxwFalse hxwNot hxwNec hxwPos hxwNext hxwAlways hxwFor hxwBoth hxwEither hxwIf hxwAs hxwWhile
                  cases bp : predName x with
                  | true =>
                    have HP := Lib.hid bp
                    clear bp
                    go_wp2_with (first | (go_at_call 216; refine (Predicate2_c x _ hxl).mono ?_; rintro e w6 ⟨rfl, rfl⟩; rw [show predName x = _ from HP.out]) | (at_builtin; refine wpList_append_own _ rfl _ _ 36 rfl w1.heap.size 9 i0 (.string ⟨#[]⟩) 1 16 Tryz.underlying36 hi0 hz0 hs0 hb0 rfl (by decide) _ _ _ rfl (World.ownsRow.alloc h5.out.2.2.2.1 _) ⟨wc.heap.size, 0, none⟩ 1 1 [str kOf] rfl rfl (cell_one_new _ _ _) one1 (wg_m1 h5.out.1.symm hn5 hj hN1) (wg_b1 h5.out.1.symm hn5 hj hN1) (wg_s h5.out.2.2.2.2) ?_; intro v5 w5 hown5 hg5 _))
                    go_roundw
                    case rel =>
                      obtain ⟨n6, c6, a6, rfl, hn6, hc6, I6⟩ := wg_pushed (add := [kOf]) h5.out.2.2.2.1 h5.out.2.2.2.2 hown5 hg5 (NX.out _ (kstep_pred NO1.out HP.out)) rfl (by decide) h5.out.2.2.1
                      exact ⟨j + 1, n6, c6, a6, _, by omega, by go_num, rfl, by have e := h5.out.1; simp only [List.length_append, List.length_cons, List.length_nil] at hn6; omega, hc6, hn6, I6⟩
                    case measure => simp [intOf]; omega
                  | false =>
                    have HP := Lib.hid bp
                    clear bp
                    go_wp2_with (go_at_call 216; refine (Predicate2_c x _ hxl).mono ?_; rintro e w6 ⟨rfl, rfl⟩; rw [show predName x = _ from HP.out])
                    go_ret
                    refine ⟨?_, belowThen B1.out h5.out.2.2.2.2⟩
                    rw [FIN.out (kstep_pred_no NO1.out HP.out)]
                    rfl
                · have n5' : (T == [97, 32, 102, 111, 114, 109, 117, 108, 97]) = false := beq_no hTkForm
                  have KD : Hid (kStep T st5 x = if x = T then some st5 else none) := by simp only [Hid, kStep, if_neg hTkAnd, if_neg hTkTerm, if_neg hTkBound, if_neg hTkKind, if_neg hTkForm]
                  clear hTkAnd hTkTerm hTkBound hTkKind hTkForm
                  by_cases hxT : x = T
                  · have t1 : (x == T) = true := by simpa using hxT
                    have HXT := Lib.hid hxT
                    clear hxT
                    go_wp2_with (fail)
                    go_roundw
                    case rel => exact ⟨j + 1, n5, c5, a5, st5, by omega, by go_num, rfl, by omega, hc5, h5.out.1, ⟨h5.out.2.2.2.1, NX.out _ (KD.out.trans (if_pos HXT.out)), h5.out.2.2.2.2, last_tail h5.out.2.2.1⟩⟩
                    case measure => simp [intOf]; omega
                  · have t1 : (x == T) = false := beq_no hxT
                    have HXT := Lib.hid hxT
                    clear hxT
                    go_wp2_with (fail)
                    go_ret
                    refine ⟨?_, belowThen B1.out h5.out.2.2.2.2⟩
                    rw [FIN.out (KD.out.trans (if_neg HXT.out))]
                    rfl
    · have hjN : j = N := by omega
      have HDR : Hid (kRun [kForm] L = if st.all (· == kOf) then none else some []) := by
        show _ = _
        rw [hs.out.2.run, List.drop_of_length_le (by rw [LN.out, hjN]; exact Nat.le_refl _)]
        rfl
      have OW := Lib.hid hs.out.2.own
      have BW := Lib.hid hs.out.2.bw
      have HNL : Hid (st.reverse.length = n) := by show _ = _; rw [List.length_reverse]; exact hs.out.1.symm
      clear hs
      subst hjN
      go_wp2_with fail
      go_loopw [8] (fun i wx => ∃ q : Nat, q ≤ n ∧ i = .int .i64 q ∧ Hid (Below wr.heap.size wr wx ∧ ∀ y ∈ st.reverse.take q, y = kOf)) (fun i _ => n - (intOf i).toNat)
      case atStart => exact ⟨0, Nat.zero_le _, rfl, Below.refl _ _, by simp⟩
      case round =>
        obtain ⟨q, hq, rfl, hs⟩ := hrel
        by_cases hlt2 : q < n
        · obtain ⟨y, hy⟩ := get_of_lt (l := st.reverse) (j := q) (by rw [HNL.out]; exact hlt2)
          obtain ⟨g, cap', hv⟩ := own_slice OW.out (ne_of_get hy)
          simp only [Value.slice.injEq] at hv
          obtain ⟨rfl, -, -⟩ := hv
          have cy := keeps_of_below hs.out.1 _ _ (own_cell OW.out hy).1
          have HY := Lib.hid hy
          clear hy
          by_cases hk : y = kOf
          · have t1 : (y == [111, 102, 63]) = true := by rw [hk]; rfl
            have t2 : (y != [111, 102, 63]) = false := by rw [hk]; rfl
            have HK := Lib.hid hk
            clear hk
            go_wp2_with fail
            go_roundw
            case rel =>
              refine ⟨q + 1, by omega, by go_num, hs.out.1, fun z hz => ?_⟩
              rw [List.take_add_one, HY.out] at hz
              rcases List.mem_append.1 hz with h | h
              · exact hs.out.2 z h
              · have e : z = y := by simpa using h
                rw [e, HK.out]
            case measure => simp [intOf]; omega
          · have t1 : (y == [111, 102, 63]) = false := beq_no hk
            have t2 : (y != [111, 102, 63]) = true := by rw [bne, t1]; rfl
            have HK := Lib.hid hk
            clear hk
            have W0 : Hid (wgAns L = (j : Int)) := by
              have hall : st.all (· == kOf) = false := by
                rw [List.all_eq_false]
                exact ⟨y, List.mem_reverse.1 (List.mem_of_getElem? HY.out), by simpa using HK.out⟩
              show wgAns L = _
              unfold wgAns
              rw [HDR.out, hall]
              simp [LN.out]
            go_wp2_with fail
            go_ret
            refine ⟨?_, belowThen (belowThen B1.out BW.out) hs.out.1⟩
            rw [W0.out]
            rfl
        · have W0 : Hid (wgAns L = (-1 : Int)) := by
            have hall : st.all (· == kOf) = true := by
              rw [List.all_eq_true]
              intro y hy
              have h := hs.out.2 y (by rw [List.take_of_length_le (by rw [HNL.out]; omega)]; exact List.mem_reverse.2 hy)
              rw [h]; rfl
            show wgAns L = _
            unfold wgAns
            rw [HDR.out, hall]
            rfl
          go_wp2_with fail
          go_ret
          refine ⟨?_, belowThen (belowThen B1.out BW.out) hs.out.1⟩
          rw [W0.out]
          rfl
end Go.Proofs.YtcandidgaegghaaGreatDoor
