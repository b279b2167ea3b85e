/- lyceumref41: term, words, text. Conditions: texts of at most a million bytes. lyceumref41: Form, digits, outline, Outline. Conditions: at most a million nodes; names fit into memory. lyceumref41: Form, outline, Outline. Conditions: at most a million nodes; names fit into memory. -/
import Derived.Test.YtcandidgaegghaaGreatDoorPlK
import Derived.Test.YtcandidgaegghaaGreatDoorFormB
import Derived.Test.YtcandidgaegghaaGreatDoorRefEZ
import Derived.Test.YtcandidgaegghaaGreatDoorOutl
section
namespace Go.Proofs.YtcandidgaegghaaGreatDoor
open Go Go.RowKit Ly
set_option maxRecDepth 10000
set_option linter.unusedSimpArgs false
set_option linter.unusedVariables false
set_option maxHeartbeats 1600000
def TeC (n : Bs) (ts : List Tm) : Prop := ∀ (a : Option Addr) (k c : Nat) (w : World), TmsAt w ts (.slice a k c) → (joinSp (termWords n ts)).length ≤ 1000000 → Calls Tryz.prog 212 #[str n, .slice a k c] w fun e w' => e = .returned (str (joinSp (termWords n ts))) ∧ ∃ m, w' = w.drewN m
theorem te_step (n : Bs) (ts : List Tm) (hh : ∀ t ∈ ts, TeC t.name t.args) : TeC n ts := by
  intro a k c w hx hl
  have hk := hx.len
  have hlk : k ≤ 9223372036854775807 := by have := le63 hk.2.2; omega
  have hn : n.length ≤ 1000000 := by have := teTo_le n ts 0; rw [teTo_zero] at this; omega
  have L1 := Lib.hid hk.1
  have H := Lib.hid hh
  have HX := Lib.hid hx
  have HL := Lib.hid hl
  have HLE : Hid (∀ i, (teTo n ts i).length ≤ 1000000) := fun i => Nat.le_trans (teTo_le n ts i) hl
  clear hk hh hx hl
  go_enter Tryz.func212, Tryz.ntmps212
  go_wp2_with fail
  go_loopw [5, 6] (fun u i wr => ∃ (j m : Nat) (U : Bs), j ≤ k ∧ i = .int .i64 j ∧ u = str U ∧ wr = w.drewN m ∧ U.length ≤ 1000000 ∧ Hid (U = teTo n ts j)) (fun _ i _ => k - (intOf i).toNat)
  case atStart => exact ⟨0, 0, n, Nat.zero_le _, rfl, rfl, rfl, hn, (teTo_zero n ts).symm⟩
  case round =>
    obtain ⟨j, m, U, hj, rfl, rfl, rfl, hU, hs⟩ := hrel
    clear hn
    by_cases hlt : j < k
    · obtain ⟨T, hT⟩ := get_of_lt (l := ts) (j := j) (by rw [← L1.out]; exact hlt)
      obtain ⟨bb, off, rfl, hc⟩ := HX.out.get (ne_of_get hT)
      obtain ⟨y0, y1, y2, hy⟩ := hc j _ hT
      have c0 := hy.c0; have c1 := hy.c1; have c2 := hy.c2
      have hX : (joinSp (termWords T.name T.args)).length ≤ 1000000 := Nat.le_trans (te_part_le hT) HL.out
      have R : Hid (∀ p, Calls Tryz.prog 212 #[str T.name, .slice y0 y1 y2] (w.drewN (m + p)) fun e w'' => e = .returned (str (joinSp (termWords T.name T.args))) ∧ ∃ q, w'' = w.drewN (m + q)) := fun p =>
        (H.out T (List.mem_of_getElem? hT) _ _ _ _ (hy.at_.keep (w' := w.drewN (m + p)) (fun _ _ h => h)) hX).mono fun e w2 ⟨h1, q, h2⟩ => ⟨h1, p + q, by rw [h2, World.drewN_drewN, Nat.add_assoc]⟩
      have TK := Lib.hid (teTo_succ (n := n) hT)
      generalize joinSp (termWords T.name T.args) = X at R TK hX
      clear hc hy hT
      by_cases h0 : j = 0
      · subst h0
        go_wp2_with fail
        go_quiet (first | (go_at_call 212; exact R.out _))
        go_wp2_with fail
        go_roundw
        case rel =>
          refine ⟨1, _, teTo n ts 1, by omega, by go_num, ?_, rfl, HLE.out 1, rfl⟩
          have e := TK.out
          rw [e, ← hs.out]
          simp [bytes_app, wOf]
        case measure => simp [intOf]; omega
      · go_wp2_with fail
        go_quiet (first | (go_at_call 212; exact R.out _))
        go_wp2_with fail
        go_roundw
        case rel =>
          refine ⟨j + 1, _, teTo n ts (j + 1), by omega, by go_num, ?_, rfl, HLE.out (j + 1), rfl⟩
          have e := TK.out
          rw [e, ← hs.out, if_neg h0]
          simp [bytes_app, wAnd]
        case measure => simp [intOf]; omega
    · have EQ := Lib.hid (teTo_end n ts)
      have hjk : j = k := by omega
      by_cases h0 : k = 0
      · subst h0
        go_wp2_with fail
        go_ret
        refine ⟨?_, _, rfl⟩
        rw [EQ.out, hs.out, if_pos L1.out.symm, hjk, teTo_zero]
        rfl
      · go_wp2_with fail
        go_ret
        refine ⟨?_, _, rfl⟩
        rw [EQ.out, hs.out, if_neg (by rw [← L1.out]; exact h0), ← L1.out, hjk]
        simp [bytes_app, wClose]
mutual
theorem te_c : ∀ t : Tm, TeC t.name t.args
  | .mk _ n ts => te_step n ts (te_all ts)
theorem te_all : ∀ l : List Tm, ∀ t ∈ l, TeC t.name t.args
  | [], _, h => by cases h
  | x :: xs, t, h => by
    rcases List.mem_cons.1 h with e | e
    · rw [e]; exact te_c x
    · exact te_all xs t e
end
theorem te_any (n : Bs) (ts : List Tm) : TeC n ts := te_c (.mk true n ts)
def wdFirst (op : Int) (n : Bs) : Bs := if op = 1 ∨ op = 2 then wFalse else signFirst op n
def wdBetween (op : Int) : Bs := if op = 1 ∨ op = 2 then [] else signBetween op
theorem wd_c (op : Int) (h : 1 ≤ op ∧ op ≤ 14) (n : Bs) (hn : n.length ≤ 1000000) (a : Option Addr) (k c : Nat) (a' : Option Addr) (m d : Nat) (w : World) :
    Calls Tryz.prog 213 #[.agg #[.int .u8 op, str n, .slice a k c, .slice a' m d]] w fun e w' => e = .returned (.tuple #[str (wdFirst op n), str (wdBetween op)]) ∧ Below w.heap.size w w' := by
  have HB : Hid (Below w.heap.size w (w.alloc (.cells #[.int .u8 op, str n, .slice a k c, .slice a' m d] 25))) := (Below.refl _ _).alloc (Nat.le_refl _) _
  rcases (show op = 1 ∨ op = 2 ∨ op = 3 ∨ op = 4 ∨ op = 5 ∨ op = 6 ∨ op = 7 ∨ op = 8 ∨ op = 9 ∨ op = 10 ∨ op = 11 ∨ op = 12 ∨ op = 13 ∨ op = 14 by omega) with rfl | rfl | rfl | rfl | rfl | rfl | rfl | rfl | rfl | rfl | rfl | rfl | rfl | rfl
  all_goals
    clear h
    go_enter Tryz.func213, Tryz.ntmps213
    go_wp2_with fail
    go_ret2
    refine ⟨?_, HB.out⟩
    simp [bytes_app, wdFirst, wdBetween, signFirst, signBetween, wFalse, wNot, wNec, wPos, wNext, wAlways, wFor, wAll, wSome, wBoth, wEither, wIf, wAs, wWhile, wAnd, wOr, wThen, wSo, wUntil]
def FmT (f : Fm) : Prop := ∀ (w0 w : World) (x : Value), FmVal w0 f x → Below w0.heap.size w0 w → f.ok = true → f.text.length ≤ 1000000 → Calls Tryz.prog 131 #[x] w fun e w' => e = .returned (str f.text) ∧ Below w.heap.size w w'
theorem tx_part {op : Int} {n : Bs} {fs : List Fm} {i : Nat} {T : Fm} (h : fs[i]? = some T) (hi : i ≤ 1) : T.text.length ≤ (txTo op n fs (i + 1)).length := by
  rcases (show i = 0 ∨ i = 1 by omega) with rfl | rfl
  · rw [txTo_one h]; simp; omega
  · rw [txTo_two h]; simp; omega
theorem tx_step (op : Int) (n : Bs) (ts : List Tm) (fs : List Fm) (hh : ∀ f ∈ fs, FmT f) : FmT (.mk op n ts fs) := by
  intro w0 w x hx hw hok hl
  obtain ⟨a, k, c, a', m, d, rfl, hx, hx2⟩ := hx
  simp only [Fm.op, Fm.name, Fm.args, Fm.sub] at *
  obtain ⟨-, -, hm1, ho1, ho2, -, hsub⟩ := nameFits_of hok
  have hnm := name_le hok
  have har : fs.length ≤ 2 := by
    simp only [Fm.ok, Bool.and_eq_true, decide_eq_true_eq] at hok
    exact hok.1.1.1.2
  have hm := hx2.len
  have hlm : m ≤ 9223372036854775807 := by have := le63 hm.2.2; omega
  have L2 := Lib.hid hm.1
  have H := Lib.hid hh
  have HX := Lib.hid hx
  have HX2 := Lib.hid hx2
  have HW := Lib.hid hw
  have HOK := Lib.hid (fmsOk_mem hsub)
  have hn : n.length ≤ 1000000 := by omega
  have hm2 : m ≤ 2 := by omega
  have NEW := Lib.hid (heap_alloc_new w (.cells #[.int .u8 op, str n, .slice a k c, .slice a' m d] 25))
  have HB : Hid (Below w.heap.size w (w.alloc (.cells #[.int .u8 op, str n, .slice a k c, .slice a' m d] 25))) := (Below.refl _ _).alloc (Nat.le_refl _) _
  by_cases o1 : op = 1
  · subst o1
    have et : (Fm.mk 1 n ts fs).text = joinSp (termWords n ts) := by simp [Fm.text, Fm.words]
    have R : Hid (∀ W, Below w.heap.size w W → Calls Tryz.prog 212 #[str n, .slice a k c] W fun e w'' => e = .returned (str (joinSp (termWords n ts))) ∧ ∃ q, w'' = W.drewN q) := fun W b =>
      te_any n ts _ _ _ W (hx.keep (keeps_of_below (belowThen hw b))) (by rw [← et]; exact hl)
    rw [et]
    clear hm hh hx hx2 hw hok hl hsub ho1 ho2
    go_enter Tryz.func131, Tryz.ntmps131
    go_wp2_with (go_at_call 212; refine (R.out _ HB.out).mono ?_; rintro e w1 ⟨rfl, q, rfl⟩)
    go_ret
    exact ⟨rfl, HB.out.trans ⟨rfl, rfl, rfl, Nat.le_refl _, fun _ _ => rfl⟩⟩
  · have RWD : Hid (∀ W, Calls Tryz.prog 213 #[.agg #[.int .u8 op, str n, .slice a k c, .slice a' m d]] W fun e w' => e = .returned (.tuple #[str (wdFirst op n), str (wdBetween op)]) ∧ Below W.heap.size W w') := fun W => wd_c op (by omega) n hn a k c a' m d W
    by_cases o2 : op = 2
    · subst o2
      have et : (Fm.mk 2 n ts fs).text = wFalse := by simp [Fm.text, Fm.words, joinSp]
      have hm0 : m = 0 := by
        have : arity 2 = 0 := by decide
        omega
      subst hm0
      rw [et]
      clear hm hh hx hx2 hw hok hl hsub ho1 ho2
      go_enter Tryz.func131, Tryz.ntmps131
      go_wp2_with (go_at_call 213; refine (RWD.out _).mono ?_; rintro e w1 ⟨rfl, b1⟩; have B1 := Lib.hid (belowThen HB.out b1); have N1 := Lib.hid (kc b1 NEW.out); clear b1; obtain ⟨x0, x1, x2, x3, -, -, -, -⟩ := row25' N1.out)
      go_loopw [3, 5] (fun u i wr => u = str wFalse ∧ i = .int .i64 0 ∧ Hid (Below w.heap.size w wr ∧ wr.heap[w.heap.size]? = some (.cells #[.int .u8 2, str n, .slice a k c, .slice a' 0 d] 25 (0, 0)))) (fun _ i _ => 0)
      case atStart => exact ⟨rfl, rfl, B1.out, N1.out⟩
      case round =>
        obtain ⟨rfl, rfl, hs⟩ := hrel
        clear x0 x1 x2 x3
        obtain ⟨x0, x1, x2, x3, -, -, -, -⟩ := row25' hs.out.2
        go_wp2_with fail
        go_ret
        exact ⟨rfl, hs.out.1⟩
    · have HLE : Hid (∀ i, (txTo op n fs i).length ≤ 1000000) := fun i => Nat.le_trans (txTo_le (ts := ts) o1 o2 i) hl
      have ET : Hid ((Fm.mk op n ts fs).text = txTo op n fs fs.length) := txTo_end o1 o2
      have hF : Hid (wdFirst op n = txTo op n fs 0) := by show _ = _; rw [txTo_zero, wdFirst, if_neg (by omega)]
      have hFl : (wdFirst op n).length ≤ 1000000 := by rw [hF.out]; exact HLE.out 0
      have hBt : wdBetween op = signBetween op := if_neg (by omega)
      have hBl : (wdBetween op).length ≤ 1000000 := by rw [hBt]; have := (sign_len op n).2; omega
      have HBT := Lib.hid hBt
      generalize wdFirst op n = F at RWD hF hFl
      generalize wdBetween op = B at RWD HBT hBl
      clear hm hh hx hx2 hw hok hl hsub ho1 ho2 o2 hn hBt
      go_enter Tryz.func131, Tryz.ntmps131
      go_wp2_with (go_at_call 213; refine (RWD.out _).mono ?_; rintro e w1 ⟨rfl, b1⟩; have B1 := Lib.hid (belowThen HB.out b1); have N1 := Lib.hid (kc b1 NEW.out); clear b1; obtain ⟨x0, x1, x2, x3, -, -, -, -⟩ := row25' N1.out)
      clear x0 x1 x2 x3
      go_loopw [3, 5] (fun u i wr => ∃ (j : Nat) (U : Bs), j ≤ m ∧ i = .int .i64 j ∧ u = str U ∧ U.length ≤ 1000000 ∧ Hid (U = txTo op n fs j ∧ Below w.heap.size w wr ∧ wr.heap[w.heap.size]? = some (.cells #[.int .u8 op, str n, .slice a k c, .slice a' m d] 25 (0, 0)))) (fun _ i _ => m - (intOf i).toNat)
      case atStart => exact ⟨0, F, Nat.zero_le _, rfl, rfl, hFl, hF.out, B1.out, N1.out⟩
      case round =>
        clear B1 N1 hF hFl
        obtain ⟨j, U, hj, rfl, rfl, hU, hs⟩ := hrel
        obtain ⟨x0, x1, x2, x3, -, -, -, -⟩ := row25' hs.out.2.2
        by_cases hlt : j < m
        · obtain ⟨T, hT⟩ := get_of_lt (l := fs) (j := j) (by rw [← L2.out]; exact hlt)
          obtain ⟨bb, off, rfl, hc⟩ := HX2.out.get (ne_of_get hT)
          obtain ⟨y0, y1, y2, y3, y4, y5, hy⟩ := hc j _ hT
          have hK := keeps_of_below (belowThen HW.out hs.out.2.1)
          have c0 := hK _ _ hy.c0; have c1 := hK _ _ hy.c1; have c2 := hK _ _ hy.c2; have c3 := hK _ _ hy.c3
          have X : Hid (FmVal w0 T (.agg #[.int .u8 T.op, str T.name, .slice y0 y1 y2, .slice y3 y4 y5])) := ⟨_, _, _, _, _, _, rfl, hy.at_, hy.at'⟩
          have HM := Lib.hid (List.mem_of_getElem? hT)
          have HT := Lib.hid hT
          have hTl : T.text.length ≤ 1000000 := Nat.le_trans (tx_part hT (by omega)) (HLE.out (j + 1))
          have R : Hid (∀ W, Below w0.heap.size w0 W → Calls Tryz.prog 131 #[.agg #[.int .u8 T.op, str T.name, .slice y0 y1 y2, .slice y3 y4 y5]] W fun e w' => e = .returned (str T.text) ∧ Below W.heap.size W w') := fun W b => H.out T HM.out w0 W _ X.out b (HOK.out T HM.out) hTl
          obtain ⟨V, hV⟩ : ∃ V, T.text = V := ⟨_, rfl⟩
          have HV := Lib.hid hV
          rw [hV] at R hTl
          clear hc hy hT hK hV
          rcases (show j = 0 ∨ j = 1 by omega) with rfl | rfl
          · simp only [Nat.zero_mul, Nat.add_zero] at c0 c1 c2 c3
            go_wp2_with (go_at_call 131; refine (R.out _ (belowThen HW.out hs.out.2.1)).mono ?_; rintro e w3 ⟨rfl, b3⟩)
            go_roundw
            case rel =>
              refine ⟨1, txTo op n fs 1, by omega, by go_num, ?_, HLE.out 1, rfl, belowThen hs.out.2.1 b3, kc b3 hs.out.2.2⟩
              rw [txTo_one HT.out, ← hs.out.1, HV.out]
              simp [bytes_app]
            case measure => simp [intOf]; omega
          · go_wp2_with (go_at_call 131; refine (R.out _ (belowThen HW.out hs.out.2.1)).mono ?_; rintro e w3 ⟨rfl, b3⟩)
            go_roundw
            case rel =>
              refine ⟨2, txTo op n fs 2, by omega, by go_num, ?_, HLE.out 2, rfl, belowThen hs.out.2.1 b3, kc b3 hs.out.2.2⟩
              rw [txTo_two HT.out, ← hs.out.1, HV.out, ← HBT.out]
              simp [bytes_app]
            case measure => simp [intOf]; omega
        · go_wp2_with fail
          go_ret
          refine ⟨?_, hs.out.2.1⟩
          have hjm : j = m := by omega
          rw [ET.out, ← L2.out, ← hjm, ← hs.out.1]
          rfl
mutual
theorem refText_c : ∀ t : Fm, FmT t
  | .mk o n ts fs => tx_step o n ts fs (refTextAll fs)
theorem refTextAll : ∀ l : List Fm, ∀ t ∈ l, FmT t
  | [], _, h => by cases h
  | x :: xs, t, h => by
    rcases List.mem_cons.1 h with e | e
    · rw [e]; exact refText_c x
    · exact refTextAll xs t e
end
end Go.Proofs.YtcandidgaegghaaGreatDoor
end
section
namespace Go.Proofs.YtcandidgaegghaaGreatDoor
open Go Go.RowKit Ly
set_option maxRecDepth 10000
set_option linter.unusedSimpArgs false
set_option linter.unusedVariables false
set_option maxHeartbeats 1600000
def dTo (m : Nat) (O : Bs) : Bs := if m = 0 then O else Lib.decDigits m ++ O
theorem dTo_step (m : Nat) (O : Bs) : Lib.decDigits m ++ O = dTo (m / 10) (UInt8.ofNat (48 + m % 10) :: O) := by
  unfold dTo
  by_cases h : m < 10
  · rw [Lib.decDigits_one h, if_pos (by omega), show m % 10 = m by omega]; rfl
  · rw [Lib.decDigits, dif_neg h, if_neg (by omega)]; simp
theorem enc0 : Utf8.encode 48 = ⟨#[48]⟩ := rfl
theorem enc1 : Utf8.encode 49 = ⟨#[49]⟩ := rfl
theorem enc2 : Utf8.encode 50 = ⟨#[50]⟩ := rfl
theorem enc3 : Utf8.encode 51 = ⟨#[51]⟩ := rfl
theorem enc4 : Utf8.encode 52 = ⟨#[52]⟩ := rfl
theorem enc5 : Utf8.encode 53 = ⟨#[53]⟩ := rfl
theorem enc6 : Utf8.encode 54 = ⟨#[54]⟩ := rfl
theorem enc7 : Utf8.encode 55 = ⟨#[55]⟩ := rfl
theorem enc8 : Utf8.encode 56 = ⟨#[56]⟩ := rfl
theorem enc9 : Utf8.encode 57 = ⟨#[57]⟩ := rfl
def strZ : Value → Nat
  | .string b => if b.data.size = 0 then 1 else 0
  | _ => 0
theorem digits_c (N : Nat) (hN : N ≤ 1000000) (w : World) : Calls Tryz.prog 73 #[.int .i64 N] w fun e w' => e = .returned (str (Lib.decDigits N)) ∧ w = w' := by
  go_enter Tryz.func73, Tryz.ntmps73
  go_wp2_with fail
  go_loopw [0, 3] (fun n u wr => ∃ (m : Nat) (O : Bs), n = .int .i64 m ∧ u = str O ∧ m ≤ N ∧ O.length + m ≤ 1000100 ∧ w = wr ∧ Hid ((O = [] ∧ m = N) ∨ (O ≠ [] ∧ dTo m O = Lib.decDigits N))) (fun n u _ => (intOf n).toNat + strZ u)
  case atStart => exact ⟨N, [], rfl, rfl, Nat.le_refl _, by simp; omega, rfl, .inl ⟨rfl, rfl⟩⟩
  case round =>
    obtain ⟨m, O, rfl, rfl, hm, hO, rfl, hs⟩ := hrel
    by_cases hgo : O = [] ∨ 0 < m
    · have ST : Hid (dTo (m / 10) (UInt8.ofNat (48 + m % 10) :: O) = Lib.decDigits N) := by
        show _ = _
        rw [← dTo_step]
        rcases hs.out with ⟨rfl, rfl⟩ | ⟨h1, h2⟩
        · simp
        · rcases hgo with h | h
          · exact absurd h h1
          · rw [← h2, dTo, if_neg (by omega)]
      have hd : (m : Int).tdiv 10 = ((m / 10 : Nat) : Int) := by rw [Int.tdiv_eq_ediv_of_nonneg (by omega)]; omega
      have hr := Nat.mod_lt m (show 0 < 10 by decide)
      have hmod : (m : Int).tmod 10 = ((m % 10 : Nat) : Int) := by rw [Int.tmod_eq_emod_of_nonneg (by omega)]; omega
      generalize hq : m / 10 = q at *
      generalize hrr : m % 10 = r at *
      have HQ := Lib.hid hq
      have HR := Lib.hid hrr
      have q1 : q ≤ 1000000 := by omega
      clear hq hrr
      rcases hgo with rfl | hpos
      · rcases (show r = 0 ∨ r = 1 ∨ r = 2 ∨ r = 3 ∨ r = 4 ∨ r = 5 ∨ r = 6 ∨ r = 7 ∨ r = 8 ∨ r = 9 by omega) with rfl | rfl | rfl | rfl | rfl | rfl | rfl | rfl | rfl | rfl
        all_goals
          go_wp2_with fail
          go_roundw
          case rel =>
            refine ⟨q, _, rfl, ?_, by have := HQ.out; omega, ?_, trivial, .inr ⟨?_, ST.out⟩⟩
            · simp [enc0, enc1, enc2, enc3, enc4, enc5, enc6, enc7, enc8, enc9, bytes_app]
            · have := HQ.out; simp; omega
            · simp
          case measure => have := HQ.out; simp [intOf, strZ, ByteArray.data_append, enc0, enc1, enc2, enc3, enc4, enc5, enc6, enc7, enc8, enc9]; try omega
      · have h1 : (0 : Int) < m := by omega
        rcases (show r = 0 ∨ r = 1 ∨ r = 2 ∨ r = 3 ∨ r = 4 ∨ r = 5 ∨ r = 6 ∨ r = 7 ∨ r = 8 ∨ r = 9 by omega) with rfl | rfl | rfl | rfl | rfl | rfl | rfl | rfl | rfl | rfl
        all_goals
          cases O
          all_goals
            simp only [List.length_cons, List.length_nil] at hO
            have s0 : (Utf8.encode 48).size = 1 := rfl
            have s1 : (Utf8.encode 49).size = 1 := rfl
            have s2 : (Utf8.encode 50).size = 1 := rfl
            have s3 : (Utf8.encode 51).size = 1 := rfl
            have s4 : (Utf8.encode 52).size = 1 := rfl
            have s5 : (Utf8.encode 53).size = 1 := rfl
            have s6 : (Utf8.encode 54).size = 1 := rfl
            have s7 : (Utf8.encode 55).size = 1 := rfl
            have s8 : (Utf8.encode 56).size = 1 := rfl
            have s9 : (Utf8.encode 57).size = 1 := rfl
            go_wp2_with fail
            go_roundw
            case rel =>
              refine ⟨q, _, rfl, ?_, by have := HQ.out; omega, ?_, trivial, .inr ⟨?_, ST.out⟩⟩
              · simp [enc0, enc1, enc2, enc3, enc4, enc5, enc6, enc7, enc8, enc9, bytes_app]
              · have := HQ.out; simp at hO ⊢; omega
              · simp
            case measure => have := HQ.out; simp [intOf, strZ, ByteArray.data_append, enc0, enc1, enc2, enc3, enc4, enc5, enc6, enc7, enc8, enc9]; try omega
    · have hm0 : m = 0 := by omega
      subst hm0
      have hO : O ≠ [] := by intro h; exact hgo (.inl h)
      obtain ⟨c, r, rfl⟩ := List.exists_cons_of_ne_nil hO
      go_wp2_with fail
      go_ret
      refine ⟨?_, rfl⟩
      rcases hs.out with ⟨h, _⟩ | ⟨_, h⟩
      · cases h
      · rw [← h]; rfl
end Go.Proofs.YtcandidgaegghaaGreatDoor
end
section
namespace Go.Proofs.YtcandidgaegghaaGreatDoor
open Go Go.RowKit Ly
set_option maxRecDepth 10000
set_option linter.unusedSimpArgs false
set_option linter.unusedVariables false
set_option maxHeartbeats 1600000
theorem refForm_yes (f : Fm) (hz : f.sz) (h : f.right = true) (x : Value) (w : World) (hx : FmVal w f x) : Calls Tryz.prog 52 #[x] w fun e w' => e = .returned (.tuple #[str f.text, .int .i64 0]) ∧ Below w.heap.size w w' := by
  obtain ⟨a, k, c, a', m, d, rfl, h1, h2⟩ := hx
  have X : Hid (FmVal w f (.agg #[.int .u8 f.op, str f.name, .slice a k c, .slice a' m d])) := ⟨_, _, _, _, _, _, rfl, h1, h2⟩
  have HB : Hid (Below w.heap.size w (w.alloc (.cells #[.int .u8 f.op, str f.name, .slice a k c, .slice a' m d] 25))) := (Below.refl _ _).alloc (Nat.le_refl _) _
  have NEW := Lib.hid (heap_alloc_new w (.cells #[.int .u8 f.op, str f.name, .slice a k c, .slice a' m d] 25))
  have hn : f.nodes ≤ 1000000 := by simp only [Fm.right, Bool.and_eq_true, decide_eq_true_eq] at h; omega
  have R : Hid (Calls Tryz.prog 130 #[.agg #[.int .u8 f.op, str f.name, .slice a k c, .slice a' m d]] (w.alloc (.cells #[.int .u8 f.op, str f.name, .slice a k c, .slice a' m d] 25)) fun e w' => e = .returned (.bool true) ∧ Below (w.alloc (.cells #[.int .u8 f.op, str f.name, .slice a k c, .slice a' m d] 25)).heap.size (w.alloc (.cells #[.int .u8 f.op, str f.name, .slice a k c, .slice a' m d] 25)) w') := by
    have := refRight_c f hz hn _ (w.alloc (.cells #[.int .u8 f.op, str f.name, .slice a k c, .slice a' m d] 25)) ⟨_, _, _, _, _, _, rfl, h1.keep (keeps1 _ _), h2.keep (keeps1 _ _)⟩
    rwa [h] at this
  have T : Hid (∀ W, Below w.heap.size w W → Calls Tryz.prog 131 #[.agg #[.int .u8 f.op, str f.name, .slice a k c, .slice a' m d]] W fun e w' => e = .returned (str f.text) ∧ Below W.heap.size W w') := fun W b => refText_c f w W _ X.out b (ok_of_right h) (by have := (right_len h).2; omega)
  clear h1 h2 hz hn h
  go_enter Tryz.func52, Tryz.ntmps52
  go_wp2_with (first
    | (go_at_call 130; refine R.out.mono ?_; rintro e w1 ⟨rfl, b1⟩; have B1 := Lib.hid (belowThen HB.out b1); have N1 := Lib.hid (kc b1 NEW.out); clear b1; obtain ⟨x0, x1, x2, x3, -, -, -, -⟩ := row25' N1.out)
    | (go_at_call 131; refine (T.out _ B1.out).mono ?_; rintro e w2 ⟨rfl, b2⟩; have B2 := Lib.hid (belowThen B1.out b2); clear b2))
  go_ret2
  exact ⟨rfl, B2.out⟩
theorem refForm_no (f : Fm) (hz : f.sz) (hn : f.nodes ≤ 1000000) (h : f.right = false) (x : Value) (w : World) (hx : FmVal w f x) : Calls Tryz.prog 52 #[x] w fun e w' => e = .returned (.tuple #[str [], .int .i64 2]) ∧ Below w.heap.size w w' := by
  obtain ⟨a, k, c, a', m, d, rfl, h1, h2⟩ := hx
  have HB : Hid (Below w.heap.size w (w.alloc (.cells #[.int .u8 f.op, str f.name, .slice a k c, .slice a' m d] 25))) := (Below.refl _ _).alloc (Nat.le_refl _) _
  have R : Hid (Calls Tryz.prog 130 #[.agg #[.int .u8 f.op, str f.name, .slice a k c, .slice a' m d]] (w.alloc (.cells #[.int .u8 f.op, str f.name, .slice a k c, .slice a' m d] 25)) fun e w' => e = .returned (.bool false) ∧ Below (w.alloc (.cells #[.int .u8 f.op, str f.name, .slice a k c, .slice a' m d] 25)).heap.size (w.alloc (.cells #[.int .u8 f.op, str f.name, .slice a k c, .slice a' m d] 25)) w') := by
    have := refRight_c f hz hn _ (w.alloc (.cells #[.int .u8 f.op, str f.name, .slice a k c, .slice a' m d] 25)) ⟨_, _, _, _, _, _, rfl, h1.keep (keeps1 _ _), h2.keep (keeps1 _ _)⟩
    rwa [h] at this
  clear h1 h2 hz hn h
  go_enter Tryz.func52, Tryz.ntmps52
  go_wp2_with (go_at_call 130; refine R.out.mono ?_; rintro e w1 ⟨rfl, b1⟩; have B1 := Lib.hid (belowThen HB.out b1); clear b1)
  go_ret2
  exact ⟨rfl, B1.out⟩
def RO (f : Fm) : Prop := ∀ (lv : Nat) (z : Int) (_ : z = lv) (w0 w : World) (x : Value), FmVal w0 f x → Below w0.heap.size w0 w → f.right = true → lv + f.depth ≤ 1000 → Calls Tryz.prog 132 #[x, .int .i64 z] w (RetStrs ((f.outl lv).map oText) w)
theorem own_slice {B : Nat} {w : World} {l : List Bs} {v : Value} (h : OwnStrs B w l v) (hl : l ≠ []) : ∃ g c, v = .slice (some ⟨g, 0, none⟩) l.length c := by
  rcases h.2 with ⟨rfl, hn⟩ | ⟨g, cap, cur, rfl, _⟩
  · exact absurd (List.eq_nil_of_length_eq_zero hn) hl
  · exact ⟨g, cap, rfl⟩
theorem ro_step (op : Int) (n : Bs) (ts : List Tm) (fs : List Fm) (hh : ∀ f ∈ fs, RO f) : RO (.mk op n ts fs) := by
  intro lv z hz w0 w x hx hw hr hlv
  subst hz
  obtain ⟨a, k, c, a', m, d, rfl, hx, hx2⟩ := hx
  simp only [Fm.op, Fm.name, Fm.args, Fm.sub] at *
  have hm := hx2.len
  have hlm : m ≤ 9223372036854775807 := by have := le63 hm.2.2; omega
  have lv1 : lv ≤ 1000 := by omega
  have L2 := Lib.hid hm.1
  have H := Lib.hid hh
  have HX := Lib.hid hx
  have HX2 := Lib.hid hx2
  have HW := Lib.hid hw
  have RT := Lib.hid hr
  have HL := Lib.hid hlv
  have hok := ok_of_right hr
  have HO := Lib.hid (nameFits_of hok)
  have nl := name_le hok
  have hn : n.length ≤ 1000000 := by omega
  have il := itoa_len (n := (lv : Int)) (by omega) (by omega)
  have hdec : Lib.itoa (lv : Int) = Lib.decDigits lv := by unfold Lib.itoa; rw [if_neg (by omega)]; simp
  have RD : Hid (∀ W, Calls Tryz.prog 73 #[.int .i64 lv] W fun e w' => e = .returned (str (Lib.itoa (lv : Int))) ∧ W = w') := fun W => by rw [hdec]; exact digits_c lv (by omega) W
  have PL : Hid ((Fm.mk op n ts fs).parts ≤ 400) := by
    have := Fm.parts_le (Fm.mk op n ts fs)
    simp only [Fm.right, Bool.and_eq_true, decide_eq_true_eq] at hr
    show _ ≤ _; omega
  have NEW := Lib.hid (heap_alloc_new w (.cells #[.int .u8 op, str n, .slice a k c, .slice a' m d] 25))
  have HB : Hid (Below w.heap.size w (w.alloc (.cells #[.int .u8 op, str n, .slice a k c, .slice a' m d] 25))) := (Below.refl _ _).alloc (Nat.le_refl _) _
  have RWD : Hid (∀ W, Calls Tryz.prog 213 #[.agg #[.int .u8 op, str n, .slice a k c, .slice a' m d]] W fun e w' => e = .returned (.tuple #[str (wdFirst op n), str (wdBetween op)]) ∧ Below W.heap.size W w') := fun W => wd_c op (by have := HO.out; omega) n hn a k c a' m d W
  have RTX : Hid (∀ W, Below w.heap.size w W → Calls Tryz.prog 131 #[.agg #[.int .u8 op, str n, .slice a k c, .slice a' m d]] W fun e w' => e = .returned (str (Fm.mk op n ts fs).text) ∧ Below W.heap.size W w') := fun W b => refText_c (.mk op n ts fs) w0 W _ ⟨_, _, _, _, _, _, rfl, hx, hx2⟩ (belowThen hw b) hok (by have := (right_len hr).2; omega)
  obtain ⟨HD, hHD⟩ : ∃ h, (Fm.mk op n ts fs).head = h := ⟨_, rfl⟩
  have HDE := Lib.hid hHD
  have hdl : HD.length ≤ 16000 := by
    rw [← hHD]
    by_cases ha : op = 1 ∨ op = 2
    · rw [head_atom n ts fs ha]; exact (right_len hr).2
    · rw [head_op n ts fs ha]; have := (sign_len op n).1; omega
  obtain ⟨i0, hi0, hz0, hs0, hb0⟩ := info_parts info9
  have H1 : op = 1 → Hid ((Fm.mk op n ts fs).text = HD) := fun h => by show _ = _; rw [← hHD, head_atom n ts fs (.inl h)]
  have H2 : ¬ op = 1 → Hid (wdFirst op n = HD) := fun h => by
    show _ = _
    rw [← hHD]
    by_cases h2 : op = 2
    · rw [head_atom n ts fs (.inr h2), wdFirst, if_pos (.inr h2)]; subst h2; simp [Fm.text, Fm.words, joinSp]
    · rw [head_op n ts fs (by omega), wdFirst, if_neg (by omega)]
  clear hh hx hx2 hw hr hlv hok hm hHD hdec hn
  by_cases o1 : op = 1
  · have t1 : (op == 1) = true := by simpa using o1
    have E1 := H1 o1
    clear H1 H2 o1
    go_enter Tryz.func132, Tryz.ntmps132
    go_wp2_with (first
      | (go_at_call 213; refine (RWD.out _).mono ?_; rintro e w1 ⟨rfl, b1⟩; have B1 := Lib.hid (belowThen HB.out b1); have N1 := Lib.hid (kc b1 NEW.out); clear b1; obtain ⟨x0, x1, x2, x3, -, -, -, -⟩ := row25' N1.out)
      | (go_at_call 131; refine (RTX.out _ B1.out).mono ?_; rintro e w2 ⟨rfl, b2⟩; rw [show (Fm.mk op n ts fs).text = HD from E1.out]; have B2 := Lib.hid (belowThen B1.out b2); have N2 := Lib.hid (kc b2 N1.out); clear b2)
      | (go_at_call 73; refine (RD.out _).mono ?_; rintro e w3 ⟨rfl, rfl⟩))
    have BZ := B2
    have NZ := N2
    clear B1 N1 B2 N2 x0 x1 x2 x3 RTX RWD E1
    go_loopw [7, 8] (fun u i wr => ∃ (j : Nat) (L : List Bs), j ≤ m ∧ i = .int .i64 j ∧ L.length ≤ 401 ∧ Hid (L = ((lv, HD) :: fmsOutl (lv + 1) (fs.take j)).map oText ∧ OwnStrs (w.heap.size + 1) wr L u ∧ Below w.heap.size w wr ∧ wr.heap[w.heap.size]? = some (.cells #[.int .u8 op, str n, .slice a k c, .slice a' m d] 25 (0, 0)))) (fun _ i _ => m - (intOf i).toNat)
    case atStart => exact ⟨0, [oText (lv, HD)], Nat.zero_le _, rfl, by simp, by simp [fmsOutl], by rw [oText_str]; exact own_at _ _ rfl (Array.getElem?_eq_some_iff.1 NZ.out).1, belowThen BZ.out ((Below.refl _ _).alloc (Nat.le_refl _) _), kc ((Below.refl _ _).alloc (Nat.le_refl _) _) NZ.out⟩
    case round =>
      clear BZ NZ
      obtain ⟨j, L, hj, rfl, hLl, hs⟩ := hrel
      obtain ⟨x0, x1, x2, x3, -, -, -, -⟩ := row25' hs.out.2.2.2
      by_cases hlt : j < m
      · obtain ⟨T, hT⟩ := get_of_lt (l := fs) (j := j) (by rw [← L2.out]; exact hlt)
        obtain ⟨bb, off, rfl, hc⟩ := HX2.out.get (ne_of_get hT)
        obtain ⟨y0, y1, y2, y3, y4, y5, hy⟩ := hc j _ hT
        have hK := keeps_of_below (belowThen HW.out hs.out.2.2.1)
        have c0 := hK _ _ hy.c0; have c1 := hK _ _ hy.c1; have c2 := hK _ _ hy.c2; have c3 := hK _ _ hy.c3
        have X : Hid (FmVal w0 T (.agg #[.int .u8 T.op, str T.name, .slice y0 y1 y2, .slice y3 y4 y5])) := ⟨_, _, _, _, _, _, rfl, hy.at_, hy.at'⟩
        have HM := Lib.hid (List.mem_of_getElem? hT)
        have RS := Lib.hid (Fm.right_sub RT.out T HM.out)
        have TK := Lib.hid (fmsOutl_snoc (lv + 1) hT)
        have LL : Hid (L.length + (T.outl (lv + 1)).length ≤ 401) := by
          have e1 := fmsOutl_take_len fs (lv + 1) (j + 1)
          rw [TK.out, List.length_append] at e1
          have e2 := PL.out
          simp only [Fm.parts] at e2
          have e3 := hs.out.1
          have e4 : L.length = 1 + (fmsOutl (lv + 1) (fs.take j)).length := by rw [e3]; simp; omega
          show _ ≤ _; omega
        have LN : Hid ((T.outl (lv + 1)).map oText ≠ []) := by
          show _ ≠ _
          intro h
          exact outl_ne T (lv + 1) (List.map_eq_nil_iff.1 h)
        obtain ⟨M, hM⟩ : ∃ M, (T.outl (lv + 1)).map oText = M := ⟨_, rfl⟩
        have HM2 := Lib.hid hM
        have ML : Hid (M.length = (T.outl (lv + 1)).length) := by show _ = _; rw [← hM]; simp
        rw [hM] at LN
        clear hc hy hT hK hM
        go_wp2_with (first
          | (go_at_call 132; refine (H.out T HM.out (lv + 1) _ (by push_cast; rfl) w0 _ _ X.out (belowThen HW.out hs.out.2.2.1) RS.out.1 (by have := RS.out.2.1; have := HL.out; omega)).mono ?_; rintro e w3 ⟨v3, rfl, o3, b3⟩; rw [HM2.out] at o3; obtain ⟨g3, c3', rfl⟩ := own_slice o3 LN.out; have O3 := Lib.hid o3; have B3 := Lib.hid b3; have OW := Lib.hid (hs.out.2.1.below b3); clear o3 b3)
          | (at_builtin; refine wpList_append_own _ rfl _ _ 36 rfl (w.heap.size + 1) 9 i0 (.string ⟨#[]⟩) 1 16 Tryz.underlying36 hi0 hz0 hs0 hb0 rfl (by decide) _ _ _ rfl OW.out ⟨g3, 0, none⟩ M.length c3' (M.map str) rfl (by simp) (fun j u hu => O3.out.cells (g := g3) rfl j u hu) (fun u hu => by obtain ⟨y, _, rfl⟩ := List.mem_map.1 hu; rfl) (by have := LL.out; have := ML.out; unfold maxLen; omega) (by have := LL.out; have := ML.out; omega) (Nat.le_trans (Array.getElem?_eq_some_iff.1 hs.out.2.2.2).1 B3.out.size) ?_; intro v4 w4 hown4 hg4 _))
        go_roundw
        case rel =>
          refine ⟨j + 1, L ++ M, by omega, by go_num, by have := LL.out; have := ML.out; simp; omega, ?_, ?_, ?_, ?_⟩
          · rw [TK.out, hs.out.1, ← HM2.out]; simp
          · unfold OwnStrs
            rw [List.length_append, List.map_append]
            exact hown4
          · exact (belowThen hs.out.2.2.1 B3.out).grown hg4 (belowThen hs.out.2.2.1 B3.out).size (fun kk hkk => Nat.le_of_succ_le (OW.out.lt kk hkk).1)
          · have z := (Array.getElem?_eq_some_iff.1 (kc B3.out hs.out.2.2.2)).1
            rw [hg4.block _ z (fun e => by have := (OW.out.lt _ e.symm).1; omega)]
            exact kc B3.out hs.out.2.2.2
        case measure => simp [intOf]; omega
      · go_wp2_with fail
        go_ret
        refine ⟨_, rfl, ?_, hs.out.2.2.1⟩
        have h2 := hs.out.2.1
        have e := hs.out.1
        rw [List.take_of_length_le (by rw [← L2.out]; omega)] at e
        rw [e, ← HDE.out] at h2
        have h3 := h2.mono (Nat.le_succ w.heap.size)
        simpa [Fm.outl] using h3
  · have t1 : (op == 1) = false := by simpa using o1
    have E1 := H2 o1
    clear H1 H2 RTX o1
    go_enter Tryz.func132, Tryz.ntmps132
    go_wp2_with (first
      | (go_at_call 213; refine (RWD.out _).mono ?_; rintro e w1 ⟨rfl, b1⟩; rw [show wdFirst op n = HD from E1.out]; have B1 := Lib.hid (belowThen HB.out b1); have N1 := Lib.hid (kc b1 NEW.out); clear b1; obtain ⟨x0, x1, x2, x3, -, -, -, -⟩ := row25' N1.out)
      | (go_at_call 73; refine (RD.out _).mono ?_; rintro e w3 ⟨rfl, rfl⟩))
    have BZ := B1
    have NZ := N1
    clear B1 N1 x0 x1 x2 x3 RWD E1
    go_loopw [7, 8] (fun u i wr => ∃ (j : Nat) (L : List Bs), j ≤ m ∧ i = .int .i64 j ∧ L.length ≤ 401 ∧ Hid (L = ((lv, HD) :: fmsOutl (lv + 1) (fs.take j)).map oText ∧ OwnStrs (w.heap.size + 1) wr L u ∧ Below w.heap.size w wr ∧ wr.heap[w.heap.size]? = some (.cells #[.int .u8 op, str n, .slice a k c, .slice a' m d] 25 (0, 0)))) (fun _ i _ => m - (intOf i).toNat)
    case atStart => exact ⟨0, [oText (lv, HD)], Nat.zero_le _, rfl, by simp, by simp [fmsOutl], by rw [oText_str]; exact own_at _ _ rfl (Array.getElem?_eq_some_iff.1 NZ.out).1, belowThen BZ.out ((Below.refl _ _).alloc (Nat.le_refl _) _), kc ((Below.refl _ _).alloc (Nat.le_refl _) _) NZ.out⟩
    case round =>
      clear BZ NZ
      obtain ⟨j, L, hj, rfl, hLl, hs⟩ := hrel
      obtain ⟨x0, x1, x2, x3, -, -, -, -⟩ := row25' hs.out.2.2.2
      by_cases hlt : j < m
      · obtain ⟨T, hT⟩ := get_of_lt (l := fs) (j := j) (by rw [← L2.out]; exact hlt)
        obtain ⟨bb, off, rfl, hc⟩ := HX2.out.get (ne_of_get hT)
        obtain ⟨y0, y1, y2, y3, y4, y5, hy⟩ := hc j _ hT
        have hK := keeps_of_below (belowThen HW.out hs.out.2.2.1)
        have c0 := hK _ _ hy.c0; have c1 := hK _ _ hy.c1; have c2 := hK _ _ hy.c2; have c3 := hK _ _ hy.c3
        have X : Hid (FmVal w0 T (.agg #[.int .u8 T.op, str T.name, .slice y0 y1 y2, .slice y3 y4 y5])) := ⟨_, _, _, _, _, _, rfl, hy.at_, hy.at'⟩
        have HM := Lib.hid (List.mem_of_getElem? hT)
        have RS := Lib.hid (Fm.right_sub RT.out T HM.out)
        have TK := Lib.hid (fmsOutl_snoc (lv + 1) hT)
        have LL : Hid (L.length + (T.outl (lv + 1)).length ≤ 401) := by
          have e1 := fmsOutl_take_len fs (lv + 1) (j + 1)
          rw [TK.out, List.length_append] at e1
          have e2 := PL.out
          simp only [Fm.parts] at e2
          have e3 := hs.out.1
          have e4 : L.length = 1 + (fmsOutl (lv + 1) (fs.take j)).length := by rw [e3]; simp; omega
          show _ ≤ _; omega
        have LN : Hid ((T.outl (lv + 1)).map oText ≠ []) := by
          show _ ≠ _
          intro h
          exact outl_ne T (lv + 1) (List.map_eq_nil_iff.1 h)
        obtain ⟨M, hM⟩ : ∃ M, (T.outl (lv + 1)).map oText = M := ⟨_, rfl⟩
        have HM2 := Lib.hid hM
        have ML : Hid (M.length = (T.outl (lv + 1)).length) := by show _ = _; rw [← hM]; simp
        rw [hM] at LN
        clear hc hy hT hK hM
        go_wp2_with (first
          | (go_at_call 132; refine (H.out T HM.out (lv + 1) _ (by push_cast; rfl) w0 _ _ X.out (belowThen HW.out hs.out.2.2.1) RS.out.1 (by have := RS.out.2.1; have := HL.out; omega)).mono ?_; rintro e w3 ⟨v3, rfl, o3, b3⟩; rw [HM2.out] at o3; obtain ⟨g3, c3', rfl⟩ := own_slice o3 LN.out; have O3 := Lib.hid o3; have B3 := Lib.hid b3; have OW := Lib.hid (hs.out.2.1.below b3); clear o3 b3)
          | (at_builtin; refine wpList_append_own _ rfl _ _ 36 rfl (w.heap.size + 1) 9 i0 (.string ⟨#[]⟩) 1 16 Tryz.underlying36 hi0 hz0 hs0 hb0 rfl (by decide) _ _ _ rfl OW.out ⟨g3, 0, none⟩ M.length c3' (M.map str) rfl (by simp) (fun j u hu => O3.out.cells (g := g3) rfl j u hu) (fun u hu => by obtain ⟨y, _, rfl⟩ := List.mem_map.1 hu; rfl) (by have := LL.out; have := ML.out; unfold maxLen; omega) (by have := LL.out; have := ML.out; omega) (Nat.le_trans (Array.getElem?_eq_some_iff.1 hs.out.2.2.2).1 B3.out.size) ?_; intro v4 w4 hown4 hg4 _))
        go_roundw
        case rel =>
          refine ⟨j + 1, L ++ M, by omega, by go_num, by have := LL.out; have := ML.out; simp; omega, ?_, ?_, ?_, ?_⟩
          · rw [TK.out, hs.out.1, ← HM2.out]; simp
          · unfold OwnStrs
            rw [List.length_append, List.map_append]
            exact hown4
          · exact (belowThen hs.out.2.2.1 B3.out).grown hg4 (belowThen hs.out.2.2.1 B3.out).size (fun kk hkk => Nat.le_of_succ_le (OW.out.lt kk hkk).1)
          · have z := (Array.getElem?_eq_some_iff.1 (kc B3.out hs.out.2.2.2)).1
            rw [hg4.block _ z (fun e => by have := (OW.out.lt _ e.symm).1; omega)]
            exact kc B3.out hs.out.2.2.2
        case measure => simp [intOf]; omega
      · go_wp2_with fail
        go_ret
        refine ⟨_, rfl, ?_, hs.out.2.2.1⟩
        have h2 := hs.out.2.1
        have e := hs.out.1
        rw [List.take_of_length_le (by rw [← L2.out]; omega)] at e
        rw [e, ← HDE.out] at h2
        have h3 := h2.mono (Nat.le_succ w.heap.size)
        simpa [Fm.outl] using h3
mutual
theorem refOutl_c : ∀ t : Fm, RO t
  | .mk o n ts fs => ro_step o n ts fs (refOutlAll fs)
theorem refOutlAll : ∀ l : List Fm, ∀ t ∈ l, RO t
  | [], _, h => by cases h
  | x :: xs, t, h => by
    rcases List.mem_cons.1 h with e | e
    · rw [e]; exact refOutl_c x
    · exact refOutlAll xs t e
end
theorem refOutline_yes (f : Fm) (hz : f.sz) (h : f.right = true) (x : Value) (w : World) (hx : FmVal w f x) : Calls Tryz.prog 53 #[x] w fun e w' => ∃ v, e = .returned (.tuple #[v, .int .i64 0]) ∧ OwnStrs w.heap.size w' ((f.outl 0).map oText) v ∧ Below w.heap.size w w' := by
  obtain ⟨a, k, c, a', m, d, rfl, h1, h2⟩ := hx
  have X : Hid (FmVal w f (.agg #[.int .u8 f.op, str f.name, .slice a k c, .slice a' m d])) := ⟨_, _, _, _, _, _, rfl, h1, h2⟩
  have HB : Hid (Below w.heap.size w (w.alloc (.cells #[.int .u8 f.op, str f.name, .slice a k c, .slice a' m d] 25))) := (Below.refl _ _).alloc (Nat.le_refl _) _
  have NEW := Lib.hid (heap_alloc_new w (.cells #[.int .u8 f.op, str f.name, .slice a k c, .slice a' m d] 25))
  have hn : f.nodes ≤ 1000000 ∧ f.depth ≤ 1000 := by simp only [Fm.right, Bool.and_eq_true, decide_eq_true_eq] at h; omega
  have R : Hid (Calls Tryz.prog 130 #[.agg #[.int .u8 f.op, str f.name, .slice a k c, .slice a' m d]] (w.alloc (.cells #[.int .u8 f.op, str f.name, .slice a k c, .slice a' m d] 25)) fun e w' => e = .returned (.bool true) ∧ Below (w.alloc (.cells #[.int .u8 f.op, str f.name, .slice a k c, .slice a' m d] 25)).heap.size (w.alloc (.cells #[.int .u8 f.op, str f.name, .slice a k c, .slice a' m d] 25)) w') := by
    have := refRight_c f hz hn.1 _ (w.alloc (.cells #[.int .u8 f.op, str f.name, .slice a k c, .slice a' m d] 25)) ⟨_, _, _, _, _, _, rfl, h1.keep (keeps1 _ _), h2.keep (keeps1 _ _)⟩
    rwa [h] at this
  have T : Hid (∀ W, Below w.heap.size w W → Calls Tryz.prog 132 #[.agg #[.int .u8 f.op, str f.name, .slice a k c, .slice a' m d], .int .i64 0] W (RetStrs ((f.outl 0).map oText) W)) := fun W b => refOutl_c f 0 0 rfl w W _ X.out b h (by omega)
  clear h1 h2 hz hn h
  go_enter Tryz.func53, Tryz.ntmps53
  go_wp2_with (first
    | (go_at_call 130; refine R.out.mono ?_; rintro e w1 ⟨rfl, b1⟩; have B1 := Lib.hid (belowThen HB.out b1); have N1 := Lib.hid (kc b1 NEW.out); clear b1; obtain ⟨x0, x1, x2, x3, -, -, -, -⟩ := row25' N1.out)
    | (go_at_call 132; refine (T.out _ B1.out).mono ?_; rintro e w2 ⟨v, rfl, o2, b2⟩; have O2 := Lib.hid o2; have B2 := Lib.hid (belowThen B1.out b2); clear b2 o2))
  exact bodyPost_ret (v := .tuple #[v, .int .i64 0]) (by simp [results, Tryz.results53, go_sem]) rfl ⟨v, rfl, O2.out.mono B1.out.size, B2.out⟩
theorem refOutline_no (f : Fm) (hz : f.sz) (hn : f.nodes ≤ 1000000) (h : f.right = false) (x : Value) (w : World) (hx : FmVal w f x) : Calls Tryz.prog 53 #[x] w fun e w' => e = .returned (.tuple #[.slice none 0 0, .int .i64 2]) ∧ Below w.heap.size w w' := by
  obtain ⟨a, k, c, a', m, d, rfl, h1, h2⟩ := hx
  have HB : Hid (Below w.heap.size w (w.alloc (.cells #[.int .u8 f.op, str f.name, .slice a k c, .slice a' m d] 25))) := (Below.refl _ _).alloc (Nat.le_refl _) _
  have R : Hid (Calls Tryz.prog 130 #[.agg #[.int .u8 f.op, str f.name, .slice a k c, .slice a' m d]] (w.alloc (.cells #[.int .u8 f.op, str f.name, .slice a k c, .slice a' m d] 25)) fun e w' => e = .returned (.bool false) ∧ Below (w.alloc (.cells #[.int .u8 f.op, str f.name, .slice a k c, .slice a' m d] 25)).heap.size (w.alloc (.cells #[.int .u8 f.op, str f.name, .slice a k c, .slice a' m d] 25)) w') := by
    have := refRight_c f hz hn _ (w.alloc (.cells #[.int .u8 f.op, str f.name, .slice a k c, .slice a' m d] 25)) ⟨_, _, _, _, _, _, rfl, h1.keep (keeps1 _ _), h2.keep (keeps1 _ _)⟩
    rwa [h] at this
  clear h1 h2 hz hn h
  go_enter Tryz.func53, Tryz.ntmps53
  go_wp2_with (go_at_call 130; refine R.out.mono ?_; rintro e w1 ⟨rfl, b1⟩; have B1 := Lib.hid (belowThen HB.out b1); clear b1)
  exact bodyPost_ret (v := .tuple #[.slice none 0 0, .int .i64 2]) (by simp [results, Tryz.results53, go_sem]) rfl ⟨rfl, B1.out⟩
end Go.Proofs.YtcandidgaegghaaGreatDoor
end
