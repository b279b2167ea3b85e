/- lyceumref41: term, words, text. Conditions: texts of at most a million bytes. lyceumref41: Form, digits, outline, Outline. Conditions: at most a million nodes; names fit into memory. lyceumref41: Form, outline, Outline. Conditions: at most a million nodes; names fit into memory. describe.Claim at any claim of at most a thousand formulas. Conditions: the program's tables lie as laid. lyceumref41.Claim and describe.Claim at any claim. Conditions: at most 300 nodes on each side; the program's tables lie as laid. -/
import Derived.Test.YtcandidgaegghaaGreatDoorPlK
import Derived.Test.YtcandidgaegghaaGreatDoorFormB
import Derived.Test.YtcandidgaegghaaGreatDoorRefEZ
import Derived.Test.YtcandidgaegghaaGreatDoorOutl
import Derived.Test.YtcandidgaegghaaGreatDoorClaim
import Derived.Test.YtcandidgaegghaaGreatDoorRdGotZ
import Derived.Test.YtcandidgaegghaaGreatDoorCmBZ
import Derived.Test.YtcandidgaegghaaGreatDoorRightGZ
import Derived.Deep.CutBlock
section
namespace Go.Proofs.YtcandidgaegghaaGreatDoor
open Go Go.RowKit Ly
set_option maxRecDepth 10000
set_option linter.unusedSimpArgs false
set_option linter.unusedVariables false
set_option maxHeartbeats 1600000
def TeC (n : Bs) (ts : List Tm) : Prop := ∀ (a : Option Addr) (k c : Nat) (w : World), TmsAt w ts (.slice a k c) → (joinSp (termWords n ts)).length ≤ 1000000 → Calls Tryz.prog 212 #[str n, .slice a k c] w fun e w' => e = .returned (str (joinSp (termWords n ts))) ∧ ∃ m, w' = w.drewN m
theorem te_step (n : Bs) (ts : List Tm) (hh : ∀ t ∈ ts, TeC t.name t.args) : TeC n ts := by
  intro a k c w hx hl
  have hk := hx.len
  have hlk : k ≤ 9223372036854775807 := by have := le63 hk.2.2; omega
  have hn : n.length ≤ 1000000 := by have := teTo_le n ts 0; rw [teTo_zero] at this; omega
  have L1 := Lib.hid hk.1
  have H := Lib.hid hh
  have HX := Lib.hid hx
  have HL := Lib.hid hl
  have HLE : Hid (∀ i, (teTo n ts i).length ≤ 1000000) := fun i => Nat.le_trans (teTo_le n ts i) hl
  clear hk hh hx hl
  go_enter Tryz.func212, Tryz.ntmps212
  go_wp2_with fail
  go_loopw [5, 6] (fun u i wr => ∃ (j m : Nat) (U : Bs), j ≤ k ∧ i = .int .i64 j ∧ u = str U ∧ wr = w.drewN m ∧ U.length ≤ 1000000 ∧ Hid (U = teTo n ts j)) (fun _ i _ => k - (intOf i).toNat)
  case atStart => exact ⟨0, 0, n, Nat.zero_le _, rfl, rfl, rfl, hn, (teTo_zero n ts).symm⟩
  case round =>
    obtain ⟨j, m, U, hj, rfl, rfl, rfl, hU, hs⟩ := hrel
    clear hn
    by_cases hlt : j < k
    · obtain ⟨T, hT⟩ := get_of_lt (l := ts) (j := j) (by rw [← L1.out]; exact hlt)
      obtain ⟨bb, off, rfl, hc⟩ := HX.out.get (ne_of_get hT)
      obtain ⟨y0, y1, y2, hy⟩ := hc j _ hT
      have c0 := hy.c0; have c1 := hy.c1; have c2 := hy.c2
      have hX : (joinSp (termWords T.name T.args)).length ≤ 1000000 := Nat.le_trans (te_part_le hT) HL.out
      have R : Hid (∀ p, Calls Tryz.prog 212 #[str T.name, .slice y0 y1 y2] (w.drewN (m + p)) fun e w'' => e = .returned (str (joinSp (termWords T.name T.args))) ∧ ∃ q, w'' = w.drewN (m + q)) := fun p =>
        (H.out T (List.mem_of_getElem? hT) _ _ _ _ (hy.at_.keep (w' := w.drewN (m + p)) (fun _ _ h => h)) hX).mono fun e w2 ⟨h1, q, h2⟩ => ⟨h1, p + q, by rw [h2, World.drewN_drewN, Nat.add_assoc]⟩
      have TK := Lib.hid (teTo_succ (n := n) hT)
      generalize joinSp (termWords T.name T.args) = X at R TK hX
      clear hc hy hT
      by_cases h0 : j = 0
      · subst h0
        go_wp2_with fail
        go_quiet (first | (go_at_call 212; exact R.out _))
        go_wp2_with fail
        go_roundw
        case rel =>
          refine ⟨1, _, teTo n ts 1, by omega, by go_num, ?_, rfl, HLE.out 1, rfl⟩
          have e := TK.out
          rw [e, ← hs.out]
          simp [bytes_app, wOf]
        case measure => simp [intOf]; omega
      · go_wp2_with fail
        go_quiet (first | (go_at_call 212; exact R.out _))
        go_wp2_with fail
        go_roundw
        case rel =>
          refine ⟨j + 1, _, teTo n ts (j + 1), by omega, by go_num, ?_, rfl, HLE.out (j + 1), rfl⟩
          have e := TK.out
          rw [e, ← hs.out, if_neg h0]
          simp [bytes_app, wAnd]
        case measure => simp [intOf]; omega
    · have EQ := Lib.hid (teTo_end n ts)
      have hjk : j = k := by omega
      by_cases h0 : k = 0
      · subst h0
        go_wp2_with fail
        go_ret
        refine ⟨?_, _, rfl⟩
        rw [EQ.out, hs.out, if_pos L1.out.symm, hjk, teTo_zero]
        rfl
      · go_wp2_with fail
        go_ret
        refine ⟨?_, _, rfl⟩
        rw [EQ.out, hs.out, if_neg (by rw [← L1.out]; exact h0), ← L1.out, hjk]
        simp [bytes_app, wClose]
mutual
theorem te_c : ∀ t : Tm, TeC t.name t.args
  | .mk _ n ts => te_step n ts (te_all ts)
theorem te_all : ∀ l : List Tm, ∀ t ∈ l, TeC t.name t.args
  | [], _, h => by cases h
  | x :: xs, t, h => by
    rcases List.mem_cons.1 h with e | e
    · rw [e]; exact te_c x
    · exact te_all xs t e
end
theorem te_any (n : Bs) (ts : List Tm) : TeC n ts := te_c (.mk true n ts)
def wdFirst (op : Int) (n : Bs) : Bs := if op = 1 ∨ op = 2 then wFalse else signFirst op n
def wdBetween (op : Int) : Bs := if op = 1 ∨ op = 2 then [] else signBetween op
theorem wd_c (op : Int) (h : 1 ≤ op ∧ op ≤ 14) (n : Bs) (hn : n.length ≤ 1000000) (a : Option Addr) (k c : Nat) (a' : Option Addr) (m d : Nat) (w : World) :
    Calls Tryz.prog 213 #[.agg #[.int .u8 op, str n, .slice a k c, .slice a' m d]] w fun e w' => e = .returned (.tuple #[str (wdFirst op n), str (wdBetween op)]) ∧ Below w.heap.size w w' := by
  have HB : Hid (Below w.heap.size w (w.alloc (.cells #[.int .u8 op, str n, .slice a k c, .slice a' m d] 25))) := (Below.refl _ _).alloc (Nat.le_refl _) _
  rcases (show op = 1 ∨ op = 2 ∨ op = 3 ∨ op = 4 ∨ op = 5 ∨ op = 6 ∨ op = 7 ∨ op = 8 ∨ op = 9 ∨ op = 10 ∨ op = 11 ∨ op = 12 ∨ op = 13 ∨ op = 14 by omega) with rfl | rfl | rfl | rfl | rfl | rfl | rfl | rfl | rfl | rfl | rfl | rfl | rfl | rfl
  all_goals
    clear h
    go_enter Tryz.func213, Tryz.ntmps213
    go_wp2_with fail
    go_ret2
    refine ⟨?_, HB.out⟩
    simp [bytes_app, wdFirst, wdBetween, signFirst, signBetween, wFalse, wNot, wNec, wPos, wNext, wAlways, wFor, wAll, wSome, wBoth, wEither, wIf, wAs, wWhile, wAnd, wOr, wThen, wSo, wUntil]
def FmT (f : Fm) : Prop := ∀ (w0 w : World) (x : Value), FmVal w0 f x → Below w0.heap.size w0 w → f.ok = true → f.text.length ≤ 1000000 → Calls Tryz.prog 131 #[x] w fun e w' => e = .returned (str f.text) ∧ Below w.heap.size w w'
theorem tx_part {op : Int} {n : Bs} {fs : List Fm} {i : Nat} {T : Fm} (h : fs[i]? = some T) (hi : i ≤ 1) : T.text.length ≤ (txTo op n fs (i + 1)).length := by
  rcases (show i = 0 ∨ i = 1 by omega) with rfl | rfl
  · rw [txTo_one h]; simp; omega
  · rw [txTo_two h]; simp; omega
theorem tx_step (op : Int) (n : Bs) (ts : List Tm) (fs : List Fm) (hh : ∀ f ∈ fs, FmT f) : FmT (.mk op n ts fs) := by
  intro w0 w x hx hw hok hl
  obtain ⟨a, k, c, a', m, d, rfl, hx, hx2⟩ := hx
  simp only [Fm.op, Fm.name, Fm.args, Fm.sub] at *
  obtain ⟨-, -, hm1, ho1, ho2, -, hsub⟩ := nameFits_of hok
  have hnm := name_le hok
  have har : fs.length ≤ 2 := by
    simp only [Fm.ok, Bool.and_eq_true, decide_eq_true_eq] at hok
    exact hok.1.1.1.2
  have hm := hx2.len
  have hlm : m ≤ 9223372036854775807 := by have := le63 hm.2.2; omega
  have L2 := Lib.hid hm.1
  have H := Lib.hid hh
  have HX := Lib.hid hx
  have HX2 := Lib.hid hx2
  have HW := Lib.hid hw
  have HOK := Lib.hid (fmsOk_mem hsub)
  have hn : n.length ≤ 1000000 := by omega
  have hm2 : m ≤ 2 := by omega
  have NEW := Lib.hid (heap_alloc_new w (.cells #[.int .u8 op, str n, .slice a k c, .slice a' m d] 25))
  have HB : Hid (Below w.heap.size w (w.alloc (.cells #[.int .u8 op, str n, .slice a k c, .slice a' m d] 25))) := (Below.refl _ _).alloc (Nat.le_refl _) _
  by_cases o1 : op = 1
  · subst o1
    have et : (Fm.mk 1 n ts fs).text = joinSp (termWords n ts) := by simp [Fm.text, Fm.words]
    have R : Hid (∀ W, Below w.heap.size w W → Calls Tryz.prog 212 #[str n, .slice a k c] W fun e w'' => e = .returned (str (joinSp (termWords n ts))) ∧ ∃ q, w'' = W.drewN q) := fun W b =>
      te_any n ts _ _ _ W (hx.keep (keeps_of_below (belowThen hw b))) (by rw [← et]; exact hl)
    rw [et]
    clear hm hh hx hx2 hw hok hl hsub ho1 ho2
    go_enter Tryz.func131, Tryz.ntmps131
    go_wp2_with (go_at_call 212; refine (R.out _ HB.out).mono ?_; rintro e w1 ⟨rfl, q, rfl⟩)
    go_ret
    exact ⟨rfl, HB.out.trans ⟨rfl, rfl, rfl, Nat.le_refl _, fun _ _ => rfl⟩⟩
  · have RWD : Hid (∀ W, Calls Tryz.prog 213 #[.agg #[.int .u8 op, str n, .slice a k c, .slice a' m d]] W fun e w' => e = .returned (.tuple #[str (wdFirst op n), str (wdBetween op)]) ∧ Below W.heap.size W w') := fun W => wd_c op (by omega) n hn a k c a' m d W
    by_cases o2 : op = 2
    · subst o2
      have et : (Fm.mk 2 n ts fs).text = wFalse := by simp [Fm.text, Fm.words, joinSp]
      have hm0 : m = 0 := by
        have : arity 2 = 0 := by decide
        omega
      subst hm0
      rw [et]
      clear hm hh hx hx2 hw hok hl hsub ho1 ho2
      go_enter Tryz.func131, Tryz.ntmps131
      go_wp2_with (go_at_call 213; refine (RWD.out _).mono ?_; rintro e w1 ⟨rfl, b1⟩; have B1 := Lib.hid (belowThen HB.out b1); have N1 := Lib.hid (kc b1 NEW.out); clear b1; obtain ⟨x0, x1, x2, x3, -, -, -, -⟩ := row25' N1.out)
      go_loopw [3, 5] (fun u i wr => u = str wFalse ∧ i = .int .i64 0 ∧ Hid (Below w.heap.size w wr ∧ wr.heap[w.heap.size]? = some (.cells #[.int .u8 2, str n, .slice a k c, .slice a' 0 d] 25 (0, 0)))) (fun _ i _ => 0)
      case atStart => exact ⟨rfl, rfl, B1.out, N1.out⟩
      case round =>
        obtain ⟨rfl, rfl, hs⟩ := hrel
        clear x0 x1 x2 x3
        obtain ⟨x0, x1, x2, x3, -, -, -, -⟩ := row25' hs.out.2
        go_wp2_with fail
        go_ret
        exact ⟨rfl, hs.out.1⟩
    · have HLE : Hid (∀ i, (txTo op n fs i).length ≤ 1000000) := fun i => Nat.le_trans (txTo_le (ts := ts) o1 o2 i) hl
      have ET : Hid ((Fm.mk op n ts fs).text = txTo op n fs fs.length) := txTo_end o1 o2
      have hF : Hid (wdFirst op n = txTo op n fs 0) := by show _ = _; rw [txTo_zero, wdFirst, if_neg (by omega)]
      have hFl : (wdFirst op n).length ≤ 1000000 := by rw [hF.out]; exact HLE.out 0
      have hBt : wdBetween op = signBetween op := if_neg (by omega)
      have hBl : (wdBetween op).length ≤ 1000000 := by rw [hBt]; have := (sign_len op n).2; omega
      have HBT := Lib.hid hBt
      generalize wdFirst op n = F at RWD hF hFl
      generalize wdBetween op = B at RWD HBT hBl
      clear hm hh hx hx2 hw hok hl hsub ho1 ho2 o2 hn hBt
      go_enter Tryz.func131, Tryz.ntmps131
      go_wp2_with (go_at_call 213; refine (RWD.out _).mono ?_; rintro e w1 ⟨rfl, b1⟩; have B1 := Lib.hid (belowThen HB.out b1); have N1 := Lib.hid (kc b1 NEW.out); clear b1; obtain ⟨x0, x1, x2, x3, -, -, -, -⟩ := row25' N1.out)
      clear x0 x1 x2 x3
      go_loopw [3, 5] (fun u i wr => ∃ (j : Nat) (U : Bs), j ≤ m ∧ i = .int .i64 j ∧ u = str U ∧ U.length ≤ 1000000 ∧ Hid (U = txTo op n fs j ∧ Below w.heap.size w wr ∧ wr.heap[w.heap.size]? = some (.cells #[.int .u8 op, str n, .slice a k c, .slice a' m d] 25 (0, 0)))) (fun _ i _ => m - (intOf i).toNat)
      case atStart => exact ⟨0, F, Nat.zero_le _, rfl, rfl, hFl, hF.out, B1.out, N1.out⟩
      case round =>
        clear B1 N1 hF hFl
        obtain ⟨j, U, hj, rfl, rfl, hU, hs⟩ := hrel
        obtain ⟨x0, x1, x2, x3, -, -, -, -⟩ := row25' hs.out.2.2
        by_cases hlt : j < m
        · obtain ⟨T, hT⟩ := get_of_lt (l := fs) (j := j) (by rw [← L2.out]; exact hlt)
          obtain ⟨bb, off, rfl, hc⟩ := HX2.out.get (ne_of_get hT)
          obtain ⟨y0, y1, y2, y3, y4, y5, hy⟩ := hc j _ hT
          have hK := keeps_of_below (belowThen HW.out hs.out.2.1)
          have c0 := hK _ _ hy.c0; have c1 := hK _ _ hy.c1; have c2 := hK _ _ hy.c2; have c3 := hK _ _ hy.c3
          have X : Hid (FmVal w0 T (.agg #[.int .u8 T.op, str T.name, .slice y0 y1 y2, .slice y3 y4 y5])) := ⟨_, _, _, _, _, _, rfl, hy.at_, hy.at'⟩
          have HM := Lib.hid (List.mem_of_getElem? hT)
          have HT := Lib.hid hT
          have hTl : T.text.length ≤ 1000000 := Nat.le_trans (tx_part hT (by omega)) (HLE.out (j + 1))
          have R : Hid (∀ W, Below w0.heap.size w0 W → Calls Tryz.prog 131 #[.agg #[.int .u8 T.op, str T.name, .slice y0 y1 y2, .slice y3 y4 y5]] W fun e w' => e = .returned (str T.text) ∧ Below W.heap.size W w') := fun W b => H.out T HM.out w0 W _ X.out b (HOK.out T HM.out) hTl
          obtain ⟨V, hV⟩ : ∃ V, T.text = V := ⟨_, rfl⟩
          have HV := Lib.hid hV
          rw [hV] at R hTl
          clear hc hy hT hK hV
          rcases (show j = 0 ∨ j = 1 by omega) with rfl | rfl
          · simp only [Nat.zero_mul, Nat.add_zero] at c0 c1 c2 c3
            go_wp2_with (go_at_call 131; refine (R.out _ (belowThen HW.out hs.out.2.1)).mono ?_; rintro e w3 ⟨rfl, b3⟩)
            go_roundw
            case rel =>
              refine ⟨1, txTo op n fs 1, by omega, by go_num, ?_, HLE.out 1, rfl, belowThen hs.out.2.1 b3, kc b3 hs.out.2.2⟩
              rw [txTo_one HT.out, ← hs.out.1, HV.out]
              simp [bytes_app]
            case measure => simp [intOf]; omega
          · go_wp2_with (go_at_call 131; refine (R.out _ (belowThen HW.out hs.out.2.1)).mono ?_; rintro e w3 ⟨rfl, b3⟩)
            go_roundw
            case rel =>
              refine ⟨2, txTo op n fs 2, by omega, by go_num, ?_, HLE.out 2, rfl, belowThen hs.out.2.1 b3, kc b3 hs.out.2.2⟩
              rw [txTo_two HT.out, ← hs.out.1, HV.out, ← HBT.out]
              simp [bytes_app]
            case measure => simp [intOf]; omega
        · go_wp2_with fail
          go_ret
          refine ⟨?_, hs.out.2.1⟩
          have hjm : j = m := by omega
          rw [ET.out, ← L2.out, ← hjm, ← hs.out.1]
          rfl
mutual
theorem refText_c : ∀ t : Fm, FmT t
  | .mk o n ts fs => tx_step o n ts fs (refTextAll fs)
theorem refTextAll : ∀ l : List Fm, ∀ t ∈ l, FmT t
  | [], _, h => by cases h
  | x :: xs, t, h => by
    rcases List.mem_cons.1 h with e | e
    · rw [e]; exact refText_c x
    · exact refTextAll xs t e
end
end Go.Proofs.YtcandidgaegghaaGreatDoor
end
section
namespace Go.Proofs.YtcandidgaegghaaGreatDoor
open Go Go.RowKit Ly
set_option maxRecDepth 10000
set_option linter.unusedSimpArgs false
set_option linter.unusedVariables false
set_option maxHeartbeats 1600000
def dTo (m : Nat) (O : Bs) : Bs := if m = 0 then O else Lib.decDigits m ++ O
theorem dTo_step (m : Nat) (O : Bs) : Lib.decDigits m ++ O = dTo (m / 10) (UInt8.ofNat (48 + m % 10) :: O) := by
  unfold dTo
  by_cases h : m < 10
  · rw [Lib.decDigits_one h, if_pos (by omega), show m % 10 = m by omega]; rfl
  · rw [Lib.decDigits, dif_neg h, if_neg (by omega)]; simp
theorem enc0 : Utf8.encode 48 = ⟨#[48]⟩ := rfl
theorem enc1 : Utf8.encode 49 = ⟨#[49]⟩ := rfl
theorem enc2 : Utf8.encode 50 = ⟨#[50]⟩ := rfl
theorem enc3 : Utf8.encode 51 = ⟨#[51]⟩ := rfl
theorem enc4 : Utf8.encode 52 = ⟨#[52]⟩ := rfl
theorem enc5 : Utf8.encode 53 = ⟨#[53]⟩ := rfl
theorem enc6 : Utf8.encode 54 = ⟨#[54]⟩ := rfl
theorem enc7 : Utf8.encode 55 = ⟨#[55]⟩ := rfl
theorem enc8 : Utf8.encode 56 = ⟨#[56]⟩ := rfl
theorem enc9 : Utf8.encode 57 = ⟨#[57]⟩ := rfl
def strZ : Value → Nat
  | .string b => if b.data.size = 0 then 1 else 0
  | _ => 0
theorem digits_c (N : Nat) (hN : N ≤ 1000000) (w : World) : Calls Tryz.prog 73 #[.int .i64 N] w fun e w' => e = .returned (str (Lib.decDigits N)) ∧ w = w' := by
  go_enter Tryz.func73, Tryz.ntmps73
  go_wp2_with fail
  go_loopw [0, 3] (fun n u wr => ∃ (m : Nat) (O : Bs), n = .int .i64 m ∧ u = str O ∧ m ≤ N ∧ O.length + m ≤ 1000100 ∧ w = wr ∧ Hid ((O = [] ∧ m = N) ∨ (O ≠ [] ∧ dTo m O = Lib.decDigits N))) (fun n u _ => (intOf n).toNat + strZ u)
  case atStart => exact ⟨N, [], rfl, rfl, Nat.le_refl _, by simp; omega, rfl, .inl ⟨rfl, rfl⟩⟩
  case round =>
    obtain ⟨m, O, rfl, rfl, hm, hO, rfl, hs⟩ := hrel
    by_cases hgo : O = [] ∨ 0 < m
    · have ST : Hid (dTo (m / 10) (UInt8.ofNat (48 + m % 10) :: O) = Lib.decDigits N) := by
        show _ = _
        rw [← dTo_step]
        rcases hs.out with ⟨rfl, rfl⟩ | ⟨h1, h2⟩
        · simp
        · rcases hgo with h | h
          · exact absurd h h1
          · rw [← h2, dTo, if_neg (by omega)]
      have hd : (m : Int).tdiv 10 = ((m / 10 : Nat) : Int) := by rw [Int.tdiv_eq_ediv_of_nonneg (by omega)]; omega
      have hr := Nat.mod_lt m (show 0 < 10 by decide)
      have hmod : (m : Int).tmod 10 = ((m % 10 : Nat) : Int) := by rw [Int.tmod_eq_emod_of_nonneg (by omega)]; omega
      generalize hq : m / 10 = q at *
      generalize hrr : m % 10 = r at *
      have HQ := Lib.hid hq
      have HR := Lib.hid hrr
      have q1 : q ≤ 1000000 := by omega
      clear hq hrr
      rcases hgo with rfl | hpos
      · rcases (show r = 0 ∨ r = 1 ∨ r = 2 ∨ r = 3 ∨ r = 4 ∨ r = 5 ∨ r = 6 ∨ r = 7 ∨ r = 8 ∨ r = 9 by omega) with rfl | rfl | rfl | rfl | rfl | rfl | rfl | rfl | rfl | rfl
        all_goals
          go_wp2_with fail
          go_roundw
          case rel =>
            refine ⟨q, _, rfl, ?_, by have := HQ.out; omega, ?_, trivial, .inr ⟨?_, ST.out⟩⟩
            · simp [enc0, enc1, enc2, enc3, enc4, enc5, enc6, enc7, enc8, enc9, bytes_app]
            · have := HQ.out; simp; omega
            · simp
          case measure => have := HQ.out; simp [intOf, strZ, ByteArray.data_append, enc0, enc1, enc2, enc3, enc4, enc5, enc6, enc7, enc8, enc9]; try omega
      · have h1 : (0 : Int) < m := by omega
        rcases (show r = 0 ∨ r = 1 ∨ r = 2 ∨ r = 3 ∨ r = 4 ∨ r = 5 ∨ r = 6 ∨ r = 7 ∨ r = 8 ∨ r = 9 by omega) with rfl | rfl | rfl | rfl | rfl | rfl | rfl | rfl | rfl | rfl
        all_goals
          cases O
          all_goals
            simp only [List.length_cons, List.length_nil] at hO
            have s0 : (Utf8.encode 48).size = 1 := rfl
            have s1 : (Utf8.encode 49).size = 1 := rfl
            have s2 : (Utf8.encode 50).size = 1 := rfl
            have s3 : (Utf8.encode 51).size = 1 := rfl
            have s4 : (Utf8.encode 52).size = 1 := rfl
            have s5 : (Utf8.encode 53).size = 1 := rfl
            have s6 : (Utf8.encode 54).size = 1 := rfl
            have s7 : (Utf8.encode 55).size = 1 := rfl
            have s8 : (Utf8.encode 56).size = 1 := rfl
            have s9 : (Utf8.encode 57).size = 1 := rfl
            go_wp2_with fail
            go_roundw
            case rel =>
              refine ⟨q, _, rfl, ?_, by have := HQ.out; omega, ?_, trivial, .inr ⟨?_, ST.out⟩⟩
              · simp [enc0, enc1, enc2, enc3, enc4, enc5, enc6, enc7, enc8, enc9, bytes_app]
              · have := HQ.out; simp at hO ⊢; omega
              · simp
            case measure => have := HQ.out; simp [intOf, strZ, ByteArray.data_append, enc0, enc1, enc2, enc3, enc4, enc5, enc6, enc7, enc8, enc9]; try omega
    · have hm0 : m = 0 := by omega
      subst hm0
      have hO : O ≠ [] := by intro h; exact hgo (.inl h)
      obtain ⟨c, r, rfl⟩ := List.exists_cons_of_ne_nil hO
      go_wp2_with fail
      go_ret
      refine ⟨?_, rfl⟩
      rcases hs.out with ⟨h, _⟩ | ⟨_, h⟩
      · cases h
      · rw [← h]; rfl
end Go.Proofs.YtcandidgaegghaaGreatDoor
end
section
namespace Go.Proofs.YtcandidgaegghaaGreatDoor
open Go Go.RowKit Ly
set_option maxRecDepth 10000
set_option linter.unusedSimpArgs false
set_option linter.unusedVariables false
set_option maxHeartbeats 1600000
theorem refForm_yes (f : Fm) (hz : f.sz) (h : f.right = true) (x : Value) (w : World) (hx : FmVal w f x) : Calls Tryz.prog 52 #[x] w fun e w' => e = .returned (.tuple #[str f.text, .int .i64 0]) ∧ Below w.heap.size w w' := by
  obtain ⟨a, k, c, a', m, d, rfl, h1, h2⟩ := hx
  have X : Hid (FmVal w f (.agg #[.int .u8 f.op, str f.name, .slice a k c, .slice a' m d])) := ⟨_, _, _, _, _, _, rfl, h1, h2⟩
  have HB : Hid (Below w.heap.size w (w.alloc (.cells #[.int .u8 f.op, str f.name, .slice a k c, .slice a' m d] 25))) := (Below.refl _ _).alloc (Nat.le_refl _) _
  have NEW := Lib.hid (heap_alloc_new w (.cells #[.int .u8 f.op, str f.name, .slice a k c, .slice a' m d] 25))
  have hn : f.nodes ≤ 1000000 := by simp only [Fm.right, Bool.and_eq_true, decide_eq_true_eq] at h; omega
  have R : Hid (Calls Tryz.prog 130 #[.agg #[.int .u8 f.op, str f.name, .slice a k c, .slice a' m d]] (w.alloc (.cells #[.int .u8 f.op, str f.name, .slice a k c, .slice a' m d] 25)) fun e w' => e = .returned (.bool true) ∧ Below (w.alloc (.cells #[.int .u8 f.op, str f.name, .slice a k c, .slice a' m d] 25)).heap.size (w.alloc (.cells #[.int .u8 f.op, str f.name, .slice a k c, .slice a' m d] 25)) w') := by
    have := refRight_c f hz hn _ (w.alloc (.cells #[.int .u8 f.op, str f.name, .slice a k c, .slice a' m d] 25)) ⟨_, _, _, _, _, _, rfl, h1.keep (keeps1 _ _), h2.keep (keeps1 _ _)⟩
    rwa [h] at this
  have T : Hid (∀ W, Below w.heap.size w W → Calls Tryz.prog 131 #[.agg #[.int .u8 f.op, str f.name, .slice a k c, .slice a' m d]] W fun e w' => e = .returned (str f.text) ∧ Below W.heap.size W w') := fun W b => refText_c f w W _ X.out b (ok_of_right h) (by have := (right_len h).2; omega)
  clear h1 h2 hz hn h
  go_enter Tryz.func52, Tryz.ntmps52
  go_wp2_with (first
    | (go_at_call 130; refine R.out.mono ?_; rintro e w1 ⟨rfl, b1⟩; have B1 := Lib.hid (belowThen HB.out b1); have N1 := Lib.hid (kc b1 NEW.out); clear b1; obtain ⟨x0, x1, x2, x3, -, -, -, -⟩ := row25' N1.out)
    | (go_at_call 131; refine (T.out _ B1.out).mono ?_; rintro e w2 ⟨rfl, b2⟩; have B2 := Lib.hid (belowThen B1.out b2); clear b2))
  go_ret2
  exact ⟨rfl, B2.out⟩
theorem refForm_no (f : Fm) (hz : f.sz) (hn : f.nodes ≤ 1000000) (h : f.right = false) (x : Value) (w : World) (hx : FmVal w f x) : Calls Tryz.prog 52 #[x] w fun e w' => e = .returned (.tuple #[str [], .int .i64 2]) ∧ Below w.heap.size w w' := by
  obtain ⟨a, k, c, a', m, d, rfl, h1, h2⟩ := hx
  have HB : Hid (Below w.heap.size w (w.alloc (.cells #[.int .u8 f.op, str f.name, .slice a k c, .slice a' m d] 25))) := (Below.refl _ _).alloc (Nat.le_refl _) _
  have R : Hid (Calls Tryz.prog 130 #[.agg #[.int .u8 f.op, str f.name, .slice a k c, .slice a' m d]] (w.alloc (.cells #[.int .u8 f.op, str f.name, .slice a k c, .slice a' m d] 25)) fun e w' => e = .returned (.bool false) ∧ Below (w.alloc (.cells #[.int .u8 f.op, str f.name, .slice a k c, .slice a' m d] 25)).heap.size (w.alloc (.cells #[.int .u8 f.op, str f.name, .slice a k c, .slice a' m d] 25)) w') := by
    have := refRight_c f hz hn _ (w.alloc (.cells #[.int .u8 f.op, str f.name, .slice a k c, .slice a' m d] 25)) ⟨_, _, _, _, _, _, rfl, h1.keep (keeps1 _ _), h2.keep (keeps1 _ _)⟩
    rwa [h] at this
  clear h1 h2 hz hn h
  go_enter Tryz.func52, Tryz.ntmps52
  go_wp2_with (go_at_call 130; refine R.out.mono ?_; rintro e w1 ⟨rfl, b1⟩; have B1 := Lib.hid (belowThen HB.out b1); clear b1)
  go_ret2
  exact ⟨rfl, B1.out⟩
def RO (f : Fm) : Prop := ∀ (lv : Nat) (z : Int) (_ : z = lv) (w0 w : World) (x : Value), FmVal w0 f x → Below w0.heap.size w0 w → f.right = true → lv + f.depth ≤ 1000 → Calls Tryz.prog 132 #[x, .int .i64 z] w (RetStrs ((f.outl lv).map oText) w)
theorem own_slice {B : Nat} {w : World} {l : List Bs} {v : Value} (h : OwnStrs B w l v) (hl : l ≠ []) : ∃ g c, v = .slice (some ⟨g, 0, none⟩) l.length c := by
  rcases h.2 with ⟨rfl, hn⟩ | ⟨g, cap, cur, rfl, _⟩
  · exact absurd (List.eq_nil_of_length_eq_zero hn) hl
  · exact ⟨g, cap, rfl⟩
theorem ro_step (op : Int) (n : Bs) (ts : List Tm) (fs : List Fm) (hh : ∀ f ∈ fs, RO f) : RO (.mk op n ts fs) := by
  intro lv z hz w0 w x hx hw hr hlv
  subst hz
  obtain ⟨a, k, c, a', m, d, rfl, hx, hx2⟩ := hx
  simp only [Fm.op, Fm.name, Fm.args, Fm.sub] at *
  have hm := hx2.len
  have hlm : m ≤ 9223372036854775807 := by have := le63 hm.2.2; omega
  have lv1 : lv ≤ 1000 := by omega
  have L2 := Lib.hid hm.1
  have H := Lib.hid hh
  have HX := Lib.hid hx
  have HX2 := Lib.hid hx2
  have HW := Lib.hid hw
  have RT := Lib.hid hr
  have HL := Lib.hid hlv
  have hok := ok_of_right hr
  have HO := Lib.hid (nameFits_of hok)
  have nl := name_le hok
  have hn : n.length ≤ 1000000 := by omega
  have il := itoa_len (n := (lv : Int)) (by omega) (by omega)
  have hdec : Lib.itoa (lv : Int) = Lib.decDigits lv := by unfold Lib.itoa; rw [if_neg (by omega)]; simp
  have RD : Hid (∀ W, Calls Tryz.prog 73 #[.int .i64 lv] W fun e w' => e = .returned (str (Lib.itoa (lv : Int))) ∧ W = w') := fun W => by rw [hdec]; exact digits_c lv (by omega) W
  have PL : Hid ((Fm.mk op n ts fs).parts ≤ 400) := by
    have := Fm.parts_le (Fm.mk op n ts fs)
    simp only [Fm.right, Bool.and_eq_true, decide_eq_true_eq] at hr
    show _ ≤ _; omega
  have NEW := Lib.hid (heap_alloc_new w (.cells #[.int .u8 op, str n, .slice a k c, .slice a' m d] 25))
  have HB : Hid (Below w.heap.size w (w.alloc (.cells #[.int .u8 op, str n, .slice a k c, .slice a' m d] 25))) := (Below.refl _ _).alloc (Nat.le_refl _) _
  have RWD : Hid (∀ W, Calls Tryz.prog 213 #[.agg #[.int .u8 op, str n, .slice a k c, .slice a' m d]] W fun e w' => e = .returned (.tuple #[str (wdFirst op n), str (wdBetween op)]) ∧ Below W.heap.size W w') := fun W => wd_c op (by have := HO.out; omega) n hn a k c a' m d W
  have RTX : Hid (∀ W, Below w.heap.size w W → Calls Tryz.prog 131 #[.agg #[.int .u8 op, str n, .slice a k c, .slice a' m d]] W fun e w' => e = .returned (str (Fm.mk op n ts fs).text) ∧ Below W.heap.size W w') := fun W b => refText_c (.mk op n ts fs) w0 W _ ⟨_, _, _, _, _, _, rfl, hx, hx2⟩ (belowThen hw b) hok (by have := (right_len hr).2; omega)
  obtain ⟨HD, hHD⟩ : ∃ h, (Fm.mk op n ts fs).head = h := ⟨_, rfl⟩
  have HDE := Lib.hid hHD
  have hdl : HD.length ≤ 16000 := by
    rw [← hHD]
    by_cases ha : op = 1 ∨ op = 2
    · rw [head_atom n ts fs ha]; exact (right_len hr).2
    · rw [head_op n ts fs ha]; have := (sign_len op n).1; omega
  obtain ⟨i0, hi0, hz0, hs0, hb0⟩ := info_parts info9
  have H1 : op = 1 → Hid ((Fm.mk op n ts fs).text = HD) := fun h => by show _ = _; rw [← hHD, head_atom n ts fs (.inl h)]
  have H2 : ¬ op = 1 → Hid (wdFirst op n = HD) := fun h => by
    show _ = _
    rw [← hHD]
    by_cases h2 : op = 2
    · rw [head_atom n ts fs (.inr h2), wdFirst, if_pos (.inr h2)]; subst h2; simp [Fm.text, Fm.words, joinSp]
    · rw [head_op n ts fs (by omega), wdFirst, if_neg (by omega)]
  clear hh hx hx2 hw hr hlv hok hm hHD hdec hn
  by_cases o1 : op = 1
  · have t1 : (op == 1) = true := by simpa using o1
    have E1 := H1 o1
    clear H1 H2 o1
    go_enter Tryz.func132, Tryz.ntmps132
    go_wp2_with (first
      | (go_at_call 213; refine (RWD.out _).mono ?_; rintro e w1 ⟨rfl, b1⟩; have B1 := Lib.hid (belowThen HB.out b1); have N1 := Lib.hid (kc b1 NEW.out); clear b1; obtain ⟨x0, x1, x2, x3, -, -, -, -⟩ := row25' N1.out)
      | (go_at_call 131; refine (RTX.out _ B1.out).mono ?_; rintro e w2 ⟨rfl, b2⟩; rw [show (Fm.mk op n ts fs).text = HD from E1.out]; have B2 := Lib.hid (belowThen B1.out b2); have N2 := Lib.hid (kc b2 N1.out); clear b2)
      | (go_at_call 73; refine (RD.out _).mono ?_; rintro e w3 ⟨rfl, rfl⟩))
    have BZ := B2
    have NZ := N2
    clear B1 N1 B2 N2 x0 x1 x2 x3 RTX RWD E1
    go_loopw [7, 8] (fun u i wr => ∃ (j : Nat) (L : List Bs), j ≤ m ∧ i = .int .i64 j ∧ L.length ≤ 401 ∧ Hid (L = ((lv, HD) :: fmsOutl (lv + 1) (fs.take j)).map oText ∧ OwnStrs (w.heap.size + 1) wr L u ∧ Below w.heap.size w wr ∧ wr.heap[w.heap.size]? = some (.cells #[.int .u8 op, str n, .slice a k c, .slice a' m d] 25 (0, 0)))) (fun _ i _ => m - (intOf i).toNat)
    case atStart => exact ⟨0, [oText (lv, HD)], Nat.zero_le _, rfl, by simp, by simp [fmsOutl], by rw [oText_str]; exact own_at _ _ rfl (Array.getElem?_eq_some_iff.1 NZ.out).1, belowThen BZ.out ((Below.refl _ _).alloc (Nat.le_refl _) _), kc ((Below.refl _ _).alloc (Nat.le_refl _) _) NZ.out⟩
    case round =>
      clear BZ NZ
      obtain ⟨j, L, hj, rfl, hLl, hs⟩ := hrel
      obtain ⟨x0, x1, x2, x3, -, -, -, -⟩ := row25' hs.out.2.2.2
      by_cases hlt : j < m
      · obtain ⟨T, hT⟩ := get_of_lt (l := fs) (j := j) (by rw [← L2.out]; exact hlt)
        obtain ⟨bb, off, rfl, hc⟩ := HX2.out.get (ne_of_get hT)
        obtain ⟨y0, y1, y2, y3, y4, y5, hy⟩ := hc j _ hT
        have hK := keeps_of_below (belowThen HW.out hs.out.2.2.1)
        have c0 := hK _ _ hy.c0; have c1 := hK _ _ hy.c1; have c2 := hK _ _ hy.c2; have c3 := hK _ _ hy.c3
        have X : Hid (FmVal w0 T (.agg #[.int .u8 T.op, str T.name, .slice y0 y1 y2, .slice y3 y4 y5])) := ⟨_, _, _, _, _, _, rfl, hy.at_, hy.at'⟩
        have HM := Lib.hid (List.mem_of_getElem? hT)
        have RS := Lib.hid (Fm.right_sub RT.out T HM.out)
        have TK := Lib.hid (fmsOutl_snoc (lv + 1) hT)
        have LL : Hid (L.length + (T.outl (lv + 1)).length ≤ 401) := by
          have e1 := fmsOutl_take_len fs (lv + 1) (j + 1)
          rw [TK.out, List.length_append] at e1
          have e2 := PL.out
          simp only [Fm.parts] at e2
          have e3 := hs.out.1
          have e4 : L.length = 1 + (fmsOutl (lv + 1) (fs.take j)).length := by rw [e3]; simp; omega
          show _ ≤ _; omega
        have LN : Hid ((T.outl (lv + 1)).map oText ≠ []) := by
          show _ ≠ _
          intro h
          exact outl_ne T (lv + 1) (List.map_eq_nil_iff.1 h)
        obtain ⟨M, hM⟩ : ∃ M, (T.outl (lv + 1)).map oText = M := ⟨_, rfl⟩
        have HM2 := Lib.hid hM
        have ML : Hid (M.length = (T.outl (lv + 1)).length) := by show _ = _; rw [← hM]; simp
        rw [hM] at LN
        clear hc hy hT hK hM
        go_wp2_with (first
          | (go_at_call 132; refine (H.out T HM.out (lv + 1) _ (by push_cast; rfl) w0 _ _ X.out (belowThen HW.out hs.out.2.2.1) RS.out.1 (by have := RS.out.2.1; have := HL.out; omega)).mono ?_; rintro e w3 ⟨v3, rfl, o3, b3⟩; rw [HM2.out] at o3; obtain ⟨g3, c3', rfl⟩ := own_slice o3 LN.out; have O3 := Lib.hid o3; have B3 := Lib.hid b3; have OW := Lib.hid (hs.out.2.1.below b3); clear o3 b3)
          | (at_builtin; refine wpList_append_own _ rfl _ _ 36 rfl (w.heap.size + 1) 9 i0 (.string ⟨#[]⟩) 1 16 Tryz.underlying36 hi0 hz0 hs0 hb0 rfl (by decide) _ _ _ rfl OW.out ⟨g3, 0, none⟩ M.length c3' (M.map str) rfl (by simp) (fun j u hu => O3.out.cells (g := g3) rfl j u hu) (fun u hu => by obtain ⟨y, _, rfl⟩ := List.mem_map.1 hu; rfl) (by have := LL.out; have := ML.out; unfold maxLen; omega) (by have := LL.out; have := ML.out; omega) (Nat.le_trans (Array.getElem?_eq_some_iff.1 hs.out.2.2.2).1 B3.out.size) ?_; intro v4 w4 hown4 hg4 _))
        go_roundw
        case rel =>
          refine ⟨j + 1, L ++ M, by omega, by go_num, by have := LL.out; have := ML.out; simp; omega, ?_, ?_, ?_, ?_⟩
          · rw [TK.out, hs.out.1, ← HM2.out]; simp
          · unfold OwnStrs
            rw [List.length_append, List.map_append]
            exact hown4
          · exact (belowThen hs.out.2.2.1 B3.out).grown hg4 (belowThen hs.out.2.2.1 B3.out).size (fun kk hkk => Nat.le_of_succ_le (OW.out.lt kk hkk).1)
          · have z := (Array.getElem?_eq_some_iff.1 (kc B3.out hs.out.2.2.2)).1
            rw [hg4.block _ z (fun e => by have := (OW.out.lt _ e.symm).1; omega)]
            exact kc B3.out hs.out.2.2.2
        case measure => simp [intOf]; omega
      · go_wp2_with fail
        go_ret
        refine ⟨_, rfl, ?_, hs.out.2.2.1⟩
        have h2 := hs.out.2.1
        have e := hs.out.1
        rw [List.take_of_length_le (by rw [← L2.out]; omega)] at e
        rw [e, ← HDE.out] at h2
        have h3 := h2.mono (Nat.le_succ w.heap.size)
        simpa [Fm.outl] using h3
  · have t1 : (op == 1) = false := by simpa using o1
    have E1 := H2 o1
    clear H1 H2 RTX o1
    go_enter Tryz.func132, Tryz.ntmps132
    go_wp2_with (first
      | (go_at_call 213; refine (RWD.out _).mono ?_; rintro e w1 ⟨rfl, b1⟩; rw [show wdFirst op n = HD from E1.out]; have B1 := Lib.hid (belowThen HB.out b1); have N1 := Lib.hid (kc b1 NEW.out); clear b1; obtain ⟨x0, x1, x2, x3, -, -, -, -⟩ := row25' N1.out)
      | (go_at_call 73; refine (RD.out _).mono ?_; rintro e w3 ⟨rfl, rfl⟩))
    have BZ := B1
    have NZ := N1
    clear B1 N1 x0 x1 x2 x3 RWD E1
    go_loopw [7, 8] (fun u i wr => ∃ (j : Nat) (L : List Bs), j ≤ m ∧ i = .int .i64 j ∧ L.length ≤ 401 ∧ Hid (L = ((lv, HD) :: fmsOutl (lv + 1) (fs.take j)).map oText ∧ OwnStrs (w.heap.size + 1) wr L u ∧ Below w.heap.size w wr ∧ wr.heap[w.heap.size]? = some (.cells #[.int .u8 op, str n, .slice a k c, .slice a' m d] 25 (0, 0)))) (fun _ i _ => m - (intOf i).toNat)
    case atStart => exact ⟨0, [oText (lv, HD)], Nat.zero_le _, rfl, by simp, by simp [fmsOutl], by rw [oText_str]; exact own_at _ _ rfl (Array.getElem?_eq_some_iff.1 NZ.out).1, belowThen BZ.out ((Below.refl _ _).alloc (Nat.le_refl _) _), kc ((Below.refl _ _).alloc (Nat.le_refl _) _) NZ.out⟩
    case round =>
      clear BZ NZ
      obtain ⟨j, L, hj, rfl, hLl, hs⟩ := hrel
      obtain ⟨x0, x1, x2, x3, -, -, -, -⟩ := row25' hs.out.2.2.2
      by_cases hlt : j < m
      · obtain ⟨T, hT⟩ := get_of_lt (l := fs) (j := j) (by rw [← L2.out]; exact hlt)
        obtain ⟨bb, off, rfl, hc⟩ := HX2.out.get (ne_of_get hT)
        obtain ⟨y0, y1, y2, y3, y4, y5, hy⟩ := hc j _ hT
        have hK := keeps_of_below (belowThen HW.out hs.out.2.2.1)
        have c0 := hK _ _ hy.c0; have c1 := hK _ _ hy.c1; have c2 := hK _ _ hy.c2; have c3 := hK _ _ hy.c3
        have X : Hid (FmVal w0 T (.agg #[.int .u8 T.op, str T.name, .slice y0 y1 y2, .slice y3 y4 y5])) := ⟨_, _, _, _, _, _, rfl, hy.at_, hy.at'⟩
        have HM := Lib.hid (List.mem_of_getElem? hT)
        have RS := Lib.hid (Fm.right_sub RT.out T HM.out)
        have TK := Lib.hid (fmsOutl_snoc (lv + 1) hT)
        have LL : Hid (L.length + (T.outl (lv + 1)).length ≤ 401) := by
          have e1 := fmsOutl_take_len fs (lv + 1) (j + 1)
          rw [TK.out, List.length_append] at e1
          have e2 := PL.out
          simp only [Fm.parts] at e2
          have e3 := hs.out.1
          have e4 : L.length = 1 + (fmsOutl (lv + 1) (fs.take j)).length := by rw [e3]; simp; omega
          show _ ≤ _; omega
        have LN : Hid ((T.outl (lv + 1)).map oText ≠ []) := by
          show _ ≠ _
          intro h
          exact outl_ne T (lv + 1) (List.map_eq_nil_iff.1 h)
        obtain ⟨M, hM⟩ : ∃ M, (T.outl (lv + 1)).map oText = M := ⟨_, rfl⟩
        have HM2 := Lib.hid hM
        have ML : Hid (M.length = (T.outl (lv + 1)).length) := by show _ = _; rw [← hM]; simp
        rw [hM] at LN
        clear hc hy hT hK hM
        go_wp2_with (first
          | (go_at_call 132; refine (H.out T HM.out (lv + 1) _ (by push_cast; rfl) w0 _ _ X.out (belowThen HW.out hs.out.2.2.1) RS.out.1 (by have := RS.out.2.1; have := HL.out; omega)).mono ?_; rintro e w3 ⟨v3, rfl, o3, b3⟩; rw [HM2.out] at o3; obtain ⟨g3, c3', rfl⟩ := own_slice o3 LN.out; have O3 := Lib.hid o3; have B3 := Lib.hid b3; have OW := Lib.hid (hs.out.2.1.below b3); clear o3 b3)
          | (at_builtin; refine wpList_append_own _ rfl _ _ 36 rfl (w.heap.size + 1) 9 i0 (.string ⟨#[]⟩) 1 16 Tryz.underlying36 hi0 hz0 hs0 hb0 rfl (by decide) _ _ _ rfl OW.out ⟨g3, 0, none⟩ M.length c3' (M.map str) rfl (by simp) (fun j u hu => O3.out.cells (g := g3) rfl j u hu) (fun u hu => by obtain ⟨y, _, rfl⟩ := List.mem_map.1 hu; rfl) (by have := LL.out; have := ML.out; unfold maxLen; omega) (by have := LL.out; have := ML.out; omega) (Nat.le_trans (Array.getElem?_eq_some_iff.1 hs.out.2.2.2).1 B3.out.size) ?_; intro v4 w4 hown4 hg4 _))
        go_roundw
        case rel =>
          refine ⟨j + 1, L ++ M, by omega, by go_num, by have := LL.out; have := ML.out; simp; omega, ?_, ?_, ?_, ?_⟩
          · rw [TK.out, hs.out.1, ← HM2.out]; simp
          · unfold OwnStrs
            rw [List.length_append, List.map_append]
            exact hown4
          · exact (belowThen hs.out.2.2.1 B3.out).grown hg4 (belowThen hs.out.2.2.1 B3.out).size (fun kk hkk => Nat.le_of_succ_le (OW.out.lt kk hkk).1)
          · have z := (Array.getElem?_eq_some_iff.1 (kc B3.out hs.out.2.2.2)).1
            rw [hg4.block _ z (fun e => by have := (OW.out.lt _ e.symm).1; omega)]
            exact kc B3.out hs.out.2.2.2
        case measure => simp [intOf]; omega
      · go_wp2_with fail
        go_ret
        refine ⟨_, rfl, ?_, hs.out.2.2.1⟩
        have h2 := hs.out.2.1
        have e := hs.out.1
        rw [List.take_of_length_le (by rw [← L2.out]; omega)] at e
        rw [e, ← HDE.out] at h2
        have h3 := h2.mono (Nat.le_succ w.heap.size)
        simpa [Fm.outl] using h3
mutual
theorem refOutl_c : ∀ t : Fm, RO t
  | .mk o n ts fs => ro_step o n ts fs (refOutlAll fs)
theorem refOutlAll : ∀ l : List Fm, ∀ t ∈ l, RO t
  | [], _, h => by cases h
  | x :: xs, t, h => by
    rcases List.mem_cons.1 h with e | e
    · rw [e]; exact refOutl_c x
    · exact refOutlAll xs t e
end
theorem refOutline_yes (f : Fm) (hz : f.sz) (h : f.right = true) (x : Value) (w : World) (hx : FmVal w f x) : Calls Tryz.prog 53 #[x] w fun e w' => ∃ v, e = .returned (.tuple #[v, .int .i64 0]) ∧ OwnStrs w.heap.size w' ((f.outl 0).map oText) v ∧ Below w.heap.size w w' := by
  obtain ⟨a, k, c, a', m, d, rfl, h1, h2⟩ := hx
  have X : Hid (FmVal w f (.agg #[.int .u8 f.op, str f.name, .slice a k c, .slice a' m d])) := ⟨_, _, _, _, _, _, rfl, h1, h2⟩
  have HB : Hid (Below w.heap.size w (w.alloc (.cells #[.int .u8 f.op, str f.name, .slice a k c, .slice a' m d] 25))) := (Below.refl _ _).alloc (Nat.le_refl _) _
  have NEW := Lib.hid (heap_alloc_new w (.cells #[.int .u8 f.op, str f.name, .slice a k c, .slice a' m d] 25))
  have hn : f.nodes ≤ 1000000 ∧ f.depth ≤ 1000 := by simp only [Fm.right, Bool.and_eq_true, decide_eq_true_eq] at h; omega
  have R : Hid (Calls Tryz.prog 130 #[.agg #[.int .u8 f.op, str f.name, .slice a k c, .slice a' m d]] (w.alloc (.cells #[.int .u8 f.op, str f.name, .slice a k c, .slice a' m d] 25)) fun e w' => e = .returned (.bool true) ∧ Below (w.alloc (.cells #[.int .u8 f.op, str f.name, .slice a k c, .slice a' m d] 25)).heap.size (w.alloc (.cells #[.int .u8 f.op, str f.name, .slice a k c, .slice a' m d] 25)) w') := by
    have := refRight_c f hz hn.1 _ (w.alloc (.cells #[.int .u8 f.op, str f.name, .slice a k c, .slice a' m d] 25)) ⟨_, _, _, _, _, _, rfl, h1.keep (keeps1 _ _), h2.keep (keeps1 _ _)⟩
    rwa [h] at this
  have T : Hid (∀ W, Below w.heap.size w W → Calls Tryz.prog 132 #[.agg #[.int .u8 f.op, str f.name, .slice a k c, .slice a' m d], .int .i64 0] W (RetStrs ((f.outl 0).map oText) W)) := fun W b => refOutl_c f 0 0 rfl w W _ X.out b h (by omega)
  clear h1 h2 hz hn h
  go_enter Tryz.func53, Tryz.ntmps53
  go_wp2_with (first
    | (go_at_call 130; refine R.out.mono ?_; rintro e w1 ⟨rfl, b1⟩; have B1 := Lib.hid (belowThen HB.out b1); have N1 := Lib.hid (kc b1 NEW.out); clear b1; obtain ⟨x0, x1, x2, x3, -, -, -, -⟩ := row25' N1.out)
    | (go_at_call 132; refine (T.out _ B1.out).mono ?_; rintro e w2 ⟨v, rfl, o2, b2⟩; have O2 := Lib.hid o2; have B2 := Lib.hid (belowThen B1.out b2); clear b2 o2))
  exact bodyPost_ret (v := .tuple #[v, .int .i64 0]) (by simp [results, Tryz.results53, go_sem]) rfl ⟨v, rfl, O2.out.mono B1.out.size, B2.out⟩
theorem refOutline_no (f : Fm) (hz : f.sz) (hn : f.nodes ≤ 1000000) (h : f.right = false) (x : Value) (w : World) (hx : FmVal w f x) : Calls Tryz.prog 53 #[x] w fun e w' => e = .returned (.tuple #[.slice none 0 0, .int .i64 2]) ∧ Below w.heap.size w w' := by
  obtain ⟨a, k, c, a', m, d, rfl, h1, h2⟩ := hx
  have HB : Hid (Below w.heap.size w (w.alloc (.cells #[.int .u8 f.op, str f.name, .slice a k c, .slice a' m d] 25))) := (Below.refl _ _).alloc (Nat.le_refl _) _
  have R : Hid (Calls Tryz.prog 130 #[.agg #[.int .u8 f.op, str f.name, .slice a k c, .slice a' m d]] (w.alloc (.cells #[.int .u8 f.op, str f.name, .slice a k c, .slice a' m d] 25)) fun e w' => e = .returned (.bool false) ∧ Below (w.alloc (.cells #[.int .u8 f.op, str f.name, .slice a k c, .slice a' m d] 25)).heap.size (w.alloc (.cells #[.int .u8 f.op, str f.name, .slice a k c, .slice a' m d] 25)) w') := by
    have := refRight_c f hz hn _ (w.alloc (.cells #[.int .u8 f.op, str f.name, .slice a k c, .slice a' m d] 25)) ⟨_, _, _, _, _, _, rfl, h1.keep (keeps1 _ _), h2.keep (keeps1 _ _)⟩
    rwa [h] at this
  clear h1 h2 hz hn h
  go_enter Tryz.func53, Tryz.ntmps53
  go_wp2_with (go_at_call 130; refine R.out.mono ?_; rintro e w1 ⟨rfl, b1⟩; have B1 := Lib.hid (belowThen HB.out b1); clear b1)
  exact bodyPost_ret (v := .tuple #[.slice none 0 0, .int .i64 2]) (by simp [results, Tryz.results53, go_sem]) rfl ⟨rfl, B1.out⟩
end Go.Proofs.YtcandidgaegghaaGreatDoor
end
section
namespace Go.Proofs.YtcandidgaegghaaGreatDoor
open Go Go.RowKit Ly
set_option maxRecDepth 10000
set_option linter.unusedSimpArgs false
set_option linter.unusedVariables false
def clR (G S : List Fm) : Bool := (G ++ S).all Fm.right
def clTxt (G S : List Fm) : Bs := if clR G S = true then claimText G S else []
def clCd (G S : List Fm) : Int := if clR G S = true then 0 else 2
theorem cl_yes {G S : List Fm} (hG : ∀ g ∈ G, g.right = true) (hS : ∀ g ∈ S, g.right = true) : clTxt G S = claimText G S ∧ clCd G S = 0 := by
  have h : clR G S = true := by
    unfold clR
    rw [List.all_eq_true]
    intro x hx
    rcases List.mem_append.1 hx with h | h
    · exact hG x h
    · exact hS x h
  simp [clTxt, clCd, h]
theorem cl_no {G S : List Fm} {T : Fm} (h : T ∈ G ++ S) (hT : T.right = false) : clTxt G S = [] ∧ clCd G S = 2 := by
  have h : ¬ clR G S = true := by
    unfold clR
    rw [List.all_eq_true]
    intro hh
    have := hh T h
    rw [hT] at this; cases this
  simp [clTxt, clCd, h]
set_option maxHeartbeats 4000000 in
theorem Claim_any (G S : List Fm) (zG : fmsSz G) (zS : fmsSz S) (hlen : G.length + S.length ≤ 1000) (x : Value) (w : World) (hr : RowsAt w) (hrn : RowsNo w) (hx : SqVal w G S x) :
    Calls Tryz.prog 22 #[x] w fun e w' => e = .returned (.tuple #[str (clTxt G S), .int .i64 (clCd G S)]) ∧ Below w.heap.size w w' := by
  obtain ⟨a, k, c, a', m, d, rfl, h1, h2⟩ := hx
  have hk := h1.len
  have hm := h2.len
  have hkl : k ≤ 1000 := by omega
  have hml : m ≤ 1000 := by omega
  have L1 := Lib.hid hk.1
  have L2 := Lib.hid hm.1
  have HX := Lib.hid h1
  have HY := Lib.hid h2
  have HR := Lib.hid hr
  have HRN := Lib.hid hrn
  have ZG : Hid (∀ g ∈ G, g.sz) := (fmsSz_iff G).1 zG
  have ZS : Hid (∀ g ∈ S, g.sz) := (fmsSz_iff S).1 zS
  have HL := Lib.hid hlen
  clear hk hm h1 h2 hr hrn zG zS hlen
  obtain ⟨i0, hi0, hz0, hs0, hb0⟩ := info_parts info9
  go_enter Tryz.func22, Tryz.ntmps22
  go_wp2_with fail
  have WB : Hid (Below w.heap.size w (w.alloc (.cells #[.slice a k c, .slice a' m d] 48))) := (Below.refl _ _).alloc (Nat.le_refl _) _
  have WK := Lib.hid (keeps1 w (.cells #[.slice a k c, .slice a' m d] 48))
  have E1 : Hid ((w.alloc (.cells #[.slice a k c, .slice a' m d] 48)).cell? ⟨w.heap.size, 1, none⟩ = some (.slice a' m d)) := by show _ = _; simp [go_sem]
  generalize hW : w.alloc (.cells #[.slice a k c, .slice a' m d] 48) = W0 at *
  have HX := Lib.hid (HX.out.keep WK.out)
  have HY := Lib.hid (HY.out.keep WK.out)
  have HR := Lib.hid (HR.out.keep WK.out)
  have HRN := Lib.hid (HRN.out.keep WK.out)
  clear hW
  go_loopw [4, 12] (fun u i wr => ∃ j : Nat, j ≤ k ∧ i = .int .i64 j ∧ Hid (OwnStrs W0.heap.size wr ((G.take j).map (fun g => wGiven ++ g.text)) u ∧ Below W0.heap.size W0 wr ∧ ∀ g ∈ G.take j, g.right = true)) (fun _ i _ => k - (intOf i).toNat)
  case atStart => exact ⟨0, Nat.zero_le _, rfl, World.ownsRow_nil _ _ _ _, Below.refl _ _, by simp⟩
  case round =>
    obtain ⟨j, hj, rfl, hr⟩ := hrel
    by_cases hlt : j < k
    · obtain ⟨T, hT⟩ := get_of_lt (l := G) (j := j) (by rw [← L1.out]; exact hlt)
      obtain ⟨b, off, rfl, hc⟩ := HX.out.get (ne_of_get hT)
      obtain ⟨x0, x1, x2, y0, y1, y2, hx⟩ := hc j _ hT
      have hK := keeps_of_below hr.out.2.1
      have c0 := hK _ _ hx.c0; have c1 := hK _ _ hx.c1; have c2 := hK _ _ hx.c2; have c3 := hK _ _ hx.c3
      have X := Lib.hid (hx.at_.keep hK)
      have Y := Lib.hid (hx.at'.keep hK)
      have PR := Lib.hid hr.out.2.2
      have SZ := Lib.hid (ZG.out T (List.mem_of_getElem? hT))
      have MT : Hid (T ∈ G ++ S) := List.mem_append_left _ (List.mem_of_getElem? hT)
      have RW := Lib.hid (HR.out.keep hK)
      have RWN := Lib.hid (HRN.out.keep hK)
      have OWN := Lib.hid hr.out.1
      have BLW := Lib.hid hr.out.2.1
      have hT := Lib.hid hT
      clear hc hx hK hr
      by_cases hT3 : T.right = true
      rotate_left
      · have RF : T.right = false := by simpa using hT3
        have NO := Lib.hid (cl_no MT.out RF)
        have RFH := Lib.hid RF
        clear hT3 RF
        go_wp2_with fail
        refine (Right_any T false RFH.out SZ.out (.agg #[.int .u8 T.op, str T.name, .slice x0 x1 x2, .slice y0 y1 y2]) _ (RW.out.keep (keeps1 _ _)) (RWN.out.keep (keeps1 _ _)) ⟨_, _, _, _, _, _, rfl, X.out.keep (keeps1 _ _), Y.out.keep (keeps1 _ _)⟩).mono ?_
        rintro e w1 ⟨rfl, b1⟩
        have R := Lib.hid (WB.out.trans ((belowThen BLW.out (below1 b1)).mono WB.out.size))
        clear b1
        go_wp2_with fail
        exact bodyPost_ret (v := .tuple #[str [], .int .i64 2]) (by simp [results, Tryz.results22, go_sem]) rfl ⟨by rw [NO.out.1, NO.out.2], R.out⟩
      have RT := Lib.hid hT3
      clear hT3
      go_wp2_with fail
      refine (Right_yes T (.agg #[.int .u8 T.op, str T.name, .slice x0 x1 x2, .slice y0 y1 y2]) _ (RW.out.keep (keeps1 _ _)) ⟨_, _, _, _, _, _, rfl, X.out.keep (keeps1 _ _), Y.out.keep (keeps1 _ _)⟩ RT.out).mono ?_
      rintro e w1 ⟨rfl, b1⟩
      obtain ⟨hc1, hf1⟩ := bcell b1
      have B1 := Lib.hid b1
      have K1 : Hid (Keeps wr w1) := keeps_of_below (below1 b1)
      go_wp2_with fail
      refine (text_c T (ok_of_right RT.out) (len_of_right RT.out) _ _ _ _ _ _ _ (X.out.keep K1.out) (Y.out.keep K1.out)).mono ?_
      rintro e w2 ⟨rfl, b2⟩
      have B2 := Lib.hid (belowThen (below1 B1.out) b2)
      have TL := Lib.hid (right_len RT.out).2
      have tl : T.text.length ≤ 1000000 := by have := TL.out; omega
      have OWN2 := Lib.hid (OwnStrs.below OWN.out B2.out)
      have BL2 := Lib.hid (BLW.out.trans (B2.out.mono BLW.out.size))
      have M1 := Lib.hid (map_snoc (fun g : Fm => wGiven ++ g.text) hT.out)
      have PR2 : Hid (∀ g ∈ G.take (j + 1), g.right = true) := by
        intro g hg
        rw [List.take_add_one, hT.out] at hg
        rcases List.mem_append.1 hg with h | h
        · exact PR.out g h
        · have : g = T := by simpa using h
          rw [this]; exact RT.out
      have LE : Hid (((G.take j).map (fun g : Fm => wGiven ++ g.text)).length ≤ 1000) := by show _ ≤ _; simp only [List.length_append, List.length_map, List.length_take]; have := L1.out; have := L1.out; have := L2.out; have := HL.out; omega
      have E2 : Hid ((G.take (j + 1)).map (fun g : Fm => wGiven ++ g.text) = ((G.take j).map (fun g : Fm => wGiven ++ g.text)) ++ [wGiven ++ T.text]) := by show _ = _; rw [M1.out]
      generalize (G.take j).map (fun g : Fm => wGiven ++ g.text) = M at *
      have C3 : Hid (M.length + 1 ≤ maxLen ∧ (M.length + 1) * 16 ≤ 140737488355328) := by
        have h1 := LE.out
        exact ⟨by unfold maxLen; omega, by omega⟩
      have C6 : Hid (W0.heap.size ≤ (w2.alloc (.cells #[.string (⟨#[103, 105, 118, 101, 110, 32]⟩ ++ ⟨T.text.toArray⟩)] 9)).heap.size) := by
        have := BL2.out.size; show _ ≤ _; simp; omega
      go_wp2_with (at_builtin; refine wpList_append_own _ rfl _ _ 36 rfl W0.heap.size 9 i0 (.string ⟨#[]⟩) 1 16 Tryz.underlying36 hi0 hz0 hs0 hb0 rfl (by decide) _ _ _ rfl (OWN2.out.alloc _) ⟨w2.heap.size, 0, none⟩ 1 1 [.string (⟨#[103, 105, 118, 101, 110, 32]⟩ ++ ⟨T.text.toArray⟩)] rfl rfl (cell_one_new _ _ _) (by intro u hu; simp at hu; subst hu; rfl) C3.out.1 C3.out.2 C6.out ?_)
      intro v' w3 hown2 hg2 _
      have R : Hid (OwnStrs W0.heap.size w3 ((G.take (j + 1)).map (fun g : Fm => wGiven ++ g.text)) v' ∧ Below W0.heap.size W0 w3 ∧ ∀ g ∈ G.take (j + 1), g.right = true) := by
        refine ⟨?_, (BL2.out.alloc BL2.out.size _).grown hg2 C6.out (fun kk hkk => (OWN2.out.lt kk hkk).1), PR2.out⟩
        rw [E2.out]
        unfold OwnStrs
        rw [List.length_append, List.map_append]
        rw [str_app] at hown2
        exact hown2
      clear hown2 hg2
      go_wp2_with fail
      go_roundw
      case rel => exact ⟨j + 1, by omega, by go_num, R⟩
      case measure => simp [intOf]; omega
    · have e : G.take j = G := List.take_of_length_le (by rw [← L1.out]; omega)
      have HG : Hid (∀ g ∈ G, g.right = true) := by have := hr.out.2.2; rw [e] at this; exact this
      have HO : Hid (OwnStrs W0.heap.size wr (G.map (fun g => wGiven ++ g.text)) u4) := by have := hr.out.1; rw [e] at this; exact this
      have HB := Lib.hid hr.out.2.1
      have f1 := keeps_of_below hr.out.2.1 _ _ E1.out
      clear hr e
      go_wp2_with fail
      go_loopw [4, 29] (fun u i wr => ∃ j : Nat, j ≤ m ∧ i = .int .i64 j ∧ Hid (OwnStrs W0.heap.size wr (G.map (fun g => wGiven ++ g.text) ++ (S.take j).map (fun g => wShow ++ g.text)) u ∧ Below W0.heap.size W0 wr ∧ ∀ g ∈ S.take j, g.right = true)) (fun _ i _ => m - (intOf i).toNat)
      case atStart => exact ⟨0, Nat.zero_le _, rfl, by simpa using HO.out, HB.out, by simp⟩
      case round =>
        obtain ⟨j, hj, rfl, hr⟩ := hrel
        by_cases hlt : j < m
        · obtain ⟨T, hT⟩ := get_of_lt (l := S) (j := j) (by rw [← L2.out]; exact hlt)
          obtain ⟨b, off, rfl, hc⟩ := HY.out.get (ne_of_get hT)
          obtain ⟨x0, x1, x2, y0, y1, y2, hx⟩ := hc j _ hT
          have hK := keeps_of_below hr.out.2.1
          have c0 := hK _ _ hx.c0; have c1 := hK _ _ hx.c1; have c2 := hK _ _ hx.c2; have c3 := hK _ _ hx.c3
          have X := Lib.hid (hx.at_.keep hK)
          have Y := Lib.hid (hx.at'.keep hK)
          have PR := Lib.hid hr.out.2.2
          have SZ := Lib.hid (ZS.out T (List.mem_of_getElem? hT))
          have MT : Hid (T ∈ G ++ S) := List.mem_append_right _ (List.mem_of_getElem? hT)
          have RW := Lib.hid (HR.out.keep hK)
          have RWN := Lib.hid (HRN.out.keep hK)
          have OWN := Lib.hid hr.out.1
          have BLW := Lib.hid hr.out.2.1
          have hT := Lib.hid hT
          clear hc hx hK hr
          by_cases hT3 : T.right = true
          rotate_left
          · have RF : T.right = false := by simpa using hT3
            have NO := Lib.hid (cl_no MT.out RF)
            have RFH := Lib.hid RF
            clear hT3 RF
            go_wp2_with fail
            refine (Right_any T false RFH.out SZ.out (.agg #[.int .u8 T.op, str T.name, .slice x0 x1 x2, .slice y0 y1 y2]) _ (RW.out.keep (keeps1 _ _)) (RWN.out.keep (keeps1 _ _)) ⟨_, _, _, _, _, _, rfl, X.out.keep (keeps1 _ _), Y.out.keep (keeps1 _ _)⟩).mono ?_
            rintro e w1 ⟨rfl, b1⟩
            have R := Lib.hid (WB.out.trans ((belowThen BLW.out (below1 b1)).mono WB.out.size))
            clear b1
            go_wp2_with fail
            exact bodyPost_ret (v := .tuple #[str [], .int .i64 2]) (by simp [results, Tryz.results22, go_sem]) rfl ⟨by rw [NO.out.1, NO.out.2], R.out⟩
          have RT := Lib.hid hT3
          clear hT3
          go_wp2_with fail
          refine (Right_yes T (.agg #[.int .u8 T.op, str T.name, .slice x0 x1 x2, .slice y0 y1 y2]) _ (RW.out.keep (keeps1 _ _)) ⟨_, _, _, _, _, _, rfl, X.out.keep (keeps1 _ _), Y.out.keep (keeps1 _ _)⟩ RT.out).mono ?_
          rintro e w1 ⟨rfl, b1⟩
          obtain ⟨hc1, hf1⟩ := bcell b1
          have B1 := Lib.hid b1
          have K1 : Hid (Keeps wr w1) := keeps_of_below (below1 b1)
          go_wp2_with fail
          refine (text_c T (ok_of_right RT.out) (len_of_right RT.out) _ _ _ _ _ _ _ (X.out.keep K1.out) (Y.out.keep K1.out)).mono ?_
          rintro e w2 ⟨rfl, b2⟩
          have B2 := Lib.hid (belowThen (below1 B1.out) b2)
          have TL := Lib.hid (right_len RT.out).2
          have tl : T.text.length ≤ 1000000 := by have := TL.out; omega
          have OWN2 := Lib.hid (OwnStrs.below OWN.out B2.out)
          have BL2 := Lib.hid (BLW.out.trans (B2.out.mono BLW.out.size))
          have M1 := Lib.hid (map_snoc (fun g : Fm => wShow ++ g.text) hT.out)
          have PR2 : Hid (∀ g ∈ S.take (j + 1), g.right = true) := by
            intro g hg
            rw [List.take_add_one, hT.out] at hg
            rcases List.mem_append.1 hg with h | h
            · exact PR.out g h
            · have : g = T := by simpa using h
              rw [this]; exact RT.out
          have LE : Hid ((G.map (fun g => wGiven ++ g.text) ++ (S.take j).map (fun g : Fm => wShow ++ g.text)).length ≤ 1000) := by show _ ≤ _; simp only [List.length_append, List.length_map, List.length_take]; have := L2.out; have := L1.out; have := L2.out; have := HL.out; omega
          have E2 : Hid (G.map (fun g => wGiven ++ g.text) ++ (S.take (j + 1)).map (fun g : Fm => wShow ++ g.text) = (G.map (fun g => wGiven ++ g.text) ++ (S.take j).map (fun g : Fm => wShow ++ g.text)) ++ [wShow ++ T.text]) := by show _ = _; rw [M1.out]; rw [List.append_assoc]
          generalize G.map (fun g => wGiven ++ g.text) ++ (S.take j).map (fun g : Fm => wShow ++ g.text) = M at *
          have C3 : Hid (M.length + 1 ≤ maxLen ∧ (M.length + 1) * 16 ≤ 140737488355328) := by
            have h1 := LE.out
            exact ⟨by unfold maxLen; omega, by omega⟩
          have C6 : Hid (W0.heap.size ≤ (w2.alloc (.cells #[.string (⟨#[115, 104, 111, 119, 32]⟩ ++ ⟨T.text.toArray⟩)] 9)).heap.size) := by
            have := BL2.out.size; show _ ≤ _; simp; omega
          go_wp2_with (at_builtin; refine wpList_append_own _ rfl _ _ 36 rfl W0.heap.size 9 i0 (.string ⟨#[]⟩) 1 16 Tryz.underlying36 hi0 hz0 hs0 hb0 rfl (by decide) _ _ _ rfl (OWN2.out.alloc _) ⟨w2.heap.size, 0, none⟩ 1 1 [.string (⟨#[115, 104, 111, 119, 32]⟩ ++ ⟨T.text.toArray⟩)] rfl rfl (cell_one_new _ _ _) (by intro u hu; simp at hu; subst hu; rfl) C3.out.1 C3.out.2 C6.out ?_)
          intro v' w3 hown2 hg2 _
          have R : Hid (OwnStrs W0.heap.size w3 (G.map (fun g => wGiven ++ g.text) ++ (S.take (j + 1)).map (fun g : Fm => wShow ++ g.text)) v' ∧ Below W0.heap.size W0 w3 ∧ ∀ g ∈ S.take (j + 1), g.right = true) := by
            refine ⟨?_, (BL2.out.alloc BL2.out.size _).grown hg2 C6.out (fun kk hkk => (OWN2.out.lt kk hkk).1), PR2.out⟩
            rw [E2.out]
            unfold OwnStrs
            rw [List.length_append, List.map_append]
            rw [str_app] at hown2
            exact hown2
          clear hown2 hg2
          go_wp2_with fail
          go_roundw
          case rel => exact ⟨j + 1, by omega, by go_num, R⟩
          case measure => simp [intOf]; omega
        · have e : S.take j = S := List.take_of_length_le (by rw [← L2.out]; omega)
          have HS : Hid (∀ g ∈ S, g.right = true) := by have := hr.out.2.2; rw [e] at this; exact this
          have YES := Lib.hid (cl_yes HG.out HS.out)
          have HO2 : Hid (OwnStrs W0.heap.size wr (claimParts G S) u4) := by have := hr.out.1; rw [e] at this; exact this
          have HB2 := Lib.hid hr.out.2.1
          have CL := Lib.hid (claim_len HG.out HS.out HL.out)
          clear hr e
          go_wp2_with fail
          refine (join_any [44, 32] HO2.out CL.out.1 CL.out.2).mono ?_
          rintro e w2 ⟨rfl, b2⟩
          have R := Lib.hid (WB.out.trans ((HB2.out.trans (b2.mono HB2.out.size)).mono WB.out.size))
          clear b2
          go_wp2_with fail
          exact bodyPost_ret (v := .tuple #[str (claimText G S), .int .i64 0]) (by simp [results, Tryz.results22, go_sem, claimText]) rfl ⟨by rw [YES.out.1, YES.out.2], R.out⟩
end Go.Proofs.YtcandidgaegghaaGreatDoor
end
section
namespace Go.Proofs.YtcandidgaegghaaGreatDoor
open Go Go.RowKit Ly
set_option maxRecDepth 10000
set_option linter.unusedSimpArgs false
set_option linter.unusedVariables false
set_option maxHeartbeats 4000000
theorem joinBy_cons2 (sep x : Bs) {l : List Bs} (h : l ≠ []) : joinBy sep (x :: l) = x ++ sep ++ joinBy sep l := by
  cases l with
  | nil => exact absurd rfl h
  | cons y r => rfl
theorem joinBy_snoc (sep x : Bs) : ∀ l : List Bs, l ≠ [] → joinBy sep (l ++ [x]) = joinBy sep l ++ sep ++ x
  | [], h => absurd rfl h
  | [y], _ => rfl
  | y :: z :: r, _ => by
    have := joinBy_snoc sep x (z :: r) (by simp)
    rw [List.cons_append, joinBy_cons2 _ _ (by simp), this, joinBy_cons2 sep y (l := z :: r) (by simp)]
    simp
theorem part_get {G S : List Fm} {j : Nat} {T : Fm} (h : (G ++ S)[j]? = some T) : (claimParts G S)[j]? = some ((if j < G.length then wGiven else wShow) ++ T.text) := by
  unfold claimParts
  by_cases hj : j < G.length
  · rw [List.getElem?_append_left hj] at h
    rw [if_pos hj, List.getElem?_append_left (by simpa using hj), List.getElem?_map, h]; rfl
  · rw [List.getElem?_append_right (by omega)] at h
    rw [if_neg hj, List.getElem?_append_right (by simpa using hj), List.getElem?_map, List.length_map, h]; rfl
/-- What lies in memory between two rounds. -/
structure ClI (w : World) (G S : List Fm) (a : Option Addr) (k c : Nat) (a' : Option Addr) (m d : Nat) (j : Nat) (M : Bs) (W : World) : Prop where
  eq : M = joinBy cs ((claimParts G S).take j)
  ok : ∀ g ∈ (G ++ S).take j, g.right = true
  bw : Below w.heap.size w W
  row : W.heap[w.heap.size]? = some (.cells #[.slice a k c, .slice a' m d] 48 (0, 0))
mutual
theorem Tm.sz_of_ok : ∀ t : Tm, t.ok = true → t.sz
  | .mk v n l, h => by
    have hl : tmsOk l = true := by
      simp only [Tm.ok] at h
      split at h
      · simp only [Bool.and_eq_true, List.isEmpty_iff] at h; rw [h.1]; rfl
      · simp only [Bool.and_eq_true] at h; exact h.2
    have hn : n.length ≤ 16 := by
      simp only [Tm.ok] at h
      split at h
      · simp only [Bool.and_eq_true] at h; exact name_len h.2
      · simp only [Bool.and_eq_true] at h; exact name_len h.1.2
    rw [Tm.sz]
    exact ⟨by unfold maxLen; omega, tmsSz_of_ok l hl⟩
theorem tmsSz_of_ok : ∀ l : List Tm, tmsOk l = true → tmsSz l
  | [], _ => by rw [tmsSz]; trivial
  | t :: ts, h => by
    simp only [tmsOk, Bool.and_eq_true] at h
    rw [tmsSz]; exact ⟨Tm.sz_of_ok t h.1, tmsSz_of_ok ts h.2⟩
end
mutual
theorem Fm.sz_of_ok : ∀ t : Fm, t.ok = true → t.sz
  | .mk o n l s, h => by
    have hf := nameFits_of h
    have hn := name_le h
    have hs : fmsOk s = true := by
      simp only [Fm.ok, Bool.and_eq_true] at h; exact h.2
    have hl : tmsOk l = true := by
      simp only [Fm.ok, Bool.and_eq_true] at h; exact h.1.2
    rw [Fm.sz]
    exact ⟨⟨by omega, by omega⟩, by unfold maxLen; omega, tmsSz_of_ok l hl, fmsSz_of_ok s hs⟩
theorem fmsSz_of_ok : ∀ l : List Fm, fmsOk l = true → fmsSz l
  | [], _ => by rw [fmsSz]; trivial
  | t :: ts, h => by
    simp only [fmsOk, Bool.and_eq_true] at h
    rw [fmsSz]; exact ⟨Fm.sz_of_ok t h.1, fmsSz_of_ok ts h.2⟩
end
theorem sz_of_right {f : Fm} (h : f.right = true) : f.sz ∧ f.nodes ≤ 1000000 :=
  ⟨Fm.sz_of_ok f (ok_of_right h), by simp only [Fm.right, Bool.and_eq_true, decide_eq_true_eq] at h; omega⟩
theorem part_len {G S : List Fm} {j : Nat} {T : Fm} (h : T.right = true) : ((if j < G.length then wGiven else wShow) ++ T.text).length ≤ 16010 := by
  have := (right_len h).2
  split <;> simp [wGiven, wShow] <;> omega
theorem take_all {G S : List Fm} {j : Nat} {T : Fm} (h : ∀ g ∈ (G ++ S).take j, g.right = true) (hT : (G ++ S)[j]? = some T) (hr : T.right = true) : ∀ g ∈ (G ++ S).take (j + 1), g.right = true := by
  intro g hg
  rw [List.take_add_one, hT] at hg
  rcases List.mem_append.1 hg with h' | h'
  · exact h g h'
  · have : g = T := by simpa using h'
    rw [this]; exact hr
theorem cl_next {G S : List Fm} {j : Nat} {M : Bs} {T : Fm} (h : (G ++ S)[j]? = some T) (hM : M = joinBy cs ((claimParts G S).take j)) :
    joinBy cs ((claimParts G S).take (j + 1)) = if j = 0 then (if j < G.length then wGiven else wShow) ++ T.text else M ++ cs ++ ((if j < G.length then wGiven else wShow) ++ T.text) := by
  have hp := part_get h
  rw [List.take_add_one, hp]
  by_cases h0 : j = 0
  · subst h0; simp [joinBy]
  · rw [if_neg h0, hM]
    have hn : (claimParts G S).take j ≠ [] := fun e => by
      have := congrArg List.length e
      have h1 := (List.getElem?_eq_some_iff.1 hp).1
      simp at this
      rcases this with h | h
      · exact h0 h
      · rw [h] at h1; simp at h1
    rw [show (some ((if j < G.length then wGiven else wShow) ++ T.text)).toList = [(if j < G.length then wGiven else wShow) ++ T.text] from rfl, joinBy_snoc _ _ _ hn]
/-- The next round's memory. -/
theorem ClI.next {w W' : World} {G S : List Fm} {a a' : Option Addr} {k c m d j : Nat} {M M' : Bs} {T : Fm} (h : (G ++ S)[j]? = some T) (hr : T.right = true) (ok : ∀ g ∈ (G ++ S).take j, g.right = true) (hM : M = joinBy cs ((claimParts G S).take j))
    (bw : Below w.heap.size w W') (row : W'.heap[w.heap.size]? = some (.cells #[.slice a k c, .slice a' m d] 48 (0, 0))) (e : M' = if j = 0 then (if j < G.length then wGiven else wShow) ++ T.text else M ++ cs ++ ((if j < G.length then wGiven else wShow) ++ T.text)) : ClI w G S a k c a' m d (j + 1) M' W' :=
  ⟨e.trans (cl_next h hM).symm, take_all ok h hr, bw, row⟩
theorem refClaim_c (G S : List Fm) (a : Option Addr) (k c : Nat) (a' : Option Addr) (m d : Nat) (w : World) (hx : FmsAt w G (.slice a k c)) (hx' : FmsAt w S (.slice a' m d)) (hl : G.length + S.length ≤ 20000) (hz : ∀ g ∈ G ++ S, g.sz ∧ g.nodes ≤ 1000000) :
    Calls Tryz.prog 96 #[.agg #[.slice a k c, .slice a' m d]] w fun e w' => e = .returned (.tuple #[str (clTxt G S), .int .i64 (clCd G S)]) ∧ Below w.heap.size w w' := by
  have hk := hx.len
  have hm := hx'.len
  have k1 : k ≤ 20000 := by omega
  have m1 : m ≤ 20000 := by omega
  have km : k + m ≤ 20000 := by omega
  have L1 := Lib.hid hk.1
  have L2 := Lib.hid hm.1
  have HX := Lib.hid hx
  have HY := Lib.hid hx'
  have ZZ := Lib.hid hz
  clear hk hm hx hx' hl hz
  have NEW := Lib.hid (heap_alloc_new w (.cells #[.slice a k c, .slice a' m d] 48))
  have HB : Hid (Below w.heap.size w (w.alloc (.cells #[.slice a k c, .slice a' m d] 48))) := (Below.refl _ _).alloc (Nat.le_refl _) _
  go_enter Tryz.func96, Tryz.ntmps96
  go_wp2_with fail
  go_loopw [4, 5] (fun u i wr => ∃ (j : Nat) (M : Bs), j ≤ k + m ∧ i = .int .i64 j ∧ u = str M ∧ M.length ≤ 400000000 ∧ M.length ≤ j * 16020 ∧ Hid (ClI w G S a k c a' m d j M wr)) (fun _ i _ => k + m - (intOf i).toNat)
  case atStart => exact ⟨0, [], Nat.zero_le _, rfl, rfl, by simp, by simp, ⟨rfl, by simp, HB.out, NEW.out⟩⟩
  case round =>
    obtain ⟨j, M, hj, rfl, rfl, ml, ml2, hs⟩ := hrel
    obtain ⟨d0, d1, f0, f1⟩ := row48z hs.out.row
    by_cases hlt : j < k + m
    · have t1 : (j : Int) < (k : Int) + (m : Int) := by omega
      have BW := Lib.hid hs.out.bw
      have ROW := Lib.hid hs.out.row
      have OKS := Lib.hid hs.out.ok
      have MEQ := Lib.hid hs.out.eq
      have K : Keeps w (wr.alloc (.cells #[.int .u8 0, str [], .slice none 0 0, .slice none 0 0] 25)) := keeps_of_below (belowThen BW.out ((Below.refl _ _).alloc (Nat.le_refl _) _))
      obtain ⟨T, hT⟩ := get_of_lt (l := G ++ S) (j := j) (by rw [List.length_append, ← L1.out, ← L2.out]; exact hlt)
      have ZT := ZZ.out T (List.mem_of_getElem? hT)
      obtain ⟨q, hq⟩ : ∃ q, T.right = q := ⟨_, rfl⟩
      have RR : Hid (∀ W v, FmVal W T v → Calls Tryz.prog 130 #[v] W fun e w' => e = .returned (.bool q) ∧ Below W.heap.size W w') := fun W v hv => by
        rw [← hq]; exact refRight_c T ZT.1 ZT.2 v W hv
      have HT := Lib.hid hT
      have HQ := Lib.hid hq
      by_cases hjk : j < k
      · have hTG : G[j]? = some T := by rwa [List.getElem?_append_left (by rw [← L1.out]; exact hjk)] at hT
        obtain ⟨bb, off, rfl, hc⟩ := HX.out.get (ne_of_get hTG)
        obtain ⟨y0, y1, y2, y3, y4, y5, hy⟩ := hc j _ hTG
        have c0 := K _ _ hy.c0; have c1 := K _ _ hy.c1; have c2 := K _ _ hy.c2; have c3 := K _ _ hy.c3
        have t2 : (j : Int) < (k : Int) := by omega
        have Y0 := Lib.hid (hy.at_.keep (keeps_of_below BW.out))
        have Y1 := Lib.hid (hy.at'.keep (keeps_of_below BW.out))
        clear hc hT hy hTG hq ZT K
        obtain ⟨d0', d1', -, -⟩ := row48z (kc ((Below.refl _ _).alloc (Nat.le_refl _) (.cells #[.int .u8 0, str [], .slice none 0 0, .slice none 0 0] 25)) ROW.out)
        obtain ⟨e0, e1, e2, e3, g0, g1, g2, g3⟩ := row25' (heap_alloc_new wr (.cells #[.int .u8 0, str [], .slice none 0 0, .slice none 0 0] 25))
        have VV : Hid ((if j < G.length then wGiven else wShow) = wGiven) := if_pos (by rw [← L1.out]; exact hjk)
        go_upto_region 11 with fail
        have B1 : Hid (Below w.heap.size w (wr.alloc (.cells #[.int .u8 T.op, str T.name, .slice y0 y1 y2, .slice y3 y4 y5] 25))) := belowThen BW.out ((Below.refl _ _).alloc (Nat.le_refl _) _)
        have R1 := Lib.hid (heap_alloc_new wr (.cells #[.int .u8 T.op, str T.name, .slice y0 y1 y2, .slice y3 y4 y5] 25))
        have ROW1 := Lib.hid (kc ((Below.refl _ _).alloc (Nat.le_refl _) (.cells #[.int .u8 T.op, str T.name, .slice y0 y1 y2, .slice y3 y4 y5] 25)) ROW.out)
        have V1 : Hid (FmVal (wr.alloc (.cells #[.int .u8 T.op, str T.name, .slice y0 y1 y2, .slice y3 y4 y5] 25)) T (.agg #[.int .u8 T.op, str T.name, .slice y0 y1 y2, .slice y3 y4 y5])) := ⟨_, _, _, _, _, _, rfl, (Y0.out.keep (keeps1 _ _)), (Y1.out.keep (keeps1 _ _))⟩
        cases q
        · have NO := Lib.hid (cl_no (List.mem_of_getElem? HT.out) HQ.out)
          clear e0 e1 e2 e3 g0 g1 g2 g3 d0 d1 d0' d1' c0 c1 c2 c3
          go_wp2_with (go_at_call 130; refine (RR.out _ _ V1.out).mono ?_; rintro e w2 ⟨rfl, b2⟩; have B2 := Lib.hid (belowThen B1.out b2); clear b2)
          go_ret2
          exact ⟨by rw [NO.out.1, NO.out.2]; rfl, B2.out⟩
        · have TLN := (right_len HQ.out).2
          have tl : T.text.length ≤ 1000000 := by omega
          have HTX : Hid (∀ W, Below (wr.alloc (.cells #[.int .u8 T.op, str T.name, .slice y0 y1 y2, .slice y3 y4 y5] 25)).heap.size (wr.alloc (.cells #[.int .u8 T.op, str T.name, .slice y0 y1 y2, .slice y3 y4 y5] 25)) W → Calls Tryz.prog 131 #[.agg #[.int .u8 T.op, str T.name, .slice y0 y1 y2, .slice y3 y4 y5]] W fun e w' => e = .returned (str T.text) ∧ Below W.heap.size W w') := fun W b => refText_c T _ W _ V1.out b (ok_of_right HQ.out) tl
          clear e0 e1 e2 e3 g0 g1 g2 g3 d0 d1 d0' d1' c0 c1 c2 c3
          by_cases h0 : j = 0
          · have M0 : M = [] := by rw [MEQ.out, h0]; rfl
            have t3 : decide ((0 : Int) < (j : Int)) = false := decide_eq_false (by omega)
            go_wp2_with (first
              | (go_at_call 131; refine (HTX.out _ B2.out).mono ?_; rintro e w3 ⟨rfl, b3⟩; have B3 := Lib.hid (belowThen B2.out b3); clear b3)
              | (go_at_call 130; refine (RR.out _ _ V1.out).mono ?_; rintro e w2 ⟨rfl, b2⟩; have B2 := Lib.hid b2; have R2 := Lib.hid (kc b2 R1.out); clear b2; obtain ⟨e0, e1, e2, e3, -, -, -, -⟩ := row25' R2.out))
            go_roundw
            case measure => simp [intOf]; omega
            case rel =>
              refine ⟨j + 1, M ++ (wGiven ++ T.text), by omega, by go_num, by simp [bytes_app, wGiven, M0], by rw [M0]; simp [wGiven]; omega, by rw [M0]; simp [wGiven]; omega, ClI.next HT.out HQ.out OKS.out MEQ.out (belowThen B1.out B3.out) (kc B3.out ROW1.out) ?_⟩
              rw [VV.out, if_pos h0, M0]; rfl
          · have t3 : decide ((0 : Int) < (j : Int)) = true := decide_eq_true (by omega)
            go_wp2_with (first
              | (go_at_call 131; refine (HTX.out _ B2.out).mono ?_; rintro e w3 ⟨rfl, b3⟩; have B3 := Lib.hid (belowThen B2.out b3); clear b3)
              | (go_at_call 130; refine (RR.out _ _ V1.out).mono ?_; rintro e w2 ⟨rfl, b2⟩; have B2 := Lib.hid b2; have R2 := Lib.hid (kc b2 R1.out); clear b2; obtain ⟨e0, e1, e2, e3, -, -, -, -⟩ := row25' R2.out))
            go_roundw
            case measure => simp [intOf]; omega
            case rel =>
              refine ⟨j + 1, M ++ cs ++ (wGiven ++ T.text), by omega, by go_num, by simp [bytes_app, wGiven, cs], by simp [wGiven, cs]; omega, by simp [wGiven, cs]; omega, ClI.next HT.out HQ.out OKS.out MEQ.out (belowThen B1.out B3.out) (kc B3.out ROW1.out) ?_⟩
              rw [VV.out, if_neg h0]
      · have hTG : S[j - k]? = some T := by rw [List.getElem?_append_right (by rw [← L1.out]; omega), ← L1.out] at hT; exact hT
        have tjk : (j : Int) - (k : Int) = ((j - k : Nat) : Int) := by omega
        obtain ⟨bb, off, rfl, hc⟩ := HY.out.get (ne_of_get hTG)
        obtain ⟨y0, y1, y2, y3, y4, y5, hy⟩ := hc (j - k) _ hTG
        have c0 := K _ _ hy.c0; have c1 := K _ _ hy.c1; have c2 := K _ _ hy.c2; have c3 := K _ _ hy.c3
        have t2 : ¬ ((j : Int) < (k : Int)) := by omega
        have t4 : j - k < m := by omega
        obtain ⟨i, hi⟩ : ∃ i, j - k = i := ⟨_, rfl⟩
        rw [hi] at c0 c1 c2 c3 tjk t4
        have Y0 := Lib.hid (hy.at_.keep (keeps_of_below BW.out))
        have Y1 := Lib.hid (hy.at'.keep (keeps_of_below BW.out))
        clear hc hT hy hTG hq ZT K
        obtain ⟨d0', d1', -, -⟩ := row48z (kc ((Below.refl _ _).alloc (Nat.le_refl _) (.cells #[.int .u8 0, str [], .slice none 0 0, .slice none 0 0] 25)) ROW.out)
        obtain ⟨e0, e1, e2, e3, g0, g1, g2, g3⟩ := row25' (heap_alloc_new wr (.cells #[.int .u8 0, str [], .slice none 0 0, .slice none 0 0] 25))
        have VV : Hid ((if j < G.length then wGiven else wShow) = wShow) := if_neg (by rw [← L1.out]; exact hjk)
        go_upto_region 11 with fail
        have B1 : Hid (Below w.heap.size w (wr.alloc (.cells #[.int .u8 T.op, str T.name, .slice y0 y1 y2, .slice y3 y4 y5] 25))) := belowThen BW.out ((Below.refl _ _).alloc (Nat.le_refl _) _)
        have R1 := Lib.hid (heap_alloc_new wr (.cells #[.int .u8 T.op, str T.name, .slice y0 y1 y2, .slice y3 y4 y5] 25))
        have ROW1 := Lib.hid (kc ((Below.refl _ _).alloc (Nat.le_refl _) (.cells #[.int .u8 T.op, str T.name, .slice y0 y1 y2, .slice y3 y4 y5] 25)) ROW.out)
        have V1 : Hid (FmVal (wr.alloc (.cells #[.int .u8 T.op, str T.name, .slice y0 y1 y2, .slice y3 y4 y5] 25)) T (.agg #[.int .u8 T.op, str T.name, .slice y0 y1 y2, .slice y3 y4 y5])) := ⟨_, _, _, _, _, _, rfl, (Y0.out.keep (keeps1 _ _)), (Y1.out.keep (keeps1 _ _))⟩
        cases q
        · have NO := Lib.hid (cl_no (List.mem_of_getElem? HT.out) HQ.out)
          clear e0 e1 e2 e3 g0 g1 g2 g3 d0 d1 d0' d1' c0 c1 c2 c3
          go_wp2_with (go_at_call 130; refine (RR.out _ _ V1.out).mono ?_; rintro e w2 ⟨rfl, b2⟩; have B2 := Lib.hid (belowThen B1.out b2); clear b2)
          go_ret2
          exact ⟨by rw [NO.out.1, NO.out.2]; rfl, B2.out⟩
        · have TLN := (right_len HQ.out).2
          have tl : T.text.length ≤ 1000000 := by omega
          have HTX : Hid (∀ W, Below (wr.alloc (.cells #[.int .u8 T.op, str T.name, .slice y0 y1 y2, .slice y3 y4 y5] 25)).heap.size (wr.alloc (.cells #[.int .u8 T.op, str T.name, .slice y0 y1 y2, .slice y3 y4 y5] 25)) W → Calls Tryz.prog 131 #[.agg #[.int .u8 T.op, str T.name, .slice y0 y1 y2, .slice y3 y4 y5]] W fun e w' => e = .returned (str T.text) ∧ Below W.heap.size W w') := fun W b => refText_c T _ W _ V1.out b (ok_of_right HQ.out) tl
          clear e0 e1 e2 e3 g0 g1 g2 g3 d0 d1 d0' d1' c0 c1 c2 c3
          by_cases h0 : j = 0
          · have M0 : M = [] := by rw [MEQ.out, h0]; rfl
            have t3 : decide ((0 : Int) < (j : Int)) = false := decide_eq_false (by omega)
            go_wp2_with (first
              | (go_at_call 131; refine (HTX.out _ B2.out).mono ?_; rintro e w3 ⟨rfl, b3⟩; have B3 := Lib.hid (belowThen B2.out b3); clear b3)
              | (go_at_call 130; refine (RR.out _ _ V1.out).mono ?_; rintro e w2 ⟨rfl, b2⟩; have B2 := Lib.hid b2; have R2 := Lib.hid (kc b2 R1.out); clear b2; obtain ⟨e0, e1, e2, e3, -, -, -, -⟩ := row25' R2.out))
            go_roundw
            case measure => simp [intOf]; omega
            case rel =>
              refine ⟨j + 1, M ++ (wShow ++ T.text), by omega, by go_num, by simp [bytes_app, wShow, M0], by rw [M0]; simp [wShow]; omega, by rw [M0]; simp [wShow]; omega, ClI.next HT.out HQ.out OKS.out MEQ.out (belowThen B1.out B3.out) (kc B3.out ROW1.out) ?_⟩
              rw [VV.out, if_pos h0, M0]; rfl
          · have t3 : decide ((0 : Int) < (j : Int)) = true := decide_eq_true (by omega)
            go_wp2_with (first
              | (go_at_call 131; refine (HTX.out _ B2.out).mono ?_; rintro e w3 ⟨rfl, b3⟩; have B3 := Lib.hid (belowThen B2.out b3); clear b3)
              | (go_at_call 130; refine (RR.out _ _ V1.out).mono ?_; rintro e w2 ⟨rfl, b2⟩; have B2 := Lib.hid b2; have R2 := Lib.hid (kc b2 R1.out); clear b2; obtain ⟨e0, e1, e2, e3, -, -, -, -⟩ := row25' R2.out))
            go_roundw
            case measure => simp [intOf]; omega
            case rel =>
              refine ⟨j + 1, M ++ cs ++ (wShow ++ T.text), by omega, by go_num, by simp [bytes_app, wShow, cs], by simp [wShow, cs]; omega, by simp [wShow, cs]; omega, ClI.next HT.out HQ.out OKS.out MEQ.out (belowThen B1.out B3.out) (kc B3.out ROW1.out) ?_⟩
              rw [VV.out, if_neg h0]
    · have hjk : j = k + m := by omega
      have ok : ∀ g ∈ G ++ S, g.right = true := by
        have := hs.out.ok
        rwa [List.take_of_length_le (by rw [List.length_append, ← L1.out, ← L2.out]; omega)] at this
      have YES := Lib.hid (cl_yes (G := G) (S := S) (fun g hg => ok g (by simp [hg])) (fun g hg => ok g (by simp [hg])))
      have ME : Hid (M = claimText G S) := by
        have h1 := hs.out.eq
        have h2 : (claimParts G S).length = G.length + S.length := by simp [claimParts]
        rw [List.take_of_length_le (by rw [h2, ← L1.out, ← L2.out]; omega)] at h1
        exact h1
      have BW := Lib.hid hs.out.bw
      clear hs ok
      go_wp2_with fail
      go_ret2
      exact ⟨by rw [YES.out.1, YES.out.2, ← ME.out]; rfl, BW.out⟩
end Go.Proofs.YtcandidgaegghaaGreatDoor
end
