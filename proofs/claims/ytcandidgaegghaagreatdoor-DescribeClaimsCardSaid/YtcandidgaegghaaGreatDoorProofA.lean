/- Contracts of describe.isName, shaped and describable, at proofs that can be described. -/
import Derived.Test.YtcandidgaegghaaGreatDoorRight
import Derived.Laws.IdiomStrings
import Derived.Test.YtcandidgaegghaaGreatDoorPlB
namespace Go.Proofs.YtcandidgaegghaaGreatDoor
open Go Go.RowKit Ly
set_option maxRecDepth 10000
set_option maxHeartbeats 400000
theorem bytes_made (s : Bs) (w : World) : ∃ w1 cap, (convert 9 43 (str s)).run Tryz.prog w = .ok (.slice (some ⟨w.heap.size, 0, none⟩) s.length cap) w1 ∧ Below w.heap.size w w1 ∧
    ∀ (j : Nat) (x : UInt8), s[j]? = some x → w1.cell? ⟨w.heap.size, j, none⟩ = some (.int .u8 x.toNat) := by
  have h := run_bytes_of_string (P := Tryz.prog) w 9 43 5 ⟨s.toArray⟩ Tryz.underlying9 Tryz.underlying43 Tryz.underlying5
  refine ⟨_, _, h, ?_, ?_⟩
  · have := ((Below.refl w.heap.size w).drew).alloc (Nat.le_refl _) (.cells (bytesRow ⟨s.toArray⟩ (grownCap w s.length 0 5)) 5 ((bytesRow ⟨s.toArray⟩ (grownCap w s.length 0 5)).size, (bytesRow ⟨s.toArray⟩ (grownCap w s.length 0 5)).size + 1))
    exact this
  · intro j x hx
    have hj := (List.getElem?_eq_some_iff.1 hx).1
    simp [go_sem, bytesRow]
    unfold World.cell?
    simp only [World.alloc]
    simp
    rw [Array.getElem?_append_left (by simpa using hj)]
    simp [hx]
theorem al_cases {c : UInt8} (h : alnum c = true) : (97 ≤ c.toNat ∧ c.toNat ≤ 122) ∨ (65 ≤ c.toNat ∧ c.toNat ≤ 90) ∨ (48 ≤ c.toNat ∧ c.toNat ≤ 57) := by
  simp only [alnum, small, capital, digit, Bool.or_eq_true, Bool.and_eq_true, decide_eq_true_eq, UInt8.le_iff_toNat_le] at h
  simp at h; omega
theorem isName_c (s : Bs) (h : ruleName s = true) (w : World) : Calls Tryz.prog 238 #[str s] w fun e w' => e = .returned (.bool true) ∧ Below w.heap.size w w' := by
  cases s with
  | nil => simp [ruleName] at h
  | cons c r =>
    have ha := ruleName_al h
    simp only [ruleName, Bool.and_eq_true, decide_eq_true_eq, Bool.or_eq_true] at h
    have hl : r.length ≤ 15 := by omega
    have d1 : decide ((r.length : Int) + 1 < 1) = false := by simp; omega
    have d2 : decide (16 < (r.length : Int) + 1) = false := by simp; omega
    have e0 : (⟨(c :: r).toArray⟩ : ByteArray)[0]'(by simp [ByteArray.size]) = c := rfl
    obtain ⟨w1, cap, hrun, hb1, hcells⟩ := bytes_made (c :: r) w
    have HB := Lib.hid hb1
    have HC := Lib.hid hcells
    have AL := Lib.hid ha
    have hc : (c.toNat < 48) ∨ (57 < c.toNat) := by
      have := h.1.2
      simp only [small, capital, Bool.and_eq_true, decide_eq_true_eq, UInt8.le_iff_toNat_le] at this
      simp at this; omega
    clear h ha hb1 hcells
    rcases hc with hc | hc
    · have d3 : decide ((48 : Int) ≤ c.toNat) = false := by simp; omega
      go_enter Tryz.func238, Tryz.ntmps238
      go_wp2_with fail
      go_loop [26] (fun i => ∃ k : Nat, k ≤ r.length + 1 ∧ i = .int .i64 k) (fun i => r.length + 1 - (intOf i).toNat)
      case atStart => exact ⟨0, Nat.zero_le _, rfl⟩
      case round =>
        obtain ⟨k, hk, rfl⟩ := hrel
        by_cases hlt : k < r.length + 1
        · obtain ⟨x, hx⟩ := get_of_lt (l := c :: r) (j := k) (by simpa using hlt)
          have ck := HC.out k x hx
          have hx2 := al_cases (AL.out x (List.mem_of_getElem? hx))
          clear hx
          rcases hx2 with ⟨q1, q2⟩ | ⟨q1, q2⟩ | ⟨q1, q2⟩
          all_goals
            go_wp2_with fail
            go_round
            case rel => exact ⟨k + 1, by omega, by go_num⟩
            case measure => simp [intOf]; omega
        · go_wp2_with fail
          go_ret
          exact ⟨rfl, HB.out⟩
    · have d3 : decide ((c.toNat : Int) ≤ 57) = false := by simp; omega
      have q := Nat.lt_trans (by decide : 48 < 57) hc
      go_enter Tryz.func238, Tryz.ntmps238
      go_wp2_with fail
      go_loop [26] (fun i => ∃ k : Nat, k ≤ r.length + 1 ∧ i = .int .i64 k) (fun i => r.length + 1 - (intOf i).toNat)
      case atStart => exact ⟨0, Nat.zero_le _, rfl⟩
      case round =>
        obtain ⟨k, hk, rfl⟩ := hrel
        by_cases hlt : k < r.length + 1
        · obtain ⟨x, hx⟩ := get_of_lt (l := c :: r) (j := k) (by simpa using hlt)
          have ck := HC.out k x hx
          have hx2 := al_cases (AL.out x (List.mem_of_getElem? hx))
          clear hx
          rcases hx2 with ⟨q1, q2⟩ | ⟨q1, q2⟩ | ⟨q1, q2⟩
          all_goals
            go_wp2_with fail
            go_round
            case rel => exact ⟨k + 1, by omega, by go_num⟩
            case measure => simp [intOf]; omega
        · go_wp2_with fail
          go_ret
          exact ⟨rfl, HB.out⟩
end Go.Proofs.YtcandidgaegghaaGreatDoor
namespace Go.Proofs.YtcandidgaegghaaGreatDoor
open Go Go.RowKit Ly
set_option maxRecDepth 10000
set_option maxHeartbeats 400000
theorem markBad_c (n : Int) (h : markOk n = true) (w : World) : Calls Tryz.prog 240 #[.int .i64 n] w fun e w' => e = .returned (.bool false) ∧ w = w' := by
  simp only [markOk, decide_eq_true_eq] at h
  have d1 : decide (n < 0) = false := by simp; omega
  have d2 : decide (999 < n) = false := by simp; omega
  go_enter Tryz.func240, Tryz.ntmps240
  go_wp2_with fail
  go_ret
  exact ⟨rfl, rfl⟩
theorem indexFunc_c (l : List Int) (a : Option Addr) (n c : Nat) (w : World) (h : IntsAt w l (.slice a n c)) (hm : l.all markOk = true) :
    Calls Tryz.prog 285 #[.slice a n c, .func (.func 240) #[] #[]] w fun e w' => e = .returned (.int .i64 (-1)) ∧ w = w' := by
  have hn := h.len
  have hlen : n ≤ 9223372036854775807 := by have := le63 hn.2.2; omega
  have L := Lib.hid hn.1
  have H := Lib.hid h
  have M := Lib.hid (List.all_eq_true.1 hm)
  clear hn h hm
  go_enter Tryz.func285, Tryz.ntmps285
  go_wp2_with fail
  go_loop [8] (fun i => ∃ k : Nat, k ≤ n ∧ i = .int .i64 k) (fun i => n - (intOf i).toNat)
  case atStart => exact ⟨0, Nat.zero_le _, rfl⟩
  case round =>
    obtain ⟨k, hk, rfl⟩ := hrel
    by_cases hlt : k < n
    · obtain ⟨x, hx⟩ := get_of_lt (l := l) (j := k) (by rw [← L.out]; exact hlt)
      obtain ⟨b, off, rfl, hc⟩ := H.out.get (ne_of_get hx)
      have ck := hc k x hx
      have mx := Lib.hid (M.out x (List.mem_of_getElem? hx))
      clear hc hx
      go_wp2_with (go_at_call 240; refine (markBad_c x mx.out _).mono ?_; rintro e w' ⟨rfl, rfl⟩)
      go_round
      case rel => exact ⟨k + 1, by omega, by go_num⟩
      case measure => simp [intOf]; omega
    · go_wp2_with fail
      go_ret
      exact ⟨rfl, rfl⟩
theorem containsFunc_c (l : List Int) (a : Option Addr) (n c : Nat) (w : World) (h : IntsAt w l (.slice a n c)) (hm : l.all markOk = true) :
    Calls Tryz.prog 239 #[.slice a n c, .func (.func 240) #[] #[]] w fun e w' => e = .returned (.bool false) ∧ w = w' := by
  have H := Lib.hid h
  have M := Lib.hid hm
  clear h hm
  go_enter Tryz.func239, Tryz.ntmps239
  go_wp2_with (go_at_call 285; refine (indexFunc_c l _ _ _ _ H.out M.out).mono ?_; rintro e w' ⟨rfl, rfl⟩)
  go_ret
  exact ⟨rfl, rfl⟩

set_option maxHeartbeats 1600000 in
theorem shaped_c (p : Pf) (x : Value) (w : World) (hx : PfVal w p x) (h : shaped p.rule p.label p.sub.length p.marks = true) :
    Calls Tryz.prog 162 #[x] w fun e w' => e = .returned (.bool true) ∧ Below w.heap.size w w' := by
  obtain ⟨a, n, c, b, m, d, s, sn, sc, q, qn, qc, rfl, h1, h2, h3, h4⟩ := hx
  obtain ⟨rule, f, label, sub, marks⟩ := p
  simp only [Pf.rule, Pf.form, Pf.label, Pf.sub, Pf.marks] at *
  have hs := h3.len
  have hq := h4.len
  have hsl : sn ≤ 9223372036854775807 := by have := le63 hs.2.2; omega
  have hql : qn ≤ 9223372036854775807 := by have := le63 hq.2.2; omega
  unfold shaped at h
  by_cases r0 : rule = []
  · subst r0
    simp only [if_true, Bool.and_eq_true, decide_eq_true_eq, List.isEmpty_iff] at h
    obtain ⟨⟨z1, z2⟩, z3, z4⟩ := h
    have e1 : sn = 0 := by omega
    have e2 : qn = 0 := by rw [hq.1, z2]; rfl
    subst e1 e2
    have d1 : decide (1 ≤ label) = true := by simpa using z3
    have d2 : decide (label ≤ 999) = true := by simpa using z4
    clear hs hq h1 h2 h3 h4 z1 z2 z3 z4
    go_enter Tryz.func162, Tryz.ntmps162
    go_wp2_with fail
    go_ret
    exact ⟨rfl, (Below.refl _ _).alloc (Nat.le_refl _) _⟩
  · by_cases r1 : rule = hole
    · subst r1
      simp only [r0, if_true, if_false, Bool.and_eq_true, decide_eq_true_eq, List.isEmpty_iff] at h
      obtain ⟨⟨z1, z2⟩, z3⟩ := h
      have e1 : sn = 0 := by omega
      have e2 : qn = 0 := by rw [hq.1, z2]; rfl
      subst e1 e2 z3
      clear hs hq h1 h2 h3 h4 z1 z2
      go_enter Tryz.func162, Tryz.ntmps162
      unfold hole
      go_wp2_with fail
      go_ret
      exact ⟨rfl, (Below.refl _ _).alloc (Nat.le_refl _) _⟩
    · simp only [r0, r1, if_false, Bool.and_eq_true, decide_eq_true_eq] at h
      obtain ⟨⟨⟨⟨z1, z2⟩, z3⟩, z4⟩, z5⟩ := h
      subst z2
      have t0 : (rule == []) = false := by simpa using r0
      have t1 : (rule == [63]) = false := by simpa [hole] using r1
      have HZ := Lib.hid z1
      have HM := Lib.hid h4
      have L := Lib.hid hq.1
      have Z5 := Lib.hid (List.all_eq_true.1 z5)
      have e1 : qn = sn := by omega
      have k4 : sn ≤ 4 := by omega
      have k5 : decide (4 < (sn : Int)) = false := by simp; omega
      subst e1
      have HQ := Lib.hid hq.1
      clear hs hq h1 h2 h3 h4 z1 z3 z4 z5 r0 r1
      have body : Hid (∀ z : Bool, ((qn : Int) == 0) = z → Calls Tryz.prog 162 #[.agg #[str rule, .int .u8 f.op, str f.name, .slice a n c, .slice b m d, .int .i64 0, .slice s qn sc, .slice q qn qc]] w fun e w' => e = .returned (.bool true) ∧ Below w.heap.size w w') := by
        intro z hz
        cases z
        all_goals
          go_enter Tryz.func162, Tryz.ntmps162
          go_wp2_with fail
          refine (isName_c rule HZ.out _).mono ?_
          rintro e w1 ⟨rfl, hb1⟩
          obtain ⟨hc1, hf1⟩ := bcell hb1
          have B1 := Lib.hid (below1 hb1)
          have HM1 := Lib.hid (HM.out.keep (keeps_of_below B1.out))
          clear hb1
          go_wp2_with fail
          go_loop [66] (fun i => ∃ k : Nat, k ≤ qn ∧ i = .int .i64 k) (fun i => qn - (intOf i).toNat)
          case atStart => exact ⟨0, Nat.zero_le _, rfl⟩
          case round =>
            obtain ⟨k, hk, rfl⟩ := hrel
            by_cases hlt : k < qn
            · obtain ⟨l, hl⟩ := get_of_lt (l := marks) (j := k) (by rw [← HQ.out]; exact hlt)
              obtain ⟨b, off, rfl, hcs⟩ := HM1.out.get (ne_of_get hl)
              obtain ⟨y, yn, yc, ck, hy⟩ := hcs k l hl
              have ml := Z5.out l (List.mem_of_getElem? hl)
              simp only [Bool.and_eq_true, decide_eq_true_eq] at ml
              have ML := Lib.hid ml.2
              have HY := Lib.hid hy
              have yl := hy.len
              have y3 : decide (3 < (yn : Int)) = false := by simp; omega
              clear hcs hl ml hy yl
              go_wp2_with (go_at_call 239; refine (containsFunc_c l _ _ _ _ HY.out ML.out).mono ?_; rintro e w' ⟨rfl, rfl⟩)
              go_round
              case rel => exact ⟨k + 1, by omega, by go_num⟩
              case measure => simp [intOf]; omega
            · go_wp2_with fail
              go_ret
              exact ⟨rfl, B1.out⟩
      exact body.out _ rfl
end Go.Proofs.YtcandidgaegghaaGreatDoor
namespace Go.Proofs.YtcandidgaegghaaGreatDoor
open Go Go.RowKit Ly
set_option maxRecDepth 10000
set_option maxHeartbeats 400000
/-- A number that counts down, in a block of its own. -/
structure LeftAt (w : World) (b : Nat) (left : Int) : Prop where
  c0 : w.cell? ⟨b, 0, none⟩ = some (.int .i64 left)
  fz : w.frozen? ⟨b, 0, none⟩ = false
theorem LeftAt.lt {w : World} {b : Nat} {left : Int} (h : LeftAt w b left) : b < w.heap.size := World.block_lt_of_cell? w _ h.c0
theorem LeftAt.below {w w' : World} {b : Nat} {left : Int} (h : LeftAt w b left) (k : Below w.heap.size w w') : LeftAt w' b left := by
  have hl := h.lt
  exact ⟨(k.cell (p := ⟨b, 0, none⟩) hl).trans h.c0, (k.frozen (p := ⟨b, 0, none⟩) hl).trans h.fz⟩
theorem LeftAt.set {w : World} {b : Nat} {left : Int} (h : LeftAt w b left) (n : Int) : LeftAt (w.setCell ⟨b, 0, none⟩ (.int .i64 n)) b n := by
  obtain ⟨c0, fz⟩ := h
  exact ⟨by simp [c0, go_sem], by simp [fz, go_sem]⟩
def Counted (w0 : World) (b : Nat) (left : Int) (w : World) (e : Ending) (w' : World) : Prop :=
  e = .returned (.bool true) ∧ Below w0.heap.size w0 w' ∧ LeftAt w' b left ∧ But b w w'
def PfD (p : Pf) : Prop := ∀ (w0 w : World) (b : Nat) (left below : Int) (x : Value), RowsAt w0 → PfVal w0 p x → Below w0.heap.size w0 w → w0.heap.size ≤ b → LeftAt w b left → p.ok = true →
  (p.steps : Int) ≤ left → left ≤ 300 → 0 ≤ below → below + p.depth ≤ 40 → Calls Tryz.prog 87 #[x, .int .i64 below, .pointer (some ⟨b, 0, none⟩)] w (Counted w0 b (left - p.steps) w)
theorem pfsSteps_drop {l : List Pf} {j : Nat} {T : Pf} (h : l[j]? = some T) : pfsSteps (l.drop j) = T.steps + pfsSteps (l.drop (j + 1)) := by
  obtain ⟨h1, rfl⟩ := List.getElem?_eq_some_iff.1 h
  rw [List.drop_eq_getElem_cons h1, pfsSteps]
theorem pfsSteps_drop_le (l : List Pf) (j : Nat) : pfsSteps (l.drop j) ≤ pfsSteps l := by
  induction l generalizing j with
  | nil => simp
  | cons x xs ih =>
    cases j with
    | zero => simp
    | succ j => simp only [List.drop_succ_cons, pfsSteps]; have := ih j; omega
theorem pfsDepth_mem {l : List Pf} : ∀ t ∈ l, t.depth + 1 ≤ pfsDepth l := by
  induction l with
  | nil => intro t ht; cases ht
  | cons x xs ih =>
    intro t ht
    simp only [pfsDepth]
    rcases List.mem_cons.1 ht with e | e
    · rw [e]; omega
    · have := ih t e; omega
theorem pfsOk_mem {l : List Pf} (h : pfsOk l = true) : ∀ t ∈ l, t.ok = true := (pfsOk_iff l).1 h
theorem left_of {w0 w w2 : World} {b : Nat} {left : Int} (n : Int) {o : Obj} (hw : Below w0.heap.size w0 w) (hb : w0.heap.size ≤ b) (hj : LeftAt w b left)
    (h : Below ((w.setCell ⟨b, 0, none⟩ (.int .i64 n)).alloc o).heap.size ((w.setCell ⟨b, 0, none⟩ (.int .i64 n)).alloc o) w2) : Below w0.heap.size w0 w2 ∧ LeftAt w2 b n ∧ But b w w2 := by
  have k : But b w w2 := (But.set b w 0 none _).trans (But.of_below (below1 h))
  exact ⟨k.below hw hb, (hj.set n).below (below1 h), k⟩

set_option maxHeartbeats 1600000 in
theorem pf_step (r : Bs) (f : Fm) (lb : Int) (ps : List Pf) (ms : List (List Int)) (hh : ∀ p ∈ ps, PfD p) : PfD (.mk r f lb ps ms) := by
  intro w0 w b left below x hrows hx hw hb hj hok hn hl hd1 hd2
  have hx0 := hx
  obtain ⟨a, k, c, a', m, d, s, sn, sc, q, qn, qc, rfl, h1, h2, h3, h4⟩ := hx
  simp only [Pf.rule, Pf.form, Pf.label, Pf.sub, Pf.marks] at *
  have hs := h3.len
  have hsl : sn ≤ 9223372036854775807 := by have := le63 hs.2.2; omega
  simp only [Pf.ok, Bool.and_eq_true] at hok
  have hn' : (1 : Int) ≤ left := by simp only [Pf.steps] at hn; omega
  have hbl : b < w.heap.size := hj.lt
  have b1 : decide (left - 1 < 0) = false := by simp; omega
  have b2 : decide (40 < below) = false := by simp; omega
  have W1 : Hid (∀ o : Obj, Below w0.heap.size w0 ((w.setCell ⟨b, 0, none⟩ (.int .i64 (left - 1))).alloc o) ∧ LeftAt ((w.setCell ⟨b, 0, none⟩ (.int .i64 (left - 1))).alloc o) b (left - 1) ∧ But b w ((w.setCell ⟨b, 0, none⟩ (.int .i64 (left - 1))).alloc o)) := fun o =>
    left_of (left - 1) hw hb hj (Below.refl _ _)
  have HR := Lib.hid hrows
  have HX := Lib.hid hx0
  have H1 := Lib.hid h1
  have H2 := Lib.hid h2
  have H3 := Lib.hid h3
  have L3 := Lib.hid hs.1
  have OK := Lib.hid hok
  have H := Lib.hid hh
  have hwo : Hid (Below w0.heap.size w0 w ∧ LeftAt w b left) := ⟨hw, hj⟩
  have HN : Hid ((pfsSteps ps : Int) ≤ left - 1 ∧ left - (Pf.mk r f lb ps ms).steps = left - 1 - pfsSteps ps ∧ below + pfsDepth ps ≤ 40) := by
    simp only [Pf.steps, Pf.depth] at *
    refine ⟨?_, ?_, ?_⟩ <;> omega
  have hbb : below ≤ 40 := by omega
  obtain ⟨jc, jf⟩ := hj
  clear hrows hx0 h1 h2 h3 h4 hs hok hh hn hd2 hw
  go_enter Tryz.func87, Tryz.ntmps87
  go_wp2_with fail
  refine (Right_yes f (.agg #[.int .u8 f.op, str f.name, .slice a k c, .slice a' m d]) _ (HR.out.keep (keeps_of_below (W1.out _).1)) ⟨_, _, _, _, _, _, rfl, H1.out.keep (keeps_of_below (W1.out _).1), H2.out.keep (keeps_of_below (W1.out _).1)⟩ OK.out.1.1).mono ?_
  rintro e w1 ⟨rfl, hb1⟩
  obtain ⟨hc1, hf1⟩ := bcell hb1
  have B1 := Lib.hid hb1
  have hz1 : w.heap.size < w1.heap.size := by have := hb1.size; simp [World.setCell] at this; omega
  have K1 : Hid (Below w0.heap.size w0 w1) := (W1.out _).1.trans (hb1.mono (W1.out _).1.size)
  clear hb1
  go_wp2_with fail
  refine (shaped_c (.mk r f lb ps ms) _ _ (HX.out.keep (keeps_of_below K1.out)) OK.out.1.2).mono ?_
  rintro e w2 ⟨rfl, hb2⟩
  obtain ⟨hc2, hf2⟩ := bcell (belowThen B1.out hb2)
  have R : Hid (Below w0.heap.size w0 w2 ∧ LeftAt w2 b (left - 1) ∧ But b w w2) := left_of (left - 1) hwo.out.1 hb hwo.out.2 (belowThen B1.out hb2)
  clear hb2 hc1 hf1
  go_wp2_with fail
  clear hc2 hf2 B1 K1 W1 hz1
  go_loopw [36] (fun i wr => ∃ j : Nat, j ≤ sn ∧ i = .int .i64 j ∧ Hid (Below w0.heap.size w0 wr ∧ LeftAt wr b (left - 1 - pfsSteps ps + pfsSteps (ps.drop j)) ∧ But b w wr)) (fun i _ => sn - (intOf i).toNat)
  case atStart => exact ⟨0, Nat.zero_le _, rfl, R.out.1, by have := R.out.2.1; simpa using this, R.out.2.2⟩
  case round =>
    obtain ⟨j, hj, rfl, hs⟩ := hrel
    by_cases hlt : j < sn
    · obtain ⟨T, hT⟩ := get_of_lt (l := ps) (j := j) (by rw [← L3.out]; exact hlt)
      obtain ⟨bb, off, rfl, hc⟩ := H3.out.get (ne_of_get hT)
      obtain ⟨xa, xn, xc, xb, xm, xd, xs, xsn, xsc, xq, xqn, xqc, hx⟩ := hc j _ hT
      have hK := keeps_of_below hs.out.1
      have c0 := hK _ _ hx.c0; have c1 := hK _ _ hx.c1; have c2 := hK _ _ hx.c2; have c3 := hK _ _ hx.c3
      have c4 := hK _ _ hx.c4; have c5 := hK _ _ hx.c5; have c6 := hK _ _ hx.c6; have c7 := hK _ _ hx.c7
      have X : Hid (PfVal w0 T (.agg #[str T.rule, .int .u8 T.form.op, str T.form.name, .slice xa xn xc, .slice xb xm xd, .int .i64 T.label, .slice xs xsn xsc, .slice xq xqn xqc])) := ⟨_, _, _, _, _, _, _, _, _, _, _, _, rfl, hx.args, hx.parts, hx.sub, hx.marks⟩
      have HM := Lib.hid (List.mem_of_getElem? hT)
      have N1 := Lib.hid (pfsSteps_drop hT)
      have N2 := Lib.hid (pfsSteps_drop_le ps j)
      have D1 := Lib.hid (pfsDepth_mem T HM.out)
      have hal : Hid (∀ o, Below w0.heap.size w0 (wr.alloc o) ∧ LeftAt (wr.alloc o) b (left - 1 - pfsSteps ps + pfsSteps (ps.drop j)) ∧ But b w (wr.alloc o)) := fun o => by
        have hb1 : Below wr.heap.size wr (wr.alloc o) := (Below.refl _ _).alloc (Nat.le_refl _) _
        exact ⟨hs.out.1.trans (hb1.mono hs.out.1.size), hs.out.2.1.below hb1, hs.out.2.2.trans (But.of_below hb1)⟩
      clear hc hx hT hK
      go_wp2_with fail
      refine (H.out T HM.out w0 _ b _ (below + 1) _ HR.out X.out (hal.out _).1 hb (hal.out _).2.1 (pfsOk_mem OK.out.2 T HM.out) (by have := N1.out; have := HN.out; omega) (by have := N2.out; have := HN.out; omega) (by omega) (by have := D1.out; have := HN.out.2.2; omega)).mono ?_
      rintro e w3 ⟨rfl, r1, r2, r3⟩
      have R3 : Hid (Below w0.heap.size w0 w3 ∧ LeftAt w3 b (left - 1 - pfsSteps ps + pfsSteps (ps.drop (j + 1))) ∧ But b w w3) :=
        ⟨r1, by have e := N1.out; rw [e] at r2; rw [show left - 1 - (pfsSteps ps : Int) + (pfsSteps (ps.drop (j + 1)) : Int) = left - 1 - pfsSteps ps + ((T.steps + pfsSteps (ps.drop (j + 1)) : Nat) : Int) - T.steps by omega]; exact r2, (hal.out _).2.2.trans r3⟩
      clear r1 r2 r3
      go_wp2_with fail
      go_roundw
      case rel => exact ⟨j + 1, by omega, by go_num, R3⟩
      case measure => simp [intOf]; omega
    · go_wp2_with fail
      go_ret
      have e : ps.drop j = [] := List.drop_of_length_le (by rw [← L3.out]; omega)
      have h2 := hs.out.2.1
      rw [e] at h2
      exact ⟨rfl, hs.out.1, by rw [HN.out.2.1]; simpa [pfsSteps] using h2, hs.out.2.2⟩

mutual
theorem pf_yes : ∀ t : Pf, PfD t
  | .mk r f l ps ms => pf_step r f l ps ms (pf_all ps)
theorem pf_all : ∀ l : List Pf, ∀ t ∈ l, PfD t
  | [], _, h => by cases h
  | x :: xs, t, h => by
    rcases List.mem_cons.1 h with e | e
    · rw [e]; exact pf_yes x
    · exact pf_all xs t e
end
end Go.Proofs.YtcandidgaegghaaGreatDoor
