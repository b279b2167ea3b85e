/- lyceumref41.Read. Conditions: at most 16384 bytes, or longer. For lyceumlaw41.forms: what each reader and writer answers, in one shape for the kit and its reference. lyceumkit.KeptTerm, KeptTerms: true at what has been lent and is as it was. Conditions: none but those of each statement. lyceumkit.KeptForm, KeptForms: true at what has been lent and is as it was. Conditions: none but those of each statement. -/
import Derived.Test.YtcandidgaegghaaGreatDoorRfDZ
import Derived.Test.YtcandidgaegghaaGreatDoorRefEZ
import Derived.Test.YtcandidgaegghaaGreatDoorWgBZ
import Derived.Test.YtcandidgaegghaaGreatDoorTxCZ
import Derived.Test.YtcandidgaegghaaGreatDoorRightGZ
import Derived.Test.YtcandidgaegghaaGreatDoorLnCZ
import Derived.Test.YtcandidgaegghaaGreatDoorSameB
section
namespace Go.Proofs.YtcandidgaegghaaGreatDoor
open Go Go.RowKit Ly
set_option maxRecDepth 10000
set_option linter.unusedSimpArgs false
set_option linter.unusedVariables false
set_option maxHeartbeats 4000000
mutual
theorem pTerm_nod : ∀ (n : Nat) (ws : List Bs) (t : Tm) (r : List Bs), pTerm n ws = .good t r → t.nodes + r.length ≤ ws.length
  | 0, ws, t, r, h => by simp [pTerm] at h
  | n + 1, [], t, r, h => by simp [pTerm] at h
  | n + 1, w :: ws, t, r, h => by
    simp only [pTerm] at h
    split at h
    · simp at h; obtain ⟨rfl, rfl⟩ := h; simp [Tm.nodes, tmsNodes, Fm.nodes, fmsNodes]; omega
    · split at h
      · split at h
        · cases h
        · rename_i l0 r' e
          have := pTerms_nod n ws l0 r' e
          simp at h; obtain ⟨rfl, rfl⟩ := h; simp [Tm.nodes, tmsNodes, Fm.nodes, fmsNodes] at *; omega
      · cases h
theorem pTerms_nod : ∀ (n : Nat) (ws : List Bs) (t : List Tm) (r : List Bs), pTerms n ws = .good t r → tmsNodes t + r.length ≤ ws.length
  | 0, ws, t, r, h => by simp [pTerms] at h
  | n + 1, [], t, r, h => by simp [pTerms] at h; obtain ⟨rfl, rfl⟩ := h; simp [Tm.nodes, tmsNodes, Fm.nodes, fmsNodes]
  | n + 1, w :: ws, t, r, h => by
    simp only [pTerms] at h
    split at h
    · have := pArgs_nod n ws t r h; simp [Tm.nodes, tmsNodes, Fm.nodes, fmsNodes] at *; omega
    · simp at h; obtain ⟨rfl, rfl⟩ := h; simp [Tm.nodes, tmsNodes, Fm.nodes, fmsNodes]
theorem pArgs_nod : ∀ (n : Nat) (ws : List Bs) (t : List Tm) (r : List Bs), pArgs n ws = .good t r → tmsNodes t + r.length ≤ ws.length
  | 0, ws, t, r, h => by simp [pArgs] at h
  | n + 1, ws, t, r, h => by
    simp only [pArgs] at h
    split at h
    · cases h
    · cases h
    · rename_i t' x r' e
      have h1 := pTerm_nod n ws t' _ e
      simp at h1
      split at h
      · split at h
        · cases h
        · rename_i ts s e2
          have h2 := pArgs_nod n r' ts s e2
          simp at h; obtain ⟨rfl, rfl⟩ := h; simp [tmsNodes]; omega
      · split at h
        · simp at h; obtain ⟨rfl, rfl⟩ := h; simp [tmsNodes]; omega
        · cases h
end

theorem pForm_nod : ∀ (n : Nat) (ws : List Bs) (t : Fm) (r : List Bs), pForm n ws = .good t r → t.nodes + r.length ≤ ws.length
  | 0, ws, t, r, h => by simp [pForm] at h
  | n + 1, [], t, r, h => by simp [pForm] at h
  | n + 1, w :: ws, t, r, h => by
    simp only [pForm] at h
    split at h
    · simp at h; obtain ⟨rfl, rfl⟩ := h; simp [Tm.nodes, tmsNodes, Fm.nodes, fmsNodes]; omega
    split at h
    · split at h
      · cases h
      · rename_i f r' e
        have := pForm_nod n ws f r' e
        simp at h; obtain ⟨rfl, rfl⟩ := h; simp [Tm.nodes, tmsNodes, Fm.nodes, fmsNodes] at *; omega
    split at h
    · split at h
      · cases h
      · cases h
      · rename_i f x r' e
        have h1 := pForm_nod n ws f _ e
        simp at h1
        split at h
        · split at h
          · cases h
          · rename_i g s e2
            have h2 := pForm_nod n r' g s e2
            simp at h; obtain ⟨rfl, rfl⟩ := h; simp [Tm.nodes, tmsNodes, Fm.nodes, fmsNodes] at *; omega
        · cases h
    split at h
    · split at h
      · cases h
      · rename_i q ws'
        split at h
        · split at h
          · cases h
          · rename_i v r'
            split at h
            · split at h
              · cases h
              · rename_i f s e
                have := pForm_nod n r' f s e
                simp at h; obtain ⟨rfl, rfl⟩ := h; simp [Tm.nodes, tmsNodes, Fm.nodes, fmsNodes] at *; omega
            · cases h
        · cases h
    split at h
    · split at h
      · cases h
      · rename_i l0 r' e
        have := pTerms_nod n ws l0 r' e
        simp at h; obtain ⟨rfl, rfl⟩ := h; simp [Tm.nodes, tmsNodes, Fm.nodes, fmsNodes] at *; omega
    · cases h
theorem res54 (tmps : Array Value) (w : World) (g : Nat) (a b c d y z : Value) (fr : Nat × Nat) (h2 : tmps.getD 2 undef = one g) (h3 : tmps.getD 3 undef = y) (h4 : tmps.getD 4 undef = z) (hg : w.heap[g]? = some (.cells #[a, b, c, d] 25 fr)) :
    (results Tryz.f54 tmps).run Tryz.prog w = .ok (.tuple #[.agg #[a, b, c, d], y, z]) w := by
  obtain ⟨fs, h1⟩ := u25
  have e2 : tmps[2]?.getD undef = .pointer (some ⟨g, 0, none⟩) := by simpa using h2
  have e3 : tmps[3]?.getD undef = y := by simpa using h3
  have e4 : tmps[4]?.getD undef = z := by simpa using h4
  simp [results, Tryz.results54, e2, e3, e4, asAddr, run_loadVar_row w g 25 25 #[a, b, c, d] fr _ hg h1 rfl i25]
theorem wg_bad {s : Bs} {r : List Bs} (h : readPR s = .bad r ∨ ∃ f, readPR s = .good f r ∧ r ≠ []) : wgAns (wordsOf s) = (((wordsOf s).length - r.length : Nat) : Int) := by
  have hk := k_read (wordsOf s)
  have e : kRun [kForm] (wordsOf s) = some r := by
    rcases h with h | ⟨f, h, hr⟩
    · rw [show pForm (3 * (wordsOf s).length + 1) (wordsOf s) = .bad r from h] at hk
      exact hk
    · rw [show pForm (3 * (wordsOf s).length + 1) (wordsOf s) = .good f r from h] at hk
      refine Eq.trans hk ?_
      cases r with
      | nil => exact absurd rfl hr
      | cons x r => rfl
  have hl := kRun_len _ _ _ e
  unfold wgAns
  rw [e]
  simp; omega
theorem wg_good {s : Bs} {f : Fm} (h : readPR s = .good f []) : wgAns (wordsOf s) = -1 := by
  have hk := k_read (wordsOf s)
  rw [show pForm (3 * (wordsOf s).length + 1) (wordsOf s) = .good f [] from h] at hk
  have e : kRun [kForm] (wordsOf s) = none := Eq.trans hk rfl
  unfold wgAns
  rw [e]
theorem RRead_long (s : Bs) (hs : 16384 < s.length) (hm : s.length ≤ maxLen) (w : World) : Calls Tryz.prog 54 #[str s] w fun e w' => e = .returned (.tuple #[.agg #[.int .u8 0, str [], .slice none 0 0, .slice none 0 0], .int .i64 0, .int .i64 3]) ∧ Below w.heap.size w w' := by
  have hl : (16384 : Int) < s.length := by omega
  have hl2 : (s.length : Int) ≤ 9223372036854775807 := by unfold maxLen at hm; omega
  have hB : Below w.heap.size w (w.alloc (.cells #[.int .u8 0, str [], .slice none 0 0, .slice none 0 0] 25)) := (Below.refl _ _).alloc (Nat.le_refl _) _
  have hrow : (w.alloc (.cells #[.int .u8 0, str [], .slice none 0 0, .slice none 0 0] 25)).heap[w.heap.size]? = some (.cells #[.int .u8 0, str [], .slice none 0 0, .slice none 0 0] 25 (0, 0)) := heap_alloc_new w _
  clear hs hm
  go_enter Tryz.func54, Tryz.ntmps54
  go_wp2_with fail
  exact bodyPost_ret (res54 _ _ w.heap.size _ _ _ _ _ _ (0, 0) rfl rfl rfl hrow) rfl ⟨rfl, hB⟩
theorem read_end54 {s : Bs} {w w7 : World} {a b c d y z : Value} {tmps : Array Value} (B : Below w.heap.size w w7) (hg : w7.heap[w.heap.size]? = some (.cells #[.int .u8 0, str [], .slice none 0 0, .slice none 0 0] 25 (0, 0)))
    (h2 : tmps.getD 2 undef = one w.heap.size) (h3 : tmps.getD 3 undef = y) (h4 : tmps.getD 4 undef = z)
    (post : ∀ w', Below w.heap.size w w' → Keeps (hide (fun k => decide (k < w.heap.size + 1)) w7) (hide (lo w) w') → ReadAny s w (.returned (.tuple #[.agg #[a, b, c, d], y, z])) w') :
    bodyPost Tryz.prog Tryz.f54 (ReadAny s w) .ret ⟨tmps, []⟩ ((((w7.setCell ⟨w.heap.size, 0, none⟩ a).setCell ⟨w.heap.size, 1, none⟩ b).setCell ⟨w.heap.size, 2, none⟩ c).setCell ⟨w.heap.size, 3, none⟩ d) := by
  have g1 := set_block (o := 0) (u := a) hg
  have g2 := set_block (o := 1) (u := b) g1
  have g3 := set_block (o := 2) (u := c) g2
  have g4 := set_block (o := 3) (u := d) g3
  refine bodyPost_ret (res54 tmps _ w.heap.size a b c d y z (0, 0) h2 h3 h4 g4) rfl ?_
  refine post _ ((((B.setCell (by simp) _).setCell (by simp) _).setCell (by simp) _).setCell (by simp) _) (hide_keeps2 fun k h1 h2 => ?_)
  simp only [decide_eq_false_iff_not, Nat.not_lt, lo] at h2 ⊢
  have hne : k ≠ w.heap.size := by omega
  exact ⟨by omega, by rw [Below.heap_setCell _ _ _ _ hne, Below.heap_setCell _ _ _ _ hne, Below.heap_setCell _ _ _ _ hne, Below.heap_setCell _ _ _ _ hne]⟩
theorem RRead_bad (s : Bs) (hs : s.length ≤ 16384) (r : List Bs) (h : readPR s = .bad r ∨ ∃ f, readPR s = .good f r ∧ r ≠ []) (w : World) : Calls Tryz.prog 54 #[str s] w (ReadAny s w) := by
  have hB : Below w.heap.size w (w.alloc (.cells #[.int .u8 0, str [], .slice none 0 0, .slice none 0 0] 25)) := (Below.refl _ _).alloc (Nat.le_refl _) _
  have hrow : (w.alloc (.cells #[.int .u8 0, str [], .slice none 0 0, .slice none 0 0] 25)).heap[w.heap.size]? = some (.cells #[.int .u8 0, str [], .slice none 0 0, .slice none 0 0] 25 (0, 0)) := heap_alloc_new w _
  have hk := wg_bad h
  have HB := Lib.hid hB
  have HG := Lib.hid hrow
  have HBAD := Lib.hid h
  have hl : (s.length : Int) ≤ 16384 := by omega
  have hl2 : ¬ (16384 : Int) < s.length := by omega
  obtain ⟨k, hkk⟩ : ∃ k : Nat, (wordsOf s).length - r.length = k := ⟨_, rfl⟩
  rw [hkk] at hk
  have WR : Hid (Calls Tryz.prog 133 #[str s] (w.alloc (.cells #[.int .u8 0, str [], .slice none 0 0, .slice none 0 0] 25)) fun e w' => e = .returned (.int .i64 (k : Int)) ∧ Below (w.alloc (.cells #[.int .u8 0, str [], .slice none 0 0, .slice none 0 0] 25)).heap.size (w.alloc (.cells #[.int .u8 0, str [], .slice none 0 0, .slice none 0 0] 25)) w') := by
    rw [← hk]; exact wrong_c s (by omega) _
  have HKK := Lib.hid hkk
  clear hs h hk hkk hB hrow
  have tk : decide ((0 : Int) ≤ (k : Int)) = true := by simp
  go_enter Tryz.func54, Tryz.ntmps54
  go_wp2_with (go_at_call 133; refine WR.out.mono ?_; rintro e w3 ⟨rfl, b3⟩; have B3 := Lib.hid b3; have E0 := Lib.hid (kc b3 HG.out); clear b3; obtain ⟨x0, x1, x2, x3, f0, f1, f2, f3⟩ := row25 E0.out; have z3 := (Array.getElem?_eq_some_iff.1 E0.out).1)
  exact read_end54 (y := .int .i64 (k : Int)) (z := .int .i64 410) (belowThen HB.out B3.out) E0.out rfl rfl rfl fun w' B K => ⟨B, .inr (.inr ⟨r, HBAD.out, congrArg (fun n : Nat => Ending.returned (.tuple #[.agg #[.int .u8 0, str [], .slice none 0 0, .slice none 0 0], .int .i64 (n : Int), .int .i64 410])) HKK.out.symm⟩)⟩
theorem RRead_good (s : Bs) (hs : s.length ≤ 16384) (f : Fm) (h : readPR s = .good f []) (w : World) : Calls Tryz.prog 54 #[str s] w (ReadAny s w) := by
  have hB : Below w.heap.size w (w.alloc (.cells #[.int .u8 0, str [], .slice none 0 0, .slice none 0 0] 25)) := (Below.refl _ _).alloc (Nat.le_refl _) _
  have hrow : (w.alloc (.cells #[.int .u8 0, str [], .slice none 0 0, .slice none 0 0] 25)).heap[w.heap.size]? = some (.cells #[.int .u8 0, str [], .slice none 0 0, .slice none 0 0] 25 (0, 0)) := heap_alloc_new w _
  have hk := wg_good h
  have HB := Lib.hid hB
  have HG := Lib.hid hrow
  have HGOOD := Lib.hid h
  have hl : (s.length : Int) ≤ 16384 := by omega
  have hl2 : ¬ (16384 : Int) < s.length := by omega
  have WL := wordsOf_len s (by omega)
  have WR : Hid (Calls Tryz.prog 133 #[str s] (w.alloc (.cells #[.int .u8 0, str [], .slice none 0 0, .slice none 0 0] 25)) fun e w' => e = .returned (.int .i64 (-1)) ∧ Below (w.alloc (.cells #[.int .u8 0, str [], .slice none 0 0, .slice none 0 0] 25)).heap.size (w.alloc (.cells #[.int .u8 0, str [], .slice none 0 0, .slice none 0 0] 25)) w') := by
    rw [← hk]; exact wrong_c s (by omega) _
  have SP : Hid (∀ W, Calls Tryz.prog 135 #[str s] W (RetStrs (wordsOf s) W)) := fun W => refSplit_c s (by omega) W
  have RF : Hid (RfCall (wordsOf s) f []) := rf_main _ _ f [] h WL.2 (by omega)
  have hsz := (pForm_sz _ _ _ _ WL.2 h).1
  have hnd := pForm_nod _ _ _ _ h
  obtain ⟨bR, hR⟩ : ∃ b, f.right = b := ⟨_, rfl⟩
  have RR : Hid (∀ x W, FmVal W f x → Calls Tryz.prog 130 #[x] W fun e w' => e = .returned (.bool bR) ∧ Below W.heap.size W w') := fun x W hx => by
    rw [← hR]; exact refRight_c f hsz (by simp at hnd; omega) x W hx
  have HR := Lib.hid hR
  clear hs h hk hB hrow WL hsz hnd hR
  go_enter Tryz.func54, Tryz.ntmps54
  cases bR <;>
  go_wp2_with (first
    | (go_at_call 133; refine WR.out.mono ?_; rintro e w3 ⟨rfl, b3⟩; have B3 := Lib.hid b3; have E0 := Lib.hid (kc b3 HG.out); clear b3; obtain ⟨x0, x1, x2, x3, f0, f1, f2, f3⟩ := row25 E0.out; have z3 := (Array.getElem?_eq_some_iff.1 E0.out).1)
    | (go_at_call 135; refine (SP.out _).mono ?_; rintro e w4 ⟨v, rfl, hO, b4⟩; have SA := Lib.hid hO.strsAt; obtain ⟨va, vn, vc, rfl⟩ : ∃ a n c, v = .slice a n c := (by rcases hO.2 with ⟨rfl, -⟩ | ⟨_, _, _, rfl, -⟩ <;> exact ⟨_, _, _, rfl⟩); have B4 := Lib.hid b4; clear hO b4)
    | (go_at_call 134; refine (RF.out _ _ _ _ SA.out).mono ?_; rintro e w5 ⟨ga, gn, gc, ha, hn, hc, ra, rn, rc, rfl, hA, hS, hR, b5⟩; have HA := Lib.hid (And.intro hA (And.intro hS b5)); have E5 := Lib.hid (kc b5 (kc B4.out E0.out)); clear hA hS hR b5 x0 x1 x2 x3 f0 f1 f2 f3 z3; obtain ⟨x0, x1, x2, x3, f0, f1, f2, f3⟩ := row25 E5.out; have z5 := (Array.getElem?_eq_some_iff.1 E5.out).1; have zn : ¬ w.heap.size = w5.heap.size := (by omega))
    | (go_at_call 130; refine (RR.out _ _ ⟨_, _, _, _, _, _, rfl, (HA.out.1.keep (hide_keeps _ _)).keep (keeps_of_below ((Below.refl _ _).alloc (Nat.le_refl _) _)), (HA.out.2.1.keep (hide_keeps _ _)).keep (keeps_of_below ((Below.refl _ _).alloc (Nat.le_refl _) _))⟩).mono ?_; rintro e w6 ⟨rfl, b6⟩; have B6 := Lib.hid b6; have E6 := Lib.hid (kc b6 (kc ((Below.refl _ _).alloc (Nat.le_refl _) _) E5.out)); have E7 := Lib.hid (kc b6 (heap_alloc_new _ _)); clear b6 x0 x1 x2 x3 f0 f1 f2 f3; obtain ⟨x0, x1, x2, x3, f0, f1, f2, f3⟩ := row25 E6.out; obtain ⟨y0, y1, y2, y3, g0, g1, g2, g3⟩ := row25' E7.out; have z6 := (Array.getElem?_eq_some_iff.1 E6.out).1))
  · have ba : Below w5.heap.size w5 (w5.alloc (.cells #[.int .u8 f.op, str f.name, .slice ga gn gc, .slice ha hn hc] 25)) := (Below.refl _ _).alloc (Nat.le_refl _) _
    have B : Below w.heap.size w w6 := belowThen (belowThen (belowThen (belowThen (belowThen HB.out B3.out) B4.out) HA.out.2.2) ba) B6.out
    exact read_end54 (y := .int .i64 0) (z := .int .i64 2) B E6.out rfl rfl rfl fun w' B' K => ⟨B', .inr (.inl ⟨f, HGOOD.out, HR.out, rfl⟩)⟩
  · have ba : Below w5.heap.size w5 (w5.alloc (.cells #[.int .u8 f.op, str f.name, .slice ga gn gc, .slice ha hn hc] 25)) := (Below.refl _ _).alloc (Nat.le_refl _) _
    have B : Below w.heap.size w w6 := belowThen (belowThen (belowThen (belowThen (belowThen HB.out B3.out) B4.out) HA.out.2.2) ba) B6.out
    have b4 := B4.out.size
    have b6 := B6.out
    have b5 := HA.out.2.2.size
    have b3 := B3.out.size
    simp only [World.size_alloc] at b3
    have K1 : Keeps (hide (lo w4) w5) (hide (fun k => decide (k < w.heap.size + 1)) w6) := hide_keeps2 fun k h1 h2 => by
      simp only [lo, decide_eq_false_iff_not, Nat.not_lt] at h2 ⊢
      exact ⟨by omega, (b6.block k (by simp; omega)).trans (ba.block k h1)⟩
    exact read_end54 (y := .int .i64 0) (z := .int .i64 0) B E6.out rfl rfl rfl fun w' B' K => ⟨B', .inl ⟨f, _, HGOOD.out, HR.out, rfl, ⟨_, _, _, _, _, _, rfl, (HA.out.1.keep K1).keep K, (HA.out.2.1.keep K1).keep K⟩⟩⟩
theorem RRead_short (s : Bs) (hs : s.length ≤ 16384) (w : World) : Calls Tryz.prog 54 #[str s] w (ReadAny s w) := by
  cases h : readPR s with
  | bad r => exact RRead_bad s hs r (.inl h) w
  | good f r =>
    cases r with
    | nil => exact RRead_good s hs f h w
    | cons x r => exact RRead_bad s hs (x :: r) (.inr ⟨f, h, by simp⟩) w
end Go.Proofs.YtcandidgaegghaaGreatDoor
end
section
namespace Go.Proofs.YtcandidgaegghaaGreatDoor
open Go Go.RowKit Ly
set_option linter.unusedSimpArgs false
set_option linter.unusedVariables false
set_option maxHeartbeats 1600000
def fm0 : Fm := .mk 0 [] [] []
/-- What is read of a text: the formula, the place, the code. -/
def rGot (s : Bs) : Fm × Int × Int :=
  if 16384 < s.length then (fm0, 0, 3) else
  match readPR s with
  | .bad r => (fm0, (((wordsOf s).length - r.length : Nat) : Int), 410)
  | .good f [] => if f.right = true then (f, 0, 0) else (fm0, 0, 2)
  | .good _ (x :: r) => (fm0, (((wordsOf s).length - (x :: r).length : Nat) : Int), 410)
/-- A reader's answer. -/
def GotAns (s : Bs) (w : World) (e : Ending) (w' : World) : Prop :=
  ∃ ga gn gc ha hn hc, e = .returned (.tuple #[.agg #[.int .u8 (rGot s).1.op, str (rGot s).1.name, .slice ga gn gc, .slice ha hn hc], .int .i64 (rGot s).2.1, .int .i64 (rGot s).2.2]) ∧
    TmsAt (hide (lo w) w') (rGot s).1.args (.slice ga gn gc) ∧ FmsAt (hide (lo w) w') (rGot s).1.sub (.slice ha hn hc) ∧ Below w.heap.size w w'
theorem GotAns.zero {s : Bs} {w w' : World} {e : Ending} {i c : Int} (h : rGot s = (fm0, i, c)) (he : e = .returned (.tuple #[.agg #[.int .u8 0, str [], .slice none 0 0, .slice none 0 0], .int .i64 i, .int .i64 c])) (b : Below w.heap.size w w') : GotAns s w e w' := by
  unfold GotAns
  rw [h]
  exact ⟨none, 0, 0, none, 0, 0, he, At.sl_nil (Nat.zero_le _), At.sl_nil (Nat.zero_le _), b⟩
theorem ReadAny.got {s : Bs} {w w' : World} {e : Ending} (hs : s.length ≤ 16384) (h : ReadAny s w e w') : GotAns s w e w' := by
  have hl : ¬ 16384 < s.length := by omega
  obtain ⟨b, ⟨f, v, h1, h2, rfl, ⟨ga, gn, gc, ha, hn, hc, rfl, h4, h5⟩⟩ | ⟨f, h1, h2, rfl⟩ | ⟨r, h1, rfl⟩⟩ := h
  · have e : rGot s = (f, 0, 0) := by simp [rGot, hl, h1, h2]
    unfold GotAns
    rw [e]
    exact ⟨ga, gn, gc, ha, hn, hc, rfl, h4, h5, b⟩
  · exact GotAns.zero (by simp [rGot, hl, h1, h2]) rfl b
  · refine GotAns.zero ?_ rfl b
    rcases h1 with h1 | ⟨f, h1, hr⟩
    · simp [rGot, hl, h1]
    · cases r with
      | nil => exact absurd rfl hr
      | cons x r => simp [rGot, hl, h1]
theorem Read_got (s : Bs) (hm : s.length ≤ maxLen) (w : World) (hx : MaxAt w) (rows : RowsAt w) (rowsn : RowsNo w) : Calls Tryz.prog 43 #[str s] w (GotAns s w) := by
  by_cases hs : s.length ≤ 16384
  · exact (Read_short s hs w hx rows rowsn).mono fun e w' h => h.got hs
  · exact (Read_long s (by omega) hm w).mono fun e w' h => GotAns.zero (by simp [rGot, show 16384 < s.length by omega]) h.1 h.2
theorem RRead_got (s : Bs) (hm : s.length ≤ maxLen) (w : World) : Calls Tryz.prog 54 #[str s] w (GotAns s w) := by
  by_cases hs : s.length ≤ 16384
  · exact (RRead_short s hs w).mono fun e w' h => h.got hs
  · exact (RRead_long s (by omega) hm w).mono fun e w' h => GotAns.zero (by simp [rGot, show 16384 < s.length by omega]) h.1 h.2
def fTxt (f : Fm) : Bs := if f.right = true then f.text else []
def fCd (f : Fm) : Int := if f.right = true then 0 else 2
def fOut (f : Fm) : List Bs := if f.right = true then (f.outl 0).map oText else []
theorem Form_any (f : Fm) (hf : f.sz) (x : Value) (w : World) (hr : RowsAt w) (hrn : RowsNo w) (hx : FmVal w f x) : Calls Tryz.prog 21 #[x] w fun e w' => e = .returned (.tuple #[str (fTxt f), .int .i64 (fCd f)]) ∧ Below w.heap.size w w' := by
  by_cases h : f.right = true
  · simpa [fTxt, fCd, h] using Form_yes f h x w hr hx
  · simpa [fTxt, fCd, h] using Form_no f hf h x w hr hrn hx
theorem refForm_any (f : Fm) (hf : f.sz) (hn : f.nodes ≤ 1000000) (x : Value) (w : World) (hx : FmVal w f x) : Calls Tryz.prog 52 #[x] w fun e w' => e = .returned (.tuple #[str (fTxt f), .int .i64 (fCd f)]) ∧ Below w.heap.size w w' := by
  by_cases h : f.right = true
  · simpa [fTxt, fCd, h] using refForm_yes f hf h x w hx
  · simpa [fTxt, fCd, h] using refForm_no f hf hn (by simpa using h) x w hx
/-- An outline's answer. -/
def OutAns (f : Fm) (w : World) (e : Ending) (w' : World) : Prop :=
  ∃ a n c, e = .returned (.tuple #[.slice a n c, .int .i64 (fCd f)]) ∧ StrsAt w' (fOut f) (.slice a n c) ∧ Below w.heap.size w w'
theorem own_form3 {B : Nat} {w : World} {l : List Bs} {v : Value} (h : OwnStrs B w l v) : ∃ a n c, v = .slice a n c := by
  rcases h.2 with ⟨rfl, -⟩ | ⟨_, _, _, rfl, -⟩ <;> exact ⟨_, _, _, rfl⟩
theorem OutAns.yes {f : Fm} {w w' : World} {e : Ending} {v : Value} {B : Nat} (h : f.right = true) (he : e = .returned (.tuple #[v, .int .i64 0])) (ho : OwnStrs B w' ((f.outl 0).map oText) v) (b : Below w.heap.size w w') : OutAns f w e w' := by
  obtain ⟨a, n, c, rfl⟩ := own_form3 ho
  exact ⟨a, n, c, by simp [fCd, h, he], by simpa [fOut, h] using ho.strsAt, b⟩
theorem OutAns.no {f : Fm} {w w' : World} {e : Ending} (h : ¬ f.right = true) (he : e = .returned (.tuple #[.slice none 0 0, .int .i64 2])) (b : Below w.heap.size w w') : OutAns f w e w' := by
  have ho : OwnStrs 0 w' [] (.slice none 0 0) := ⟨rfl, .inl ⟨rfl, rfl⟩⟩
  exact ⟨none, 0, 0, by simp [fCd, h, he], by simpa [fOut, h] using ho.strsAt, b⟩
theorem Outline_any (f : Fm) (hf : f.sz) (x : Value) (w : World) (hr : RowsAt w) (hrn : RowsNo w) (hp : PowAt w) (hx : FmVal w f x) : Calls Tryz.prog 30 #[x] w (OutAns f w) := by
  by_cases h : f.right = true
  · exact (Outline_c f x w hr hp hx h).mono fun e w' hh => by
      obtain ⟨v, he, ho, b⟩ := hh
      exact OutAns.yes h he ho b
  · exact (Outline_no f hf h x w hr hrn hx).mono fun e w' hh => OutAns.no h hh.1 hh.2
theorem refOutline_any (f : Fm) (hf : f.sz) (hn : f.nodes ≤ 1000000) (x : Value) (w : World) (hx : FmVal w f x) : Calls Tryz.prog 53 #[x] w (OutAns f w) := by
  by_cases h : f.right = true
  · exact (refOutline_yes f hf h x w hx).mono fun e w' hh => by
      obtain ⟨v, he, ho, b⟩ := hh
      exact OutAns.yes h he ho b
  · exact (refOutline_no f hf hn (by simpa using h) x w hx).mono fun e w' hh => OutAns.no h hh.1 hh.2
end Go.Proofs.YtcandidgaegghaaGreatDoor
end
section
namespace Go.Proofs.YtcandidgaegghaaGreatDoor
open Go Go.RowKit Go.Sort Ly
set_option maxRecDepth 10000
set_option linter.unusedSimpArgs false
set_option linter.unusedVariables false
set_option maxHeartbeats 1600000
theorem tm_same_self (t : Tm) : t.same t = true := (Tm.same_iff t t).2 rfl
theorem fm_same_self (t : Fm) : t.same t = true := (Fm.same_iff t t).2 rfl
def KpS (l : List Tm) : Prop := ∀ (u : Value) (a : Option Addr) (k c : Nat) (w : World), TmsLent w l u → TmsAt w l (.slice a k c) → Calls Tryz.prog 128 #[u, .slice a k c] w fun e w' => e = .returned (.bool true) ∧ Below w.heap.size w w'
def KpT (t : Tm) : Prop := ∀ (u y : Value) (w : World), TmsLent w t.args u → TmVal w t y → Calls Tryz.prog 208 #[.agg #[.bool t.v, str t.name, u], y] w fun e w' => e = .returned (.bool true) ∧ Below w.heap.size w w'
theorem kp_of (t : Tm) (h : KpS t.args) : KpT t := by
  intro u y w hu hy
  obtain ⟨a, k, c, rfl, hy⟩ := hy
  obtain ⟨b, cap, zs, rfl, e1, e2, e3, e4⟩ := id hu
  have G0 := Lib.hid (heap_alloc_new w (.cells #[.bool t.v, str t.name, .slice (some ⟨b, 0, none⟩) t.args.length cap] 95))
  have HB : Hid (Below w.heap.size w ((w.alloc (.cells #[.bool t.v, str t.name, .slice (some ⟨b, 0, none⟩) t.args.length cap] 95)).alloc (.cells #[.bool t.v, str t.name, .slice a k c] 95))) := ((Below.refl _ _).alloc (Nat.le_refl _) _).alloc (by simp) _
  have HU := Lib.hid hu
  have HY := Lib.hid hy
  have R : Hid (∀ W, Below w.heap.size w W → Calls Tryz.prog 200 #[.agg #[.bool t.v, str t.name, .slice (some ⟨b, 0, none⟩) t.args.length cap], .agg #[.bool t.v, str t.name, .slice a k c]] W fun e w' => e = .returned (.bool true) ∧ Below W.heap.size W w') := fun W hW => by
    have := SameTerm_c t t _ _ W ⟨_, _, _, rfl, hu.at.keep (keeps_of_below hW)⟩ ⟨_, _, _, rfl, hy.keep (keeps_of_below hW)⟩
    rwa [tm_same_self] at this
  have R2 : Hid (∀ W, Below w.heap.size w W → Calls Tryz.prog 128 #[.slice (some ⟨b, 0, none⟩) t.args.length cap, .slice a k c] W fun e w' => e = .returned (.bool true) ∧ Below W.heap.size W w') := fun W hW =>
    h _ a k c W (hu.keep (keeps_of_below hW)) (hy.keep (keeps_of_below hW))
  generalize t.args.length = n at *
  clear h hu hy e1 e2 e3 e4
  have G1 : Hid (((w.alloc (.cells #[.bool t.v, str t.name, .slice (some ⟨b, 0, none⟩) n cap] 95)).alloc (.cells #[.bool t.v, str t.name, .slice a k c] 95)).heap[w.heap.size]? = some (.cells #[.bool t.v, str t.name, .slice (some ⟨b, 0, none⟩) n cap] 95 (0, 0))) := kc ((Below.refl _ _).alloc (Nat.le_refl _) _) G0.out
  have G2 : Hid (((w.alloc (.cells #[.bool t.v, str t.name, .slice (some ⟨b, 0, none⟩) n cap] 95)).alloc (.cells #[.bool t.v, str t.name, .slice a k c] 95)).heap[w.heap.size + 1]? = some (.cells #[.bool t.v, str t.name, .slice a k c] 95 (0, 0))) := by
    have := heap_alloc_new (w.alloc (.cells #[.bool t.v, str t.name, .slice (some ⟨b, 0, none⟩) n cap] 95)) (.cells #[.bool t.v, str t.name, .slice a k c] 95)
    rwa [World.size_alloc] at this
  go_enter Tryz.func208, Tryz.ntmps208
  go_wp2_with (first
    | (go_at_call 200; refine (R.out _ HB.out).mono ?_; rintro e w1 ⟨rfl, b1⟩; have B1 := Lib.hid (belowThen HB.out b1); have E1 := Lib.hid (kc b1 G1.out); have E2 := Lib.hid (kc b1 G2.out); clear b1; obtain ⟨c0, c1, c2, f0, f1, f2⟩ := row95' E1.out; obtain ⟨d0, d1, d2, h0, h1, h2⟩ := row95' E2.out)
    | (go_at_call 128; refine (R2.out _ B1.out).mono ?_; rintro e w2 ⟨rfl, b2⟩; have B2 := Lib.hid (belowThen B1.out b2); clear b2))
  go_ret
  exact ⟨rfl, B2.out⟩
theorem kps_step (l : List Tm) (hh : ∀ t ∈ l, KpT t) : KpS l := by
  intro u a k c w hu hy
  have hk := hy.len
  obtain ⟨b, cap, zs, rfl, e1, e2, e3, e4⟩ := id hu
  have L1 := Lib.hid hk.1
  have ZL := Lib.hid e4.len
  have HC := Lib.hid e4
  have HR := Lib.hid e3
  have HY := Lib.hid hy
  have H := Lib.hid hh
  have hcap : k + 12 ≤ cap := by rw [hk.1]; exact e1
  have hmax : cap ≤ 9223372036854775807 := by have := le63 e2; omega
  rw [← hk.1]
  clear hk hu hy hh e1 e2 e3 e4
  go_enter Tryz.func128, Tryz.ntmps128
  go_wp2_with fail
  go_loopw [6] (fun i wr => ∃ j : Nat, j ≤ k + 12 ∧ i = .int .i64 j ∧ Hid (Below w.heap.size w wr)) (fun i _ => k + 12 - (intOf i).toNat)
  case atStart => exact ⟨0, Nat.zero_le _, rfl, Below.refl _ _⟩
  case round =>
    obtain ⟨j, hj, rfl, hs⟩ := hrel
    by_cases hlt : j < k
    · obtain ⟨T, hT⟩ := get_of_lt (l := l) (j := j) (by rw [← L1.out]; exact hlt)
      obtain ⟨bb, off, rfl, hc⟩ := HY.out.get (ne_of_get hT)
      obtain ⟨y0, y1, y2, hy⟩ := hc j _ hT
      obtain ⟨v, z0, z1, z2, hl⟩ := HC.out.get hT
      obtain ⟨b', cap', zs', rfl, -⟩ := id hl
      have hK := keeps_of_below hs.out
      have hr : ∀ (i : Nat) (x : Value), zs[i]? = some x → wr.cell? ⟨b, i, none⟩ = some x := fun i x h => hK _ _ (HR.out.left i x h)
      have c0 := cell_regrown (hr _ _ z0); have c1 := cell_regrown (hr _ _ z1); have c2 := cell_regrown (hr _ _ z2)
      have d0 := cell_regrown (hK _ _ hy.c0); have d1 := cell_regrown (hK _ _ hy.c1); have d2 := cell_regrown (hK _ _ hy.c2)
      have hm := List.mem_of_getElem? hT
      have cK : Hid (∀ d os, Calls Tryz.prog 208 #[.agg #[.bool T.v, str T.name, .slice (some ⟨b', 0, none⟩) T.args.length cap'], .agg #[.bool T.v, str T.name, .slice y0 y1 y2]] (grow (redrawn wr d) os) fun e w'' => e = .returned (.bool true) ∧ ∃ p : Regrown, w'' = grow (redrawn wr p.d) p.os) := fun d os =>
        have K : Keeps w (grow (redrawn wr d) os) := hK.trans (keeps_of_below (below_regrown wr d os))
        Calls.regrown_of (H.out T hm _ _ _ (hl.keep K) ⟨_, _, _, rfl, hy.at_.keep K⟩)
      have g1 : decide ((j : Int) < (k : Int)) = true := by simp; omega
      have g2 : decide (k ≤ j) = false := by simp; omega
      generalize T.args.length = n at *
      clear hc hy hT hl hK hr z0 z1 z2 hm
      go_wp2_with fail
      refine wp_region_quiet_below (by kernel_rfl) (by kernel_rfl) ?_
      repeat (go_big_quiet_step (first | (go_at_call 208; exact cK.out _ _)))
      refine wpQuiet_nil ?_
      intro wq hw'
      have WQ : Hid (Below wr.heap.size wr wq) := by
        obtain ⟨⟨dq, osq⟩, hw''⟩ := hw'
        rw [hw'']; exact below_regrown wr dq osq
      clear hw'
      go_wp2_with fail
      go_roundw
      case rel => exact ⟨j + 1, by omega, by go_num, belowThen hs.out WQ.out⟩
      case measure => simp [intOf]; omega
    · by_cases hlt2 : j < k + 12
      · obtain ⟨p, hp⟩ : ∃ p, j = k + p := ⟨j - k, by omega⟩
        have hp12 : p < 12 := by omega
        obtain ⟨z0, z1, z2⟩ := tmMarks_get hp12
        have hK := keeps_of_below hs.out
        have hr : ∀ (i : Nat) (x : Value), (tmMarks 12)[i]? = some x → wr.cell? ⟨b, k * 3 + i, none⟩ = some x := fun i x h => hK _ _ (HR.out _ x (by rw [List.getElem?_append_right (by rw [ZL.out, ← L1.out]; omega), ZL.out, ← L1.out, Nat.add_sub_cancel_left]; exact h))
        have ej : j * 3 = k * 3 + p * 3 := by omega
        have c0 := cell_regrown (hr _ _ z0); have c1 := cell_regrown (hr _ _ z1); have c2 := cell_regrown (hr _ _ z2)
        rw [← Nat.add_assoc, ← ej] at c1 c2
        rw [← ej] at c0
        have cM : Hid (∀ d os, Calls Tryz.prog 206 #[.int .i64 1, .int .i64 p] (grow (redrawn wr d) os) fun e w'' => e = .returned (.agg #[.bool false, str (mkText p), .slice none 0 0]) ∧ ∃ q : Regrown, w'' = grow (redrawn wr q.d) q.os) := fun d os =>
          Calls.regrown_of (markTerm_c p hp12 _)
        have cS : Hid (∀ d os, Calls Tryz.prog 200 #[.agg #[.bool false, str (mkText p), .slice none 0 0], .agg #[.bool false, str (mkText p), .slice none 0 0]] (grow (redrawn wr d) os) fun e w'' => e = .returned (.bool true) ∧ ∃ q : Regrown, w'' = grow (redrawn wr q.d) q.os) := fun d os =>
          Calls.regrown_of (by
            have := SameTerm_c (.mk false (mkText p) []) (.mk false (mkText p) []) (.agg #[.bool false, str (mkText p), .slice none 0 0]) (.agg #[.bool false, str (mkText p), .slice none 0 0]) (grow (redrawn wr d) os) ⟨_, _, _, rfl, At.sl_nil (Nat.zero_le _)⟩ ⟨_, _, _, rfl, At.sl_nil (Nat.zero_le _)⟩
            rwa [tm_same_self] at this)
        have g1 : decide ((j : Int) < (k : Int)) = false := by simp; omega
        have g2 : decide (k ≤ j) = true := by simp; omega
        have g3 : (j : Int) - (k : Int) = p := by omega
        generalize mkText p = M at *
        clear hr hK z0 z1 z2 ej hp
        go_wp2_with fail
        refine wp_region_quiet_below (by kernel_rfl) (by kernel_rfl) ?_
        repeat (go_big_quiet_step (first | (go_at_call 206; exact cM.out _ _) | (go_at_call 200; exact cS.out _ _)))
        refine wpQuiet_nil ?_
        intro wq hw'
        have WQ : Hid (Below wr.heap.size wr wq) := by
          obtain ⟨⟨dq, osq⟩, hw''⟩ := hw'
          rw [hw'']; exact below_regrown wr dq osq
        clear hw'
        go_wp2_with fail
        go_roundw
        case rel => exact ⟨j + 1, by omega, by go_num, belowThen hs.out WQ.out⟩
        case measure => simp [intOf]; omega
      · go_wp2_with fail
        go_ret
        exact ⟨rfl, hs.out⟩
mutual
theorem keptTerm_c : ∀ t : Tm, KpT t
  | .mk v n ts => kp_of _ (kps_step ts (keptAll ts))
theorem keptAll : ∀ l : List Tm, ∀ t ∈ l, KpT t
  | [], _, h => by cases h
  | x :: xs, t, h => by
    rcases List.mem_cons.1 h with e | e
    · rw [e]; exact keptTerm_c x
    · exact keptAll xs t e
end
theorem keptTerms_c (l : List Tm) : KpS l := kps_step l (keptAll l)
end Go.Proofs.YtcandidgaegghaaGreatDoor
end
section
namespace Go.Proofs.YtcandidgaegghaaGreatDoor
open Go Go.RowKit Go.Sort Ly
set_option maxRecDepth 10000
set_option linter.unusedSimpArgs false
set_option linter.unusedVariables false
set_option maxHeartbeats 1600000
def KfS (l : List Fm) : Prop := ∀ (u : Value) (a : Option Addr) (k c : Nat) (w : World), FmsLent w l u → FmsAt w l (.slice a k c) → Calls Tryz.prog 129 #[u, .slice a k c] w fun e w' => e = .returned (.bool true) ∧ Below w.heap.size w w'
def KfT (t : Fm) : Prop := ∀ (u v y : Value) (w : World), TmsLent w t.args u → FmsLent w t.sub v → FmVal w t y → Calls Tryz.prog 51 #[.agg #[.int .u8 t.op, str t.name, u, v], y] w fun e w' => e = .returned (.bool true) ∧ Below w.heap.size w w'
theorem kf_of (t : Fm) (h : KfS t.sub) : KfT t := by
  intro u v y w hu hv hy
  obtain ⟨a, k, c, a', m, d, rfl, hy, hy'⟩ := hy
  obtain ⟨b, cap, zs, rfl, -⟩ := id hu
  obtain ⟨b', cap', zs', rfl, -⟩ := id hv
  have R : Hid (∀ W, Below w.heap.size w W → Calls Tryz.prog 44 #[.agg #[.int .u8 t.op, str t.name, .slice (some ⟨b, 0, none⟩) t.args.length cap, .slice (some ⟨b', 0, none⟩) t.sub.length cap'], .agg #[.int .u8 t.op, str t.name, .slice a k c, .slice a' m d]] W fun e w' => e = .returned (.bool true) ∧ Below W.heap.size W w') := fun W hW => by
    have := SameForm_c t t _ _ W ⟨_, _, _, _, _, _, rfl, hu.at.keep (keeps_of_below hW), hv.at.keep (keeps_of_below hW)⟩ ⟨_, _, _, _, _, _, rfl, hy.keep (keeps_of_below hW), hy'.keep (keeps_of_below hW)⟩
    rwa [fm_same_self] at this
  have R2 : Hid (∀ W, Below w.heap.size w W → Calls Tryz.prog 128 #[.slice (some ⟨b, 0, none⟩) t.args.length cap, .slice a k c] W fun e w' => e = .returned (.bool true) ∧ Below W.heap.size W w') := fun W hW =>
    keptTerms_c _ _ a k c W (hu.keep (keeps_of_below hW)) (hy.keep (keeps_of_below hW))
  have R3 : Hid (∀ W, Below w.heap.size w W → Calls Tryz.prog 129 #[.slice (some ⟨b', 0, none⟩) t.sub.length cap', .slice a' m d] W fun e w' => e = .returned (.bool true) ∧ Below W.heap.size W w') := fun W hW =>
    h _ a' m d W (hv.keep (keeps_of_below hW)) (hy'.keep (keeps_of_below hW))
  generalize t.args.length = n at *
  generalize t.sub.length = n' at *
  clear h hu hv hy hy'
  have HB : Hid (Below w.heap.size w ((w.alloc (.cells #[.int .u8 t.op, str t.name, .slice (some ⟨b, 0, none⟩) n cap, .slice (some ⟨b', 0, none⟩) n' cap'] 25)).alloc (.cells #[.int .u8 t.op, str t.name, .slice a k c, .slice a' m d] 25))) := ((Below.refl _ _).alloc (Nat.le_refl _) _).alloc (by simp) _
  have G1 : Hid (((w.alloc (.cells #[.int .u8 t.op, str t.name, .slice (some ⟨b, 0, none⟩) n cap, .slice (some ⟨b', 0, none⟩) n' cap'] 25)).alloc (.cells #[.int .u8 t.op, str t.name, .slice a k c, .slice a' m d] 25)).heap[w.heap.size]? = some (.cells #[.int .u8 t.op, str t.name, .slice (some ⟨b, 0, none⟩) n cap, .slice (some ⟨b', 0, none⟩) n' cap'] 25 (0, 0))) := kc ((Below.refl _ _).alloc (Nat.le_refl _) _) (heap_alloc_new _ _)
  have G2 : Hid (((w.alloc (.cells #[.int .u8 t.op, str t.name, .slice (some ⟨b, 0, none⟩) n cap, .slice (some ⟨b', 0, none⟩) n' cap'] 25)).alloc (.cells #[.int .u8 t.op, str t.name, .slice a k c, .slice a' m d] 25)).heap[w.heap.size + 1]? = some (.cells #[.int .u8 t.op, str t.name, .slice a k c, .slice a' m d] 25 (0, 0))) := by
    have := heap_alloc_new (w.alloc (.cells #[.int .u8 t.op, str t.name, .slice (some ⟨b, 0, none⟩) n cap, .slice (some ⟨b', 0, none⟩) n' cap'] 25)) (.cells #[.int .u8 t.op, str t.name, .slice a k c, .slice a' m d] 25)
    rwa [World.size_alloc] at this
  go_enter Tryz.func51, Tryz.ntmps51
  go_wp2_with (first
    | (go_at_call 44; refine (R.out _ HB.out).mono ?_; rintro e w1 ⟨rfl, b1⟩; have B1 := Lib.hid (belowThen HB.out b1); have E1 := Lib.hid (kc b1 G1.out); have E2 := Lib.hid (kc b1 G2.out); clear b1; obtain ⟨c0, c1, c2, c3, f0, f1, f2, f3⟩ := row25' E1.out; obtain ⟨d0, d1, d2, d3, h0, h1, h2, h3⟩ := row25' E2.out)
    | (go_at_call 128; refine (R2.out _ B1.out).mono ?_; rintro e w2 ⟨rfl, b2⟩; have B2 := Lib.hid (belowThen B1.out b2); have E21 := Lib.hid (kc b2 E1.out); have E22 := Lib.hid (kc b2 E2.out); clear b2 c0 c1 c2 c3 f0 f1 f2 f3 d0 d1 d2 d3 h0 h1 h2 h3; obtain ⟨c0, c1, c2, c3, f0, f1, f2, f3⟩ := row25' E21.out; obtain ⟨d0, d1, d2, d3, h0, h1, h2, h3⟩ := row25' E22.out)
    | (go_at_call 129; refine (R3.out _ B2.out).mono ?_; rintro e w3 ⟨rfl, b3⟩; have B3 := Lib.hid (belowThen B2.out b3); clear b3))
  go_ret
  exact ⟨rfl, B3.out⟩
theorem kfs_step (l : List Fm) (hh : ∀ t ∈ l, KfT t) : KfS l := by
  intro u a k c w hu hy
  have hk := hy.len
  obtain ⟨b, cap, zs, rfl, e1, e2, e3, e4⟩ := id hu
  have L1 := Lib.hid hk.1
  have ZL := Lib.hid e4.len
  have HC := Lib.hid e4
  have HR := Lib.hid e3
  have HY := Lib.hid hy
  have H := Lib.hid hh
  have hcap : k + 12 ≤ cap := by rw [hk.1]; exact e1
  have hmax : cap ≤ 9223372036854775807 := by have := le63 e2; omega
  rw [← hk.1]
  clear hk hu hy hh e1 e2 e3 e4
  go_enter Tryz.func129, Tryz.ntmps129
  go_wp2_with fail
  go_loopw [6] (fun i wr => ∃ j : Nat, j ≤ k + 12 ∧ i = .int .i64 j ∧ Hid (Below w.heap.size w wr)) (fun i _ => k + 12 - (intOf i).toNat)
  case atStart => exact ⟨0, Nat.zero_le _, rfl, Below.refl _ _⟩
  case round =>
    obtain ⟨j, hj, rfl, hs⟩ := hrel
    by_cases hlt : j < k
    · obtain ⟨T, hT⟩ := get_of_lt (l := l) (j := j) (by rw [← L1.out]; exact hlt)
      obtain ⟨bb, off, rfl, hc⟩ := HY.out.get (ne_of_get hT)
      obtain ⟨y0, y1, y2, y3, y4, y5, hy⟩ := hc j _ hT
      obtain ⟨v, v', z0, z1, z2, z3, hl, hl2⟩ := HC.out.get hT
      obtain ⟨b', cap', zs', rfl, -⟩ := id hl
      obtain ⟨b'', cap'', zs'', rfl, -⟩ := id hl2
      have hK := keeps_of_below hs.out
      have hr : ∀ (i : Nat) (x : Value), zs[i]? = some x → wr.cell? ⟨b, i, none⟩ = some x := fun i x h => hK _ _ (HR.out.left i x h)
      have c0 := cell_regrown (hr _ _ z0); have c1 := cell_regrown (hr _ _ z1); have c2 := cell_regrown (hr _ _ z2); have c3 := cell_regrown (hr _ _ z3)
      have d0 := cell_regrown (hK _ _ hy.c0); have d1 := cell_regrown (hK _ _ hy.c1); have d2 := cell_regrown (hK _ _ hy.c2); have d3 := cell_regrown (hK _ _ hy.c3)
      have hm := List.mem_of_getElem? hT
      have cK : Hid (∀ d os, Calls Tryz.prog 51 #[.agg #[.int .u8 T.op, str T.name, .slice (some ⟨b', 0, none⟩) T.args.length cap', .slice (some ⟨b'', 0, none⟩) T.sub.length cap''], .agg #[.int .u8 T.op, str T.name, .slice y0 y1 y2, .slice y3 y4 y5]] (grow (redrawn wr d) os) fun e w'' => e = .returned (.bool true) ∧ ∃ p : Regrown, w'' = grow (redrawn wr p.d) p.os) := fun d os =>
        have K : Keeps w (grow (redrawn wr d) os) := hK.trans (keeps_of_below (below_regrown wr d os))
        Calls.regrown_of (H.out T hm _ _ _ _ (hl.keep K) (hl2.keep K) ⟨_, _, _, _, _, _, rfl, hy.at_.keep K, hy.at'.keep K⟩)
      have g1 : decide ((j : Int) < (k : Int)) = true := by simp; omega
      have g2 : decide (k ≤ j) = false := by simp; omega
      generalize T.args.length = n at *
      generalize T.sub.length = n' at *
      clear hc hy hT hl hl2 hK hr z0 z1 z2 z3 hm
      go_wp2_with fail
      refine wp_region_quiet_below (by kernel_rfl) (by kernel_rfl) ?_
      repeat (go_big_quiet_step (first | (go_at_call 51; exact cK.out _ _)))
      refine wpQuiet_nil ?_
      intro wq hw'
      have WQ : Hid (Below wr.heap.size wr wq) := by
        obtain ⟨⟨dq, osq⟩, hw''⟩ := hw'
        rw [hw'']; exact below_regrown wr dq osq
      clear hw'
      go_wp2_with fail
      go_roundw
      case rel => exact ⟨j + 1, by omega, by go_num, belowThen hs.out WQ.out⟩
      case measure => simp [intOf]; omega
    · by_cases hlt2 : j < k + 12
      · obtain ⟨p, hp⟩ : ∃ p, j = k + p := ⟨j - k, by omega⟩
        have hp12 : p < 12 := by omega
        obtain ⟨z0, z1, z2, z3⟩ := fmMarks_get hp12
        have hK := keeps_of_below hs.out
        have hr : ∀ (i : Nat) (x : Value), (fmMarks 12)[i]? = some x → wr.cell? ⟨b, k * 4 + i, none⟩ = some x := fun i x h => hK _ _ (HR.out _ x (by rw [List.getElem?_append_right (by rw [ZL.out, ← L1.out]; omega), ZL.out, ← L1.out, Nat.add_sub_cancel_left]; exact h))
        have ej : j * 4 = k * 4 + p * 4 := by omega
        have c0 := cell_regrown (hr _ _ z0); have c1 := cell_regrown (hr _ _ z1); have c2 := cell_regrown (hr _ _ z2); have c3 := cell_regrown (hr _ _ z3)
        rw [← Nat.add_assoc, ← ej] at c1 c2 c3
        rw [← ej] at c0
        have cM : Hid (∀ d os, Calls Tryz.prog 207 #[.int .i64 1, .int .i64 p] (grow (redrawn wr d) os) fun e w'' => e = .returned (.agg #[.int .u8 0, str (mkText p), .slice none 0 0, .slice none 0 0]) ∧ ∃ q : Regrown, w'' = grow (redrawn wr q.d) q.os) := fun d os =>
          Calls.regrown_of (markForm_c p hp12 _)
        have cS : Hid (∀ d os, Calls Tryz.prog 44 #[.agg #[.int .u8 0, str (mkText p), .slice none 0 0, .slice none 0 0], .agg #[.int .u8 0, str (mkText p), .slice none 0 0, .slice none 0 0]] (grow (redrawn wr d) os) fun e w'' => e = .returned (.bool true) ∧ ∃ q : Regrown, w'' = grow (redrawn wr q.d) q.os) := fun d os =>
          Calls.regrown_of (by
            have := SameForm_c (.mk 0 (mkText p) [] []) (.mk 0 (mkText p) [] []) (.agg #[.int .u8 0, str (mkText p), .slice none 0 0, .slice none 0 0]) (.agg #[.int .u8 0, str (mkText p), .slice none 0 0, .slice none 0 0]) (grow (redrawn wr d) os) ⟨_, _, _, _, _, _, rfl, At.sl_nil (Nat.zero_le _), At.sl_nil (Nat.zero_le _)⟩ ⟨_, _, _, _, _, _, rfl, At.sl_nil (Nat.zero_le _), At.sl_nil (Nat.zero_le _)⟩
            rwa [fm_same_self] at this)
        have g1 : decide ((j : Int) < (k : Int)) = false := by simp; omega
        have g2 : decide (k ≤ j) = true := by simp; omega
        have g3 : (j : Int) - (k : Int) = p := by omega
        generalize mkText p = M at *
        clear hr hK z0 z1 z2 z3 ej hp
        go_wp2_with fail
        refine wp_region_quiet_below (by kernel_rfl) (by kernel_rfl) ?_
        repeat (go_big_quiet_step (first | (go_at_call 207; exact cM.out _ _) | (go_at_call 44; exact cS.out _ _)))
        refine wpQuiet_nil ?_
        intro wq hw'
        have WQ : Hid (Below wr.heap.size wr wq) := by
          obtain ⟨⟨dq, osq⟩, hw''⟩ := hw'
          rw [hw'']; exact below_regrown wr dq osq
        clear hw'
        go_wp2_with fail
        go_roundw
        case rel => exact ⟨j + 1, by omega, by go_num, belowThen hs.out WQ.out⟩
        case measure => simp [intOf]; omega
      · go_wp2_with fail
        go_ret
        exact ⟨rfl, hs.out⟩
mutual
theorem keptForm_c : ∀ t : Fm, KfT t
  | .mk o n ts fs => kf_of _ (kfs_step fs (keptForms_all fs))
theorem keptForms_all : ∀ l : List Fm, ∀ t ∈ l, KfT t
  | [], _, h => by cases h
  | x :: xs, t, h => by
    rcases List.mem_cons.1 h with e | e
    · rw [e]; exact keptForm_c x
    · exact keptForms_all xs t e
end
theorem keptForms_c (l : List Fm) : KfS l := kfs_step l (keptForms_all l)
end Go.Proofs.YtcandidgaegghaaGreatDoor
end
