/- Contracts of syntax.Same, Compare, compareTerms, compareLists and cmp.Compare at uint8: nought exactly at equals. Conditions: none but that the values read as said. Printed by gen/cmp.py. -/
import Derived.Test.YtppfalbnhnpbnaaGreatDoorShelfZ
import Derived.Test.YtppfalbnhnpbnaaGreatDoorSameBZ
import Derived.Deep.RegionWith
import Derived.Lib.Hide
import Derived.Lib.Bytealg
set_option linter.unusedSimpArgs false
set_option linter.unusedVariables false
namespace Go.Proofs.YtppfalbnhnpbnaaGreatDoor
open Go Go.RowKit Ly
set_option maxRecDepth 10000
theorem compareBytes_iff : ∀ a b : List UInt8, Lib.compareBytes a b = 0 ↔ a = b
  | [], [] => by simp [Lib.compareBytes]
  | [], _ :: _ => by simp [Lib.compareBytes]
  | _ :: _, [] => by simp [Lib.compareBytes]
  | a :: x, b :: y => by
    unfold Lib.compareBytes
    split
    · rename_i h; simp; intro e; subst e; exact absurd h (UInt8.lt_irrefl a)
    · split
      · rename_i h; simp; intro e; subst e; exact absurd h (UInt8.lt_irrefl a)
      · rename_i h1 h2
        have e : a = b := UInt8.le_antisymm (UInt8.not_lt.1 h2) (UInt8.not_lt.1 h1)
        simp [e, compareBytes_iff x y]
theorem compareInt_iff (x y : Int) : Lib.compareInt x y = 0 ↔ x = y := by
  unfold Lib.compareInt
  split
  · simp; omega
  · split
    · simp; omega
    · simp; omega
def CmpR (P : Prop) (w : World) (e : Ending) (w' : World) : Prop := ∃ c : Int, e = .returned (.int .i64 c) ∧ (c = 0 ↔ P) ∧ Below w.heap.size w w'
def CmpS (P : Prop) (w : World) (e : Ending) (w' : World) : Prop := ∃ c : Int, e = .returned (.int .i64 c) ∧ (c = 0 ↔ P) ∧ w = w'
theorem cmpS_c (a b : Bs) (w : World) : Calls Tryz.prog 125 #[str a, str b] w (CmpS (a = b) w) :=
  (Tryz.strings_Compare ⟨a.toArray⟩ ⟨b.toArray⟩ w).mono fun e w' ⟨h1, h2⟩ => ⟨_, h1, by rw [compareBytes_iff], h2.symm⟩
theorem cmpI_c (a b : Int) (w : World) : Calls Tryz.prog 179 #[.int .i64 a, .int .i64 b] w (CmpS (a = b) w) :=
  (Tryz.cmp_Compare_int a b w).mono fun e w' ⟨h1, h2⟩ => ⟨_, h1, compareInt_iff a b, h2.symm⟩
theorem isNaN8_c (a : Int) (w : World) : Calls Tryz.prog 177 #[.int .u8 a] w fun e w' => e = .returned (.bool false) ∧ w = w' := by
  go_enter Tryz.func177, Tryz.ntmps177
  go_wp2_with fail
  go_ret
  exact ⟨rfl, rfl⟩
theorem cmp8_c (a b : Int) (w : World) : Calls Tryz.prog 124 #[.int .u8 a, .int .u8 b] w (CmpS (a = b) w) := by
  rcases Int.lt_trichotomy a b with h | h | h
  · have h1 : ¬ b < a := by omega
    have h2 : ¬ a = b := by omega
    have H2 := Lib.hid h2
    clear h2
    go_enter Tryz.func124, Tryz.ntmps124
    go_wp2_with (go_at_call 177; refine (isNaN8_c _ _).mono ?_; rintro e w1 ⟨rfl, rfl⟩)
    go_ret
    exact ⟨_, rfl, by simp [H2.out], rfl⟩
  · subst h
    go_enter Tryz.func124, Tryz.ntmps124
    go_wp2_with (go_at_call 177; refine (isNaN8_c _ _).mono ?_; rintro e w1 ⟨rfl, rfl⟩)
    go_ret
    exact ⟨_, rfl, by simp, rfl⟩
  · have h1 : ¬ a < b := by omega
    have h2 : ¬ a = b := by omega
    have H2 := Lib.hid h2
    clear h2
    go_enter Tryz.func124, Tryz.ntmps124
    go_wp2_with (go_at_call 177; refine (isNaN8_c _ _).mono ?_; rintro e w1 ⟨rfl, rfl⟩)
    go_ret
    exact ⟨_, rfl, by simp [H2.out], rfl⟩
def CmpV {α : Type} (f : FuncId) (A : World → α → Value → Prop) (t : α) : Prop :=
  ∀ (u : α) (x y : Value) (w : World), A w t x → A w u y → Calls Tryz.prog f #[x, y] w (CmpR (t = u) w)
def CmpC {α : Type} (f g : FuncId) (A : World → List α → Value → Prop) (l : List α) : Prop :=
  ∀ (m : List α) (a a' : Option Addr) (k c k' c' : Nat) (w : World), A w l (.slice a k c) → A w m (.slice a' k' c') →
    Calls Tryz.prog f #[.slice a k c, .slice a' k' c', .func (.func g) #[] #[]] w (CmpR (l = m) w)
theorem drop_iff {α : Type} {l m : List α} {j : Nat} {T : α} (h : l[j]? = some T) (h' : m[j]? = some T) : (l.drop j = m.drop j) ↔ (l.drop (j + 1) = m.drop (j + 1)) := by
  obtain ⟨h1, rfl⟩ := List.getElem?_eq_some_iff.1 h
  obtain ⟨h2, e⟩ := List.getElem?_eq_some_iff.1 h'
  rw [List.drop_eq_getElem_cons h1, List.drop_eq_getElem_cons h2, e]
  exact ⟨fun q => (List.cons.inj q).2, fun q => by rw [q]⟩
theorem drop_ne {α : Type} {l m : List α} {j : Nat} {T U : α} (h : l[j]? = some T) (h' : m[j]? = some U) (hne : T ≠ U) : l.drop j ≠ m.drop j := by
  obtain ⟨h1, rfl⟩ := List.getElem?_eq_some_iff.1 h
  obtain ⟨h2, rfl⟩ := List.getElem?_eq_some_iff.1 h'
  rw [List.drop_eq_getElem_cons h1, List.drop_eq_getElem_cons h2]
  intro e; exact hne (List.cons.inj e).1
set_option maxHeartbeats 1600000 in
theorem cmpTmss_step (l : List Tm) (hh : ∀ t ∈ l, CmpV 127 TmVal t) : CmpC 126 127 TmsAt l := by
  intro m a a' k c k' c' w ha hb
  have hla := ha.len
  have hlb := hb.len
  by_cases hkk : k = k'
  · subst hkk
    have hlen : k ≤ 9223372036854775807 := by have := le63 hla.2.2; omega
    have L1 := Lib.hid hla.1; have L2 := Lib.hid hlb.1
    clear hla hlb
    have H := Lib.hid hh; clear hh
    have HA := Lib.hid ha; clear ha
    have HB := Lib.hid hb; clear hb
    go_enter Tryz.func126, Tryz.ntmps126
    go_wp2_with (go_at_call 179; refine (cmpI_c _ _ _).mono ?_; rintro e w0 ⟨c0, rfl, hc0, rfl⟩; obtain rfl : c0 = 0 := hc0.2 rfl; clear hc0)
    go_loopw [20] (fun i wr => ∃ j : Nat, j ≤ k ∧ i = .int .i64 j ∧ Below w.heap.size w wr ∧ Hid ((l = m) ↔ (l.drop j = m.drop j))) (fun i _ => k - (intOf i).toNat)
    case atStart => exact ⟨0, Nat.zero_le _, rfl, Below.refl _ _, by simp [Hid]⟩
    case round =>
      obtain ⟨j, hj, rfl, hbl, hs⟩ := hrel
      by_cases hlt : j < k
      · obtain ⟨T, hT⟩ := get_of_lt (l := l) (j := j) (by rw [← L1.out]; exact hlt)
        obtain ⟨U, hU⟩ := get_of_lt (l := m) (j := j) (by rw [← L2.out]; exact hlt)
        obtain ⟨b, off, rfl, hc⟩ := HA.out.get (ne_of_get hT)
        obtain ⟨b', off', rfl, hc'⟩ := HB.out.get (ne_of_get hU)
        have hK := keeps_of_below hbl
        have hbd := keeps_of_below hbl.drew
        obtain ⟨x0, x1, x2, hx⟩ := hc j _ hT
        obtain ⟨y0, y1, y2, hy⟩ := hc' j _ hU
        have c0 := hK _ _ hx.c0
        have d0 := hK _ _ hy.c0
        have c1 := hK _ _ hx.c1
        have d1 := hK _ _ hy.c1
        have c2 := hK _ _ hx.c2
        have d2 := hK _ _ hy.c2
        have X := Lib.hid hx; have Y := Lib.hid hy
        have HM := Lib.hid (List.mem_of_getElem? hT)
        have HT := Lib.hid (And.intro hT hU)
        clear hc hc' hx hy hT hU hK
        by_cases hTU : T = U
        · have HTU := Lib.hid hTU
          clear hTU
          go_wp2_with fail
          go_region_with (go_at_call 127; refine (H.out T HM.out U _ _ _ (by exact ⟨_, _, _, rfl, X.out.at_.keep hbd⟩) (by exact ⟨_, _, _, rfl, Y.out.at_.keep hbd⟩)).mono ?_; rintro e w1 ⟨c1, rfl, hc1, hb1⟩; obtain rfl : c1 = 0 := hc1.2 HTU.out; clear hc1)
          all_goals
            go_wp2_with fail
            go_roundw
            case rel => exact ⟨j + 1, by omega, by go_num, (hbl.drew).trans (hb1.mono (by have := hbl.size; simpa using this)), hs.out.trans (drop_iff HT.out.1 (by rw [HTU.out]; exact HT.out.2))⟩
            case measure => simp [intOf]; omega
        · have HTU := Lib.hid hTU
          clear hTU
          go_wp2_with fail
          go_region_with (go_at_call 127; refine (H.out T HM.out U _ _ _ (by exact ⟨_, _, _, rfl, X.out.at_.keep hbd⟩) (by exact ⟨_, _, _, rfl, Y.out.at_.keep hbd⟩)).mono ?_; rintro e w1 ⟨c1, rfl, hc1, hb1⟩; have t1 : (c1 == 0) = false := beq_eq_false_iff_ne.2 fun e => HTU.out (hc1.1 e); have t2 : (c1 != 0) = true := bne_iff_ne.2 fun e => HTU.out (hc1.1 e); have HC := Lib.hid hc1; clear hc1)
          all_goals
            go_wp2_with fail
            go_ret
            exact ⟨c1, rfl, ⟨fun e => absurd (HC.out.1 e) HTU.out, fun e => absurd (hs.out.1 e) (drop_ne HT.out.1 HT.out.2 HTU.out)⟩, (hbl.drew).trans (hb1.mono (by have := hbl.size; simpa using this))⟩
      · go_wp2_with fail
        go_ret
        exact ⟨0, rfl, ⟨fun _ => hs.out.2 (by rw [List.drop_of_length_le (by rw [← L1.out]; omega), List.drop_of_length_le (by rw [← L2.out]; omega)]), fun _ => rfl⟩, hbl⟩
  · have hne : l ≠ m := fun e => hkk (by rw [hla.1, hlb.1, e])
    have HN := Lib.hid hne
    have HK := Lib.hid hkk
    have h1 : k ≤ 9223372036854775807 := by have := le63 hla.2.2; omega
    have h2 : k' ≤ 9223372036854775807 := by have := le63 hlb.2.2; omega
    clear hne hkk ha hb hla hlb hh
    go_enter Tryz.func126, Tryz.ntmps126
    go_wp2_with (go_at_call 179; refine (cmpI_c _ _ _).mono ?_; rintro e w0 ⟨c0, rfl, hc0, rfl⟩; have t1 : (c0 == 0) = false := beq_eq_false_iff_ne.2 fun e => HK.out (by have := hc0.1 e; omega); have t2 : (c0 != 0) = true := bne_iff_ne.2 fun e => HK.out (by have := hc0.1 e; omega); have HC := Lib.hid hc0; clear hc0)
    go_ret
    exact ⟨c0, rfl, ⟨fun e => absurd (HC.out.1 e) (fun e => HK.out (by omega)), fun e => absurd e HN.out⟩, Below.refl _ _⟩
set_option maxHeartbeats 1600000 in
theorem cmpFmss_step (l : List Fm) (hh : ∀ t ∈ l, CmpV 74 FmVal t) : CmpC 128 74 FmsAt l := by
  intro m a a' k c k' c' w ha hb
  have hla := ha.len
  have hlb := hb.len
  by_cases hkk : k = k'
  · subst hkk
    have hlen : k ≤ 9223372036854775807 := by have := le63 hla.2.2; omega
    have L1 := Lib.hid hla.1; have L2 := Lib.hid hlb.1
    clear hla hlb
    have H := Lib.hid hh; clear hh
    have HA := Lib.hid ha; clear ha
    have HB := Lib.hid hb; clear hb
    go_enter Tryz.func128, Tryz.ntmps128
    go_wp2_with (go_at_call 179; refine (cmpI_c _ _ _).mono ?_; rintro e w0 ⟨c0, rfl, hc0, rfl⟩; obtain rfl : c0 = 0 := hc0.2 rfl; clear hc0)
    go_loopw [20] (fun i wr => ∃ j : Nat, j ≤ k ∧ i = .int .i64 j ∧ Below w.heap.size w wr ∧ Hid ((l = m) ↔ (l.drop j = m.drop j))) (fun i _ => k - (intOf i).toNat)
    case atStart => exact ⟨0, Nat.zero_le _, rfl, Below.refl _ _, by simp [Hid]⟩
    case round =>
      obtain ⟨j, hj, rfl, hbl, hs⟩ := hrel
      by_cases hlt : j < k
      · obtain ⟨T, hT⟩ := get_of_lt (l := l) (j := j) (by rw [← L1.out]; exact hlt)
        obtain ⟨U, hU⟩ := get_of_lt (l := m) (j := j) (by rw [← L2.out]; exact hlt)
        obtain ⟨b, off, rfl, hc⟩ := HA.out.get (ne_of_get hT)
        obtain ⟨b', off', rfl, hc'⟩ := HB.out.get (ne_of_get hU)
        have hK := keeps_of_below hbl
        have hbd := keeps_of_below hbl.drew
        obtain ⟨x0, x1, x2, x3, x4, x5, hx⟩ := hc j _ hT
        obtain ⟨y0, y1, y2, y3, y4, y5, hy⟩ := hc' j _ hU
        have c0 := hK _ _ hx.c0
        have d0 := hK _ _ hy.c0
        have c1 := hK _ _ hx.c1
        have d1 := hK _ _ hy.c1
        have c2 := hK _ _ hx.c2
        have d2 := hK _ _ hy.c2
        have c3 := hK _ _ hx.c3
        have d3 := hK _ _ hy.c3
        have X := Lib.hid hx; have Y := Lib.hid hy
        have HM := Lib.hid (List.mem_of_getElem? hT)
        have HT := Lib.hid (And.intro hT hU)
        clear hc hc' hx hy hT hU hK
        by_cases hTU : T = U
        · have HTU := Lib.hid hTU
          clear hTU
          go_wp2_with fail
          go_region_with (go_at_call 74; refine (H.out T HM.out U _ _ _ (by exact ⟨_, _, _, _, _, _, rfl, X.out.at_.keep hbd, X.out.at'.keep hbd⟩) (by exact ⟨_, _, _, _, _, _, rfl, Y.out.at_.keep hbd, Y.out.at'.keep hbd⟩)).mono ?_; rintro e w1 ⟨c1, rfl, hc1, hb1⟩; obtain rfl : c1 = 0 := hc1.2 HTU.out; clear hc1)
          all_goals
            go_wp2_with fail
            go_roundw
            case rel => exact ⟨j + 1, by omega, by go_num, (hbl.drew).trans (hb1.mono (by have := hbl.size; simpa using this)), hs.out.trans (drop_iff HT.out.1 (by rw [HTU.out]; exact HT.out.2))⟩
            case measure => simp [intOf]; omega
        · have HTU := Lib.hid hTU
          clear hTU
          go_wp2_with fail
          go_region_with (go_at_call 74; refine (H.out T HM.out U _ _ _ (by exact ⟨_, _, _, _, _, _, rfl, X.out.at_.keep hbd, X.out.at'.keep hbd⟩) (by exact ⟨_, _, _, _, _, _, rfl, Y.out.at_.keep hbd, Y.out.at'.keep hbd⟩)).mono ?_; rintro e w1 ⟨c1, rfl, hc1, hb1⟩; have t1 : (c1 == 0) = false := beq_eq_false_iff_ne.2 fun e => HTU.out (hc1.1 e); have t2 : (c1 != 0) = true := bne_iff_ne.2 fun e => HTU.out (hc1.1 e); have HC := Lib.hid hc1; clear hc1)
          all_goals
            go_wp2_with fail
            go_ret
            exact ⟨c1, rfl, ⟨fun e => absurd (HC.out.1 e) HTU.out, fun e => absurd (hs.out.1 e) (drop_ne HT.out.1 HT.out.2 HTU.out)⟩, (hbl.drew).trans (hb1.mono (by have := hbl.size; simpa using this))⟩
      · go_wp2_with fail
        go_ret
        exact ⟨0, rfl, ⟨fun _ => hs.out.2 (by rw [List.drop_of_length_le (by rw [← L1.out]; omega), List.drop_of_length_le (by rw [← L2.out]; omega)]), fun _ => rfl⟩, hbl⟩
  · have hne : l ≠ m := fun e => hkk (by rw [hla.1, hlb.1, e])
    have HN := Lib.hid hne
    have HK := Lib.hid hkk
    have h1 : k ≤ 9223372036854775807 := by have := le63 hla.2.2; omega
    have h2 : k' ≤ 9223372036854775807 := by have := le63 hlb.2.2; omega
    clear hne hkk ha hb hla hlb hh
    go_enter Tryz.func128, Tryz.ntmps128
    go_wp2_with (go_at_call 179; refine (cmpI_c _ _ _).mono ?_; rintro e w0 ⟨c0, rfl, hc0, rfl⟩; have t1 : (c0 == 0) = false := beq_eq_false_iff_ne.2 fun e => HK.out (by have := hc0.1 e; omega); have t2 : (c0 != 0) = true := bne_iff_ne.2 fun e => HK.out (by have := hc0.1 e; omega); have HC := Lib.hid hc0; clear hc0)
    go_ret
    exact ⟨c0, rfl, ⟨fun e => absurd (HC.out.1 e) (fun e => HK.out (by omega)), fun e => absurd e HN.out⟩, Below.refl _ _⟩
theorem c_zero {c : Int} {P : Prop} (h : c = 0 ↔ P) (hP : Hid P) : c = 0 := h.2 hP.out
theorem c_ne {c : Int} {P : Prop} (h : c = 0 ↔ P) (hP : Hid (¬ P)) : (c == 0) = false ∧ (c != 0) = true := ⟨beq_eq_false_iff_ne.2 fun e => hP.out (h.1 e), bne_iff_ne.2 fun e => hP.out (h.1 e)⟩
set_option maxHeartbeats 1600000 in
theorem cmpTm_step (v : Bool) (nm : Bs) (ts : List Tm) (h : CmpC 126 127 TmsAt ts) : CmpV 127 TmVal (.mk v nm ts) := by
  intro u x y w hx hy
  obtain ⟨v', nm', us⟩ := u
  obtain ⟨a, n, c, rfl, hx⟩ := hx
  obtain ⟨a', n', c', rfl, hy⟩ := hy
  simp only [Tm.v, Tm.name, Tm.args] at *
  have H := Lib.hid h; clear h
  have X := Lib.hid hx; have Y := Lib.hid hy
  clear hx hy
  by_cases hv : v = v'
  · subst hv
    by_cases hn : nm = nm'
    · have HN := Lib.hid hn; clear hn
      cases v
      all_goals
        go_enter Tryz.func127, Tryz.ntmps127
        go_wp2_with (first
          | (go_at_call 125; refine (cmpS_c _ _ _).mono ?_; rintro e w1 ⟨c1, rfl, hc1, rfl⟩; obtain rfl := c_zero hc1 HN; clear hc1)
          | (go_at_call 126; refine (H.out us _ _ _ _ _ _ _ (X.out.keep (by exact keeps_of_below (((Below.refl _ _).alloc (Nat.le_refl _) _).alloc (by simp) _))) (Y.out.keep (by exact keeps_of_below (((Below.refl _ _).alloc (Nat.le_refl _) _).alloc (by simp) _)))).mono ?_; rintro e w1 ⟨c2, rfl, hc2, hb1⟩))
        go_ret
        have e1 := HN.out
        exact ⟨c2, rfl, by rw [hc2]; simp [e1], below2 hb1⟩
    · have HN := Lib.hid hn; clear hn
      cases v
      all_goals
        go_enter Tryz.func127, Tryz.ntmps127
        go_wp2_with (first
          | (go_at_call 125; refine (cmpS_c _ _ _).mono ?_; rintro e w1 ⟨c1, rfl, hc1, rfl⟩; obtain ⟨t1, t2⟩ := c_ne hc1 HN; have HC := Lib.hid hc1; clear hc1))
        go_ret
        have e1 := HN.out
        exact ⟨c1, rfl, by rw [HC.out]; simp [e1], ((Below.refl _ _).alloc (Nat.le_refl _) _).alloc (by simp) _⟩
  · have HV := Lib.hid hv
    cases v <;> cases v'
    · exact absurd rfl hv
    · clear hv
      go_enter Tryz.func127, Tryz.ntmps127
      go_wp2_with fail
      go_ret
      exact ⟨_, rfl, by simp, ((Below.refl _ _).alloc (Nat.le_refl _) _).alloc (by simp) _⟩
    · clear hv
      go_enter Tryz.func127, Tryz.ntmps127
      go_wp2_with fail
      go_ret
      exact ⟨_, rfl, by simp, ((Below.refl _ _).alloc (Nat.le_refl _) _).alloc (by simp) _⟩
    · exact absurd rfl hv
mutual
theorem cmpTm_c : ∀ t : Tm, CmpV 127 TmVal t
  | .mk v n ts => cmpTm_step v n ts (cmpTmss_step ts (cmpTm_all ts))
theorem cmpTm_all : ∀ l : List Tm, ∀ t ∈ l, CmpV 127 TmVal t
  | [], _, h => by cases h
  | x :: xs, t, h => by
    rcases List.mem_cons.1 h with e | e
    · rw [e]; exact cmpTm_c x
    · exact cmpTm_all xs t e
end
theorem cmpTms_c (l : List Tm) : CmpC 126 127 TmsAt l := cmpTmss_step l (cmpTm_all l)
set_option maxHeartbeats 3200000 in
theorem cmpFm_step (o : Int) (nm : Bs) (ts : List Tm) (fs : List Fm) (h : CmpC 128 74 FmsAt fs) : CmpV 74 FmVal (.mk o nm ts fs) := by
  intro u x y w hx hy
  obtain ⟨o', nm', us, gs⟩ := u
  obtain ⟨a, n, c, b, m, d, rfl, hx, hx2⟩ := hx
  obtain ⟨a', n', c', b', m', d', rfl, hy, hy2⟩ := hy
  simp only [Fm.op, Fm.name, Fm.args, Fm.sub] at *
  have H := Lib.hid h; clear h
  have X := Lib.hid hx; have Y := Lib.hid hy
  have X2 := Lib.hid hx2; have Y2 := Lib.hid hy2
  clear hx hy hx2 hy2
  by_cases ho : o = o'
  · have HO := Lib.hid ho; clear ho
    by_cases hn : nm = nm'
    · have HN := Lib.hid hn; clear hn
      by_cases ha : ts = us
      · have HA := Lib.hid ha; clear ha
        go_enter Tryz.func74, Tryz.ntmps74
        go_wp2_with (first
          | (go_at_call 124; refine (cmp8_c _ _ _).mono ?_; rintro e w1 ⟨c1, rfl, hc1, rfl⟩; obtain rfl := c_zero hc1 HO; clear hc1)
          | (go_at_call 125; refine (cmpS_c _ _ _).mono ?_; rintro e w1 ⟨c1, rfl, hc1, rfl⟩; obtain rfl := c_zero hc1 HN; clear hc1)
          | (go_at_call 126; refine (cmpTms_c ts us _ _ _ _ _ _ _ (X.out.keep (by exact keeps_of_below (((Below.refl _ _).alloc (Nat.le_refl _) _).alloc (by simp) _))) (Y.out.keep (by exact keeps_of_below (((Below.refl _ _).alloc (Nat.le_refl _) _).alloc (by simp) _)))).mono ?_; rintro e w1 ⟨c1, rfl, hc1, hb1⟩; obtain rfl := c_zero hc1 HA; clear hc1; obtain ⟨q1, q2⟩ := bcell hb1; have B1 := Lib.hid hb1; clear hb1)
          | (go_at_call 128; refine (H.out gs _ _ _ _ _ _ _ (X2.out.keep (by exact (keeps_of_below (((Below.refl _ _).alloc (Nat.le_refl _) _).alloc (by simp) _)).trans (keeps_of_below B1.out))) (Y2.out.keep (by exact (keeps_of_below (((Below.refl _ _).alloc (Nat.le_refl _) _).alloc (by simp) _)).trans (keeps_of_below B1.out)))).mono ?_; rintro e w2 ⟨c2, rfl, hc2, hb2⟩))
        go_ret
        have e1 := HO.out; have e2 := HN.out; have e3 := HA.out
        exact ⟨c2, rfl, by rw [hc2]; simp [e1, e2, e3], below2 (belowThen B1.out hb2)⟩
      · have HA := Lib.hid ha; clear ha
        go_enter Tryz.func74, Tryz.ntmps74
        go_wp2_with (first
          | (go_at_call 124; refine (cmp8_c _ _ _).mono ?_; rintro e w1 ⟨c1, rfl, hc1, rfl⟩; obtain rfl := c_zero hc1 HO; clear hc1)
          | (go_at_call 125; refine (cmpS_c _ _ _).mono ?_; rintro e w1 ⟨c1, rfl, hc1, rfl⟩; obtain rfl := c_zero hc1 HN; clear hc1)
          | (go_at_call 126; refine (cmpTms_c ts us _ _ _ _ _ _ _ (X.out.keep (by exact keeps_of_below (((Below.refl _ _).alloc (Nat.le_refl _) _).alloc (by simp) _))) (Y.out.keep (by exact keeps_of_below (((Below.refl _ _).alloc (Nat.le_refl _) _).alloc (by simp) _)))).mono ?_; rintro e w1 ⟨c1, rfl, hc1, hb1⟩; obtain ⟨t1, t2⟩ := c_ne hc1 HA; have HC := Lib.hid hc1; clear hc1; have B1 := Lib.hid hb1; clear hb1))
        go_ret
        have e3 := HA.out
        exact ⟨c1, rfl, by rw [HC.out]; simp [e3], below2 B1.out⟩
    · have HN := Lib.hid hn; clear hn
      go_enter Tryz.func74, Tryz.ntmps74
      go_wp2_with (first
        | (go_at_call 124; refine (cmp8_c _ _ _).mono ?_; rintro e w1 ⟨c1, rfl, hc1, rfl⟩; obtain rfl := c_zero hc1 HO; clear hc1)
        | (go_at_call 125; refine (cmpS_c _ _ _).mono ?_; rintro e w1 ⟨c1, rfl, hc1, rfl⟩; obtain ⟨t1, t2⟩ := c_ne hc1 HN; have HC := Lib.hid hc1; clear hc1))
      go_ret
      have e3 := HN.out
      exact ⟨c1, rfl, by rw [HC.out]; simp [e3], ((Below.refl _ _).alloc (Nat.le_refl _) _).alloc (by simp) _⟩
  · have HO := Lib.hid ho; clear ho
    go_enter Tryz.func74, Tryz.ntmps74
    go_wp2_with (go_at_call 124; refine (cmp8_c _ _ _).mono ?_; rintro e w1 ⟨c1, rfl, hc1, rfl⟩; obtain ⟨t1, t2⟩ := c_ne hc1 HO; have HC := Lib.hid hc1; clear hc1)
    go_ret
    have e3 := HO.out
    exact ⟨c1, rfl, by rw [HC.out]; simp [e3], ((Below.refl _ _).alloc (Nat.le_refl _) _).alloc (by simp) _⟩
mutual
theorem cmpFm_c : ∀ t : Fm, CmpV 74 FmVal t
  | .mk o n ts fs => cmpFm_step o n ts fs (cmpFmss_step fs (cmpFm_all fs))
theorem cmpFm_all : ∀ l : List Fm, ∀ t ∈ l, CmpV 74 FmVal t
  | [], _, h => by cases h
  | x :: xs, t, h => by
    rcases List.mem_cons.1 h with e | e
    · rw [e]; exact cmpFm_c x
    · exact cmpFm_all xs t e
end
set_option maxHeartbeats 1600000 in
theorem synSame_c (f g : Fm) (x y : Value) (w : World) (hx : FmVal w f x) (hy : FmVal w g y) : Calls Tryz.prog 40 #[x, y] w fun e w' => e = .returned (.bool (f.same g)) ∧ Below w.heap.size w w' := by
  obtain ⟨a, n, c, b, m, d, rfl, hx, hx2⟩ := hx
  obtain ⟨a', n', c', b', m', d', rfl, hy, hy2⟩ := hy
  have X := Lib.hid hx; have Y := Lib.hid hy
  have X2 := Lib.hid hx2; have Y2 := Lib.hid hy2
  clear hx hy hx2 hy2
  have hs : f.same g = true ↔ f = g := Fm.same_iff f g
  cases he : f.same g with
  | true =>
    have HE := Lib.hid (hs.1 he)
    clear hs he
    go_enter Tryz.func40, Tryz.ntmps40
    go_wp2_with (go_at_call 74; refine (cmpFm_c f g _ _ _ ⟨_, _, _, _, _, _, rfl, X.out.keep (by exact keeps_of_below (((Below.refl _ _).alloc (Nat.le_refl _) _).alloc (by simp) _)), X2.out.keep (by exact keeps_of_below (((Below.refl _ _).alloc (Nat.le_refl _) _).alloc (by simp) _))⟩ ⟨_, _, _, _, _, _, rfl, Y.out.keep (by exact keeps_of_below (((Below.refl _ _).alloc (Nat.le_refl _) _).alloc (by simp) _)), Y2.out.keep (by exact keeps_of_below (((Below.refl _ _).alloc (Nat.le_refl _) _).alloc (by simp) _))⟩).mono ?_; rintro e w1 ⟨c1, rfl, hc1, hb1⟩; obtain rfl := c_zero hc1 HE; clear hc1)
    go_ret
    exact ⟨rfl, below2 hb1⟩
  | false =>
    have HE := Lib.hid (show ¬ f = g from fun e => by rw [hs.2 e] at he; cases he)
    clear hs he
    go_enter Tryz.func40, Tryz.ntmps40
    go_wp2_with (go_at_call 74; refine (cmpFm_c f g _ _ _ ⟨_, _, _, _, _, _, rfl, X.out.keep (by exact keeps_of_below (((Below.refl _ _).alloc (Nat.le_refl _) _).alloc (by simp) _)), X2.out.keep (by exact keeps_of_below (((Below.refl _ _).alloc (Nat.le_refl _) _).alloc (by simp) _))⟩ ⟨_, _, _, _, _, _, rfl, Y.out.keep (by exact keeps_of_below (((Below.refl _ _).alloc (Nat.le_refl _) _).alloc (by simp) _)), Y2.out.keep (by exact keeps_of_below (((Below.refl _ _).alloc (Nat.le_refl _) _).alloc (by simp) _))⟩).mono ?_; rintro e w1 ⟨c1, rfl, hc1, hb1⟩; obtain ⟨t1, t2⟩ := c_ne hc1 HE; clear hc1)
    go_ret
    exact ⟨rfl, below2 hb1⟩
end Go.Proofs.YtppfalbnhnpbnaaGreatDoor
