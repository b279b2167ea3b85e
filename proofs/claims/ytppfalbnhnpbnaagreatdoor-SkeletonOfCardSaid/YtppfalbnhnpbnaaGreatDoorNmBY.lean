/- Plain: what a right formula's names and free variables are worth. Nothing of the program is imported. -/
import Derived.Test.YtppfalbnhnpbnaaGreatDoorSkVY
import Derived.Test.YtppfalbnhnpbnaaGreatDoorKyAY
import Derived.Test.YtppfalbnhnpbnaaGreatDoorShIterY
set_option linter.unusedSimpArgs false
set_option linter.unusedVariables false
namespace Ly
open Go
theorem checker_len {first other : UInt8 → Bool} {s : Bs} (h : checker first other s = true) : s.length ≤ 16 := by
  cases s with
  | nil => simp
  | cons c r => simp [checker] at h; simp; exact h.1.1.1
mutual
theorem Tm.ok_vars : ∀ t : Tm, t.ok = true → ∀ s ∈ t.vars, s.length ≤ 16 ∧ varName s = true
  | .mk v n ts, h, s, hs => by
    unfold Tm.ok at h
    cases v
    · simp at h
      simp [Tm.vars] at hs
      exact tmsOk_vars ts h.2 s hs
    · simp at h
      simp [Tm.vars, h.1, tmsVars] at hs
      subst hs
      exact ⟨checker_len h.2, h.2⟩
theorem tmsOk_vars : ∀ ts : List Tm, tmsOk ts = true → ∀ s ∈ tmsVars ts, s.length ≤ 16 ∧ varName s = true
  | [], _, s, hs => by simp [tmsVars] at hs
  | t :: ts, h, s, hs => by
    simp [tmsOk] at h
    simp [tmsVars] at hs
    rcases hs with hs | hs
    · exact Tm.ok_vars t h.1 s hs
    · exact tmsOk_vars ts h.2 s hs
end
theorem Fm.ok_name {op : Int} {n : Bs} {ts : List Tm} {fs : List Fm} (h : (Fm.mk op n ts fs).ok = true) : n.length ≤ 16 ∧ tmsOk ts = true ∧ fmsOk fs = true ∧ (quant op = true → varName n = true) := by
  simp only [Fm.ok, Bool.and_eq_true, decide_eq_true_eq] at h
  have h1 := h.1.1.2
  have key : (op = 1 ∧ predName n = true) ∨ (op ≠ 1 ∧ (op = 8 ∨ op = 9) ∧ varName n = true) ∨ (op ≠ 1 ∧ ¬ (op = 8 ∨ op = 9) ∧ n = []) := by
    by_cases o1 : op = 1
    · rw [if_pos o1] at h1
      simp only [Bool.and_eq_true] at h1
      exact .inl ⟨o1, h1.1⟩
    · rw [if_neg o1] at h1
      by_cases o8 : op = 8 ∨ op = 9
      · rw [if_pos o8] at h1
        simp only [Bool.and_eq_true] at h1
        exact .inr (.inl ⟨o1, o8, h1.2⟩)
      · rw [if_neg o8] at h1
        simp only [Bool.and_eq_true] at h1
        exact .inr (.inr ⟨o1, o8, by simpa using h1.2⟩)
  refine ⟨?_, h.1.2, h.2, fun hq => ?_⟩
  · rcases key with ⟨_, k⟩ | ⟨_, _, k⟩ | ⟨_, _, k⟩
    · exact checker_len k
    · exact checker_len k
    · subst k; simp
  · have hq' : op = 8 ∨ op = 9 := of_decide_eq_true hq
    rcases key with ⟨k, _⟩ | ⟨_, _, k⟩ | ⟨_, k, _⟩
    · omega
    · exact k
    · exact absurd hq' k
mutual
theorem Fm.okNames_of : ∀ f : Fm, f.ok = true → f.okNames = true
  | .mk op n ts fs, h => by
    obtain ⟨h1, h2, h3, -⟩ := Fm.ok_name h
    simp only [Fm.okNames, Bool.and_eq_true, decide_eq_true_eq, List.all_eq_true]
    refine ⟨⟨?_, fun s hs => ?_⟩, fmsOkNames_of fs h3⟩
    · unfold maxLen; omega
    · have := (tmsOk_vars ts h2 s hs).1
      unfold maxLen; omega
theorem fmsOkNames_of : ∀ fs : List Fm, fmsOk fs = true → fmsOkNames fs = true
  | [], _ => rfl
  | f :: fs, h => by
    simp [fmsOk] at h
    simp [fmsOkNames, Fm.okNames_of f h.1, fmsOkNames_of fs h.2]
end
mutual
theorem Tm.vars_len : ∀ t : Tm, t.vars.length ≤ t.nodes
  | .mk v n ts => by have := tmsVars_len ts; cases v <;> simp [Tm.vars, Tm.nodes] <;> omega
theorem tmsVars_len : ∀ ts : List Tm, (tmsVars ts).length ≤ tmsNodes ts
  | [] => by simp [tmsVars, tmsNodes]
  | t :: ts => by have := Tm.vars_len t; have := tmsVars_len ts; simp [tmsVars, tmsNodes]; omega
end
mutual
theorem Fm.free_len : ∀ (f : Fm) (b : List Bs), (f.free b).length ≤ f.nodes
  | .mk op n ts fs, b => by
    have h1 := tmsVars_len ts
    have h2 := fmsFree_len fs (if quant op then n :: b else b)
    have h3 := List.length_filter_le (fun x => decide (x ∉ b)) (tmsVars ts)
    simp only [Fm.free, Fm.nodes, List.length_append]
    omega
theorem fmsFree_len : ∀ (fs : List Fm) (b : List Bs), (fmsFree b fs).length ≤ fmsNodes fs
  | [], b => by simp [fmsFree, fmsNodes]
  | f :: fs, b => by have := Fm.free_len f b; have := fmsFree_len fs b; simp [fmsFree, fmsNodes]; omega
end
mutual
theorem Fm.free_ok : ∀ (f : Fm) (b : List Bs), f.okNames = true → ∀ s ∈ f.free b, s.length ≤ maxLen
  | .mk op n ts fs, b, h, s, hs => by
    simp only [Fm.okNames, Bool.and_eq_true, decide_eq_true_eq, List.all_eq_true] at h
    simp only [Fm.free, List.mem_append, List.mem_filter] at hs
    rcases hs with hs | hs
    · exact h.1.2 s hs.1
    · exact fmsFree_ok fs _ h.2 s hs
theorem fmsFree_ok : ∀ (fs : List Fm) (b : List Bs), fmsOkNames fs = true → ∀ s ∈ fmsFree b fs, s.length ≤ maxLen
  | [], b, _, s, hs => by simp [fmsFree] at hs
  | f :: fs, b, h, s, hs => by
    simp [fmsOkNames] at h
    simp [fmsFree] at hs
    rcases hs with hs | hs
    · exact Fm.free_ok f b h.1 s hs
    · exact fmsFree_ok fs b h.2 s hs
end
end Ly
namespace Go.Proofs.YtppfalbnhnpbnaaGreatDoor
open Go Go.RowKit Ly
set_option maxRecDepth 10000
theorem But1.cells {R : Nat} {A X : World} (h : But1 R A X) (hm : ∃ es c, A.heap[R]? = some (.map es c)) : Keeps A X := fun a v hv => by
  have lt := World.block_lt_of_cell? A a hv
  have hne : a.block ≠ R := fun e => by
    obtain ⟨es, c, hm⟩ := hm
    unfold World.cell? at hv
    rw [e, hm] at hv
    cases hv
  rw [World.cell?_of_block (a := a) (h.block _ lt hne)]
  exact hv
theorem But1.of_grown {R : Nat} {A X : World} (h : A.grownBy X (some R)) : But1 R A X := ⟨h.os, h.tape, h.output, h.size, fun i hi hn => h.block i hi (fun e => hn (by cases e; rfl))⟩
theorem fmsBinds_take (fs : List Fm) {j : Nat} {T : Fm} (h : fs[j]? = some T) : fmsBinds (fs.take (j + 1)) = fmsBinds (fs.take j) ++ T.binds := by
  have app : ∀ a b : List Fm, fmsBinds (a ++ b) = fmsBinds a ++ fmsBinds b := fun a b => by
    induction a with
    | nil => rfl
    | cons x a ih => simp [fmsBinds, ih]
  rw [List.take_add_one, h, app]
  simp [fmsBinds]
theorem SetAt.isMap {w : World} {M n : Nat} {l : List Bs} (h : SetAt w M n l) : ∃ es c, w.heap[M]? = some (.map es c) := MapG.isMap h
def AB (f : Fm) : Prop := ∀ (W : World) (x : Value) (M n : Nat) (l : List Bs), FmVal W f x → SetAt W M n l → f.okNames = true → n + f.nodes ≤ 1000000 →
  Calls Tryz.prog 120 #[x, .map (some M)] W fun e w' => e = .returned (.tuple #[]) ∧ But1 M W w' ∧ ∃ n', n' ≤ n + f.nodes ∧ SetAt w' M n' (l ++ f.binds)
set_option maxHeartbeats 8000000 in
theorem ab_step (op : Int) (nm : Bs) (ts : List Tm) (fs : List Fm) (ih : ∀ f ∈ fs, AB f) : AB (.mk op nm ts fs) := by
  intro W x M n l hx0 hset hok hnd
  obtain ⟨ta, N, tc, fa, N2, fc, rfl, hx, hx'⟩ : ∃ ta N tc fa N2 fc, x = .agg #[.int .u8 op, str nm, .slice ta N tc, .slice fa N2 fc] ∧ TmsAt W ts (.slice ta N tc) ∧ FmsAt W fs (.slice fa N2 fc) := hx0
  have hl2 := hx'.len
  have N4 : N2 ≤ 9223372036854775807 := le63 (Nat.le_trans hl2.2.1 hl2.2.2)
  simp only [Fm.okNames, Bool.and_eq_true, decide_eq_true_eq, List.all_eq_true] at hok
  have nd : (Fm.mk op nm ts fs).nodes = 1 + tmsNodes ts + fmsNodes fs := by simp [Fm.nodes]
  rw [nd] at hnd ⊢
  have NM : okS nm := hok.1.1
  have HO := Lib.hid hok.2
  have HN := Lib.hid hnd
  have HS := Lib.hid hset
  have HX2 := Lib.hid hx'
  have L2 := Lib.hid hl2.1
  have IH := Lib.hid ih
  obtain ⟨l1, hl1⟩ : ∃ l1, l ++ (if quant op then [nm] else []) = l1 := ⟨_, rfl⟩
  have bd : l ++ (Fm.mk op nm ts fs).binds = l1 ++ fmsBinds fs := by rw [← hl1]; simp [Fm.binds]
  rw [bd]
  have HL1 := Lib.hid hl1
  obtain ⟨W1, hW1⟩ : ∃ W1, W.alloc (.cells #[.int .u8 op, str nm, .slice ta N tc, .slice fa N2 fc] 40) = W1 := ⟨_, rfl⟩
  have bw : Below W.heap.size W W1 := by rw [← hW1]; exact (Below.refl _ _).alloc (Nat.le_refl _) _
  have r0 : W1.heap[W.heap.size]? = some (.cells #[.int .u8 op, str nm, .slice ta N tc, .slice fa N2 fc] 40 (0, 0)) := by rw [← hW1]; exact heap_alloc_new W _
  have R0 := Lib.hid r0
  have BW := Lib.hid bw
  obtain ⟨⟨y0, y1, y2, y3⟩, -⟩ := row40 r0
  clear hx hx' hset hok hnd nd hl2 ih hl1 bd bw r0
  go_enter Tryz.func120, Tryz.ntmps120
  cases hq : quant op
  · have QC : Hid (∀ w, Calls Tryz.prog 98 #[.agg #[.int .u8 op, str nm, .slice ta N tc, .slice fa N2 fc]] w fun e w' => e = .returned (.bool false) ∧ Below w.heap.size w w') := fun w => by rw [← hq]; exact quant_c op _ _ _ w
    have E1 : Hid (l1 = l) := by show l1 = l; rw [← HL1.out, hq]; simp
    clear hq HL1
    go_wp2_with (go_at_call 98; refine (QC.out _).mono ?_; rintro e w2 ⟨rfl, b2⟩; have B2 : Hid (Below W.heap.size W w2) := BW.out.trans (b2.mono BW.out.size); have y3' := keeps_of_below b2 _ _ y3; have y1' := keeps_of_below b2 _ _ y1; clear b2 QC y0 y1 y2 y3)
    have S2 : Hid (SetAt w2 M n l1) := by rw [E1.out]; exact HS.out.heap (B2.out.block _ HS.out.lt)
    have U2 : Hid (But1 M W w2) := But1.of_below B2.out
    have n1le : Hid (n ≤ n + 1) := Nat.le_succ n
    obtain ⟨n1, K1, S3⟩ : ∃ n1, Hid (n1 ≤ n + 1) ∧ Hid (SetAt w2 M n1 l1) := ⟨n, n1le, S2⟩
    clear S2 n1le B2 y3' y1'
    go_loopw [14] (fun i wr => ∃ j : Nat, j ≤ N2 ∧ i = .int .i64 j ∧ Hid (But1 M W wr ∧ ∃ n', n' ≤ n1 + fmsNodes (fs.take j) ∧ SetAt wr M n' (l1 ++ fmsBinds (fs.take j)))) (fun i _ => N2 - (intOf i).toNat)
    case atStart => exact ⟨0, Nat.zero_le _, rfl, U2.out, n1, by simp [fmsNodes], by simpa [fmsBinds] using S3.out⟩
    case round =>
      obtain ⟨j, hj, rfl, hs⟩ := hrel
      clear S3 U2
      by_cases hlt : j < N2
      · obtain ⟨T, hT⟩ := get_of_lt (l := fs) (j := j) (by rw [← L2.out]; exact hlt)
        obtain ⟨bb, off, rfl, hc⟩ := HX2.out.get (ne_of_get hT)
        obtain ⟨x0, x1, x2, x3, x4, x5, hx⟩ := hc j _ hT
        have hK := hs.out.1.cells HS.out.isMap
        have c0 := hK _ _ hx.c0; have c1 := hK _ _ hx.c1; have c2 := hK _ _ hx.c2; have c3 := hK _ _ hx.c3
        have HT := Lib.hid (List.mem_of_getElem? hT)
        have TB := Lib.hid (fmsBinds_take fs hT)
        have TN := Lib.hid (fmsNodes_at hT)
        have TL := Lib.hid (fmsNodes_upto fs (j + 1))
        have IC : Hid (∀ o, Calls Tryz.prog 120 #[.agg #[.int .u8 T.op, str T.name, .slice x0 x1 x2, .slice x3 x4 x5], .map (some M)] (wr.alloc o) fun e w' => e = .returned (.tuple #[]) ∧ But1 M W w' ∧ ∃ n', n' ≤ n1 + fmsNodes (fs.take (j + 1)) ∧ SetAt w' M n' (l1 ++ fmsBinds (fs.take (j + 1)))) := fun o => by
          obtain ⟨n', h1, h2⟩ := hs.out.2
          have ba : Below wr.heap.size wr (wr.alloc o) := (Below.refl _ _).alloc (Nat.le_refl _) _
          have hk2 := hK.trans (keeps_of_below ba)
          have e1 := TN.out
          have e2 := TL.out
          have e3 := HN.out
          have e4 := K1.out
          refine (IH.out T HT.out (wr.alloc o) _ M n' _ ⟨_, _, _, _, _, _, rfl, hx.at_.keep hk2, hx.at'.keep hk2⟩ (h2.heap (ba.block _ h2.lt)) (fmsOkNames_mem HO.out T HT.out) (by omega)).mono ?_
          rintro e w' ⟨k1, k2, n3, k3, k4⟩
          refine ⟨k1, (hs.out.1.trans (But1.of_below ba)).trans k2, n3, by omega, ?_⟩
          rw [TB.out, ← List.append_assoc]
          exact k4
        clear hc hx hT hK
        go_wp2_with (go_at_call 120; refine (IC.out _).mono ?_; rintro e w3 ⟨rfl, hb3, hs3⟩; have B3 := Lib.hid hb3; have S3 := Lib.hid hs3; clear hb3 hs3)
        go_roundw
        case rel => exact ⟨j + 1, by omega, by go_num, B3.out, S3.out⟩
        case measure => simp [intOf]; omega
      · have e : fs.take j = fs := List.take_of_length_le (by rw [← L2.out]; omega)
        have h1 := hs.out.1
        obtain ⟨n', h2, h3⟩ := hs.out.2
        rw [e] at h2 h3
        go_wp2_with fail
        go_end0
        exact ⟨rfl, h1, n', by have := K1.out; omega, h3⟩
  · have QC : Hid (∀ w, Calls Tryz.prog 98 #[.agg #[.int .u8 op, str nm, .slice ta N tc, .slice fa N2 fc]] w fun e w' => e = .returned (.bool true) ∧ Below w.heap.size w w') := fun w => by rw [← hq]; exact quant_c op _ _ _ w
    have E1 : Hid (l1 = l ++ [nm]) := by show l1 = _; rw [← HL1.out, hq]; simp
    clear hq HL1
    have nl : n < maxLen := by have := HN.out; unfold maxLen; omega
    go_wp2_with (first
      | (go_at_call 98; refine (QC.out _).mono ?_; rintro e w2 ⟨rfl, b2⟩; have B2 : Hid (Below W.heap.size W w2) := BW.out.trans (b2.mono BW.out.size); have S1 : Hid (SetAt w2 M n l) := HS.out.heap (B2.out.block _ HS.out.lt); have y3' := keeps_of_below b2 _ _ y3; have y1' := keeps_of_below b2 _ _ y1; clear b2 QC y0 y1 y2 y3)
      | (at_mapUpdate; refine wpList_store_G rfl _ _ _ 93 rfl 4 keyS map93 rfl S1.out nl nm NM rfl ?_; intro w4 hm4 hg4; have S2 : Hid (SetAt w4 M (n + 1) l1) := (by rw [E1.out]; exact SetAt.put hm4); have U2 : Hid (But1 M W w4) := (But1.of_below B2.out).trans (But1.of_grown hg4); have y3 := (But1.of_grown hg4).cells S1.out.isMap _ _ y3'; clear hm4 hg4 y1' y3'))
    obtain ⟨n1, K1, S3⟩ : ∃ n1, Hid (n1 ≤ n + 1) ∧ Hid (SetAt w4 M n1 l1) := ⟨n + 1, Nat.le_refl _, S2⟩
    clear S2 S1 B2 y3
    go_loopw [14] (fun i wr => ∃ j : Nat, j ≤ N2 ∧ i = .int .i64 j ∧ Hid (But1 M W wr ∧ ∃ n', n' ≤ n1 + fmsNodes (fs.take j) ∧ SetAt wr M n' (l1 ++ fmsBinds (fs.take j)))) (fun i _ => N2 - (intOf i).toNat)
    case atStart => exact ⟨0, Nat.zero_le _, rfl, U2.out, n1, by simp [fmsNodes], by simpa [fmsBinds] using S3.out⟩
    case round =>
      obtain ⟨j, hj, rfl, hs⟩ := hrel
      clear S3 U2
      by_cases hlt : j < N2
      · obtain ⟨T, hT⟩ := get_of_lt (l := fs) (j := j) (by rw [← L2.out]; exact hlt)
        obtain ⟨bb, off, rfl, hc⟩ := HX2.out.get (ne_of_get hT)
        obtain ⟨x0, x1, x2, x3, x4, x5, hx⟩ := hc j _ hT
        have hK := hs.out.1.cells HS.out.isMap
        have c0 := hK _ _ hx.c0; have c1 := hK _ _ hx.c1; have c2 := hK _ _ hx.c2; have c3 := hK _ _ hx.c3
        have HT := Lib.hid (List.mem_of_getElem? hT)
        have TB := Lib.hid (fmsBinds_take fs hT)
        have TN := Lib.hid (fmsNodes_at hT)
        have TL := Lib.hid (fmsNodes_upto fs (j + 1))
        have IC : Hid (∀ o, Calls Tryz.prog 120 #[.agg #[.int .u8 T.op, str T.name, .slice x0 x1 x2, .slice x3 x4 x5], .map (some M)] (wr.alloc o) fun e w' => e = .returned (.tuple #[]) ∧ But1 M W w' ∧ ∃ n', n' ≤ n1 + fmsNodes (fs.take (j + 1)) ∧ SetAt w' M n' (l1 ++ fmsBinds (fs.take (j + 1)))) := fun o => by
          obtain ⟨n', h1, h2⟩ := hs.out.2
          have ba : Below wr.heap.size wr (wr.alloc o) := (Below.refl _ _).alloc (Nat.le_refl _) _
          have hk2 := hK.trans (keeps_of_below ba)
          have e1 := TN.out
          have e2 := TL.out
          have e3 := HN.out
          have e4 := K1.out
          refine (IH.out T HT.out (wr.alloc o) _ M n' _ ⟨_, _, _, _, _, _, rfl, hx.at_.keep hk2, hx.at'.keep hk2⟩ (h2.heap (ba.block _ h2.lt)) (fmsOkNames_mem HO.out T HT.out) (by omega)).mono ?_
          rintro e w' ⟨k1, k2, n3, k3, k4⟩
          refine ⟨k1, (hs.out.1.trans (But1.of_below ba)).trans k2, n3, by omega, ?_⟩
          rw [TB.out, ← List.append_assoc]
          exact k4
        clear hc hx hT hK
        go_wp2_with (go_at_call 120; refine (IC.out _).mono ?_; rintro e w3 ⟨rfl, hb3, hs3⟩; have B3 := Lib.hid hb3; have S3 := Lib.hid hs3; clear hb3 hs3)
        go_roundw
        case rel => exact ⟨j + 1, by omega, by go_num, B3.out, S3.out⟩
        case measure => simp [intOf]; omega
      · have e : fs.take j = fs := List.take_of_length_le (by rw [← L2.out]; omega)
        have h1 := hs.out.1
        obtain ⟨n', h2, h3⟩ := hs.out.2
        rw [e] at h2 h3
        go_wp2_with fail
        go_end0
        exact ⟨rfl, h1, n', by have := K1.out; omega, h3⟩
mutual
theorem ab_all : ∀ f : Fm, AB f
  | .mk op nm ts fs => ab_step op nm ts fs (ab_each fs)
theorem ab_each : ∀ fs : List Fm, ∀ f ∈ fs, AB f
  | [], _, h => by cases h
  | x :: xs, f, h => by
    rcases List.mem_cons.1 h with e | e
    · rw [e]; exact ab_all x
    · exact ab_each xs f e
end
end Go.Proofs.YtppfalbnhnpbnaaGreatDoor
namespace Go.Proofs.YtppfalbnhnpbnaaGreatDoor
open Go Go.RowKit Ly
set_option maxRecDepth 10000
theorem takeWhile_all {σ : List Sy} {s : Sy} (h : s ∉ σ) : σ.takeWhile (fun t => decide (t ≠ s)) = σ := by
  induction σ with
  | nil => rfl
  | cons x σ ih =>
    have h1 : x ≠ s := fun e => h (by simp [e])
    have h2 : s ∉ σ := fun e => h (by simp [e])
    simp only [List.takeWhile_cons, h1, ne_eq, not_false_eq_true, decide_true, if_true]
    rw [ih h2]
theorem takeWhile_in {σ : List Sy} {t s : Sy} (h : t ∈ σ) : (σ ++ [s]).takeWhile (fun u => decide (u ≠ t)) = σ.takeWhile (fun u => decide (u ≠ t)) := by
  induction σ with
  | nil => cases h
  | cons x σ ih =>
    by_cases hx : x = t
    · subst hx; simp
    · rcases List.mem_cons.1 h with rfl | h
      · exact absurd rfl hx
      · have e := ih h
        simp only [List.cons_append, List.takeWhile_cons, ne_eq, hx, not_false_eq_true, decide_true, if_true] at e ⊢
        rw [e]
theorem told_new {σ : List Sy} {s : Sy} (h : s ∉ σ) : Sy.told σ s = s.kind ++ Lib.itoa (((σ.countP (fun t => decide (t.kind = s.kind)) : Nat) : Int) + 1) := by
  unfold Sy.told Sy.place
  rw [takeWhile_all h]
  rfl
theorem told_old {σ : List Sy} {t s : Sy} (h : t ∈ σ) : Sy.told (σ ++ [s]) t = Sy.told σ t := by
  unfold Sy.told Sy.place
  rw [takeWhile_in h]
theorem told_self {σ : List Sy} {s : Sy} (h : s ∉ σ) : Sy.told (σ ++ [s]) s = Sy.told σ s := by
  unfold Sy.told Sy.place
  have e : (σ ++ [s]).takeWhile (fun t => decide (t ≠ s)) = σ.takeWhile (fun t => decide (t ≠ s)) := by
    rw [takeWhile_all h]
    rw [List.takeWhile_append_of_pos (fun x hx => by simp; rintro rfl; exact h hx)]
    simp
  rw [e]
structure But2 (R Q : Nat) (A X : World) : Prop where
  os : X.os = A.os
  tape : X.tape = A.tape
  output : X.output = A.output
  size : A.heap.size ≤ X.heap.size
  block : ∀ k, k < A.heap.size → k ≠ R → k ≠ Q → X.heap[k]? = A.heap[k]?
theorem But2.trans {R Q : Nat} {A X Y : World} (h : But2 R Q A X) (k : But2 R Q X Y) : But2 R Q A Y :=
  ⟨k.os.trans h.os, k.tape.trans h.tape, k.output.trans h.output, Nat.le_trans h.size k.size, fun i hi h1 h2 => (k.block i (Nat.lt_of_lt_of_le hi h.size) h1 h2).trans (h.block i hi h1 h2)⟩
theorem But2.of_below {R Q : Nat} {A X : World} (h : Below A.heap.size A X) : But2 R Q A X := ⟨h.os, h.tape, h.output, h.size, fun i hi _ _ => h.block i hi⟩
theorem But2.left {R Q : Nat} {A X : World} (h : A.grownBy X (some R)) : But2 R Q A X := ⟨h.os, h.tape, h.output, h.size, fun i hi hn _ => h.block i hi (fun e => hn (by cases e; rfl))⟩
theorem But2.right {R Q : Nat} {A X : World} (h : A.grownBy X (some Q)) : But2 R Q A X := ⟨h.os, h.tape, h.output, h.size, fun i hi _ hn => h.block i hi (fun e => hn (by cases e; rfl))⟩
theorem But2.cells {R Q : Nat} {A X : World} (h : But2 R Q A X) (hR : ∃ es c, A.heap[R]? = some (.map es c)) (hQ : ∃ es c, A.heap[Q]? = some (.map es c)) : Keeps A X := fun a v hv => by
  have lt := World.block_lt_of_cell? A a hv
  have key : ∀ q, (∃ es c, A.heap[q]? = some (.map es c)) → a.block ≠ q := fun q hm e => by
    obtain ⟨es, c, hm⟩ := hm
    unfold World.cell? at hv
    rw [e, hm] at hv
    cases hv
  rw [World.cell?_of_block (a := a) (h.block _ lt (key R hR) (key Q hQ))]
  exact hv
structure NamesAt (g1 c1 gm cm : Nat) (σ : List Sy) (W : World) : Prop where
  hg : W.heap[g1]? = some (.cells #[.map (some gm)] 117 (0, 0))
  hc : W.heap[c1]? = some (.cells #[.map (some cm)] 111 (0, 0))
  given : MapG Tryz.prog 104 okY litY (str []) W gm σ.length (fun s => decide (s ∈ σ)) (fun s => if s ∈ σ then str (Sy.told σ s) else str [])
  counts : ∃ S, MapG Tryz.prog 9 okS litS (.int .i64 0) W cm σ.length S (fun k => .int .i64 ((σ.countP (fun t => decide (t.kind = k)) : Nat) : Int))
  ne : gm ≠ cm
theorem NamesAt.below {g1 c1 gm cm : Nat} {σ : List Sy} {W W' : World} (h : NamesAt g1 c1 gm cm σ W) (b : Below W.heap.size W W') : NamesAt g1 c1 gm cm σ W' := by
  obtain ⟨S, hS⟩ := h.counts
  exact ⟨(b.block _ (Array.getElem?_eq_some_iff.1 h.hg).1).trans h.hg, (b.block _ (Array.getElem?_eq_some_iff.1 h.hc).1).trans h.hc, h.given.below b, ⟨S, hS.below b⟩, h.ne⟩
theorem NamesAt.keeps {g1 c1 gm cm : Nat} {σ : List Sy} {W W' : World} (h : NamesAt g1 c1 gm cm σ W) (b : But2 gm cm W W') : Keeps W W' := by
  obtain ⟨S, hS⟩ := h.counts
  exact b.cells h.given.isMap hS.isMap
theorem map117 : Tryz.prog.underlying 117 = some (.map 104 9) := by kernel_rfl
theorem zero9 (w : World) : (zeroValue 9).run Tryz.prog w = .ok (str []) w := by kernel_rfl
theorem NamesAt.look {g1 c1 gm cm : Nat} {σ : List Sy} {W : World} (h : NamesAt g1 c1 gm cm σ W) {s : Sy} (hs : okY s) : (Instr.lookup 117 (.map (some gm)) (encY s) false).run Tryz.prog W = .ok (if s ∈ σ then str (Sy.told σ s) else str []) W := h.given.look keyY map117 (zero9 W) hs
theorem NamesAt.look2 {g1 c1 gm cm : Nat} {σ : List Sy} {W : World} (h : NamesAt g1 c1 gm cm σ W) {s : Sy} (hs : okY s) : (Instr.lookup 117 (.map (some gm)) (encY s) true).run Tryz.prog W = .ok (.tuple #[if s ∈ σ then str (Sy.told σ s) else str [], .bool (decide (s ∈ σ))]) W := h.given.look2 keyY map117 (zero9 W) hs
theorem NamesAt.count {g1 c1 gm cm : Nat} {σ : List Sy} {W : World} (h : NamesAt g1 c1 gm cm σ W) {k : Bs} (hk : okS k) : (Instr.lookup 111 (.map (some cm)) (str k) false).run Tryz.prog W = .ok (.int .i64 ((σ.countP (fun t => decide (t.kind = k)) : Nat) : Int)) W := by
  obtain ⟨S, hS⟩ := h.counts
  exact hS.look keyS map111 (zero3 W) hk
theorem mk_app (a b : Bs) : (⟨a.toArray⟩ ++ ⟨b.toArray⟩ : ByteArray) = ⟨(a ++ b).toArray⟩ := by
  apply ByteArray.ext
  simp
theorem mk_app1 (x : UInt8) (b : Bs) : (.string ({ data := #[x] } ++ { data := b.toArray }) : Value) = str ([x] ++ b) := congrArg Value.string (mk_app [x] b)
theorem mk_app117 (b : Bs) : (.string ({ data := #[117] } ++ { data := b.toArray }) : Value) = str ([117] ++ b) := congrArg Value.string (mk_app [117] b)
theorem row3 {w : World} {b : Nat} {x y z : Value} {t : TypeId} (h : w.heap[b]? = some (.cells #[x, y, z] t (0, 0))) : w.cell? ⟨b, 0, none⟩ = some x ∧ w.cell? ⟨b, 1, none⟩ = some y ∧ w.cell? ⟨b, 2, none⟩ = some z :=
  ⟨(box_cell h 0).trans rfl, (box_cell h 1).trans rfl, (box_cell h 2).trans rfl⟩
theorem NamesAt.add {g1 c1 gm cm : Nat} {σ : List Sy} {s : Sy} {W w4 w5 : World} {S : Bs → Bool} (h : NamesAt g1 c1 gm cm σ W) (hs : s ∉ σ) (hk : okS s.kind) (z : Int) (hz : z = ((σ.countP (fun t => decide (t.kind = s.kind)) : Nat) : Int) + 1)
    (b0 : Below W.heap.size W w4) (hg4 : w4.grownBy w5 (some cm)) (hm4 : MapG Tryz.prog 9 okS litS (.int .i64 0) w5 cm (σ.length + 1) S (fun u => if u = s.kind then .int .i64 z else .int .i64 ((σ.countP (fun t => decide (t.kind = u)) : Nat) : Int))) :
    (∀ w6, Below w5.heap.size w5 w6 → MapG Tryz.prog 104 okY litY (str []) w6 gm σ.length (fun s => decide (s ∈ σ)) (fun s => if s ∈ σ then str (Sy.told σ s) else str [])) ∧
    ∀ w6 w7, Below w5.heap.size w5 w6 → w6.grownBy w7 (some gm) → MapG Tryz.prog 104 okY litY (str []) w7 gm (σ.length + 1) (fun u => if u = s then true else decide (u ∈ σ)) (fun u => if u = s then str (Sy.told σ s) else if u ∈ σ then str (Sy.told σ u) else str []) →
      NamesAt g1 c1 gm cm (σ ++ [s]) w7 ∧ But2 gm cm W w7 := by
  obtain ⟨S0, hS0⟩ := h.counts
  have h4 := h.below b0
  obtain ⟨S1, hS1⟩ := h4.counts
  have G5 : MapG Tryz.prog 104 okY litY (str []) w5 gm σ.length (fun s => decide (s ∈ σ)) (fun s => if s ∈ σ then str (Sy.told σ s) else str []) := h4.given.grown hg4 (by intro e; exact h.ne (by cases e; rfl))
  refine ⟨fun w6 b => G5.below b, fun w6 w7 b6 hg hm => ⟨⟨?_, ?_, ?_, ?_, h.ne⟩, ?_⟩⟩
  · have e5 : w5.heap[g1]? = w4.heap[g1]? := hg4.block _ (Array.getElem?_eq_some_iff.1 h4.hg).1 (fun e => by
      obtain ⟨es, c, hm'⟩ := hS1.isMap
      have := h4.hg
      cases e; rw [this] at hm'; cases hm')
    have e6 : w6.heap[g1]? = w5.heap[g1]? := b6.block _ (by have := (Array.getElem?_eq_some_iff.1 h4.hg).1; have := hg4.size; omega)
    have e7 : w7.heap[g1]? = w6.heap[g1]? := hg.block _ (by have := (Array.getElem?_eq_some_iff.1 h4.hg).1; have := hg4.size; have := b6.size; omega) (fun e => by
      obtain ⟨es, c, hm'⟩ := h4.given.isMap
      have := h4.hg
      cases e; rw [this] at hm'; cases hm')
    rw [e7, e6, e5]; exact h4.hg
  · have e5 : w5.heap[c1]? = w4.heap[c1]? := hg4.block _ (Array.getElem?_eq_some_iff.1 h4.hc).1 (fun e => by
      obtain ⟨es, c, hm'⟩ := hS1.isMap
      have := h4.hc
      cases e; rw [this] at hm'; cases hm')
    have e6 : w6.heap[c1]? = w5.heap[c1]? := b6.block _ (by have := (Array.getElem?_eq_some_iff.1 h4.hc).1; have := hg4.size; omega)
    have e7 : w7.heap[c1]? = w6.heap[c1]? := hg.block _ (by have := (Array.getElem?_eq_some_iff.1 h4.hc).1; have := hg4.size; have := b6.size; omega) (fun e => by
      obtain ⟨es, c, hm'⟩ := h4.given.isMap
      have := h4.hc
      cases e; rw [this] at hm'; cases hm')
    rw [e7, e6, e5]; exact h4.hc
  · rw [List.length_append]
    refine hm.cong (fun u _ => ?_) (fun u _ => ?_)
    · by_cases e : u = s <;> simp [e]
    · by_cases e : u = s
      · subst e; simp [told_self hs]
      · by_cases e2 : u ∈ σ
        · simp [e, e2, told_old e2]
        · simp [e, e2]
  · refine ⟨S, ?_⟩
    rw [List.length_append]
    have m6 := hm4.below b6
    have m7 := m6.grown hg (by intro e; exact h.ne (by cases e; rfl))
    refine m7.cong (fun u _ => rfl) (fun u _ => ?_)
    by_cases e : u = s.kind
    · subst e; simp [List.countP_append, hz]
    · have e' : ¬ s.kind = u := fun h => e h.symm
      simp [e, e', List.countP_append]
  · exact (But2.of_below b0).trans ((But2.right hg4).trans ((But2.of_below b6).trans (But2.left hg)))
theorem cell_ne_map {κ : Type} {P : Program} {k : TypeId} {ok : κ → Prop} {lit : κ → Lit} {z : Value} {w : World} {M n : Nat} {S : κ → Bool} {T : κ → Value} (h : MapG P k ok lit z w M n S T) {b : Nat} {cs : Array Value} {t : TypeId} {a : Nat × Nat} (hb : w.heap[b]? = some (.cells cs t a)) : some b ≠ some M := fun e => by
  obtain ⟨es, c, hm⟩ := h.isMap
  cases e; rw [hm] at hb; cases hb
theorem PowAt.cells {w w' : World} (h : PowAt w) (hb : ∀ (g : Nat) cs t a, w.heap[g]? = some (.cells cs t a) → w'.heap[g]? = w.heap[g]?) : PowAt w' := by
  unfold PowAt Lib.TabIs World.var? at *
  cases hg : Tryz.prog.globalNamed "internal/strconv.uint64pow10" with
  | none => rw [hg] at h; cases h
  | some g =>
    rw [hg] at h
    simp only [Option.bind_some] at h ⊢
    cases hc : w.heap[g]? with
    | none => rw [hc] at h; cases h
    | some o =>
      cases o with
      | cells cs t a => rw [hb g cs t a hc]; exact h
      | _ => rw [hc] at h; cases h
theorem PowAt.but {R Q : Nat} {w w' : World} (h : PowAt w) (hb : But2 R Q w w') (hR : ∃ es c, w.heap[R]? = some (.map es c)) (hQ : ∃ es c, w.heap[Q]? = some (.map es c)) : PowAt w' :=
  h.cells fun g cs t a hg => hb.block g (Array.getElem?_eq_some_iff.1 hg).1 (fun e => by obtain ⟨es, c, hm⟩ := hR; subst e; rw [hg] at hm; cases hm) (fun e => by obtain ⟨es, c, hm⟩ := hQ; subst e; rw [hg] at hm; cases hm)
theorem NamesAt.pow {g1 c1 gm cm : Nat} {σ : List Sy} {W W' : World} (h : NamesAt g1 c1 gm cm σ W) (b : But2 gm cm W W') (hp : PowAt W) : PowAt W' := by
  obtain ⟨S, hS⟩ := h.counts
  exact hp.but b h.given.isMap hS.isMap
theorem kind_len (s : Sy) (h : s.ar ≤ 1000000) : s.kind.length ≤ 9 := by
  unfold Sy.kind
  split
  · simp
  · have := itoa_len16 (n := s.ar) (by omega)
    simp; omega
end Go.Proofs.YtppfalbnhnpbnaaGreatDoor
