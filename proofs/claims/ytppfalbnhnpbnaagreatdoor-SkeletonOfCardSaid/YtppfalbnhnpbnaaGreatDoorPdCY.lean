/- syntax.visit and walk: a formula's parts, in order, as they lie. Conditions: those of each statement. -/
import Derived.Test.YtppfalbnhnpbnaaGreatDoorKyAY
import Derived.Test.YtppfalbnhnpbnaaGreatDoorRnAY
import Derived.Test.YtppfalbnhnpbnaaGreatDoorNtBY
set_option linter.unusedSimpArgs false
set_option linter.unusedVariables false
namespace Go.Proofs.YtppfalbnhnpbnaaGreatDoor
open Go Go.RowKit Ly
set_option maxRecDepth 10000
attribute [local go_sem] Oper.semAt_some
def fmV (w : World) (bb off : Nat) : Value := .agg #[(w.cell? ⟨bb, off, none⟩).getD undef, (w.cell? ⟨bb, off + 1, none⟩).getD undef, (w.cell? ⟨bb, off + 2, none⟩).getD undef, (w.cell? ⟨bb, off + 3, none⟩).getD undef]
def subAddr : Value → Nat × Nat
  | .agg a => match (a[3]? : Option Value) with
    | some (Value.slice (some ad) _ _) => (ad.block, ad.off)
    | _ => (0, 0)
  | _ => (0, 0)
mutual
def partsL (w : World) : Fm → Value → List Value
  | .mk _ _ _ fs, x => x :: fmsL w fs (subAddr x).1 (subAddr x).2
def fmsL (w : World) : List Fm → Nat → Nat → List Value
  | [], _, _ => []
  | g :: gs, bb, off => partsL w g (fmV w bb off) ++ fmsL w gs bb (off + 4)
end
theorem fmsL_take (w : World) (bb : Nat) : ∀ (fs : List Fm) (off j : Nat) {g : Fm}, fs[j]? = some g → fmsL w (fs.take (j + 1)) bb off = fmsL w (fs.take j) bb off ++ partsL w g (fmV w bb (off + j * 4))
  | [], _, _, _, h => by simp at h
  | x :: fs, off, 0, g, h => by simp at h; subst h; simp [fmsL]
  | x :: fs, off, j + 1, g, h => by
    have := fmsL_take w bb fs (off + 4) j (g := g) (by simpa using h)
    rw [show off + 4 + j * 4 = off + (j + 1) * 4 by omega] at this
    simp only [List.take_succ_cons, fmsL, this, List.append_assoc]
theorem fmsL_pre (w : World) (bb : Nat) : ∀ (fs : List Fm) (off j : Nat), fmsL w (fs.take j) bb off <+: fmsL w fs bb off
  | [], _, _ => by simp
  | x :: fs, off, 0 => by simp [fmsL]
  | x :: fs, off, j + 1 => by
    simp only [List.take_succ_cons, fmsL]
    exact (List.prefix_append_right_inj _).2 (fmsL_pre w bb fs (off + 4) j)
def YieldsV (m r n : Nat) (J : List Value → World → Prop) (l : List Value) : Prop :=
  ∀ pre x W1, J pre W1 → pre ++ [x] <+: l → YieldAt Fence.wide n Tryz.prog r #[x] W1 fun e W' => e = .returned (.bool true) ∧ J (pre ++ [x]) W' ∧ Rounds m W1 W'
def VW (w0 : World) (m r : Nat) (l : List Value) (J : List Value → World → Prop) (f : Fm) : Prop :=
  ∀ (n : Nat) (pre : List Value) (W : World) (x : Value), FmVal w0 f x → Keeps w0 W → J pre W → pre ++ partsL w0 f x <+: l →
    CallsIn Fence.wide n Tryz.prog 203 #[x, .func (.yield r) #[] #[]] W fun e W' => e = .returned (.bool true) ∧ J (pre ++ partsL w0 f x) W' ∧ Rounds m W W'
set_option maxHeartbeats 4000000 in
theorem vw_step {w0 : World} {m r B : Nat} {l : List Value} {J : List Value → World → Prop} (hY : ∀ n, YieldsV m r n J l) (hM : ∀ s A X, J s A → Moves B A X → J s X) (op : Int) (nm : Bs) (ts : List Tm) (fs : List Fm) (ih : ∀ f ∈ fs, VW w0 m r l J f) : VW w0 m r l J (.mk op nm ts fs) := by
  intro n pre W x hx0 hk0 hJ hp
  obtain ⟨a, N, c, b, N2, d, rfl, hx, hy⟩ : ∃ a N c b N2 d, x = .agg #[.int .u8 op, str nm, .slice a N c, .slice b N2 d] ∧ TmsAt w0 ts (.slice a N c) ∧ FmsAt w0 fs (.slice b N2 d) := hx0
  have hl := hy.len
  obtain ⟨bb, off, hbo⟩ : ∃ bb off, subAddr (.agg #[.int .u8 op, str nm, .slice a N c, .slice b N2 d]) = (bb, off) := ⟨_, _, rfl⟩
  have hpl : partsL w0 (.mk op nm ts fs) (.agg #[.int .u8 op, str nm, .slice a N c, .slice b N2 d]) = .agg #[.int .u8 op, str nm, .slice a N c, .slice b N2 d] :: fmsL w0 fs bb off := by rw [partsL, hbo]
  rw [hpl] at hp ⊢
  have N1 : N2 ≤ 9223372036854775807 := le63 (Nat.le_trans hl.2.1 hl.2.2)
  obtain ⟨p1, hp1⟩ : ∃ p1, pre ++ [Value.agg #[.int .u8 op, str nm, .slice a N c, .slice b N2 d]] = p1 := ⟨_, rfl⟩
  have hp2 : p1 ++ fmsL w0 fs bb off <+: l := by rw [← hp1, List.append_assoc]; exact hp
  have he : pre ++ Value.agg #[.int .u8 op, str nm, .slice a N c, .slice b N2 d] :: fmsL w0 fs bb off = p1 ++ fmsL w0 fs bb off := by rw [← hp1]; simp
  rw [he]
  obtain ⟨W1, hW1⟩ : ∃ W1, W.alloc (.cells #[.int .u8 op, str nm, .slice a N c, .slice b N2 d] 40) = W1 := ⟨_, rfl⟩
  have r0 : W1.heap[W.heap.size]? = some (.cells #[.int .u8 op, str nm, .slice a N c, .slice b N2 d] 40 (0, 0)) := by rw [← hW1]; exact heap_alloc_new W _
  have J1 : J pre W1 := by rw [← hW1]; exact hM _ _ _ hJ (moves_alloc B W _)
  have R1 : Hid (Rounds m W W1) := by rw [← hW1]; exact rounds_alloc m W _
  obtain ⟨fn, tmps, assign, body, hyd, hR⟩ := hY (n - 1) pre _ W1 J1 (show pre ++ [Value.agg #[.int .u8 op, str nm, .slice a N c, .slice b N2 d]] <+: l from by rw [hp1]; exact List.IsPrefix.trans (List.prefix_append _ _) hp2)
  rw [hp1] at hR
  have HR := Lib.hid hR
  have L2 := Lib.hid hl.1
  have HY := Lib.hid hy
  have HP := Lib.hid hp2
  have HM := Lib.hid hM
  have IH := Lib.hid ih
  have HK0 := Lib.hid hk0
  have HBO : Hid (∀ bb' off', b = some ⟨bb', off', none⟩ → bb = bb' ∧ off = off') := fun bb' off' e => by
    subst e
    simp [subAddr] at hbo
    exact ⟨hbo.1.symm, hbo.2.symm⟩
  have R0 := Lib.hid r0
  obtain ⟨⟨y0, y1, y2, y3⟩, -⟩ := row40 r0
  clear hl hx hy hp hM ih hJ hp1 hY hbo hpl hp2 he r0 J1 hR hk0
  refine callsIn_of_wp Tryz.func203 rfl trivial ?_ rfl
  simp only [Tryz.ntmps203, List.size_toArray, List.length_cons, List.length_nil, Nat.reduceAdd, Nat.reduceSub, Array.replicate_succ, Array.replicate_zero, List.push_toArray, List.append_toArray, List.nil_append, List.cons_append]
  gi_wp2
  refine ⟨fun h => absurd h (by decide), HR.out.mono ?_⟩
  rintro e W3 ⟨rfl, hj3, hk3⟩
  have J3 : Hid (J p1 W3 ∧ Rounds m W W3) := ⟨hj3, R1.out.trans hk3⟩
  have R3 : Hid (W3.heap[W.heap.size]? = some (.cells #[.int .u8 op, str nm, .slice a N c, .slice b N2 d] 40 (0, 0))) := hk3.keeps R0.out
  clear hj3 hk3 y0 y1 y2 y3 hyd HR hW1
  obtain ⟨⟨y0, y1, y2, y3⟩, -⟩ := row40 R3.out
  gi_wp2
  gi_loopw [14] (fun i wr => ∃ j : Nat, j ≤ N2 ∧ i = .int .i64 j ∧ Hid (J (p1 ++ fmsL w0 (fs.take j) bb off) wr ∧ Rounds m W wr)) (fun i _ => N2 - (intOf i).toNat)
  case atStart => exact ⟨0, Nat.zero_le _, rfl, by simpa [fmsL] using J3.out.1, J3.out.2⟩
  case round =>
    obtain ⟨j, hj, rfl, hs⟩ := hrel
    clear J3
    by_cases hlt : j < N2
    · obtain ⟨T, hT⟩ := get_of_lt (l := fs) (j := j) (by rw [← L2.out]; exact hlt)
      obtain ⟨gb, go, rfl, hc⟩ := HY.out.get (ne_of_get hT)
      obtain ⟨x0, x1, x2, x3, x4, x5, hx⟩ := hc j _ hT
      obtain ⟨rfl, rfl⟩ := HBO.out _ _ rfl
      have hK : Keeps w0 wr := HK0.out.trans (Rounds.cells hs.out.2)
      have c0 := hK _ _ hx.c0; have c1 := hK _ _ hx.c1; have c2 := hK _ _ hx.c2; have c3 := hK _ _ hx.c3
      have HT := Lib.hid (List.mem_of_getElem? hT)
      have fv : fmV w0 bb (off + j * 4) = .agg #[.int .u8 T.op, str T.name, .slice x0 x1 x2, .slice x3 x4 x5] := by simp [fmV, hx.c0, hx.c1, hx.c2, hx.c3]
      have TE := fmsL_take w0 bb fs off j hT
      rw [fv] at TE
      have TE := Lib.hid TE
      have IC : Hid (∀ n o, CallsIn Fence.wide n Tryz.prog 203 #[.agg #[.int .u8 T.op, str T.name, .slice x0 x1 x2, .slice x3 x4 x5], .func (.yield r) #[] #[]] (wr.alloc o) fun e W' => e = .returned (.bool true) ∧ J (p1 ++ fmsL w0 (fs.take (j + 1)) bb off) W' ∧ Rounds m (wr.alloc o) W') := fun n o => by
        have kk : Rounds m W (wr.alloc o) := hs.out.2.trans (rounds_alloc m wr o)
        have := IH.out T HT.out n (p1 ++ fmsL w0 (fs.take j) bb off) (wr.alloc o) (.agg #[.int .u8 T.op, str T.name, .slice x0 x1 x2, .slice x3 x4 x5]) ⟨_, _, _, _, _, _, rfl, hx.at_, hx.at'⟩ (HK0.out.trans (Rounds.cells kk)) (HM.out _ _ _ hs.out.1 (moves_alloc B wr o)) (by
          rw [List.append_assoc, ← TE.out]
          exact List.IsPrefix.trans ((List.prefix_append_right_inj _).2 (fmsL_pre w0 bb fs off (j + 1))) HP.out)
        rw [TE.out, ← List.append_assoc]
        exact this
      clear hc hx hT hK fv
      gi_wp2_with (refine ⟨trivial, fun h => absurd h (by decide), ?_⟩; gi_at_call 203; refine (IC.out _ _).mono ?_; rintro e W4 ⟨rfl, hj4, hr4⟩; have J4 := Lib.hid hj4; have R4 := Lib.hid hr4; clear hj4 hr4)
      go_roundw
      case rel => exact ⟨j + 1, by omega, by go_num, J4.out, hs.out.2.trans ((rounds_alloc m wr _).trans R4.out)⟩
      case measure => simp [intOf]; omega
    · have e : fs.take j = fs := List.take_of_length_le (by rw [← L2.out]; omega)
      gi_wp2
      go_ret
      exact ⟨rfl, by have := hs.out.1; rw [e] at this; exact this, hs.out.2⟩
mutual
theorem vw_all {w0 : World} {m r B : Nat} {l : List Value} {J : List Value → World → Prop} (hY : ∀ n, YieldsV m r n J l) (hM : ∀ s A X, J s A → Moves B A X → J s X) : ∀ f : Fm, VW w0 m r l J f
  | .mk op nm ts fs => vw_step hY hM op nm ts fs (vw_each hY hM fs)
theorem vw_each {w0 : World} {m r B : Nat} {l : List Value} {J : List Value → World → Prop} (hY : ∀ n, YieldsV m r n J l) (hM : ∀ s A X, J s A → Moves B A X → J s X) : ∀ fs : List Fm, ∀ f ∈ fs, VW w0 m r l J f
  | [], _, h => by cases h
  | x :: xs, f, h => by
    rcases List.mem_cons.1 h with e | e
    · rw [e]; exact vw_all hY hM x
    · exact vw_each hY hM xs f e
end
theorem walk_c (f a b c : Value) (w : World) : Calls Tryz.prog 161 #[.agg #[f, a, b, c]] w fun e w' => e = .returned (.func (.func 202) #[] #[one w.heap.size]) ∧ w' = w.alloc (.cells #[f, a, b, c] 40) := by
  go_enter Tryz.func161, Tryz.ntmps161
  go_wp2
  go_ret
  exact ⟨rfl, rfl⟩
set_option maxHeartbeats 2000000 in
theorem walk_seq (n : Nat) (f : Fm) (x0 x1 x2 x3 : Value) (m cf : Nat) (w0 : World) (hf : w0.heap[cf]? = some (.cells #[x0, x1, x2, x3] 40 (0, 0))) (hx : FmVal w0 f (.agg #[x0, x1, x2, x3])) :
    SeqMap Fence.wide n Tryz.prog 202 #[one cf] id m (partsL w0 f (.agg #[x0, x1, x2, x3])) w0 := by
  intro r J W hW hJ hY h0
  have hF := (hW.block cf (Array.getElem?_eq_some_iff.1 hf).1).trans hf
  obtain ⟨⟨y0, y1, y2, y3⟩, -⟩ := row40 hF
  have hYs : ∀ n', YieldsV m r n' J (partsL w0 f (.agg #[x0, x1, x2, x3])) := fun n' pre x W1 h1 h2 => yield_any n' (hY pre x W1 h1 h2)
  have V := vw_all (w0 := w0) (m := m) (r := r) (B := W.heap.size) (l := partsL w0 f (.agg #[x0, x1, x2, x3])) (J := J) hYs hJ f
  have VV : Hid (∀ n, CallsIn Fence.wide n Tryz.prog 203 #[.agg #[x0, x1, x2, x3], .func (.yield r) #[] #[]] W fun e W' => e = .returned (.bool true) ∧ J (partsL w0 f (.agg #[x0, x1, x2, x3])) W') := fun n => (V n [] _ _ hx (keeps_of_below hW) h0 (by simp)).mono fun e W' h => ⟨h.1, by simpa using h.2.1⟩
  clear V hYs hF hx hf hJ hY
  refine callsIn_of_wp Tryz.func202 rfl trivial ?_ rfl
  simp only [Tryz.ntmps202, List.size_toArray, List.length_cons, List.length_nil, Nat.reduceAdd, Nat.reduceSub, Array.replicate_succ, Array.replicate_zero, List.push_toArray, List.append_toArray, List.nil_append, List.cons_append]
  gi_wp2_with (refine ⟨trivial, fun h => absurd h (by decide), ?_⟩; gi_at_call 203; refine (VV.out _).mono ?_; rintro e w2 ⟨rfl, hj⟩; have HJ := Lib.hid hj; clear hj)
  go_end0
  exact ⟨⟨_, rfl⟩, HJ.out⟩
end Go.Proofs.YtppfalbnhnpbnaaGreatDoor
namespace Go.Proofs.YtppfalbnhnpbnaaGreatDoor
open Go Go.RowKit Ly
set_option maxRecDepth 10000
attribute [local go_sem] Oper.semAt_some
def encX (s : Bs × Nat) : Value := .agg #[str s.1, .int .i64 s.2]
def okX (s : Bs × Nat) : Prop := s.1.length ≤ maxLen ∧ s.2 ≤ 1000000
def litX (s : Bs × Nat) : Lit := .string (keyBytes [.string s.1, .int .i64 s.2])
theorem keyOfX (s : Bs × Nat) (h : okX s) : keyOf Tryz.prog 51 (encX s) = some (litX s) := by
  obtain ⟨D, hD⟩ := types3
  have hl := lits51 (D + 1) s.1 s.2 h.1 (int_wf h.2)
  have hf : (encX s).formed Tryz.prog 51 = true := by simp [encX, Value.formed, Tryz.underlying51, cells51]
  have hk : Tryz.prog.keyType 51 = true := by kernel_rfl
  unfold keyOf
  rw [Tryz.underlying51]
  simp only [hk, hf, Bool.and_self, if_true, hD]
  show Option.map _ (Tryz.prog.keyLits (D + 3) 51 [str s.1, .int .i64 s.2]) = _
  rw [hl]
  rfl
theorem encX_inj (s t : Bs × Nat) (h : encX s = encX t) : s = t := by
  obtain ⟨a, b⟩ := s
  obtain ⟨a', b'⟩ := t
  simp only [encX, Value.agg.injEq, Array.mk.injEq, List.cons.injEq, and_true] at h
  obtain ⟨h1, h2⟩ := h
  have e1 := str_inj h1
  simp only [Value.int.injEq, true_and] at h2
  have e2 : b = b' := by omega
  subst e1 e2
  rfl
theorem keyX : KeyG Tryz.prog 51 encX okX litX := ⟨Maps.Keyed.of_law law51, keyOfX, encX_inj⟩
theorem map186 : Tryz.prog.underlying 186 = some (.map 51 4) := by kernel_rfl
def SymsAt (w : World) (M n : Nat) (l : List (Bs × Nat)) : Prop := MapG Tryz.prog 51 okX litX (.bool false) w M n (fun s => decide (s ∈ l)) (fun s => .bool (decide (s ∈ l)))
theorem SymsAt.heap {w w' : World} {M n : Nat} {l : List (Bs × Nat)} (h : SymsAt w M n l) (e : w'.heap[M]? = w.heap[M]?) : SymsAt w' M n l := MapG.heap h e
theorem SymsAt.lt {w : World} {M n : Nat} {l : List (Bs × Nat)} (h : SymsAt w M n l) : M < w.heap.size := MapG.lt h
theorem SymsAt.put {w : World} {M n : Nat} {l : List (Bs × Nat)} {x : Bs × Nat} (h : MapG Tryz.prog 51 okX litX (.bool false) w M n (fun u => if u = x then true else decide (u ∈ l)) (fun u => if u = x then .bool true else .bool (decide (u ∈ l)))) : SymsAt w M n (l ++ [x]) := by
  refine h.cong (fun s hs => ?_) (fun s hs => ?_)
  · by_cases e : s = x <;> simp [e]
  · by_cases e : s = x <;> simp [e]
theorem SymsAt.made (w : World) : SymsAt (w.alloc (.map #[] 0)) w.heap.size 0 [] := (MapG.made (P := Tryz.prog) (k := 51) (ok := okX) (lit := litX) (z := .bool false) w).cong (fun _ _ => by simp) (fun _ _ => by simp)
def topPred : Value → List (Bs × Nat)
  | .agg a => match (a[0]? : Option Value), (a[1]? : Option Value), (a[2]? : Option Value) with
    | some (Value.int _ op), some (Value.string s), some (Value.slice _ n _) => if op = 1 then [(s.data.toList, n)] else []
    | _, _, _ => []
  | _ => []
theorem topPred_at (op : Int) (nm : Bs) (a : Option Addr) (n c : Nat) (v : Value) : topPred (.agg #[.int .u8 op, str nm, .slice a n c, v]) = if op = 1 then [(nm, n)] else [] := by
  simp [topPred]
def formV (x : Value) : Prop := ∃ (op : Int) (nm : Bs) (a : Option Addr) (n c : Nat) (b : Option Addr) (m d : Nat), x = .agg #[.int .u8 op, str nm, .slice a n c, .slice b m d] ∧ (op = 1 → nm.length ≤ maxLen ∧ n ≤ 1000000) ∧ n ≤ maxLen
mutual
theorem partsL_preds {w : World} : ∀ (f : Fm) (x : Value), FmVal w f x → (partsL w f x).flatMap topPred = f.preds
  | .mk op nm ts fs, x, h => by
    obtain ⟨a, n, c, b, m, d, rfl, hx, hy⟩ : ∃ a N c b N2 d, x = .agg #[.int .u8 op, str nm, .slice a N c, .slice b N2 d] ∧ TmsAt w ts (.slice a N c) ∧ FmsAt w fs (.slice b N2 d) := h
    rw [partsL, List.flatMap_cons, topPred_at, Fm.preds, hx.len.1]
    congr 1
    cases fs with
    | nil => simp [fmsL, fmsPreds]
    | cons g gs =>
      obtain ⟨bb, off, rfl, hc⟩ := hy.get (by simp)
      exact fmsL_preds (g :: gs) bb off hc
theorem fmsL_preds {w : World} : ∀ (fs : List Fm) (bb off : Nat), (∀ (i : Nat) (f : Fm), fs[i]? = some f → ∃ x k e y m d, FmCells w bb (off + i * 4) f x k e y m d) → (fmsL w fs bb off).flatMap topPred = fmsPreds fs
  | [], _, _, _ => rfl
  | g :: gs, bb, off, h => by
    obtain ⟨x, k, e, y, m, d, hc⟩ := h 0 g rfl
    rw [fmsL, List.flatMap_append, fmsPreds]
    have fv : fmV w bb off = .agg #[.int .u8 g.op, str g.name, .slice x k e, .slice y m d] := by
      have := hc.c0; have := hc.c1; have := hc.c2; have := hc.c3
      simp_all [fmV]
    rw [partsL_preds g _ (by rw [fv]; exact ⟨_, _, _, _, _, _, rfl, hc.at_, hc.at'⟩), fmsL_preds gs bb (off + 4) (fun i f hf => by
      have := h (i + 1) f (by simpa using hf)
      rwa [show off + 4 + i * 4 = off + (i + 1) * 4 by omega])]
end
mutual
theorem partsL_form {w : World} : ∀ (f : Fm) (x : Value), FmVal w f x → f.ok = true → ∀ y ∈ partsL w f x, formV y
  | .mk op nm ts fs, x, h, ho, y, hy' => by
    obtain ⟨a, n, c, b, m, d, rfl, hx, hy⟩ : ∃ a N c b N2 d, x = .agg #[.int .u8 op, str nm, .slice a N c, .slice b N2 d] ∧ TmsAt w ts (.slice a N c) ∧ FmsAt w fs (.slice b N2 d) := h
    rw [partsL] at hy'
    unfold Fm.ok at ho
    simp only [Bool.and_eq_true] at ho
    rcases List.mem_cons.1 hy' with rfl | hy'
    · refine ⟨op, nm, a, n, c, b, m, d, rfl, fun e => ?_, Nat.le_trans hx.len.2.1 hx.len.2.2⟩
      have := ho.1.1.2
      rw [if_pos e, Bool.and_eq_true, decide_eq_true_eq] at this
      have h1 := checker_len this.1
      have h2 := hx.len.1
      exact ⟨by unfold maxLen; omega, by omega⟩
    · cases fs with
      | nil => simp [fmsL] at hy'
      | cons g gs =>
        obtain ⟨bb, off, rfl, hc⟩ := hy.get (by simp)
        exact fmsL_form (g :: gs) bb off hc ho.2 y hy'
theorem fmsL_form {w : World} : ∀ (fs : List Fm) (bb off : Nat), (∀ (i : Nat) (f : Fm), fs[i]? = some f → ∃ x k e y m d, FmCells w bb (off + i * 4) f x k e y m d) → fmsOk fs = true → ∀ y ∈ fmsL w fs bb off, formV y
  | [], _, _, _, _, y, hy => by simp [fmsL] at hy
  | g :: gs, bb, off, h, ho, y, hy' => by
    obtain ⟨x, k, e, z, m, d, hc⟩ := h 0 g rfl
    rw [fmsOk, Bool.and_eq_true] at ho
    rw [fmsL] at hy'
    have fv : fmV w bb off = .agg #[.int .u8 g.op, str g.name, .slice x k e, .slice z m d] := by
      have := hc.c0; have := hc.c1; have := hc.c2; have := hc.c3
      simp_all [fmV]
    rcases List.mem_append.1 hy' with hy' | hy'
    · exact partsL_form g _ (by rw [fv]; exact ⟨_, _, _, _, _, _, rfl, hc.at_, hc.at'⟩) ho.1 y hy'
    · exact fmsL_form gs bb (off + 4) (fun i f hf => by
        have := h (i + 1) f (by simpa using hf)
        rwa [show off + 4 + i * 4 = off + (i + 1) * 4 by omega]) ho.2 y hy'
end
mutual
theorem preds_ok : ∀ f : Fm, f.ok = true → ∀ s ∈ f.preds, okX s
  | .mk op nm ts fs, h, s, hs => by
    unfold Fm.ok at h
    simp only [Bool.and_eq_true] at h
    rw [Fm.preds] at hs
    rcases List.mem_append.1 hs with hs | hs
    · split at hs
      · next e =>
        simp at hs
        subst hs
        have := h.1.1.2
        rw [if_pos e, Bool.and_eq_true, decide_eq_true_eq] at this
        have h1 := checker_len this.1
        have h2 := this.2
        exact ⟨by show nm.length ≤ maxLen; unfold maxLen; omega, by show ts.length ≤ _; omega⟩
      · simp at hs
    · exact fmsPreds_ok fs h.2 s hs
theorem fmsPreds_ok : ∀ fs : List Fm, fmsOk fs = true → ∀ s ∈ fmsPreds fs, okX s
  | [], _, s, hs => by simp [fmsPreds] at hs
  | f :: fs, h, s, hs => by
    rw [fmsOk, Bool.and_eq_true] at h
    rw [fmsPreds] at hs
    rcases List.mem_append.1 hs with hs | hs
    · exact preds_ok f h.1 s hs
    · exact fmsPreds_ok fs h.2 s hs
end
mutual
theorem preds_len : ∀ f : Fm, f.preds.length ≤ f.nodes
  | .mk op nm ts fs => by
    have := fmsPreds_len fs
    rw [Fm.preds, Fm.nodes, List.length_append]
    split <;> simp <;> omega
theorem fmsPreds_len : ∀ fs : List Fm, (fmsPreds fs).length ≤ fmsNodes fs
  | [] => by simp [fmsPreds]
  | f :: fs => by
    have := preds_len f
    have := fmsPreds_len fs
    simp [fmsPreds, fmsNodes]; omega
end
end Go.Proofs.YtppfalbnhnpbnaaGreatDoor
namespace Go.Proofs.YtppfalbnhnpbnaaGreatDoor
open Go Go.RowKit Ly
set_option maxRecDepth 10000
attribute [local go_sem] Oper.semAt_some
def symsD (l : List (Bs × Nat)) : List D := l.flatMap (fun s => [.val (str s.1), .val (.int .i64 s.2)])
def SymsList (w : World) (l : List (Bs × Nat)) (v : Value) : Prop := At w (.sl 2 l.length (symsD l)) v
def SortedC : Prop := ∀ (W : World) (M n : Nat) (l : List (Bs × Nat)), SymsAt W M n l → n ≤ 100000 → (∀ s ∈ l, okX s) →
  Calls Tryz.prog 162 #[.map (some M)] W fun e w' => ∃ L v, e = .returned v ∧ (∀ s, s ∈ L ↔ s ∈ l) ∧ SymsList w' L v ∧ Below W.heap.size W w' ∧ L.length ≤ 100000
structure PredI (w : World) (m : Nat) (pre : List Value) (W : World) : Prop where
  set : SymsAt W m (pre.flatMap topPred).length (pre.flatMap topPred)
  cell : W.heap[m + 1]? = some (.cells #[.map (some m)] 186 (0, 0))
  below : Below w.heap.size w W
set_option maxHeartbeats 4000000 in
theorem Predicates_c (hS : SortedC) (f : Fm) (x : Value) (w : World) (hx0 : FmVal w f x) (hok : f.ok = true) (hn : f.nodes ≤ 100000) :
    Calls Tryz.prog 108 #[x] w fun e w' => ∃ L v, e = .returned v ∧ (∀ s, s ∈ L ↔ s ∈ f.preds) ∧ SymsList w' L v ∧ Below w.heap.size w w' ∧ L.length ≤ 100000 := by
  obtain ⟨a, n, c, b, m', d, rfl, hx, hy⟩ := hx0
  obtain ⟨W0, hW0⟩ : ∃ W0, ((w.alloc (.cells #[.int .u8 f.op, str f.name, .slice a n c, .slice b m' d] 40)).alloc (.map #[] 0)).alloc (.cells #[.map (some (w.heap.size + 1))] 186) = W0 := ⟨_, rfl⟩
  obtain ⟨W1, hW1⟩ : ∃ W1, W0.alloc (.cells #[.int .u8 f.op, str f.name, .slice a n c, .slice b m' d] 40) = W1 := ⟨_, rfl⟩
  have b0 : Below w.heap.size w W0 := by rw [← hW0]; exact (((Below.refl _ _).alloc (Nat.le_refl _) _).alloc (by simp) _).alloc (by simp; omega) _
  have s0 : W0.heap.size = w.heap.size + 3 := by rw [← hW0]; simp
  have b1 : Below w.heap.size w W1 := by rw [← hW1]; exact b0.alloc (by omega) _
  have s1 : W1.heap.size = w.heap.size + 4 := by rw [← hW1]; simp [s0]
  have r0 : W0.heap[w.heap.size]? = some (.cells #[.int .u8 f.op, str f.name, .slice a n c, .slice b m' d] 40 (0, 0)) := by rw [← hW0]; exact keep_new _ (keep_new _ (heap_alloc_new w _))
  have g1 : W1.heap[W0.heap.size]? = some (.cells #[.int .u8 f.op, str f.name, .slice a n c, .slice b m' d] 40 (0, 0)) := by rw [← hW1]; exact heap_alloc_new W0 _
  have I0 : PredI w (w.heap.size + 1) [] W1 := by
    refine ⟨?_, ?_, b1⟩
    · have e : W1.heap[w.heap.size + 1]? = ((w.alloc (.cells #[.int .u8 f.op, str f.name, .slice a n c, .slice b m' d] 40)).alloc (.map #[] 0)).heap[w.heap.size + 1]? := by
        rw [← hW1, Below.heap_alloc _ _ _ (by omega), ← hW0, Below.heap_alloc _ _ _ (by simp)]
      have := SymsAt.made (w.alloc (.cells #[.int .u8 f.op, str f.name, .slice a n c, .slice b m' d] 40))
      rw [World.size_alloc] at this
      exact this.heap e
    · rw [← hW1]
      refine keep_new _ ?_
      rw [← hW0]
      have := heap_alloc_new ((w.alloc (.cells #[.int .u8 f.op, str f.name, .slice a n c, .slice b m' d] 40)).alloc (.map #[] 0)) (.cells #[.map (some (w.heap.size + 1))] 186)
      rw [World.size_alloc, World.size_alloc] at this
      exact this
  have K1 := keeps_of_below b1
  have fv1 : FmVal W1 f (.agg #[.int .u8 f.op, str f.name, .slice a n c, .slice b m' d]) := ⟨_, _, _, _, _, _, rfl, hx.keep K1, hy.keep K1⟩
  obtain ⟨l, hl⟩ : ∃ l, partsL W1 f (.agg #[.int .u8 f.op, str f.name, .slice a n c, .slice b m' d]) = l := ⟨_, rfl⟩
  have FS : ∀ n', SeqMap Fence.wide n' Tryz.prog 202 #[one W0.heap.size] id (w.heap.size + 1) l W1 := fun n' => by
    rw [← hl]; exact walk_seq n' f _ _ _ _ (w.heap.size + 1) W0.heap.size W1 g1 fv1
  have HF : Hid (∀ y ∈ l, formV y) := by rw [← hl]; exact partsL_form f _ fv1 hok
  have HPR : Hid (l.flatMap topPred = f.preds) := by rw [← hl]; exact partsL_preds f _ fv1
  have HLN : Hid (f.preds.length ≤ 100000) := by have := preds_len f; show _ ≤ _; omega
  have HOK : Hid (∀ s ∈ f.preds, okX s) := fun s hs => preds_ok f hok s hs
  have HS := Lib.hid hS
  have S1 := Lib.hid s1
  have S0 := Lib.hid s0
  obtain ⟨⟨y0, y1, y2, y3⟩, -⟩ := row40 r0
  clear hx hy hok hn hS K1 fv1 hl b0 b1 r0 g1 s0 s1
  refine (callsIn_wide (n := 6)).1 ?_
  refine callsIn_of_wp_marks Tryz.func108 rfl trivial ?_ rfl
  have hmm := @run_makeMap Tryz.prog
  simp only [Tryz.ntmps108, List.size_toArray, List.length_cons, List.length_nil, Nat.reduceAdd, Nat.reduceSub, Array.replicate_succ, Array.replicate_zero, List.push_toArray, List.append_toArray, List.nil_append, List.cons_append]
  gi_wp2_with (refine ⟨trivial, ?_⟩; gi_at_call 161; refine callsIn_wide.2 ((walk_c _ _ _ _ _).mono ?_); rintro e w2 ⟨rfl, rfl⟩)
  clear hW1 hW0 hmm y0 y1 y2 y3
  refine wp_rangeMap (w0 := W1) (a := ⟨#[.agg #[.int .u8 f.op, str f.name, .slice a n c, .slice b m' d], one w.heap.size, .slice none 0 0, one (w.heap.size + 1 + 1), undef, .map (some (w.heap.size + 1)), .agg #[.int .u8 f.op, str f.name, .slice a n c, .slice b m' d], .func (.func 202) #[] #[one W0.heap.size], undef, undef, undef, undef, undef, undef, undef, undef, undef, undef, undef, undef, undef], []⟩) rfl (by decide) (gf := 202) (lb := #[one W0.heap.size]) rfl trivial (enters_of Tryz.func202 (by kernel_rfl) rfl) (by have := S1.out; omega) (FS 5) (Below.refl _ _) rfl
    (PredI w (w.heap.size + 1)) (fun s A X h hA hb => ⟨h.set.heap (hb.block _ (by have := S1.out; omega)), (hb.block _ (by have := S1.out; omega)).trans h.cell, h.below.trans (hb.mono (by have := S1.out; omega))⟩) I0
    (fun x ac W => ∃ (op : Int) (nm : Bs) (xa : Option Addr) (xn xc : Nat) (xb : Option Addr) (xm xd g : Nat), x = .agg #[.int .u8 op, str nm, .slice xa xn xc, .slice xb xm xd] ∧ (op = 1 → nm.length ≤ maxLen ∧ xn ≤ 1000000) ∧ xn ≤ maxLen ∧ W.heap[g]? = some (.cells #[.int .u8 op, str nm, .slice xa xn xc, .slice xb xm xd] 40 (0, 0)) ∧
      ac = ⟨#[.agg #[.int .u8 f.op, str f.name, .slice a n c, .slice b m' d], one w.heap.size, .slice none 0 0, one (w.heap.size + 1 + 1), one g, .map (some (w.heap.size + 1)), .agg #[.int .u8 f.op, str f.name, .slice a n c, .slice b m' d], .func (.func 202) #[] #[one W0.heap.size], .agg #[.int .u8 op, str nm, .slice xa xn xc, .slice xb xm xd], undef, undef, undef, undef, undef, undef, undef, undef, undef, undef, undef, undef], []⟩)
    (fun x ac A X h hk => by
      obtain ⟨op, nm, xa, xn, xc, xb, xm, xd, g, h1, h2, h2', h3, h4⟩ := h
      exact ⟨op, nm, xa, xn, xc, xb, xm, xd, g, h1, h2, h2', hk _ _ h3 rfl, h4⟩) ?assign ?body ?done
  case assign =>
    intro r pre x W K hsz hi hp hK
    obtain ⟨op, nm, xa, xn, xc, xb, xm, xd, rfl, h2, h3⟩ := HF.out x (hp.subset (by simp))
    gi_wp2
    refine hK _ _ (Turns.of_below ((Below.refl _ _).alloc (Nat.le_refl _) _)) ?_ ⟨op, nm, xa, xn, xc, xb, xm, xd, W.heap.size, rfl, h2, h3, heap_alloc_new W _, rfl⟩
    have bb : Below W.heap.size W (W.alloc (.cells #[.int .u8 op, str nm, .slice xa xn xc, .slice xb xm xd] 40)) := (Below.refl _ _).alloc (Nat.le_refl _) _
    exact ⟨hi.set.heap (bb.block _ hi.set.lt), (bb.block _ (Array.getElem?_eq_some_iff.1 hi.cell).1).trans hi.cell, hi.below.trans (bb.mono hi.below.size)⟩
  case body =>
    rintro r pre x W ac hsz hi ⟨op, nm, xa, xn, xc, xb, xm, xd, g, rfl, h2, h2', hg, rfl⟩ hp
    obtain ⟨y0, -⟩ := row1 hi.cell
    obtain ⟨⟨z0, z1, z2, z3⟩, -⟩ := row40 hg
    have HI := Lib.hid hi
    have HP := Lib.hid hp
    have H2 := Lib.hid h2
    have N1 : xn ≤ 9223372036854775807 := le63 h2'
    have TP := topPred_at op nm xa xn xc (.slice xb xm xd)
    clear hi hg hp h2 h2'
    by_cases hop : op = 1
    · subst hop
      rw [if_pos rfl] at TP
      have TPH := Lib.hid TP
      clear TP
      have hlen : Hid ((pre.flatMap topPred).length < maxLen) := by
        have h1 : (pre.flatMap topPred).length ≤ f.preds.length := by
          rw [← HPR.out]
          obtain ⟨t, ht⟩ := HP.out
          rw [← ht]
          simp only [List.flatMap_append, List.length_append]
          omega
        have := HLN.out
        show _ < _; unfold maxLen; omega
      gi_wp2_with (gi_at_mapUpdate; refine wpListIn_store_G rfl _ _ _ 186 rfl 4 keyX map186 rfl HI.out.set hlen.out (nm, xn) (H2.out rfl) rfl ?_; intro w1 hm1 hg1)
      have ht : Turns (w.heap.size + 1) W w1 := Turns.of_grownBy hg1 (MapG.isMap HI.out.set)
      refine ⟨ht, ?_, ?_, ?_⟩
      · rw [List.flatMap_append, List.flatMap_cons, List.flatMap_nil, List.append_nil, TPH.out, List.length_append]
        exact SymsAt.put hm1
      · exact ht.block _ _ HI.out.cell (.inr rfl)
      · exact HI.out.below.trans ⟨ht.os, ht.tape, ht.output, ht.size, fun i hi => hg1.block i (by have := HI.out.below.size; omega) (fun e => by cases e; omega)⟩
    · rw [if_neg hop] at TP
      have TPH := Lib.hid TP
      have hop2 : (op == 1) = false := by simpa using hop
      clear TP
      gi_wp2
      refine ⟨Turns.refl _ _, ?_, HI.out.cell, HI.out.below⟩
      rw [List.flatMap_append, List.flatMap_cons, List.flatMap_nil, List.append_nil, TPH.out, List.append_nil]
      exact HI.out.set
  case done =>
    intro D W hD hi hK
    obtain ⟨y0, -⟩ := row1 hi.cell
    have hi2 := hi.set
    rw [HPR.out] at hi2
    have SC : Hid (Calls Tryz.prog 162 #[.map (some (w.heap.size + 1))] W fun e w' => ∃ L v, e = .returned v ∧ (∀ s, s ∈ L ↔ s ∈ f.preds) ∧ SymsList w' L v ∧ Below W.heap.size W w' ∧ L.length ≤ 100000) := HS.out W _ _ f.preds hi2 HLN.out (HOK.out)
    have HK := Lib.hid hK
    have HI := Lib.hid hi.below
    clear hi hi2 hK
    gi_wp2_with (refine ⟨trivial, ?_⟩; gi_at_call 162; refine callsIn_wide.2 (SC.out.mono ?_); rintro e w5 ⟨L, v, rfl, hL, hv, b5, hll⟩; have H5 := Lib.hid (And.intro hL (And.intro hv b5)); have HLL := Lib.hid hll; clear hL hv b5 hll SC)
    have hK5 : w5.heap[D]? = some (.deferred (some [])) := (H5.out.2.2.block D (Array.getElem?_eq_some_iff.1 HK.out).1).trans HK.out
    refine ⟨by simp, .inl ⟨_, _, rfl, run_takeDeferred hK5, ?_⟩⟩
    refine ⟨_, results_tmp rfl _ _ _, L, v, rfl, H5.out.1, At.keep (Rounds.cells (m := 0) (Rounds.put _ hK5 rfl)) _ _ H5.out.2.1, ?_, HLL.out⟩
    exact (HI.out.trans (H5.out.2.2.mono HI.out.size)).trans (below_put _ (by have := S1.out; omega))
end Go.Proofs.YtppfalbnhnpbnaaGreatDoor
