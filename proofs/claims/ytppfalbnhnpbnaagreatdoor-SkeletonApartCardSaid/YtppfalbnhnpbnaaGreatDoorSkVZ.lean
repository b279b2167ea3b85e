/- subst's visitTerm, visitForm and their closures: the free variables of a formula come one by one. Conditions: those of each statement. -/
import Derived.Test.YtppfalbnhnpbnaaGreatDoorSkAZ
import Derived.Test.YtppfalbnhnpbnaaGreatDoorRdCZ
import Derived.Test.YtppfalbnhnpbnaaGreatDoorMakeZ
import Derived.RangeFuncBound
import Derived.RangeFuncCalls
import Derived.RangeFuncLeaves
import Derived.Shelf.Abstract
import Derived.Shelf.RegionOpen
import Derived.WalkKit
import Derived.OwnWalkIn
import Derived.TacticsInMore
import Derived.LoopNIn
import Derived.LoopIn
import Derived.DefersIn
import Derived.Lib.Hide
import Derived.Test.YtppfalbnhnpbnaaGreatDoorProg
import Derived.Lib.ItoaNum
set_option linter.unusedSimpArgs false
set_option linter.unusedVariables false
namespace Go.Proofs.YtppfalbnhnpbnaaGreatDoor
open Go Go.RowKit Ly
set_option maxRecDepth 10000
attribute [local go_sem] Oper.semAt_some
def okS (s : Bs) : Prop := s.length ≤ maxLen
def litS (s : Bs) : Lit := .string s
theorem str_inj {s t : Bs} (h : str s = str t) : s = t := by
  have := Value.string.inj h
  have := congrArg (fun b : ByteArray => b.data.toList) this
  simpa using this
theorem keyS : KeyG Tryz.prog 9 str okS litS :=
  ⟨Maps.string_keyed Tryz.underlying9, fun s hs => WideMaps.keyOf_string_mk Tryz.underlying9 (s := ⟨s.toArray⟩) hs, fun _ _ h => str_inj h⟩
theorem map111 : Tryz.prog.underlying 111 = some (.map 9 3) := by kernel_rfl
theorem zero3 (w : World) : (zeroValue 3).run Tryz.prog w = .ok (.int .i64 0) w := by kernel_rfl
theorem map93 : Tryz.prog.underlying 93 = some (.map 9 4) := by kernel_rfl
theorem zero4 (w : World) : (zeroValue 4).run Tryz.prog w = .ok (.bool false) w := by kernel_rfl
def CntAt (w : World) (M n : Nat) (b : List Bs) : Prop := ∃ S, MapG Tryz.prog 9 okS litS (.int .i64 0) w M n S (fun s => .int .i64 (b.count s))
def SetAt (w : World) (M n : Nat) (l : List Bs) : Prop := MapG Tryz.prog 9 okS litS (.bool false) w M n (fun s => decide (s ∈ l)) (fun s => .bool (decide (s ∈ l)))
theorem CntAt.look {w : World} {M n : Nat} {b : List Bs} (h : CntAt w M n b) {s : Bs} (hs : okS s) : (Instr.lookup 111 (.map (some M)) (str s) false).run Tryz.prog w = .ok (.int .i64 (b.count s)) w := by
  obtain ⟨S, h⟩ := h
  exact h.look keyS map111 (zero3 w) hs
theorem SetAt.look {w : World} {M n : Nat} {l : List Bs} (h : SetAt w M n l) {s : Bs} (hs : okS s) : (Instr.lookup 93 (.map (some M)) (str s) false).run Tryz.prog w = .ok (.bool (decide (s ∈ l))) w :=
  MapG.look h keyS map93 (zero4 w) hs
theorem CntAt.heap {w w' : World} {M n : Nat} {b : List Bs} (h : CntAt w M n b) (e : w'.heap[M]? = w.heap[M]?) : CntAt w' M n b := by
  obtain ⟨S, h⟩ := h
  exact ⟨S, h.heap e⟩
theorem CntAt.lt {w : World} {M n : Nat} {b : List Bs} (h : CntAt w M n b) : M < w.heap.size := by
  obtain ⟨S, h⟩ := h
  exact h.lt
theorem CntAt.rounds {m : Nat} {w w' : World} {M n : Nat} {b : List Bs} (h : CntAt w M n b) (hm : M ≠ m) (k : Rounds m w w') : CntAt w' M n b := by
  obtain ⟨S, h⟩ := h
  obtain ⟨es, c, hb⟩ := h.isMap
  exact ⟨S, h.heap ((k.block M _ hb (.inl hm) rfl).trans hb.symm)⟩
theorem row1 {w : World} {b : Nat} {x : Value} {t : TypeId} (h : w.heap[b]? = some (.cells #[x] t (0, 0))) : w.cell? ⟨b, 0, none⟩ = some x ∧ w.frozen? ⟨b, 0, none⟩ = false :=
  ⟨by simp [World.cell?, h], by simp [World.frozen?, h]⟩
structure VSt (m cb cy mb r n : Nat) (b : List Bs) (W : World) : Prop where
  hb : W.heap[cb]? = some (.cells #[.map (some mb)] 111 (0, 0))
  hy : W.heap[cy]? = some (.cells #[.func (.yield r) #[] #[]] 151 (0, 0))
  cnt : CntAt W mb n b
  ne : mb ≠ m
theorem VSt.rounds {m cb cy mb r n : Nat} {b : List Bs} {A X : World} (h : VSt m cb cy mb r n b A) (k : Rounds m A X) : VSt m cb cy mb r n b X :=
  ⟨k.keeps h.hb, k.keeps h.hy, h.cnt.rounds h.ne k, h.ne⟩
def Yields (m r n : Nat) (J : List Bs → World → Prop) (l : List Bs) : Prop :=
  ∀ pre x W1, J pre W1 → pre ++ [x] <+: l → YieldAt Fence.wide n Tryz.prog r #[str x] W1 fun e W' => e = .returned (.bool true) ∧ J (pre ++ [x]) W' ∧ Rounds m W1 W'
def freeOf (b : List Bs) (s : Bs) : List Bs := if s ∈ b then [] else [s]
set_option maxHeartbeats 1000000 in
theorem free_in (n : Nat) {m cb cy mb r k : Nat} {b l pre : List Bs} {J : List Bs → World → Prop} (hY : ∀ n, Yields m r n J l) (s : Bs) (hs : okS s) (W : World) (hV : VSt m cb cy mb r k b W) (hJ : J pre W) (hp : pre ++ freeOf b s <+: l) :
    CallsIn Fence.wide n Tryz.prog 150 #[str s, one cb, one cy] W fun e W' => e = .returned (.bool true) ∧ J (pre ++ freeOf b s) W' ∧ Rounds m W W' := by
  have HY := Lib.hid hY
  have HJ := Lib.hid hJ
  have HP := Lib.hid hp
  obtain ⟨a0, -⟩ := row1 hV.hb
  obtain ⟨a1, -⟩ := row1 hV.hy
  have LK := hV.cnt.look hs
  clear hY hJ hp hV hs
  refine callsIn_of_wp Tryz.func150 rfl trivial ?_ rfl
  simp only [Tryz.ntmps150, List.size_toArray, List.length_cons, List.length_nil, Nat.reduceAdd, Nat.reduceSub, Array.replicate_succ, Array.replicate_zero, List.push_toArray, List.append_toArray, List.nil_append, List.cons_append]
  by_cases hb : s ∈ b
  · have hc : decide ((b.count s : Int) > 0) = true := by have := List.count_pos_iff.2 hb; simp; omega
    have hf : freeOf b s = [] := if_pos hb
    rw [hf, List.append_nil] at HP ⊢
    generalize (b.count s : Int) = z at *
    gi_wp2
    refine ⟨fun _ h => (by cases h), ?_⟩
    gi_wp2
    go_ret
    exact ⟨rfl, HJ.out, Rounds.refl _ _⟩
  · have hc : decide ((b.count s : Int) > 0) = false := by have := List.count_eq_zero.2 hb; simp; omega
    have hf : freeOf b s = [s] := if_neg hb
    rw [hf] at HP ⊢
    generalize (b.count s : Int) = z at *
    obtain ⟨fn, tmps, assign, body, hy, hR⟩ := HY.out (n - 1) pre s W HJ.out HP.out
    gi_wp2
    refine ⟨fun h => absurd h (by decide), hR.mono ?_⟩
    rintro e W3 ⟨rfl, hJ3, hk3⟩
    gi_wp2
    go_ret
    exact ⟨rfl, hJ3, hk3⟩
theorem tmsVars_take (ts : List Tm) {j : Nat} {T : Tm} (h : ts[j]? = some T) : tmsVars (ts.take (j + 1)) = tmsVars (ts.take j) ++ T.vars := by
  have app : ∀ a b : List Tm, tmsVars (a ++ b) = tmsVars a ++ tmsVars b := fun a b => by
    induction a with
    | nil => rfl
    | cons x a ih => simp [tmsVars, ih]
  rw [List.take_add_one, h, app]
  simp [tmsVars]
theorem tmsVars_pre (ts : List Tm) (j : Nat) : tmsVars (ts.take j) <+: tmsVars ts := by
  induction ts generalizing j with
  | nil => simp
  | cons x ts ih =>
    cases j with
    | zero => simp [tmsVars]
    | succ j => simp only [List.take_succ_cons, tmsVars]; exact List.prefix_append_right_inj _ |>.2 (ih j)
theorem tmsVars_mem {ts : List Tm} {T : Tm} (h : T ∈ ts) {s : Bs} (hs : s ∈ T.vars) : s ∈ tmsVars ts := by
  induction ts with
  | nil => cases h
  | cons x ts ih =>
    rcases List.mem_cons.1 h with rfl | h
    · simp [tmsVars, hs]
    · simp [tmsVars, ih h]
def offB (b l : List Bs) : List Bs := l.filter (fun x => decide (x ∉ b))
theorem offB_append (b x y : List Bs) : offB b (x ++ y) = offB b x ++ offB b y := List.filter_append ..
theorem offB_one (b : List Bs) (s : Bs) : offB b [s] = freeOf b s := by
  unfold offB freeOf
  by_cases h : s ∈ b <;> simp [h]
theorem offB_pre (b : List Bs) {x y : List Bs} (h : x <+: y) : offB b x <+: offB b y := h.filter _
def VT (m cb cy mb r k : Nat) (b l : List Bs) (J : List Bs → World → Prop) (t : Tm) : Prop :=
  ∀ (n : Nat) (pre : List Bs) (W : World) (x : Value), TmVal W t x → (∀ s ∈ t.vars, okS s) → VSt m cb cy mb r k b W → J pre W → pre ++ offB b t.vars <+: l →
    CallsIn Fence.wide n Tryz.prog 151 #[x, .func (.func 150) #[] #[one cb, one cy]] W fun e W' => e = .returned (.bool true) ∧ J (pre ++ offB b t.vars) W' ∧ Rounds m W W'
set_option maxHeartbeats 4000000 in
theorem vt_step {m cb cy mb r k B : Nat} {b l : List Bs} {J : List Bs → World → Prop} (hY : ∀ n, Yields m r n J l) (hM : ∀ s A X, J s A → Moves B A X → J s X) (v : Bool) (nm : Bs) (ts : List Tm) (ih : ∀ t ∈ ts, VT m cb cy mb r k b l J t) : VT m cb cy mb r k b l J (.mk v nm ts) := by
  intro n pre W x hx0 hn hV hJ hp
  obtain ⟨a, N, c, rfl, hx⟩ : ∃ a N c, x = .agg #[.bool v, str nm, .slice a N c] ∧ TmsAt W ts (.slice a N c) := hx0
  have hl := hx.len
  have vs : (Tm.mk v nm ts).vars = (if v then [nm] else []) ++ tmsVars ts := by simp [Tm.vars]
  rw [vs, offB_append, ← List.append_assoc] at hp ⊢
  obtain ⟨p1, hp1⟩ : ∃ p1, pre ++ offB b (if v then [nm] else []) = p1 := ⟨_, rfl⟩
  rw [hp1] at hp ⊢
  have N1 : N ≤ 9223372036854775807 := le63 (Nat.le_trans hl.2.1 hl.2.2)
  have L2 := Lib.hid hl.1
  have HX := Lib.hid hx
  have HN : Hid (∀ t ∈ ts, ∀ s ∈ t.vars, okS s) := fun t ht s hs => hn s (by rw [vs]; simp [tmsVars_mem ht hs])
  have HP := Lib.hid hp
  have HM := Lib.hid hM
  have IH := Lib.hid ih
  have HV := Lib.hid hV
  have V0 : Hid (∀ o, VSt m cb cy mb r k b (W.alloc o)) := fun o => hV.rounds (rounds_alloc m W o)
  have J0 : Hid (∀ o, J pre (W.alloc o)) := fun o => hM _ _ _ hJ (moves_alloc B W o)
  have HE := Lib.hid hp1
  have YF : Hid (∀ n W0, VSt m cb cy mb r k b W0 → J pre W0 → v = true → CallsIn Fence.wide n Tryz.prog 150 #[str nm, one cb, one cy] W0 fun e W' => e = .returned (.bool true) ∧ J p1 W' ∧ Rounds m W0 W') := fun n W0 h1 h2 hv => by
    subst hv
    rw [← hp1]
    simp only [if_true, offB_one]
    refine free_in n hY nm (hn nm (by simp [Tm.vars])) W0 h1 h2 (List.IsPrefix.trans ?_ hp)
    rw [← hp1]
    simp [offB_one]
  clear hl hx hn hp hM ih hV hJ vs hp1 hY
  refine callsIn_of_wp Tryz.func151 rfl trivial ?_ rfl
  simp only [Tryz.ntmps151, List.size_toArray, List.length_cons, List.length_nil, Nat.reduceAdd, Nat.reduceSub, Array.replicate_succ, Array.replicate_zero, List.push_toArray, List.append_toArray, List.nil_append, List.cons_append]
  cases v
  · gi_wp2
    refine ⟨fun _ h => (by cases h), ?_⟩
    have J1 : Hid (J p1 (W.alloc (.cells #[.bool false, str nm, .slice a N c] 38))) := by have e : p1 = pre := (by rw [← HE.out]; simp [offB]); rw [e]; exact J0.out _
    have R1 : Hid (Rounds m W (W.alloc (.cells #[.bool false, str nm, .slice a N c] 38))) := rounds_alloc _ _ _
    have z2 : (W.alloc (.cells #[.bool false, str nm, .slice a N c] 38)).cell? ⟨W.heap.size, 2, none⟩ = some (.slice a N c) := by simp [go_sem]
    generalize (W.alloc (.cells #[.bool false, str nm, .slice a N c] 38)) = W1 at *
    clear V0 J0 YF HE
    gi_wp2
    gi_loopw [19] (fun i wr => ∃ j : Nat, j ≤ N ∧ i = .int .i64 j ∧ Hid (J (p1 ++ offB b (tmsVars (ts.take j))) wr ∧ Rounds m W wr)) (fun i _ => N - (intOf i).toNat)
    case atStart => exact ⟨0, Nat.zero_le _, rfl, by simpa [tmsVars, offB] using J1.out, R1.out⟩
    case round =>
      obtain ⟨j, hj, rfl, hs⟩ := hrel
      clear J1 R1 z2
      by_cases hlt : j < N
      · obtain ⟨T, hT⟩ := get_of_lt (l := ts) (j := j) (by rw [← L2.out]; exact hlt)
        obtain ⟨bb, off, rfl, hc⟩ := HX.out.get (ne_of_get hT)
        obtain ⟨x0, x1, x2, hx⟩ := hc j _ hT
        have hK := Rounds.cells hs.out.2
        have c0 := hK _ _ hx.c0; have c1 := hK _ _ hx.c1; have c2 := hK _ _ hx.c2
        have HT := Lib.hid (List.mem_of_getElem? hT)
        have TE := Lib.hid (tmsVars_take ts hT)
        have IC : Hid (∀ n o, CallsIn Fence.wide n Tryz.prog 151 #[.agg #[.bool T.v, str T.name, .slice x0 x1 x2], .func (.func 150) #[] #[one cb, one cy]] (wr.alloc o) fun e W' => e = .returned (.bool true) ∧ J (p1 ++ offB b (tmsVars (ts.take (j + 1)))) W' ∧ Rounds m (wr.alloc o) W') := fun n o => by
          have kk : Rounds m W (wr.alloc o) := hs.out.2.trans (rounds_alloc m wr o)
          have := IH.out T HT.out n (p1 ++ offB b (tmsVars (ts.take j))) (wr.alloc o) (.agg #[.bool T.v, str T.name, .slice x0 x1 x2]) ⟨_, _, _, rfl, hx.at_.keep (Rounds.cells kk)⟩ (HN.out T HT.out) (HV.out.rounds kk) (HM.out _ _ _ hs.out.1 (moves_alloc B wr o)) (by
            rw [List.append_assoc, ← offB_append, ← TE.out]
            exact List.IsPrefix.trans ((List.prefix_append_right_inj _).2 (offB_pre b (tmsVars_pre ts _))) HP.out)
          rw [TE.out, offB_append, ← List.append_assoc]
          exact this
        clear hc hx hT hK
        gi_wp2_with (refine ⟨trivial, fun h => absurd h (by decide), ?_⟩; gi_at_call 151; refine (IC.out _ _).mono ?_; rintro e W3 ⟨rfl, hj3, hr3⟩; have J3 := Lib.hid hj3; have R3 := Lib.hid hr3; clear hj3 hr3)
        go_roundw
        case rel => exact ⟨j + 1, by omega, by go_num, J3.out, hs.out.2.trans ((rounds_alloc m wr _).trans R3.out)⟩
        case measure => simp [intOf]; omega
      · have e : ts.take j = ts := List.take_of_length_le (by rw [← L2.out]; omega)
        gi_wp2
        go_ret
        exact ⟨rfl, by have := hs.out.1; rw [e] at this; exact this, hs.out.2⟩
  · have z0 : Hid (∀ W1, Rounds m (W.alloc (.cells #[.bool true, str nm, .slice a N c] 38)) W1 → W1.cell? ⟨W.heap.size, 2, none⟩ = some (.slice a N c)) := fun W1 h => Rounds.cells h _ _ (by simp [go_sem])
    gi_wp2_with (refine ⟨trivial, fun h => absurd h (by decide), ?_⟩; gi_at_call 150; refine (YF.out _ _ (V0.out _) (J0.out _) rfl).mono ?_; rintro e W1 ⟨rfl, hj1, hr1⟩; have J1 := Lib.hid hj1; have z2 := z0.out _ hr1; have R1 := Lib.hid (Rounds.trans (rounds_alloc m W _) hr1); clear hj1 hr1 z0 V0 J0 YF HE)
    gi_loopw [19] (fun i wr => ∃ j : Nat, j ≤ N ∧ i = .int .i64 j ∧ Hid (J (p1 ++ offB b (tmsVars (ts.take j))) wr ∧ Rounds m W wr)) (fun i _ => N - (intOf i).toNat)
    case atStart => exact ⟨0, Nat.zero_le _, rfl, by simpa [tmsVars, offB] using J1.out, R1.out⟩
    case round =>
      obtain ⟨j, hj, rfl, hs⟩ := hrel
      clear J1 R1 z2
      by_cases hlt : j < N
      · obtain ⟨T, hT⟩ := get_of_lt (l := ts) (j := j) (by rw [← L2.out]; exact hlt)
        obtain ⟨bb, off, rfl, hc⟩ := HX.out.get (ne_of_get hT)
        obtain ⟨x0, x1, x2, hx⟩ := hc j _ hT
        have hK := Rounds.cells hs.out.2
        have c0 := hK _ _ hx.c0; have c1 := hK _ _ hx.c1; have c2 := hK _ _ hx.c2
        have HT := Lib.hid (List.mem_of_getElem? hT)
        have TE := Lib.hid (tmsVars_take ts hT)
        have IC : Hid (∀ n o, CallsIn Fence.wide n Tryz.prog 151 #[.agg #[.bool T.v, str T.name, .slice x0 x1 x2], .func (.func 150) #[] #[one cb, one cy]] (wr.alloc o) fun e W' => e = .returned (.bool true) ∧ J (p1 ++ offB b (tmsVars (ts.take (j + 1)))) W' ∧ Rounds m (wr.alloc o) W') := fun n o => by
          have kk : Rounds m W (wr.alloc o) := hs.out.2.trans (rounds_alloc m wr o)
          have := IH.out T HT.out n (p1 ++ offB b (tmsVars (ts.take j))) (wr.alloc o) (.agg #[.bool T.v, str T.name, .slice x0 x1 x2]) ⟨_, _, _, rfl, hx.at_.keep (Rounds.cells kk)⟩ (HN.out T HT.out) (HV.out.rounds kk) (HM.out _ _ _ hs.out.1 (moves_alloc B wr o)) (by
            rw [List.append_assoc, ← offB_append, ← TE.out]
            exact List.IsPrefix.trans ((List.prefix_append_right_inj _).2 (offB_pre b (tmsVars_pre ts _))) HP.out)
          rw [TE.out, offB_append, ← List.append_assoc]
          exact this
        clear hc hx hT hK
        gi_wp2_with (refine ⟨trivial, fun h => absurd h (by decide), ?_⟩; gi_at_call 151; refine (IC.out _ _).mono ?_; rintro e W3 ⟨rfl, hj3, hr3⟩; have J3 := Lib.hid hj3; have R3 := Lib.hid hr3; clear hj3 hr3)
        go_roundw
        case rel => exact ⟨j + 1, by omega, by go_num, J3.out, hs.out.2.trans ((rounds_alloc m wr _).trans R3.out)⟩
        case measure => simp [intOf]; omega
      · have e : ts.take j = ts := List.take_of_length_le (by rw [← L2.out]; omega)
        gi_wp2
        go_ret
        exact ⟨rfl, by have := hs.out.1; rw [e] at this; exact this, hs.out.2⟩
end Go.Proofs.YtppfalbnhnpbnaaGreatDoor
namespace Ly
open Go
theorem fmsFree_take (b : List Bs) (fs : List Fm) {j : Nat} {T : Fm} (h : fs[j]? = some T) : fmsFree b (fs.take (j + 1)) = fmsFree b (fs.take j) ++ T.free b := by
  have app : ∀ x y : List Fm, fmsFree b (x ++ y) = fmsFree b x ++ fmsFree b y := fun x y => by
    induction x with
    | nil => rfl
    | cons z x ih => simp [fmsFree, ih]
  rw [List.take_add_one, h, app]
  simp [fmsFree]
theorem fmsFree_pre (b : List Bs) (fs : List Fm) (j : Nat) : fmsFree b (fs.take j) <+: fmsFree b fs := by
  induction fs generalizing j with
  | nil => simp
  | cons x fs ih =>
    cases j with
    | zero => simp [fmsFree]
    | succ j => simp only [List.take_succ_cons, fmsFree]; exact (List.prefix_append_right_inj _).2 (ih j)
theorem fmsNodes_at {fs : List Fm} {j : Nat} {T : Fm} (h : fs[j]? = some T) : fmsNodes (fs.take (j + 1)) = fmsNodes (fs.take j) + T.nodes := by
  have app : ∀ x y : List Fm, fmsNodes (x ++ y) = fmsNodes x + fmsNodes y := fun x y => by
    induction x with
    | nil => simp [fmsNodes]
    | cons z x ih => simp [fmsNodes, ih]; omega
  rw [List.take_add_one, h, app]
  simp [fmsNodes]
theorem fmsNodes_upto (fs : List Fm) (j : Nat) : fmsNodes (fs.take j) ≤ fmsNodes fs := by
  induction fs generalizing j with
  | nil => simp
  | cons x fs ih =>
    cases j with
    | zero => simp [fmsNodes]
    | succ j => simp only [List.take_succ_cons, fmsNodes]; have := ih j; omega
mutual
def Fm.okNames : Fm → Bool
  | .mk _ n ts fs => decide (n.length ≤ maxLen) && (tmsVars ts).all (fun s => decide (s.length ≤ maxLen)) && fmsOkNames fs
def fmsOkNames : List Fm → Bool
  | [] => true
  | f :: fs => f.okNames && fmsOkNames fs
end
theorem fmsOkNames_mem {fs : List Fm} (h : fmsOkNames fs = true) : ∀ T ∈ fs, T.okNames = true := by
  induction fs with
  | nil => intro T hT; cases hT
  | cons x fs ih =>
    simp only [fmsOkNames, Bool.and_eq_true] at h
    intro T hT
    rcases List.mem_cons.1 hT with rfl | hT
    · exact h.1
    · exact ih h.2 T hT
end Ly
