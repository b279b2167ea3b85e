/- Plain law: the normal form and the skeleton of a right formula are right, with as many parts. Nothing of the program is imported. -/
import Derived.Test.YtppfalbnhnpbnaaGreatDoorSkVY
import Derived.Test.YtppfalbnhnpbnaaGreatDoorNtCY
import Derived.Test.YtppfalbnhnpbnaaGreatDoorBoBY
set_option linter.unusedSimpArgs false
set_option linter.unusedVariables false
namespace Ly
open Go.Lib (itoa decDigits)
mutual
theorem Tm.swap_ok {g : Bs → Option Bs} (hg : ∀ n m, g n = some m → varName m = true) : ∀ t : Tm, t.ok = true → (t.swap g).ok = true ∧ (t.swap g).nodes = t.nodes ∧ (t.swap g).depth = t.depth
  | .mk v n ts, h => by
    rw [Tm.ok] at h
    cases v with
    | true =>
      simp only [if_true, Bool.and_eq_true, List.isEmpty_iff] at h
      obtain ⟨rfl, hn⟩ := h
      rw [Tm.swap]
      simp only [if_true]
      cases e : g n with
      | none => simp [Tm.ok, hn, tmsSwap, Tm.nodes, Tm.depth]
      | some m => simp [Tm.ok, hg n m e, Tm.nodes, Tm.depth]
    | false =>
      simp only [Bool.false_eq_true, if_false, Bool.and_eq_true, decide_eq_true_eq] at h
      obtain ⟨h1, h2, h3, h4⟩ := tmsSwap_ok hg ts h.2
      rw [Tm.swap]
      simp only [Bool.false_eq_true, if_false]
      rw [Tm.ok, Tm.nodes, Tm.nodes, Tm.depth, Tm.depth, h2, h3, h4, h1]
      simp [h.1.1, h.1.2]
theorem tmsSwap_ok {g : Bs → Option Bs} (hg : ∀ n m, g n = some m → varName m = true) : ∀ l : List Tm, tmsOk l = true → tmsOk (tmsSwap g l) = true ∧ (tmsSwap g l).length = l.length ∧ tmsNodes (tmsSwap g l) = tmsNodes l ∧ tmsDepth (tmsSwap g l) = tmsDepth l
  | [], _ => by simp [tmsSwap, tmsOk]
  | t :: ts, h => by
    simp only [tmsOk, Bool.and_eq_true] at h
    obtain ⟨h1, h2, h3⟩ := Tm.swap_ok hg t h.1
    obtain ⟨k1, k2, k3, k4⟩ := tmsSwap_ok hg ts h.2
    simp [tmsSwap, tmsOk, tmsNodes, tmsDepth, h1, h2, h3, k1, k2, k3, k4]
end
theorem arOf_mem {ar : List (Bs × Bs)} {n m : Bs} (h : arOf ar n = some m) : ∃ p ∈ ar, p.2 = m := by
  unfold arOf at h
  rw [Option.map_eq_some_iff] at h
  obtain ⟨p, h1, h2⟩ := h
  exact ⟨p, List.mem_of_find?_eq_some h1, h2⟩
mutual
theorem Fm.norm_ok {free : List Bs} : ∀ (ar : List (Bs × Bs)) (f : Fm), f.ok = true → (∀ p ∈ ar, varName p.2 = true) → free.length + ar.length + f.depth ≤ 1000000 → (f.norm free ar).ok = true ∧ (f.norm free ar).nodes = f.nodes ∧ (f.norm free ar).depth = f.depth ∧ (f.norm free ar).op = f.op
  | ar, .mk op n ts fs, h, ha, hd => by
    simp only [Fm.ok, Bool.and_eq_true, decide_eq_true_eq] at h
    rw [Fm.depth] at hd
    have hg : ∀ n m, arOf ar n = some m → varName m = true := fun n m e => by
      obtain ⟨p, hp, rfl⟩ := arOf_mem e; exact ha p hp
    obtain ⟨t1, t2, t3, t4⟩ := tmsSwap_ok hg ts h.1.2
    have hv : varName (least (free ++ ar.map (·.2))) = true := var_least (by simp; omega)
    rw [Fm.norm]
    by_cases hq : op = 8 ∨ op = 9
    · have e : quant op = true := by simp [quant, hq]
      rw [if_pos e]
      obtain ⟨k1, k2, k3, k4⟩ := fmsNorm_ok (free := free) ((n, least (free ++ ar.map (·.2))) :: ar) fs h.2 (fun p hp => by
        rcases List.mem_cons.1 hp with rfl | hp
        · exact hv
        · exact ha p hp) (by simp; omega)
      have h1 : ¬ op = 1 := by rcases hq with rfl | rfl <;> decide
      have hm := h.1.1.2
      rw [if_neg h1, if_pos hq, Bool.and_eq_true, List.isEmpty_iff] at hm
      obtain ⟨rfl, hm⟩ := hm
      simp only [Fm.ok, Fm.nodes, Fm.depth, Fm.op, k1, k2, k3, k4, t1, t3, t4, tmsSwap]
      have h2 : arity op ≤ 2 := by have := h.1.1.1; omega
      simp [h1, hq, hv, h.1.1.1, tmsOk, h2]
    · have e : quant op = false := by simp [quant, hq]
      rw [e]
      obtain ⟨k1, k2, k3, k4⟩ := fmsNorm_ok (free := free) ar fs h.2 ha (by omega)
      simp only [Bool.false_eq_true, if_false]
      have hm := h.1.1.2
      have hem : (tmsSwap (arOf ar) ts).isEmpty = ts.isEmpty := by
        have := t2
        cases ts with
        | nil => rfl
        | cons a b => simp [tmsSwap]
      simp only [Fm.ok, Fm.nodes, Fm.depth, Fm.op, k1, k2, k3, k4, t1, t2, t3, t4, hem, hm]
      have h2 : arity op ≤ 2 := by have := h.1.1.1; omega
      simp [h.1.1.1, h2]
theorem fmsNorm_ok {free : List Bs} : ∀ (ar : List (Bs × Bs)) (l : List Fm), fmsOk l = true → (∀ p ∈ ar, varName p.2 = true) → free.length + ar.length + fmsDepth l ≤ 1000000 → fmsOk (fmsNorm free ar l) = true ∧ (fmsNorm free ar l).length = l.length ∧ fmsNodes (fmsNorm free ar l) = fmsNodes l ∧ fmsDepth (fmsNorm free ar l) = fmsDepth l
  | ar, [], _, _, _ => by simp [fmsNorm, fmsOk]
  | ar, f :: fs, h, ha, hd => by
    simp only [fmsOk, Bool.and_eq_true] at h
    rw [fmsDepth] at hd
    obtain ⟨h1, h2, h3, -⟩ := Fm.norm_ok (free := free) ar f h.1 ha (by omega)
    obtain ⟨k1, k2, k3, k4⟩ := fmsNorm_ok (free := free) ar fs h.2 ha (by omega)
    simp [fmsNorm, fmsOk, fmsNodes, fmsDepth, h1, h2, h3, k1, k2, k3, k4]
end
mutual
theorem Tm.vars_le : ∀ t : Tm, t.vars.length ≤ t.nodes
  | .mk v n ts => by
    have := tmsVars_le ts
    rw [Tm.vars, Tm.nodes]
    cases v <;> simp <;> omega
theorem tmsVars_le : ∀ l : List Tm, (tmsVars l).length ≤ tmsNodes l
  | [] => by simp [tmsVars, tmsNodes]
  | t :: ts => by
    have := Tm.vars_le t; have := tmsVars_le ts
    simp [tmsVars, tmsNodes]; omega
end
mutual
theorem Fm.free_le : ∀ (b : List Bs) (f : Fm), (f.free b).length ≤ f.nodes
  | b, .mk op n ts fs => by
    have h1 := tmsVars_le ts
    have h2 := List.length_filter_le (fun x => decide (x ∉ b)) (tmsVars ts)
    have h3 := fmsFree_le (if quant op then n :: b else b) fs
    rw [Fm.free, Fm.nodes, List.length_append]; omega
theorem fmsFree_le : ∀ (b : List Bs) (l : List Fm), (fmsFree b l).length ≤ fmsNodes l
  | _, [] => by simp [fmsFree]
  | b, f :: fs => by
    have := Fm.free_le b f; have := fmsFree_le b fs
    simp [fmsFree, fmsNodes]; omega
end
theorem Fm.normal_right {f : Fm} (h : f.right = true) : f.normal.right = true ∧ f.normal.nodes = f.nodes ∧ f.normal.depth = f.depth ∧ f.normal.op = f.op := by
  simp only [Fm.right, Bool.and_eq_true, decide_eq_true_eq] at h
  have hl := Fm.free_le [] f
  obtain ⟨h1, h2, h3, h4⟩ := Fm.norm_ok (free := f.free []) [] f h.1.1 (fun p hp => by cases hp) (by simp; omega)
  unfold Fm.normal
  refine ⟨?_, h2, h3, h4⟩
  simp only [Fm.right, h1, h2, h3]
  simp [h.1.2, h.2]

/- Told names. -/
theorem place_le (σ : List Sy) (s : Sy) : Sy.place σ s ≤ σ.length + 1 := by
  unfold Sy.place
  have h1 := List.countP_le_length (p := fun t : Sy => decide (t.kind = s.kind)) (l := σ.takeWhile (fun t => decide (t ≠ s)))
  have h2 := (List.takeWhile_prefix (fun t : Sy => decide (t ≠ s)) (l := σ)).length_le
  omega
theorem add_le (σ : List Sy) (s : Sy) : (Sy.add σ s).length ≤ σ.length + 1 ∧ σ.length ≤ (Sy.add σ s).length := by
  unfold Sy.add; split <;> simp
theorem itoa_small {n : Nat} (h : n ≤ 4) : (itoa (n : Int)).length = 1 := by
  rw [itoa_nat, decDigits, dif_pos (by omega)]; simp
theorem told_var {σ : List Sy} {n : Bs} (h : σ.length ≤ 1000000) : varName (Sy.told σ ⟨117, n, 0⟩) = true := by
  have hp := place_le σ ⟨117, n, 0⟩
  unfold Sy.told Sy.kind
  rw [if_pos rfl]
  show checker _ _ (117 :: itoa _) = true
  exact checker_num (by decide) (fun _ h => h) itoa_ne (itoa_all _) (by have := itoa_len16 (n := Sy.place σ ⟨117, n, 0⟩) (by omega); omega)
theorem told_num {first other : UInt8 → Bool} {σ : List Sy} {c : UInt8} {n : Bs} {k : Nat} (hc : c ≠ 117) (hf : first c = true) (ho : ∀ x, digit x = true → other x = true) (hk : k ≤ 4) (h : σ.length ≤ 1000000) : checker first other (Sy.told σ ⟨c, n, k⟩) = true := by
  have hp := place_le σ ⟨c, n, k⟩
  have hl := itoa_len16 (n := Sy.place σ ⟨c, n, k⟩) (by omega)
  have hs := itoa_small hk
  unfold Sy.told Sy.kind
  rw [if_neg hc]
  simp only [List.cons_append]
  refine checker_num hf ho ?_ ?_ (by simp; omega)
  · intro e; have := congrArg List.length e; simp [hs] at this
  · rw [List.all_append, itoa_all, itoa_all]; rfl
mutual
theorem Tm.told_ok {b : List Bs} : ∀ (t : Tm) (σ : List Sy), t.ok = true → σ.length + t.nodes ≤ 1000000 → (t.told b σ).1.ok = true ∧ (t.told b σ).1.nodes = t.nodes ∧ (t.told b σ).1.depth = t.depth ∧ (t.told b σ).2.length ≤ σ.length + t.nodes
  | .mk v n ts, σ, h, hs => by
    rw [Tm.ok] at h
    rw [Tm.nodes] at hs
    have hl : (nameT b σ v n ts.length).2.length ≤ σ.length + 1 := by
      unfold nameT
      split
      · split
        · simp
        · exact (add_le _ _).1
      · exact (add_le _ _).1
    cases v with
    | true =>
      simp only [if_true, Bool.and_eq_true, List.isEmpty_iff] at h
      obtain ⟨rfl, hn⟩ := h
      have hv : varName (nameT b σ true n 0).1 = true := by
        unfold nameT
        rw [if_pos rfl]
        split
        · exact hn
        · exact told_var (by omega)
      simp only [List.length_nil] at hl
      rw [Tm.told]
      simp only [Tm.ok, Tm.nodes, Tm.depth, tmsTold, List.length_nil, hv, if_true, tmsNodes]
      simp; omega
    | false =>
      simp only [Bool.false_eq_true, if_false, Bool.and_eq_true, decide_eq_true_eq] at h
      obtain ⟨k1, k2, k3, k4, k5⟩ := tmsTold_ok (b := b) ts (nameT b σ false n ts.length).2 h.2 (by omega)
      have hv : funName (nameT b σ false n ts.length).1 = true := by
        unfold nameT
        simp only [Bool.false_eq_true, if_false]
        exact told_num (by decide) (by decide) alnum_digit h.1.1 (by omega)
      rw [Tm.told]
      simp only [Tm.ok, Tm.nodes, Tm.depth, k1, k2, k3, k4, hv]
      refine ⟨by simp [h.1.1], trivial, trivial, by omega⟩
theorem tmsTold_ok {b : List Bs} : ∀ (l : List Tm) (σ : List Sy), tmsOk l = true → σ.length + tmsNodes l ≤ 1000000 → tmsOk (tmsTold b σ l).1 = true ∧ (tmsTold b σ l).1.length = l.length ∧ tmsNodes (tmsTold b σ l).1 = tmsNodes l ∧ tmsDepth (tmsTold b σ l).1 = tmsDepth l ∧ (tmsTold b σ l).2.length ≤ σ.length + tmsNodes l
  | [], σ, _, _ => by simp [tmsTold, tmsOk, tmsNodes]
  | t :: ts, σ, h, hs => by
    simp only [tmsOk, Bool.and_eq_true] at h
    rw [tmsNodes] at hs
    obtain ⟨h1, h2, h3, h4⟩ := Tm.told_ok (b := b) t σ h.1 (by omega)
    obtain ⟨k1, k2, k3, k4, k5⟩ := tmsTold_ok (b := b) ts (t.told b σ).2 h.2 (by omega)
    simp only [tmsTold, tmsOk, tmsNodes, tmsDepth, List.length_cons, h1, h2, h3, k1, k2, k3, k4]
    refine ⟨rfl, trivial, trivial, trivial, by omega⟩
end
mutual
theorem Fm.told_ok {b : List Bs} : ∀ (f : Fm) (σ : List Sy), f.ok = true → σ.length + f.nodes ≤ 1000000 → (f.told b σ).1.ok = true ∧ (f.told b σ).1.nodes = f.nodes ∧ (f.told b σ).1.depth = f.depth ∧ (f.told b σ).1.op = f.op ∧ (f.told b σ).2.length ≤ σ.length + f.nodes
  | .mk op n ts fs, σ, h, hs => by
    simp only [Fm.ok, Bool.and_eq_true, decide_eq_true_eq] at h
    rw [Fm.nodes] at hs
    have hl : (nameF σ op n ts.length).2.length ≤ σ.length + 1 := by
      unfold nameF
      split
      · exact (add_le _ _).1
      · simp
    obtain ⟨k1, k2, k3, k4, k5⟩ := tmsTold_ok (b := b) ts (nameF σ op n ts.length).2 h.1.2 (by omega)
    obtain ⟨j1, j2, j3, j4, j5⟩ := fmsTold_ok (b := b) fs (tmsTold b (nameF σ op n ts.length).2 ts).2 h.2 (by omega)
    have hem : (tmsTold b (nameF σ op n ts.length).2 ts).1.isEmpty = ts.isEmpty := by
      cases ts with
      | nil => rfl
      | cons x y => simp [tmsTold]
    have hm := h.1.1.2
    have hm2 : (if op = 1 then predName (nameF σ op n ts.length).1 && decide (ts.length ≤ 4) else ts.isEmpty && (if op = 8 ∨ op = 9 then varName (nameF σ op n ts.length).1 else (nameF σ op n ts.length).1.isEmpty)) = true := by
      by_cases h1 : op = 1
      · rw [if_pos h1, Bool.and_eq_true, decide_eq_true_eq] at hm
        rw [if_pos h1]
        unfold nameF
        rw [if_pos h1]
        have : predName (Sy.told σ ⟨80, n, ts.length⟩) = true := told_num (by decide) (by decide) alnum_digit hm.2 (by omega)
        simp [this, hm.2]
      · unfold nameF
        rw [if_neg h1] at hm ⊢
        rw [if_neg h1]
        exact hm
    rw [Fm.told]
    simp only [Fm.ok, Fm.nodes, Fm.depth, Fm.op, k1, k2, k3, k4, j1, j2, j3, j4, hem, hm2]
    have h2 : arity op ≤ 2 := by have := h.1.1.1; omega
    refine ⟨by simp [h.1.1.1, h2], trivial, trivial, trivial, by omega⟩
theorem fmsTold_ok {b : List Bs} : ∀ (l : List Fm) (σ : List Sy), fmsOk l = true → σ.length + fmsNodes l ≤ 1000000 → fmsOk (fmsTold b σ l).1 = true ∧ (fmsTold b σ l).1.length = l.length ∧ fmsNodes (fmsTold b σ l).1 = fmsNodes l ∧ fmsDepth (fmsTold b σ l).1 = fmsDepth l ∧ (fmsTold b σ l).2.length ≤ σ.length + fmsNodes l
  | [], σ, _, _ => by simp [fmsTold, fmsOk, fmsNodes]
  | f :: fs, σ, h, hs => by
    simp only [fmsOk, Bool.and_eq_true] at h
    rw [fmsNodes] at hs
    obtain ⟨h1, h2, h3, -, h4⟩ := Fm.told_ok (b := b) f σ h.1 (by omega)
    obtain ⟨k1, k2, k3, k4, k5⟩ := fmsTold_ok (b := b) fs (f.told b σ).2 h.2 (by omega)
    simp only [fmsTold, fmsOk, fmsNodes, fmsDepth, List.length_cons, h1, h2, h3, k1, k2, k3, k4]
    refine ⟨rfl, trivial, trivial, trivial, by omega⟩
end
theorem Fm.mid_right {f : Fm} {σ : List Sy} (h : f.right = true) (hs : σ.length ≤ 900000) : (f.normal.told f.normal.binds σ).1.right = true ∧ (f.normal.told f.normal.binds σ).1.nodes = f.nodes ∧ (f.normal.told f.normal.binds σ).1.op = f.op ∧ (f.sk σ).2.length ≤ σ.length + 400 := by
  obtain ⟨h1, h2, h3, h4⟩ := Fm.normal_right h
  have h5 := h1
  simp only [Fm.right, Bool.and_eq_true, decide_eq_true_eq] at h5
  obtain ⟨k1, k2, k3, k4, k5⟩ := Fm.told_ok (b := f.normal.binds) f.normal σ h5.1.1 (by omega)
  refine ⟨?_, by rw [k2, h2], by rw [k4, h4], by show (f.normal.told f.normal.binds σ).2.length ≤ _; omega⟩
  simp only [Fm.right, k1, k2, k3]
  simp [h5.1.2, h5.2]
theorem Fm.sk_right {f : Fm} {σ : List Sy} (h : f.right = true) (hs : σ.length ≤ 900000) : (f.sk σ).1.right = true ∧ (f.sk σ).1.nodes = f.nodes ∧ (f.sk σ).1.op = f.op := by
  obtain ⟨h1, h2, h3, -⟩ := Fm.mid_right h hs
  obtain ⟨k1, k2, -, k4⟩ := Fm.normal_right h1
  exact ⟨k1, k2.trans h2, k4.trans h3⟩
end Ly
namespace Go.Proofs.YtppfalbnhnpbnaaGreatDoor
open Go Go.RowKit Ly
set_option maxRecDepth 10000
theorem nameT_congr {b b' : List Bs} (h : ∀ s, s ∈ b ↔ s ∈ b') (σ : List Sy) (v : Bool) (n : Bs) (k : Nat) : nameT b σ v n k = nameT b' σ v n k := by
  unfold nameT
  by_cases hn : n ∈ b
  · simp [hn, (h n).1 hn]
  · simp [hn, show n ∉ b' from fun e => hn ((h n).2 e)]
mutual
theorem told_congr {b b' : List Bs} (h : ∀ s, s ∈ b ↔ s ∈ b') : ∀ (t : Tm) (σ : List Sy), t.told b σ = t.told b' σ
  | .mk v n ts, σ => by
    have e := tmsTold_congr h ts
    simp only [Tm.told, nameT_congr h, e]
theorem tmsTold_congr {b b' : List Bs} (h : ∀ s, s ∈ b ↔ s ∈ b') : ∀ (ts : List Tm) (σ : List Sy), tmsTold b σ ts = tmsTold b' σ ts
  | [], σ => rfl
  | t :: ts, σ => by simp only [tmsTold, told_congr h t, tmsTold_congr h ts]
end
mutual
theorem ftold_congr {b b' : List Bs} (h : ∀ s, s ∈ b ↔ s ∈ b') : ∀ (f : Fm) (σ : List Sy), f.told b σ = f.told b' σ
  | .mk op n ts fs, σ => by
    have e := fmsTold_congr h fs
    simp only [Fm.told, tmsTold_congr h, e]
theorem fmsTold_congr {b b' : List Bs} (h : ∀ s, s ∈ b ↔ s ∈ b') : ∀ (fs : List Fm) (σ : List Sy), fmsTold b σ fs = fmsTold b' σ fs
  | [], σ => rfl
  | t :: ts, σ => by simp only [fmsTold, ftold_congr h t, fmsTold_congr h ts]
end
mutual
theorem binds_ok : ∀ f : Fm, f.okNames = true → ∀ s ∈ f.binds, okS s
  | .mk op n ts fs, h, s, hs => by
    simp only [Fm.okNames, Bool.and_eq_true, decide_eq_true_eq] at h
    simp only [Fm.binds, List.mem_append] at hs
    rcases hs with hs | hs
    · split at hs
      · simp at hs; subst hs; exact h.1.1
      · simp at hs
    · exact fmsBinds_ok fs h.2 s hs
theorem fmsBinds_ok : ∀ fs : List Fm, fmsOkNames fs = true → ∀ s ∈ fmsBinds fs, okS s
  | [], _, s, hs => by simp [fmsBinds] at hs
  | f :: fs, h, s, hs => by
    simp only [fmsOkNames, Bool.and_eq_true] at h
    simp only [fmsBinds, List.mem_append] at hs
    rcases hs with hs | hs
    · exact binds_ok f h.1 s hs
    · exact fmsBinds_ok fs h.2 s hs
end
section
variable {g1 c1 gm cm : Nat} {σ σ' : List Sy} {W : World} {f vb : Value} {op : Int} {nm : Bs} {sl sm : Value} {X Y : World}
theorem MidP.fill (h : MidP g1 c1 gm cm σ W f vb op nm sl sm X) (hlt : g1 < W.heap.size ∧ c1 < W.heap.size ∧ gm < W.heap.size ∧ cm < W.heap.size) (op' : Int) (nm' : Bs) (sl' sm' : Value) :
    MidP g1 c1 gm cm σ W f vb op' nm' sl' sm' ((((X.setCell ⟨W.heap.size + 1, 0, none⟩ (.int .u8 op')).setCell ⟨W.heap.size + 1, 1, none⟩ (str nm')).setCell ⟨W.heap.size + 1, 2, none⟩ sl').setCell ⟨W.heap.size + 1, 3, none⟩ sm') := by
  have key : ∀ k, k ≠ W.heap.size + 1 → ((((X.setCell ⟨W.heap.size + 1, 0, none⟩ (.int .u8 op')).setCell ⟨W.heap.size + 1, 1, none⟩ (str nm')).setCell ⟨W.heap.size + 1, 2, none⟩ sl').setCell ⟨W.heap.size + 1, 3, none⟩ sm').heap[k]? = X.heap[k]? := fun k hk => by rw [Below.heap_setCell _ _ _ _ hk, Below.heap_setCell _ _ _ _ hk, Below.heap_setCell _ _ _ _ hk, Below.heap_setCell _ _ _ _ hk]
  refine ⟨h.na.heap hlt (fun k hk => key k (by omega)), (((h.bt.set (by omega) _ _).set (by omega) _ _).set (by omega) _ _).set (by omega) _ _, (key _ (by omega)).trans h.r0, ?_, (key _ (by omega)).trans h.r2⟩
  exact set_block (o := 3) (u := sm') (set_block (o := 2) (u := sl') (set_block (o := 1) (u := str nm') (set_block (o := 0) (u := .int .u8 op') h.r1)))
theorem MidP.bound (h : MidP g1 c1 gm cm σ W f vb op nm sl sm X) (hlt : g1 < W.heap.size ∧ c1 < W.heap.size ∧ gm < W.heap.size ∧ cm < W.heap.size) (vb' : Value) : MidP g1 c1 gm cm σ W f vb' op nm sl sm (X.setCell ⟨W.heap.size, 1, none⟩ vb') := by
  have key : ∀ k, k ≠ W.heap.size → (X.setCell ⟨W.heap.size, 1, none⟩ vb').heap[k]? = X.heap[k]? := fun k hk => Below.heap_setCell _ _ _ _ hk
  refine ⟨h.na.heap hlt (fun k hk => key k (by omega)), h.bt.set (by omega) _ _, ?_, (key _ (by omega)).trans h.r1, (key _ (by omega)).trans h.r2⟩
  exact set_block (o := 1) (u := vb') h.r0
theorem fill_key {B : World} {n : Nat} {u0 u1 u2 u3 : Value} {k : Nat} (h : k ≠ n) : ((((B.setCell ⟨n, 0, none⟩ u0).setCell ⟨n, 1, none⟩ u1).setCell ⟨n, 2, none⟩ u2).setCell ⟨n, 3, none⟩ u3).heap[k]? = B.heap[k]? := by
  rw [Below.heap_setCell _ _ _ _ h, Below.heap_setCell _ _ _ _ h, Below.heap_setCell _ _ _ _ h, Below.heap_setCell _ _ _ _ h]
theorem unhid {p : Nat → Bool} {w : World} : Keeps (hide p w) w := fun a v hv => by rw [hide_cell (hide_none hv)] at hv; exact hv
theorem strs_set {w : World} {L : List Bs} {v a b u : Value} {B : Nat} {t : TypeId} (h : StrsAt w L v) (hB : w.heap[B]? = some (.cells #[a, b] t (0, 0))) (ha : ∀ s, a ≠ .string s) (hb : ∀ s, b ≠ .string s) : StrsAt (w.setCell ⟨B, 1, none⟩ u) L v := by
  obtain ⟨x, cap, rfl, h1, h2, h3, h4⟩ := At.sl_inv h
  rcases h4 with h4 | ⟨g, off, rfl, hc⟩
  · exact ⟨_, _, rfl, h1, h2, h3, .inl h4⟩
  · by_cases hg : g = B
    · subst hg
      cases L with
      | nil => exact At.sl_nil h2
      | cons s L =>
        obtain ⟨y, hy, hy2⟩ := hc 0 (strD s) rfl
        rw [box_cell hB] at hy
        have hy3 : y = str s := hy2
        subst hy3
        match off, hy with
        | 0, hy => simp at hy; exact absurd hy (ha _)
        | 1, hy => simp at hy; exact absurd hy (hb _)
        | o + 2, hy => simp at hy
    · refine At.sl_mk h3 h1 h2 fun j d hd => ?_
      obtain ⟨y, hy, hy2⟩ := hc j d hd
      cases L with
      | nil => simp at hd
      | cons s L =>
        rw [List.getElem?_map] at hd
        obtain ⟨z, -, rfl⟩ := Option.map_eq_some_iff.1 hd
        exact ⟨y, by rw [World.cell?_of_block (w := w) (Below.heap_setCell _ _ _ _ hg)]; exact hy, hy2⟩
theorem FmVal.past {p : Nat → Bool} {w w' : World} {f : Fm} {x : Value} (h : FmVal (hide p w) f x) (k : ∀ k, k < w.heap.size → p k = false → w'.heap[k]? = w.heap[k]?) : FmVal (hide p w') f x := h.keep (hide_keeps2 fun i a b => ⟨b, k i a b⟩)
end
def RetK (g1 c1 gm cm : Nat) (σ : List Sy) (f : Fm) (W : World) (e : Ending) (w' : World) : Prop :=
  ∃ v, e = .returned v ∧ FmVal (hide (lo W) w') (f.sk σ).1 v ∧ NamesAt g1 c1 gm cm (f.sk σ).2 w' ∧ ButE (EN gm cm) W w'
set_option maxHeartbeats 8000000 in
theorem form_c (f : Fm) (g1 c1 gm cm : Nat) (σ : List Sy) (vb : Value) (W : World) (x : Value) (h : NamesAt g1 c1 gm cm σ W) (hp : PowAt W) (hr : RowsAt W) (hx0 : FmVal W f x) (hf : f.right = true) (hl : σ.length ≤ 800000) (hv : ∃ a n c, vb = .slice a n c) :
    Calls Tryz.prog 38 #[namesV g1 c1 vb, x] W (RetK g1 c1 gm cm σ f W) := by
  obtain ⟨va, vn, vc, rfl⟩ := hv
  obtain ⟨a, N, c, a2, N2, c2, rfl, hx, hy⟩ := hx0
  obtain ⟨W0, hW0⟩ : ∃ W0, ((W.alloc (.cells #[.func (.func 70) #[] #[one g1, one c1], .slice va vn vc] 80)).alloc (.cells #[.int .u8 f.op, str f.name, .slice a N c, .slice a2 N2 c2] 40)).alloc (.cells #[.int .u8 0, str [], .slice none 0 0, .slice none 0 0] 40) = W0 := ⟨_, rfl⟩
  have lt := h.lt
  have M0 : MidP g1 c1 gm cm σ W (.func (.func 70) #[] #[one g1, one c1]) (.slice va vn vc) f.op f.name (.slice a N c) (.slice a2 N2 c2) W0 := by
    have bw : Below W.heap.size W W0 := by rw [← hW0]; exact (((Below.refl _ _).alloc (Nat.le_refl _) _).alloc (by simp) _).alloc (by simp; omega) _
    refine ⟨h.below bw, .of_below bw, ?_, ?_, ?_⟩
    · rw [← hW0]; exact keep_new _ (keep_new _ (heap_alloc_new W _))
    · rw [← hW0]
      have := heap_alloc_new (W.alloc (.cells #[.func (.func 70) #[] #[one g1, one c1], .slice va vn vc] 80)) (.cells #[.int .u8 f.op, str f.name, .slice a N c, .slice a2 N2 c2] 40)
      rw [World.size_alloc] at this
      exact keep_new _ this
    · rw [← hW0]
      have := heap_alloc_new ((W.alloc (.cells #[.func (.func 70) #[] #[one g1, one c1], .slice va vn vc] 80)).alloc (.cells #[.int .u8 f.op, str f.name, .slice a N c, .slice a2 N2 c2] 40)) (.cells #[.int .u8 0, str [], .slice none 0 0, .slice none 0 0] 40)
      rw [World.size_alloc, World.size_alloc] at this
      exact this
  obtain ⟨F1, hF1⟩ : ∃ F1, f.normal = F1 := ⟨_, rfl⟩
  have nr := Fm.normal_right hf
  have fr := nr.1
  simp only [Fm.right, Bool.and_eq_true, decide_eq_true_eq] at fr
  have okn := Fm.okNames_of f.normal fr.1.1
  have nn : f.normal.nodes ≤ 400 := fr.1.2
  have mr := Fm.mid_right (σ := σ) hf (by omega)
  have K0 := h.keepE M0.bt
  have N1 : Hid (Calls Tryz.prog 26 #[.agg #[.int .u8 f.op, str f.name, .slice a N c, .slice a2 N2 c2]] W0 (RetF0 F1 W0)) := by rw [← hF1]; exact Normal_c f _ W0 (hr.keep K0) (h.powE M0.bt hp) ⟨_, _, _, _, _, _, rfl, hx.keep K0, hy.keep K0⟩ hf
  have BC : Hid (∀ X x, FmVal X F1 x → Calls Tryz.prog 72 #[x] X fun e w' => ∃ L v, e = .returned v ∧ (∀ s, s ∈ L ↔ s ∈ F1.binds) ∧ StrsAt w' L v ∧ Below X.heap.size X w') := by
    rw [← hF1]; exact fun X x hx => Bound_c _ x X hx okn (by omega) (binds_ok _ okn)
  obtain ⟨F2, hF2⟩ : ∃ F2, (F1.told F1.binds σ).1 = F2 := ⟨_, rfl⟩
  obtain ⟨σ2, hS2⟩ : ∃ σ2, (F1.told F1.binds σ).2 = σ2 := ⟨_, rfl⟩
  have PC : Hid (∀ X x L v, (∀ s, s ∈ L ↔ s ∈ F1.binds) → StrsAt X L v → NamesAt g1 c1 gm cm σ X → ButE (EN gm cm) W X → FmVal X F1 x → Calls Tryz.prog 73 #[.agg #[.func (.func 70) #[] #[one g1, one c1], v], x] X fun e w' => ∃ v, e = .returned v ∧ FmVal (hide (lo X) w') F2 v ∧ NamesAt g1 c1 gm cm σ2 w' ∧ ButE (EN gm cm) X w') := by
    intro X x L v hL hS hn hb hv
    refine (np_all F1 g1 c1 gm cm L σ v X x hn hS (h.powE hb hp) hv (by rw [← hF1]; exact fr.1.1) (by rw [← hF1]; omega) (by rw [← hF1]; omega)).mono ?_
    rintro e w' ⟨v, rfl, q1, q2, q3⟩
    rw [ftold_congr hL] at q1 q2
    rw [hF2] at q1
    rw [hS2] at q2
    exact ⟨v, rfl, q1, q2, q3⟩
  have N2C : Hid (∀ X x, ButE (EN gm cm) W X → FmVal X F2 x → Calls Tryz.prog 26 #[x] X (RetF0 F2.normal X)) := fun X x hb hv => Normal_c F2 x X (hr.keep (h.keepE hb)) (h.powE hb hp) hv (by rw [← hF2, ← hF1]; exact mr.1)
  have TE : Hid (f.sk σ = (F2.normal, σ2)) := by show _ = _; rw [← hF2, ← hS2, ← hF1]; rfl
  have HM := Lib.hid M0
  have LT := Lib.hid lt
  have LN : Hid (∀ k, EN gm cm k → k < W.heap.size) := fun k hk => by rcases hk with rfl | rfl <;> omega
  obtain ⟨⟨y0, y1, y2, y3⟩, z0, z1, z2, z3⟩ := row40 M0.r1
  clear M0 h hp hr hx hy hf hl lt hF1 hF2 hS2 nr fr okn nn mr K0
  unfold namesV
  go_enter Tryz.func38, Tryz.ntmps38
  go_wp2_with (first
    | (go_at_call 26
       refine N1.out.mono ?_
       rintro e w1 ⟨fa, fn, fc, fb, fm, fd, rfl, h3, h4, b1⟩
       have M1 := Lib.hid (HM.out.next LN.out (HM.out.na.below b1) (.of_below b1))
       have H1 := Lib.hid (And.intro h3 h4)
       clear N1 h3 h4 b1 y0 y1 y2 y3 z0 z1 z2 z3 hW0
       obtain ⟨⟨y0, y1, y2, y3⟩, z0, z1, z2, z3⟩ := row40 M1.out.r1
       have M2 := Lib.hid (M1.out.fill LT.out F1.op F1.name (.slice fa fn fc) (.slice fb fm fd))
       have LW : Hid (W.heap.size + 1 + 1 < W0.heap.size) := (Array.getElem?_eq_some_iff.1 HM.out.r2).1
       have V2 : Hid (FmVal (hide (lo W0) ((((w1.setCell ⟨W.heap.size + 1, 0, none⟩ (.int .u8 F1.op)).setCell ⟨W.heap.size + 1, 1, none⟩ (str F1.name)).setCell ⟨W.heap.size + 1, 2, none⟩ (.slice fa fn fc)).setCell ⟨W.heap.size + 1, 3, none⟩ (.slice fb fm fd))) F1 (.agg #[.int .u8 F1.op, str F1.name, .slice fa fn fc, .slice fb fm fd])) :=
         FmVal.past (w := w1) ⟨_, _, _, _, _, _, rfl, H1.out.1, H1.out.2⟩ fun k a b => fill_key (by have := LW.out; simp [lo] at b; omega)
       obtain ⟨⟨q0, q1, q2, q3⟩, -, -, -, -⟩ := row40 M2.out.r1)
    | (go_at_call 72
       refine (BC.out _ _ (V2.out.keep unhid)).mono ?_
       rintro e w3 ⟨L, v3, rfl, hL, hS, b3⟩
       obtain ⟨ka, kc, rfl, -, -, -, -⟩ := At.sl_inv hS
       have M3 := Lib.hid (M2.out.next LN.out (M2.out.na.below b3) (.of_below b3))
       have V3 := Lib.hid (FmVal.past (w' := w3) V2.out fun k a b => b3.block k a)
       clear V2 b3 y0 y1 y2 y3 z0 z1 z2 z3 q0 q1 q2 q3
       obtain ⟨x0, x1, y0, y1⟩ := row2 M3.out.r0
       have M4 := Lib.hid (M3.out.bound LT.out (.slice ka L.length kc))
       have S4 := Lib.hid (strs_set (u := .slice ka L.length kc) hS M3.out.r0 (fun s e => by cases e) (fun s e => by cases e))
       have V4 : Hid (FmVal (hide (lo W0) (w3.setCell ⟨W.heap.size, 1, none⟩ (.slice ka L.length kc))) F1 (.agg #[.int .u8 F1.op, str F1.name, .slice fa fn fc, .slice fb fm fd])) := FmVal.past V3.out fun k a b => Below.heap_setCell _ _ _ _ (by have := LW.out; simp [lo] at b; show k ≠ W.heap.size; omega)
       have HLL := Lib.hid hL
       clear hS hL V3
       obtain ⟨e0, e1, -, -⟩ := row2 M4.out.r0
       obtain ⟨⟨q0, q1, q2, q3⟩, -, -, -, -⟩ := row40 M4.out.r1)
    | (go_at_call 73
       refine (PC.out _ _ L _ HLL.out S4.out M4.out.na M4.out.bt (V4.out.keep unhid)).mono ?_
       rintro e w5 ⟨v5, rfl, ⟨pa, pn, pc, pb, pm, pd, rfl, h5, h6⟩, n5, b5⟩
       have M5 := Lib.hid (M4.out.next LN.out n5 b5)
       have V5 : Hid (FmVal w5 F2 (.agg #[.int .u8 F2.op, str F2.name, .slice pa pn pc, .slice pb pm pd])) := ⟨_, _, _, _, _, _, rfl, h5.keep unhid, h6.keep unhid⟩
       clear h5 h6 n5 b5 V4 S4 HLL x0 x1 y0 y1 e0 e1 q0 q1 q2 q3)
    | (go_at_call 26
       refine (N2C.out _ _ M5.out.bt V5.out).mono ?_
       rintro e w6 ⟨ra, rn, rc, rb, rm, rd, rfl, h7, h8, b6⟩
       have M6 := Lib.hid (M5.out.next LN.out (M5.out.na.below b6) (.of_below b6))
       have H7 := Lib.hid (And.intro h7 h8)
       clear h7 h8 b6
       obtain ⟨⟨y0, y1, y2, y3⟩, z0, z1, z2, z3⟩ := row40 M6.out.r1
       have M7 := Lib.hid (M6.out.fill LT.out F2.normal.op F2.normal.name (.slice ra rn rc) (.slice rb rm rd))
       obtain ⟨⟨q0, q1, q2, q3⟩, -, -, -, -⟩ := row40 M7.out.r1
       obtain ⟨⟨s0, s1, s2, s3⟩, x0, x1, x2, x3⟩ := row40 M7.out.r2))
  obtain ⟨h7, h8⟩ := H7.out
  have lw5 := M5.out.bt.size
  have lw := (Array.getElem?_eq_some_iff.1 M5.out.r2).1
  have M8 := Lib.hid (M7.out)
  have g := set_block (o := 3) (u := .slice rb rm rd) (set_block (o := 2) (u := .slice ra rn rc) (set_block (o := 1) (u := str F2.normal.name) (set_block (o := 0) (u := .int .u8 F2.normal.op) M7.out.r2)))
  refine bodyPost_ret (res25 rfl _ _ (W.heap.size + 1 + 1) _ _ _ _ (0, 0) rfl g) rfl ?_
  have ky : ∀ k, W.heap.size + 1 + 1 < k → _ = w6.heap[k]? := fun k hk => (fill_key (B := _) (n := W.heap.size + 1 + 1) (u0 := .int .u8 F2.normal.op) (u1 := str F2.normal.name) (u2 := .slice ra rn rc) (u3 := .slice rb rm rd) (k := k) (by omega)).trans (fill_key (B := w6) (n := W.heap.size + 1) (u0 := .int .u8 F2.normal.op) (u1 := str F2.normal.name) (u2 := .slice ra rn rc) (u3 := .slice rb rm rd) (k := k) (by omega))
  refine ⟨.agg #[.int .u8 F2.normal.op, str F2.normal.name, .slice ra rn rc, .slice rb rm rd], rfl, ?_, ?_, ((((M7.out.bt.set (by omega) _ _).set (by omega) _ _).set (by omega) _ _).set (by omega) _ _)⟩
  · rw [TE.out]
    refine ⟨_, _, _, _, _, _, rfl, ?_, ?_⟩
    · refine h7.keep (hide_keeps2 fun k h1 h2 => ?_)
      simp only [lo, decide_eq_false_iff_not, Nat.not_lt] at h2 ⊢
      exact ⟨by omega, ky k (by omega)⟩
    · refine h8.keep (hide_keeps2 fun k h1 h2 => ?_)
      simp only [lo, decide_eq_false_iff_not, Nat.not_lt] at h2 ⊢
      exact ⟨by omega, ky k (by omega)⟩
  · rw [TE.out]
    exact M7.out.na.heap LT.out (fun k hk => fill_key (by omega))
end Go.Proofs.YtppfalbnhnpbnaaGreatDoor
