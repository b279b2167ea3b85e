/- Plain law: the skeleton of a skeleton is itself. Nothing of the program is imported. -/
import Derived.Test.YtppfalbnhnpbnaaGreatDoorSkDY
import Derived.Test.YtppfalbnhnpbnaaGreatDoorNtBY
set_option linter.unusedSimpArgs false
set_option linter.unusedVariables false
namespace Ly
open Go.Lib (itoa decDigits)
/- The places of symbols. -/
def cnt : List Sy → Sy → Nat
  | [], _ => 0
  | x :: σ, s => if x = s then 0 else (if x.kind = s.kind then 1 else 0) + cnt σ s
theorem place_cnt (σ : List Sy) (s : Sy) : Sy.place σ s = cnt σ s + 1 := by
  unfold Sy.place
  congr 1
  induction σ with
  | nil => rfl
  | cons x σ ih =>
    rw [cnt, List.takeWhile_cons]
    by_cases h : x = s
    · simp [h]
    · simp only [h, ne_eq, not_false_eq_true, decide_true, if_true, if_false, List.countP_cons, ih]
      by_cases hk : x.kind = s.kind <;> simp [hk] <;> omega
theorem cnt_ne : ∀ (σ : List Sy) {s t : Sy}, s ≠ t → s.kind = t.kind → (s ∈ σ ∨ t ∈ σ) → cnt σ s ≠ cnt σ t
  | [], _, _, _, _, h => by simp at h
  | x :: σ, s, t, hne, hk, h => by
    rw [cnt, cnt]
    by_cases h1 : x = s
    · subst h1
      rw [if_pos rfl, if_neg hne, if_pos hk]; omega
    · by_cases h2 : x = t
      · subst h2
        rw [if_pos rfl, if_neg h1, if_pos hk.symm]; omega
      · rw [if_neg h1, if_neg h2, hk]
        have := cnt_ne σ hne hk (h.imp (fun h => (List.mem_cons.1 h).resolve_left (Ne.symm h1)) (fun h => (List.mem_cons.1 h).resolve_left (Ne.symm h2)))
        omega
def Sy.hat (σ : List Sy) (s : Sy) : Sy := ⟨s.sort, Sy.told σ s, s.ar⟩
def hats (σ : List Sy) : List Sy := σ.map (Sy.hat σ)
theorem hat_kind (σ : List Sy) (s : Sy) : (Sy.hat σ s).kind = s.kind := rfl
theorem hat_inj {σ : List Sy} {s t : Sy} (h : s ∈ σ ∨ t ∈ σ) (e : Sy.hat σ s = Sy.hat σ t) : s = t := by
  by_cases hne : s = t
  · exact hne
  · have hk : s.kind = t.kind := by rw [← hat_kind σ s, e, hat_kind]
    have hn : Sy.told σ s = Sy.told σ t := congrArg Sy.name e
    unfold Sy.told at hn
    rw [hk] at hn
    have := itoa_inj (by omega) (by omega) (List.append_cancel_left hn)
    rw [place_cnt, place_cnt] at this
    exact absurd (by omega) (cnt_ne σ hne hk h)
theorem cnt_map {h : Sy → Sy} (hk : ∀ x, (h x).kind = x.kind) (s : Sy) : ∀ (τ : List Sy), (∀ x ∈ τ, h x = h s → x = s) → cnt (τ.map h) (h s) = cnt τ s
  | [], _ => rfl
  | x :: τ, hi => by
    rw [List.map_cons, cnt, cnt, hk, hk, cnt_map hk s τ fun y hy => hi y (by simp [hy])]
    by_cases e : x = s
    · subst e; simp
    · rw [if_neg e, if_neg (fun h2 => e (hi x (by simp) h2))]
theorem told_hat (σ : List Sy) (s : Sy) : Sy.told (hats σ) (Sy.hat σ s) = Sy.told σ s := by
  unfold Sy.told
  rw [hat_kind, place_cnt, place_cnt]
  unfold hats
  rw [cnt_map (hat_kind σ) s σ fun x hx e => hat_inj (.inl hx) e]
theorem cnt_snoc (s : Sy) : ∀ (σ : List Sy) (x : Sy), x ∈ σ ∨ x = s → cnt (σ ++ [s]) x = cnt σ x
  | [], x, h => by
    obtain rfl : x = s := by simpa using h
    simp [cnt]
  | y :: σ, x, h => by
    rw [List.cons_append, cnt, cnt]
    by_cases e : y = x
    · simp [e]
    · rw [if_neg e, if_neg e, cnt_snoc s σ x (h.imp (fun h => (List.mem_cons.1 h).resolve_left (Ne.symm e)) id)]
theorem hat_snoc (s : Sy) (σ : List Sy) (x : Sy) (h : x ∈ σ ∨ x = s) : Sy.hat (σ ++ [s]) x = Sy.hat σ x := by
  unfold Sy.hat Sy.told
  rw [place_cnt, place_cnt, cnt_snoc s σ x h]
theorem hats_add (σ : List Sy) (s : Sy) : hats (Sy.add σ s) = Sy.add (hats σ) (Sy.hat σ s) := by
  unfold Sy.add
  by_cases h : s ∈ σ
  · have hm : Sy.hat σ s ∈ hats σ := List.mem_map.2 ⟨s, h, rfl⟩
    rw [if_pos h, if_pos hm]
  · rw [if_neg h, if_neg]
    · unfold hats
      rw [List.map_append, List.map_cons, List.map_nil, hat_snoc s σ s (.inr rfl)]
      congr 1
      exact List.map_congr_left fun x hx => hat_snoc s σ x (.inl hx)
    · intro hm
      obtain ⟨x, hx, e⟩ := List.mem_map.1 hm
      exact h (hat_inj (.inl hx) e ▸ hx)
/- What begins with x. -/
def hx (n : Bs) : Prop := n.head? = some 120
theorem hx_xN (k : Nat) : hx (xN k) := rfl
theorem not_hx (σ : List Sy) (n : Bs) : ¬ hx (Sy.told σ ⟨117, n, 0⟩) := by
  unfold Sy.told Sy.kind hx
  rw [if_pos rfl]
  simp
theorem tmsSwap_len (g : Bs → Option Bs) : ∀ l : List Tm, (tmsSwap g l).length = l.length
  | [] => rfl
  | t :: ts => by simp [tmsSwap, tmsSwap_len g ts]
theorem tmsTold_len (b : List Bs) : ∀ (l : List Tm) (σ : List Sy), (tmsTold b σ l).1.length = l.length
  | [], _ => rfl
  | t :: ts, σ => by simp [tmsTold, tmsTold_len b ts]
mutual
theorem Tm.told_swap {b b' : List Bs} {ar : List (Bs × Bs)} (har : ∀ p ∈ ar, hx p.1) (hb : ∀ x ∈ b', hx x) : ∀ (t : Tm) (σ : List Sy), t.ok = true → (∀ x ∈ t.vars, x ∈ b → ∃ y, arOf ar x = some y ∧ y ∈ b') → ((t.told b σ).1.swap (arOf ar)).told b' (hats σ) = ((t.told b σ).1.swap (arOf ar), hats (t.told b σ).2)
  | .mk v n ts, σ, h, hv => by
    rw [Tm.ok] at h
    cases v with
    | true =>
      simp only [if_true, Bool.and_eq_true, List.isEmpty_iff] at h
      obtain ⟨rfl, -⟩ := h
      by_cases hn : n ∈ b
      · obtain ⟨y, e, hy⟩ := hv n (by simp [Tm.vars]) hn
        simp [Tm.told, nameT, hn, Tm.swap, e, tmsTold, hy]
      · have e : arOf ar (Sy.told σ ⟨117, n, 0⟩) = none := arOf_none.2 fun hm => by
          obtain ⟨p, hp, e2⟩ := List.mem_map.1 hm
          exact not_hx σ n (e2 ▸ har p hp)
        have e3 : Sy.told σ ⟨117, n, 0⟩ ∉ b' := fun hm => not_hx σ n (hb _ hm)
        have e4 : (⟨117, Sy.told σ ⟨117, n, 0⟩, 0⟩ : Sy) = Sy.hat σ ⟨117, n, 0⟩ := rfl
        simp only [Tm.told, nameT, hn, if_true, if_false, Tm.swap, e, tmsTold, tmsSwap, e3, List.length_nil]
        rw [e4, told_hat, ← hats_add]
    | false =>
      simp only [Bool.false_eq_true, if_false, Bool.and_eq_true] at h
      have ih := tmsTold_swap (b := b) har hb ts (Sy.add σ ⟨97, n, ts.length⟩) h.2 (fun x hx' => hv x (by simp [Tm.vars, hx']))
      have e4 : (⟨97, Sy.told σ ⟨97, n, ts.length⟩, ts.length⟩ : Sy) = Sy.hat σ ⟨97, n, ts.length⟩ := rfl
      simp only [Tm.told, nameT, Bool.false_eq_true, if_false, Tm.swap, tmsSwap_len, tmsTold_len]
      rw [e4, told_hat, ← hats_add, ih]
theorem tmsTold_swap {b b' : List Bs} {ar : List (Bs × Bs)} (har : ∀ p ∈ ar, hx p.1) (hb : ∀ x ∈ b', hx x) : ∀ (l : List Tm) (σ : List Sy), tmsOk l = true → (∀ x ∈ tmsVars l, x ∈ b → ∃ y, arOf ar x = some y ∧ y ∈ b') → tmsTold b' (hats σ) (tmsSwap (arOf ar) (tmsTold b σ l).1) = (tmsSwap (arOf ar) (tmsTold b σ l).1, hats (tmsTold b σ l).2)
  | [], σ, _, _ => rfl
  | t :: ts, σ, h, hv => by
    simp only [tmsOk, Bool.and_eq_true] at h
    have a := Tm.told_swap (b := b) har hb t σ h.1 (fun x hx' => hv x (by simp [tmsVars, hx']))
    have c := tmsTold_swap (b := b) har hb ts (t.told b σ).2 h.2 (fun x hx' => hv x (by simp [tmsVars, hx']))
    simp only [tmsTold, tmsSwap]
    rw [a]
    simp only []
    rw [c]
end
mutual
def Fm.scoped (F : List Bs) : List Bs → Fm → Prop
  | D, .mk op n ts fs => (∀ x ∈ tmsVars ts, x ∈ D ∨ x ∈ F) ∧ fmsScoped F (if quant op then n :: D else D) fs
def fmsScoped (F : List Bs) : List Bs → List Fm → Prop
  | _, [] => True
  | D, f :: fs => f.scoped F D ∧ fmsScoped F D fs
end
theorem arOf_some {ar : List (Bs × Bs)} {x : Bs} (h : x ∈ ar.map (·.1)) : ∃ p ∈ ar, arOf ar x = some p.2 := by
  cases e : arOf ar x with
  | none => exact absurd h (arOf_none.1 e)
  | some m =>
    obtain ⟨p, hp, rfl⟩ := arOf_mem e
    exact ⟨p, hp, rfl⟩
mutual
theorem Fm.told_norm {b b' fr F : List Bs} (hb : ∀ x ∈ b', hx x) (hF : ∀ x ∈ b, x ∉ F) : ∀ (f : Fm) (σ : List Sy) (ar : List (Bs × Bs)), f.ok = true → f.scoped F (ar.map (·.1)) → (∀ p ∈ ar, hx p.1 ∧ p.2 ∈ b') → (∀ x ∈ f.binds, hx x) → (∀ x ∈ ((f.told b σ).1.norm fr ar).binds, x ∈ b') →
    ((f.told b σ).1.norm fr ar).told b' (hats σ) = ((f.told b σ).1.norm fr ar, hats (f.told b σ).2)
  | .mk op n ts fs, σ, ar, h, hs, ha, hbi, hn => by
    simp only [Fm.ok, Bool.and_eq_true, decide_eq_true_eq] at h
    have hv : ∀ x ∈ tmsVars ts, x ∈ b → ∃ y, arOf ar x = some y ∧ y ∈ b' := fun x hx' hxb => by
      obtain ⟨p, hp, e⟩ := arOf_some ((hs.1 x hx').resolve_right (hF x hxb))
      exact ⟨p.2, e, (ha p hp).2⟩
    have har : ∀ p ∈ ar, hx p.1 := fun p hp => (ha p hp).1
    by_cases hq : quant op = true
    · have h1 : ¬ op = 1 := by rintro rfl; simp [quant] at hq
      have hs2 : fmsScoped F (n :: ar.map (·.1)) fs := by have := hs.2; rwa [if_pos hq] at this
      simp only [Fm.told, nameF, if_neg h1] at hn ⊢
      rw [Fm.norm, if_pos hq] at hn ⊢
      rw [Fm.binds, if_pos hq] at hn
      have a := tmsTold_swap (b := b) har hb ts σ h.1.2 hv
      have c := fmsTold_norm (b := b) (fr := fr) hb hF fs (tmsTold b σ ts).2 ((n, least (fr ++ ar.map (·.2))) :: ar) h.2 hs2 (fun p hp => by
        rcases List.mem_cons.1 hp with rfl | hp
        · exact ⟨hbi _ (by simp [Fm.binds, hq]), hn _ (by simp)⟩
        · exact ha p hp) (fun x hx' => hbi x (by simp [Fm.binds, hx'])) (fun x hx' => hn x (by simp [hx']))
      simp only [Fm.told, nameF, if_neg h1]
      rw [a]
      simp only []
      rw [c]
    · have hs2 : fmsScoped F (ar.map (·.1)) fs := by have := hs.2; rwa [if_neg hq] at this
      by_cases h1 : op = 1
      · subst h1
        simp only [Fm.told, nameF, if_true] at hn ⊢
        rw [Fm.norm, if_neg hq] at hn ⊢
        rw [Fm.binds, if_neg hq] at hn
        have a := tmsTold_swap (b := b) har hb ts (Sy.add σ ⟨80, n, ts.length⟩) h.1.2 hv
        have c := fmsTold_norm (b := b) (fr := fr) hb hF fs (tmsTold b (Sy.add σ ⟨80, n, ts.length⟩) ts).2 ar h.2 hs2 ha (fun x hx' => hbi x (by simp [Fm.binds, hx'])) (fun x hx' => hn x (by simp [hx']))
        have e4 : (⟨80, Sy.told σ ⟨80, n, ts.length⟩, ts.length⟩ : Sy) = Sy.hat σ ⟨80, n, ts.length⟩ := rfl
        simp only [Fm.told, nameF, if_true, tmsSwap_len, tmsTold_len]
        rw [e4, told_hat, ← hats_add, a]
        simp only []
        rw [c]
      · simp only [Fm.told, nameF, if_neg h1] at hn ⊢
        rw [Fm.norm, if_neg hq] at hn ⊢
        rw [Fm.binds, if_neg hq] at hn
        have a := tmsTold_swap (b := b) har hb ts σ h.1.2 hv
        have c := fmsTold_norm (b := b) (fr := fr) hb hF fs (tmsTold b σ ts).2 ar h.2 hs2 ha (fun x hx' => hbi x (by simp [Fm.binds, hx'])) (fun x hx' => hn x (by simp [hx']))
        simp only [Fm.told, nameF, if_neg h1]
        rw [a]
        simp only []
        rw [c]
theorem fmsTold_norm {b b' fr F : List Bs} (hb : ∀ x ∈ b', hx x) (hF : ∀ x ∈ b, x ∉ F) : ∀ (l : List Fm) (σ : List Sy) (ar : List (Bs × Bs)), fmsOk l = true → fmsScoped F (ar.map (·.1)) l → (∀ p ∈ ar, hx p.1 ∧ p.2 ∈ b') → (∀ x ∈ fmsBinds l, hx x) → (∀ x ∈ fmsBinds (fmsNorm fr ar (fmsTold b σ l).1), x ∈ b') →
    fmsTold b' (hats σ) (fmsNorm fr ar (fmsTold b σ l).1) = (fmsNorm fr ar (fmsTold b σ l).1, hats (fmsTold b σ l).2)
  | [], σ, ar, _, _, _, _, _ => rfl
  | f :: fs, σ, ar, h, hs, ha, hbi, hn => by
    simp only [fmsOk, Bool.and_eq_true] at h
    simp only [fmsTold, fmsNorm, fmsBinds, List.mem_append] at hn hbi ⊢
    have a := Fm.told_norm (b := b) (fr := fr) hb hF f σ ar h.1 hs.1 ha (fun x hx' => hbi x (.inl hx')) (fun x hx' => hn x (.inl hx'))
    have c := fmsTold_norm (b := b) (fr := fr) hb hF fs (f.told b σ).2 ar h.2 hs.2 ha (fun x hx' => hbi x (.inr hx')) (fun x hx' => hn x (.inr hx'))
    rw [a]
    simp only []
    rw [c]
end
mutual
theorem Fm.norm_binds {fr : List Bs} : ∀ (ar : List (Bs × Bs)) (f : Fm), ∀ x ∈ (f.norm fr ar).binds, hx x ∧ x ∉ fr
  | ar, .mk op n ts fs, x, h => by
    rw [Fm.norm] at h
    by_cases hq : quant op = true
    · rw [if_pos hq, Fm.binds, if_pos hq] at h
      rcases List.mem_append.1 h with h | h
      · rw [List.mem_singleton] at h
        subst h
        exact ⟨hx_xN _, fun hm => leastN_new (fr ++ ar.map (·.2)) (List.mem_append_left _ hm)⟩
      · exact fmsNorm_binds _ fs x h
    · rw [if_neg hq, Fm.binds, if_neg hq, List.nil_append] at h
      exact fmsNorm_binds _ fs x h
theorem fmsNorm_binds {fr : List Bs} : ∀ (ar : List (Bs × Bs)) (l : List Fm), ∀ x ∈ fmsBinds (fmsNorm fr ar l), hx x ∧ x ∉ fr
  | ar, [], x, h => by simp [fmsNorm, fmsBinds] at h
  | ar, f :: fs, x, h => by
    rw [fmsNorm, fmsBinds] at h
    rcases List.mem_append.1 h with h | h
    · exact Fm.norm_binds ar f x h
    · exact fmsNorm_binds ar fs x h
end
mutual
theorem Tm.swap_scoped {fr : List Bs} {ar : List (Bs × Bs)} : ∀ t : Tm, t.ok = true → (∀ x ∈ t.vars, x ∉ ar.map (·.1) → x ∈ fr) → ∀ x ∈ (t.swap (arOf ar)).vars, x ∈ ar.map (·.2) ∨ x ∈ fr
  | .mk v n ts, h, hv, x, hm => by
    rw [Tm.ok] at h
    cases v with
    | true =>
      simp only [if_true, Bool.and_eq_true, List.isEmpty_iff] at h
      obtain ⟨rfl, -⟩ := h
      rw [Tm.swap] at hm
      simp only [if_true] at hm
      cases e : arOf ar n with
      | none =>
        rw [e] at hm
        simp only [Tm.vars, if_true, tmsSwap, tmsVars, List.append_nil, List.mem_singleton] at hm
        subst hm
        exact .inr (hv x (by simp [Tm.vars]) (arOf_none.1 e))
      | some m =>
        rw [e] at hm
        simp only [Tm.vars, if_true, tmsVars, List.append_nil, List.mem_singleton] at hm
        obtain ⟨p, hp, rfl⟩ := arOf_mem e
        exact .inl (List.mem_map.2 ⟨p, hp, hm.symm⟩)
    | false =>
      simp only [Bool.false_eq_true, if_false, Bool.and_eq_true] at h
      rw [Tm.swap] at hm
      simp only [Bool.false_eq_true, if_false] at hm
      simp only [Tm.vars, Bool.false_eq_true, if_false, List.nil_append] at hv hm
      exact tmsSwap_scoped ts h.2 hv x hm
theorem tmsSwap_scoped {fr : List Bs} {ar : List (Bs × Bs)} : ∀ l : List Tm, tmsOk l = true → (∀ x ∈ tmsVars l, x ∉ ar.map (·.1) → x ∈ fr) → ∀ x ∈ tmsVars (tmsSwap (arOf ar) l), x ∈ ar.map (·.2) ∨ x ∈ fr
  | [], _, _, x, hm => by simp [tmsSwap, tmsVars] at hm
  | t :: ts, h, hv, x, hm => by
    simp only [tmsOk, Bool.and_eq_true] at h
    rw [tmsSwap, tmsVars] at hm
    rcases List.mem_append.1 hm with hm | hm
    · exact Tm.swap_scoped t h.1 (fun y hy => hv y (by simp [tmsVars, hy])) x hm
    · exact tmsSwap_scoped ts h.2 (fun y hy => hv y (by simp [tmsVars, hy])) x hm
end
mutual
theorem Fm.norm_scoped {fr : List Bs} : ∀ (ar : List (Bs × Bs)) (f : Fm), f.ok = true → (∀ x ∈ f.free (ar.map (·.1)), x ∈ fr) → (f.norm fr ar).scoped fr (ar.map (·.2))
  | ar, .mk op n ts fs, h, hv => by
    simp only [Fm.ok, Bool.and_eq_true, decide_eq_true_eq] at h
    simp only [Fm.free, List.mem_append, List.mem_filter, decide_eq_true_eq] at hv
    have a := tmsSwap_scoped (fr := fr) (ar := ar) ts h.1.2 (fun x hx' hn => hv x (.inl ⟨hx', hn⟩))
    rw [Fm.norm]
    by_cases hq : quant op = true
    · rw [if_pos hq] at hv ⊢
      refine ⟨a, ?_⟩
      rw [if_pos hq]
      exact fmsNorm_scoped ((n, least (fr ++ ar.map (·.2))) :: ar) fs h.2 (fun x hx' => hv x (.inr hx'))
    · rw [if_neg hq] at hv ⊢
      refine ⟨a, ?_⟩
      rw [if_neg hq]
      exact fmsNorm_scoped ar fs h.2 (fun x hx' => hv x (.inr hx'))
theorem fmsNorm_scoped {fr : List Bs} : ∀ (ar : List (Bs × Bs)) (l : List Fm), fmsOk l = true → (∀ x ∈ fmsFree (ar.map (·.1)) l, x ∈ fr) → fmsScoped fr (ar.map (·.2)) (fmsNorm fr ar l)
  | ar, [], _, _ => trivial
  | ar, f :: fs, h, hv => by
    simp only [fmsOk, Bool.and_eq_true] at h
    simp only [fmsFree, List.mem_append] at hv
    exact ⟨Fm.norm_scoped ar f h.1 (fun x hx' => hv x (.inl hx')), fmsNorm_scoped ar fs h.2 (fun x hx' => hv x (.inr hx'))⟩
end
theorem Fm.sk_idem {f : Fm} {σ : List Sy} (h : f.right = true) (hs : σ.length ≤ 900000) : (f.sk σ).1.sk (hats σ) = ((f.sk σ).1, hats (f.sk σ).2) := by
  obtain ⟨m1, -, -, -⟩ := Fm.mid_right h hs
  have h0 := h
  simp only [Fm.right, Bool.and_eq_true, decide_eq_true_eq] at h0
  have n1 := (Fm.normal_right h).1
  simp only [Fm.right, Bool.and_eq_true, decide_eq_true_eq] at n1
  have e := Fm.normal_idem m1
  have k := Fm.told_norm (b := f.normal.binds) (b' := (f.normal.told f.normal.binds σ).1.normal.binds) (fr := (f.normal.told f.normal.binds σ).1.free []) (F := f.free [])
    (fun x hx' => (Fm.norm_binds _ _ x hx').1) (fun x hx' => (Fm.norm_binds _ _ x hx').2) f.normal σ [] n1.1.1 (Fm.norm_scoped [] f h0.1.1 fun x hx' => hx') (fun p hp => by cases hp) (fun x hx' => (Fm.norm_binds _ _ x hx').1) (fun x hx' => hx')
  have k' : (f.normal.told f.normal.binds σ).1.normal.told (f.normal.told f.normal.binds σ).1.normal.binds (hats σ) = ((f.normal.told f.normal.binds σ).1.normal, hats (f.normal.told f.normal.binds σ).2) := k
  unfold Fm.sk
  simp only []
  rw [e, k']
  simp only []
  rw [e]
theorem fmsSk_idem : ∀ (l : List Fm) (σ : List Sy), (∀ f ∈ l, f.right = true) → σ.length + l.length * 400 ≤ 900000 → fmsSk (hats σ) (fmsSk σ l).1 = ((fmsSk σ l).1, hats (fmsSk σ l).2)
  | [], σ, _, _ => rfl
  | f :: fs, σ, h, hs => by
    simp only [List.length_cons] at hs
    have a := Fm.sk_idem (σ := σ) (h f (by simp)) (by omega)
    obtain ⟨-, -, -, hl⟩ := Fm.mid_right (σ := σ) (h f (by simp)) (by omega)
    have c := fmsSk_idem fs (f.sk σ).2 (fun g hg => h g (by simp [hg])) (by omega)
    simp only [fmsSk]
    rw [a]
    simp only []
    rw [c]
theorem fmsSk_len : ∀ (l : List Fm) (σ : List Sy), (fmsSk σ l).1.length = l.length
  | [], _ => rfl
  | f :: fs, σ => by simp [fmsSk, fmsSk_len fs]
theorem fmsSk_le : ∀ (l : List Fm) (σ : List Sy), (∀ f ∈ l, f.right = true) → σ.length + l.length * 400 ≤ 900000 → (fmsSk σ l).2.length ≤ σ.length + l.length * 400
  | [], σ, _, _ => by simp [fmsSk]
  | f :: fs, σ, h, hs => by
    simp only [List.length_cons] at hs ⊢
    obtain ⟨-, -, -, hl⟩ := Fm.mid_right (σ := σ) (h f (by simp)) (by omega)
    have := fmsSk_le fs (f.sk σ).2 (fun g hg => h g (by simp [hg])) (by omega)
    simp only [fmsSk]; omega
theorem skOf_idem {L R : List Fm} (hL : ∀ f ∈ L, f.right = true) (hR : ∀ f ∈ R, f.right = true) (h : L.length + R.length ≤ 200) : skOf (skOf L R).1 (skOf L R).2 = skOf L R := by
  have a := fmsSk_idem L [] hL (by simp; omega)
  have b := fmsSk_le L [] hL (by simp; omega)
  have c := fmsSk_idem R (fmsSk [] L).2 hR (by simp at b; omega)
  have e : hats [] = [] := rfl
  rw [e] at a
  unfold skOf
  simp only []
  rw [a]
  simp only []
  rw [c]
end Ly
namespace Ly
open Go.Lib (itoa decDigits)
mutual
def Tm.alike : Tm → Tm → Bool
  | .mk v n ts, .mk v' n' ts' => v == v' && (if v then n'.head? == some 117 || n'.head? == some 120 else n'.head? == some 97) && tmsAlike ts ts'
def tmsAlike : List Tm → List Tm → Bool
  | [], [] => true
  | t :: ts, u :: us => t.alike u && tmsAlike ts us
  | _, _ => false
end
mutual
def Fm.alike : Fm → Fm → Bool
  | .mk op n ts fs, .mk op' n' ts' fs' => decide (op = op') && tmsAlike ts ts' && (if op = 1 then n'.head? == some 80 else true) && (if quant op then n'.head? == some 120 else true) && fmsAlike fs fs'
def fmsAlike : List Fm → List Fm → Bool
  | [], [] => true
  | f :: fs, g :: gs => f.alike g && fmsAlike fs gs
  | _, _ => false
end
/- The shape of a term stays in the normal form; the names are told. A variable may be bound (D) or begin with u. -/
theorem head_var (σ : List Sy) (n : Bs) : (Sy.told σ ⟨117, n, 0⟩).head? = some 117 := by simp [Sy.told, Sy.kind]
theorem head_num (σ : List Sy) (c : UInt8) (n : Bs) (k : Nat) (h : c ≠ 117) : (Sy.told σ ⟨c, n, k⟩).head? = some c := by simp [Sy.told, Sy.kind, h]
mutual
theorem Tm.sk_alike {g1 g2 : Bs → Option Bs} {b : List Bs} (h1 : ∀ x y, g1 x = some y → hx y) (h2 : ∀ x y, g2 x = some y → hx y) (hb : ∀ x ∈ b, hx x) : ∀ (t : Tm) (σ : List Sy), t.ok = true → t.alike (((t.swap g1).told b σ).1.swap g2) = true
  | .mk v n ts, σ, h => by
    rw [Tm.ok] at h
    cases v with
    | true =>
      simp only [if_true, Bool.and_eq_true, List.isEmpty_iff] at h
      obtain ⟨rfl, -⟩ := h
      have key : ∀ m : Bs, ((Tm.mk true n []).alike (((Tm.mk true m []).told b σ).1.swap g2)) = true := fun m => by
        have hm : (nameT b σ true m 0).1.head? = some 117 ∨ (nameT b σ true m 0).1.head? = some 120 := by
          unfold nameT
          rw [if_pos rfl]
          split
          · rename_i hm; exact .inr (hb _ hm)
          · exact .inl (head_var σ m)
        simp only [Tm.told, tmsTold, List.length_nil, Tm.swap, if_true]
        cases e : g2 (nameT b σ true m 0).1 with
        | none => simp only [tmsSwap, Tm.alike, tmsAlike]; rcases hm with hm | hm <;> simp [hm]
        | some y => have := h2 _ _ e; unfold hx at this; simp [Tm.alike, tmsAlike, this]
      rw [Tm.swap]
      simp only [if_true]
      cases e : g1 n with
      | none => exact key n
      | some m => exact key m
    | false =>
      simp only [Bool.false_eq_true, if_false, Bool.and_eq_true] at h
      have ih := tmsSk_alike h1 h2 hb ts (nameT b σ false n (tmsSwap g1 ts).length).2 h.2
      have hm : (nameT b σ false n (tmsSwap g1 ts).length).1.head? = some 97 := by
        unfold nameT
        simp only [Bool.false_eq_true, if_false]
        exact head_num σ 97 n _ (by decide)
      simp only [Tm.swap, Bool.false_eq_true, if_false, Tm.told, Tm.alike, ih, hm]
      simp
theorem tmsSk_alike {g1 g2 : Bs → Option Bs} {b : List Bs} (h1 : ∀ x y, g1 x = some y → hx y) (h2 : ∀ x y, g2 x = some y → hx y) (hb : ∀ x ∈ b, hx x) : ∀ (l : List Tm) (σ : List Sy), tmsOk l = true → tmsAlike l (tmsSwap g2 (tmsTold b σ (tmsSwap g1 l)).1) = true
  | [], σ, _ => rfl
  | t :: ts, σ, h => by
    simp only [tmsOk, Bool.and_eq_true] at h
    simp only [tmsSwap, tmsTold, tmsAlike, Tm.sk_alike h1 h2 hb t σ h.1, tmsSk_alike h1 h2 hb ts _ h.2]
    rfl
end
theorem arOf_hx {ar : List (Bs × Bs)} (h : ∀ p ∈ ar, hx p.2) (x y : Bs) (e : arOf ar x = some y) : hx y := by
  obtain ⟨p, hp, rfl⟩ := arOf_mem e; exact h p hp
mutual
theorem Fm.sk_alike {f1 f2 b : List Bs} (hb : ∀ x ∈ b, hx x) : ∀ (f : Fm) (σ : List Sy) (a1 a2 : List (Bs × Bs)), f.ok = true → (∀ p ∈ a1, hx p.2) → (∀ p ∈ a2, hx p.2) → f.alike (((f.norm f1 a1).told b σ).1.norm f2 a2) = true
  | .mk op n ts fs, σ, a1, a2, h, k1, k2 => by
    simp only [Fm.ok, Bool.and_eq_true, decide_eq_true_eq] at h
    by_cases hq : quant op = true
    · have h1 : ¬ op = 1 := by rintro rfl; simp [quant] at hq
      rw [Fm.norm, if_pos hq]
      simp only [Fm.told, nameF, if_neg h1]
      rw [Fm.norm, if_pos hq]
      have t := tmsSk_alike (arOf_hx k1) (arOf_hx k2) hb ts σ h.1.2
      have c := fmsSk_alike (f1 := f1) (f2 := f2) hb fs (tmsTold b σ (tmsSwap (arOf a1) ts)).2 ((n, least (f1 ++ a1.map (·.2))) :: a1) ((least (f1 ++ a1.map (·.2)), least (f2 ++ a2.map (·.2))) :: a2) h.2 (fun p hp => by
        rcases List.mem_cons.1 hp with rfl | hp
        · exact hx_xN _
        · exact k1 p hp) (fun p hp => by
        rcases List.mem_cons.1 hp with rfl | hp
        · exact hx_xN _
        · exact k2 p hp)
      have hl : (least (f2 ++ a2.map (·.2))).head? = some 120 := rfl
      simp only [Fm.alike, t, c, hq, hl, if_neg h1]
      simp
    · rw [Fm.norm, if_neg hq]
      simp only [Fm.told]
      rw [Fm.norm, if_neg hq]
      have t := tmsSk_alike (arOf_hx k1) (arOf_hx k2) hb ts (nameF σ op n (tmsSwap (arOf a1) ts).length).2 h.1.2
      have c := fmsSk_alike (f1 := f1) (f2 := f2) hb fs (tmsTold b (nameF σ op n (tmsSwap (arOf a1) ts).length).2 (tmsSwap (arOf a1) ts)).2 a1 a2 h.2 k1 k2
      have hn : (if op = 1 then (nameF σ op n (tmsSwap (arOf a1) ts).length).1.head? == some 80 else true) = true := by
        by_cases h1 : op = 1
        · rw [if_pos h1]
          unfold nameF
          rw [if_pos h1]
          simp only []
          rw [head_num σ 80 n _ (by decide)]; rfl
        · rw [if_neg h1]
      have hq' : quant op = false := by simpa using hq
      simp only [Fm.alike, t, c, hn, hq']
      simp
theorem fmsSk_alike {f1 f2 b : List Bs} (hb : ∀ x ∈ b, hx x) : ∀ (l : List Fm) (σ : List Sy) (a1 a2 : List (Bs × Bs)), fmsOk l = true → (∀ p ∈ a1, hx p.2) → (∀ p ∈ a2, hx p.2) → fmsAlike l (fmsNorm f2 a2 (fmsTold b σ (fmsNorm f1 a1 l)).1) = true
  | [], σ, a1, a2, _, _, _ => rfl
  | f :: fs, σ, a1, a2, h, k1, k2 => by
    simp only [fmsOk, Bool.and_eq_true] at h
    simp only [fmsNorm, fmsTold, fmsAlike, Fm.sk_alike hb f σ a1 a2 h.1 k1 k2, fmsSk_alike hb fs _ a1 a2 h.2 k1 k2]
    rfl
end
theorem Fm.alike_sk {f : Fm} {σ : List Sy} (h : f.right = true) : f.alike (f.sk σ).1 = true := by
  simp only [Fm.right, Bool.and_eq_true, decide_eq_true_eq] at h
  exact Fm.sk_alike (fun x hx' => (Fm.norm_binds _ _ x hx').1) f σ [] [] h.1.1 (fun p hp => by cases hp) (fun p hp => by cases hp)
end Ly
namespace Ly
open Go.Lib (itoa decDigits)
def sortOf (n : Bs) : UInt8 := if predName n then 80 else if funName n then 97 else if varName n then 117 else 0
mutual
def Tm.funs : Tm → List (Bs × Nat)
  | .mk v n ts => (if v then [] else [(n, ts.length)]) ++ tmsFuns ts
def tmsFuns : List Tm → List (Bs × Nat)
  | [] => []
  | t :: ts => t.funs ++ tmsFuns ts
end
mutual
def Fm.funs : Fm → List (Bs × Nat)
  | .mk op n ts fs => tmsFuns ts ++ fmsFuns fs
def fmsFuns : List Fm → List (Bs × Nat)
  | [] => []
  | f :: fs => f.funs ++ fmsFuns fs
end
mutual
def Fm.preds : Fm → List (Bs × Nat)
  | .mk op n ts fs => (if op = 1 then [(n, ts.length)] else []) ++ fmsPreds fs
def fmsPreds : List Fm → List (Bs × Nat)
  | [] => []
  | f :: fs => f.preds ++ fmsPreds fs
end
mutual
def Tm.ren (s : Sy) (tz : Bs) : Tm → Tm
  | .mk v n ts => .mk v (if (if v then (⟨117, n, 0⟩ : Sy) else ⟨97, n, ts.length⟩) = s then tz else n) (tmsRen s tz ts)
def tmsRen (s : Sy) (tz : Bs) : List Tm → List Tm
  | [] => []
  | t :: ts => t.ren s tz :: tmsRen s tz ts
end
mutual
def Fm.ren (s : Sy) (tz : Bs) : Fm → Fm
  | .mk op n ts fs =>
    if op = 1 ∧ s = ⟨80, n, ts.length⟩ then .mk op tz (tmsRen s tz ts) (fmsRen s tz fs)
    else if quant op = true ∧ s = ⟨117, n, 0⟩ then .mk op n ts fs
    else .mk op n (tmsRen s tz ts) (fmsRen s tz fs)
def fmsRen (s : Sy) (tz : Bs) : List Fm → List Fm
  | [] => []
  | f :: fs => f.ren s tz :: fmsRen s tz fs
end
/- What awake asks. -/
def aP : Fm := .mk 1 [80] [] []
def aQ : Fm := .mk 1 [81] [] []
def aR : Fm := .mk 1 [82] [] []
theorem itoaDg {n : Nat} (h : n < 10) : itoa (n : Int) = [UInt8.ofNat (48 + n)] := by rw [itoa_nat, Go.Lib.decDigits_one h]
theorem itoa0 : itoa 0 = [48] := itoaDg (n := 0) (by decide)
theorem itoa1 : itoa 1 = [49] := itoaDg (n := 1) (by decide)
theorem itoa2 : itoa 2 = [50] := itoaDg (n := 2) (by decide)
theorem aw2 : skOf [] [.mk 4 [] [] [aP, aQ]] = skOf [] [.mk 4 [] [] [aQ, aP]] := by
  simp [skOf, fmsSk, Fm.sk, Fm.normal, aP, aQ, Fm.norm, fmsNorm, quant, tmsSwap, Fm.told, fmsTold, tmsTold, nameF, Sy.told, Sy.add, Sy.kind, Sy.place, itoa0, itoa1, itoa2]
theorem aw3 : skOf [] [.mk 4 [] [] [aP, aQ]] ≠ skOf [] [.mk 4 [] [] [aP, aP]] := by
  simp [skOf, fmsSk, Fm.sk, Fm.normal, aP, aQ, Fm.norm, fmsNorm, quant, tmsSwap, Fm.told, fmsTold, tmsTold, nameF, Sy.told, Sy.add, Sy.kind, Sy.place, itoa0, itoa1, itoa2]
theorem aw4 : skOf [.mk 6 [] [] [aP, aQ], aP] [aQ] ≠ skOf [aP, .mk 6 [] [] [aP, aQ]] [aQ] := by
  simp [skOf, fmsSk, Fm.sk, Fm.normal, aP, aQ, Fm.norm, fmsNorm, quant, tmsSwap, Fm.told, fmsTold, tmsTold, nameF, Sy.told, Sy.add, Sy.kind, Sy.place, itoa0, itoa1, itoa2]
def aS : Fm := .mk 9 [121] [] [.mk 1 [83] [.mk true [121] [], .mk false [102] [.mk true [122] []]] []]
def aW : Fm := .mk 9 [120, 49] [] [.mk 1 [80, 50, 49] [.mk true [120, 49] [], .mk false [97, 49, 49] [.mk true [117, 49] []]] []]
theorem aw1 : skOf [.mk 6 [] [] [aQ, aR]] [aS] = ([.mk 6 [] [] [.mk 1 [80, 48, 49] [] [], .mk 1 [80, 48, 50] [] []]], [aW]) := by
  simp [skOf, fmsSk, Fm.sk, Fm.normal, aQ, aR, aS, aW, Fm.norm, fmsNorm, Fm.free, fmsFree, Tm.vars, tmsVars, quant, Tm.swap, tmsSwap, arOf, Fm.binds, fmsBinds, least, leastN, leastFrom, xN, Fm.told, fmsTold, Tm.told, tmsTold, nameF, nameT, Sy.told, Sy.add, Sy.kind, Sy.place, itoa0, itoa1, itoa2]
end Ly
namespace Go.Proofs.YtppfalbnhnpbnaaGreatDoor
open Go Go.RowKit Ly
set_option maxRecDepth 10000
def renV (s : Sy) (tn : Bs) : Value := .agg #[str [s.sort], str s.name, .int .i64 s.ar, str tn]
theorem ButE.toBelow {A X : World} (h : ButE (fun _ => False) A X) : Below A.heap.size A X := ⟨h.os, h.tape, h.output, h.size, fun k hk => h.block k hk (fun e => e)⟩
theorem inTurn_ren (s : Sy) (tn : Bs) : ∀ ts : List Tm, (inTurn (fun (_ : Unit) t => (Tm.ren s tn t, ())) () ts).1 = tmsRen s tn ts
  | [] => rfl
  | t :: ts => by simp [inTurn, tmsRen, inTurn_ren s tn ts]
theorem inTurn_renF (s : Sy) (tn : Bs) : ∀ fs : List Fm, (inTurn (fun (_ : Unit) f => (Fm.ren s tn f, ())) () fs).1 = fmsRen s tn fs
  | [] => rfl
  | t :: ts => by simp [inTurn, fmsRen, inTurn_renF s tn ts]
def RT (s : Sy) (tn : Bs) (t : Tm) : Prop := ∀ (W : World) (x : Value), TmVal W t x → t.nodes ≤ 1000 → Calls Tryz.prog 115 #[renV s tn, x] W (RetH (t.ren s tn) W)
theorem terms_ren (s : Sy) (tn : Bs) (ts : List Tm) (ih : ∀ t ∈ ts, RT s tn t) (W : World) (a : Option Addr) (n c : Nat) (hx : TmsAt W ts (.slice a n c)) (hn : tmsNodes ts ≤ 1000) :
    Calls Tryz.prog 114 #[.slice a n c, .func (.func 115) #[renV s tn] #[]] W fun e w' => ∃ v, e = .returned v ∧ TmsAt (hide (lo W) w') (tmsRen s tn ts) v ∧ Below W.heap.size W w' := by
  refine (each115_c (fun _ => False) (renV s tn) (fun (_ : Unit) _ => True) (fun _ t => (Tm.ren s tn t, ())) W ts () a n c hx (by have := tmsLen_le ts; omega) trivial (fun _ _ _ _ _ => trivial) (fun _ _ _ k hk => absurd hk (fun e => e)) (fun k hk => absurd hk (fun e => e)) (fun j t ht X x hI hX hv => ?_)).mono ?_
  · have hm := List.mem_of_getElem? ht
    refine (ih t hm X x hv (by have := tmsNodes_mem hm; omega)).mono ?_
    rintro e w' ⟨v, rfl, h1, h2⟩
    exact ⟨v, rfl, h1, trivial, .of_below h2⟩
  · rintro e w' ⟨v, rfl, h1, -, h3⟩
    rw [inTurn_ren] at h1
    exact ⟨v, rfl, h1, h3.toBelow⟩
end Go.Proofs.YtppfalbnhnpbnaaGreatDoor
