/- Plain laws for the describe family: numerals are read back, prefixes, cuts, what a line of a proof says. Nothing of the program is imported. -/
import Derived.Test.YtcandidgaegghaaGreatDoorPlC
import Derived.Lib.Atoi
import Derived.Lib.IndexMore
import Derived.Lib.Strings
namespace Ly
open Go.Lib (decDigits itoa index cut atoi decFrom decNat digitVal hasPrefix trimPrefix contains split)

theorem decFrom_append : ∀ (a b : Bs) (n : Nat), decFrom n (a ++ b) = (decFrom n a).bind fun m => decFrom m b
  | [], b, n => rfl
  | c :: a, b, n => by
    simp only [List.cons_append, decFrom]
    cases digitVal c with
    | none => rfl
    | some d => exact decFrom_append a b _
theorem digitVal_ofNat {k : Nat} (h : k < 10) : digitVal (UInt8.ofNat (48 + k)) = some k := by
  have e : (UInt8.ofNat (48 + k)).toNat = 48 + k := by simp only [UInt8.toNat_ofNat']; omega
  unfold digitVal
  rw [e, if_pos (by omega)]
  congr 1; omega
theorem decFrom_digits (n : Nat) : decFrom 0 (decDigits n) = some n := by
  induction n using Nat.strongRecOn with
  | _ n ih =>
    rw [decDigits]
    split
    · rename_i h
      simp only [decFrom, digitVal_ofNat h]
      simp
    · rename_i h
      rw [decFrom_append, ih (n / 10) (by omega)]
      simp only [Option.bind_some, decFrom, digitVal_ofNat (Nat.mod_lt n (by decide : 0 < 10))]
      congr 1; omega
theorem atoi_itoa (n : Nat) : atoi (itoa (n : Int)) = some (n : Int) := by
  have hne : itoa (n : Int) ≠ [] := itoa_ne
  have hd : ∀ c ∈ itoa (n : Int), 48 ≤ c.toNat ∧ c.toNat ≤ 57 := itoa_digit (by omega)
  have hf := decFrom_digits n
  rw [← itoa_nat] at hf
  generalize itoa (n : Int) = l at *
  cases l with
  | nil => exact absurd rfl hne
  | cons c r =>
    have hc := hd c (by simp)
    have h45 : (c == 45) = false := by
      cases e : c == 45 with
      | false => rfl
      | true => have := beq_iff_eq.1 e; subst this; simp at hc
    have h43 : (c == 43) = false := by
      cases e : c == 43 with
      | false => rfl
      | true => have := beq_iff_eq.1 e; subst this; simp at hc
    have hdn : decNat (c :: r) = some n := by unfold decNat; exact hf
    simp only [atoi, h45, h43, hdn, Bool.false_eq_true, if_false, Option.map_some]
theorem cut_of_index {s sep : Bs} {k : Nat} (h : index s sep = k) : cut s sep = (s.take k, s.drop (k + sep.length), true) := by
  unfold cut
  rw [h, if_pos (by omega)]
  simp
theorem cut_none {s sep : Bs} (h : index s sep = -1) : cut s sep = (s, [], false) := by
  unfold cut
  rw [h, if_neg (by omega)]
theorem cut_mid {a b sep : Bs} (h : index (a ++ sep ++ b) sep = a.length) : cut (a ++ sep ++ b) sep = (a, b, true) := by
  rw [cut_of_index h]
  have e1 : (a ++ sep ++ b).take a.length = a := by rw [List.append_assoc, List.take_left]
  have e2 : (a ++ sep ++ b).drop (a.length + sep.length) = b := by rw [← List.length_append, List.drop_left]
  rw [e1, e2]
theorem hasPrefix_append (a b : Bs) : hasPrefix (a ++ b) a = true := by
  unfold hasPrefix
  rw [List.isPrefixOf_iff_prefix]
  exact ⟨b, rfl⟩
theorem trimPrefix_append (a b : Bs) : trimPrefix (a ++ b) a = b := by
  unfold trimPrefix
  rw [hasPrefix_append, if_pos rfl, List.drop_left]
theorem contains_mid (a t b : Bs) : contains (a ++ t ++ b) t = true := by
  unfold contains
  rw [decide_eq_true_eq]
  rcases Go.Lib.index_spec (a ++ t ++ b) t with ⟨h, h'⟩ | ⟨i, h, _⟩
  · have := h' a.length (by simp)
    unfold Go.Lib.occAt at this
    rw [List.append_assoc, List.drop_left] at this
    have h2 : t.isPrefixOf (t ++ b) = true := by rw [List.isPrefixOf_iff_prefix]; exact ⟨b, rfl⟩
    rw [h2] at this; cases this
  · rw [h]; omega
/-- A number, and what stands behind the space. -/
theorem cut_num {n : Nat} {x : Bs} (h : x = itoa (n : Int) ∨ ∃ t, x = itoa (n : Int) ++ 32 :: t) : ∃ r b, cut x [32] = (itoa (n : Int), r, b) := by
  have hn : (32 : UInt8) ∉ itoa (n : Int) := itoa_not (by omega) (by decide)
  rcases h with rfl | ⟨t, rfl⟩
  · exact ⟨_, _, cut_none (index_none (t := []) _ hn)⟩
  · have e : itoa (n : Int) ++ 32 :: t = itoa (n : Int) ++ [32] ++ t := by simp
    rw [e]
    exact ⟨_, _, cut_mid (index_sep (t := []) _ _ hn)⟩
/-- One line of a proof, for the law of its order. -/
theorem order_line {P : Pf} (hok : P.ok = true) (hro : P.ro) {i : Nat} {ln : Bs} (h : (P.lines 0)[i]? = some ln) :
    ∃ nums body, (P.uses 0)[i]? = some nums ∧ ln = (itoa ((i : Int) + 1) ++ colon) ++ body ∧
      ((nums = [] ∧ cut body wFrom = (body, [], false)) ∨
       (nums ≠ [] ∧ ∃ s ps, cut body wFrom = (s, joinBy cs ps, true) ∧ split (joinBy cs ps) cs = ps ∧ ps.length = nums.length ∧ (joinBy cs ps).length ≤ ln.length ∧
         ∀ (j : Nat) (x : Bs), ps[j]? = some x → ∃ n, nums[j]? = some n ∧ 1 ≤ n ∧ n ≤ i ∧ ∃ r b, cut x [32] = (itoa (n : Int), r, b))) := by
  have hi : i < (P.lines 0).length := (List.getElem?_eq_some_iff.1 h).1
  have hl : (P.uses 0).length = (P.lines 0).length := by rw [Pf.uses_length, Pf.lines_length]
  obtain ⟨nums, hu⟩ : ∃ nums, (P.uses 0)[i]? = some nums := ⟨_, List.getElem?_eq_getElem (by omega)⟩
  have hla := Pf.line_at P 0 i nums ln hok hro hu h
  rw [Nat.zero_add] at hla
  obtain ⟨body, hb, hc⟩ := line_body hla
  have hbd := Pf.uses_bd P 0 i nums hu
  refine ⟨nums, body, hu, by rw [hb]; rfl, ?_⟩
  rcases hc with ⟨h1, h2⟩ | ⟨h1, s, ps, h2, h3, h4, h5, h6⟩
  · exact .inl ⟨h1, cut_none h2⟩
  · have hps : ps ≠ [] := fun e => h1 (List.eq_nil_of_length_eq_zero (by rw [← h4, e]; rfl))
    refine .inr ⟨h1, s, ps, ?_, split_join (c := 44) (t := [32]) ps hps h5, h4, ?_, fun j x hx => ?_⟩
    · rw [h2] at h3 ⊢
      exact cut_mid h3
    · rw [hb, h2]; simp only [List.length_append]; omega
    · obtain ⟨n, e1, e2⟩ := h6 j x hx
      have := hbd n (List.mem_of_getElem? e1)
      exact ⟨n, e1, by omega, by omega, cut_num e2⟩
/-- The last line has the formula's text. -/
theorem order_last (P : Pf) : ∃ i ln, i + 1 = (P.lines 0).length ∧ (P.lines 0)[i]? = some ln ∧ contains ln P.form.text = true := by
  obtain ⟨r, f, lb, sub, ms⟩ := P
  refine ⟨(pfsLines 0 sub).length, itoa (0 + pfsSteps sub + 1 : Nat) ++ colon ++ bodyText r f lb (premTexts 0 sub ms), by simp [Pf.lines], by simp [Pf.lines], ?_⟩
  show contains _ f.text = true
  unfold bodyText
  generalize itoa (0 + pfsSteps sub + 1 : Nat) ++ colon = A
  split
  · have e : A ++ (wAssume ++ itoa lb ++ cs ++ f.text) = (A ++ (wAssume ++ itoa lb ++ cs)) ++ f.text ++ [] := by simp
    rw [e]; exact contains_mid _ _ _
  · split
    · have e : A ++ (f.text ++ wStill) = A ++ f.text ++ wStill := by simp
      rw [e]; exact contains_mid _ _ _
    · generalize (if (premTexts 0 sub ms).isEmpty = true then [] else wFrom ++ joinBy cs (premTexts 0 sub ms)) = B
      have e : A ++ (f.text ++ wBy ++ r ++ B) = A ++ f.text ++ (wBy ++ r ++ B) := by simp
      rw [e]; exact contains_mid _ _ _
/-- How often a line is used: each but the last one once. -/
theorem order_count (P : Pf) (n : Nat) : (P.uses 0).flatten.count n = if 0 < n ∧ n < (P.lines 0).length then 1 else 0 := by
  rw [Pf.uses_count, Pf.lines_length]
  simp
theorem flatten_take_succ {α : Type} {l : List (List α)} {i : Nat} {x : List α} (h : l[i]? = some x) : (l.take (i + 1)).flatten = (l.take i).flatten ++ x := by
  rw [List.take_add_one, h]; simp
end Ly
