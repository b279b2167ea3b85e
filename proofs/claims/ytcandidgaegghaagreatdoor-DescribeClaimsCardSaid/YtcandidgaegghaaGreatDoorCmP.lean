/- Plain: what lyceumlaw19.Few adds up; names within the form's reach. Nothing of the program is imported. -/
import Derived.Test.YtcandidgaegghaaGreatDoorPl
set_option linter.unusedSimpArgs false
namespace Ly
mutual
/-- Names within the form's reach. -/
def Tm.fits : Tm → Prop
  | .mk _ n l => n.length ≤ 140737488351232 ∧ tmsFit l
def tmsFit : List Tm → Prop
  | [] => True
  | t :: ts => t.fits ∧ tmsFit ts
end
mutual
def Fm.fits : Fm → Prop
  | .mk _ n l sub => n.length ≤ 140737488351232 ∧ tmsFit l ∧ fmsFit sub
def fmsFit : List Fm → Prop
  | [] => True
  | f :: fs => f.fits ∧ fmsFit fs
end
theorem tmsFit_iff : ∀ l : List Tm, tmsFit l ↔ ∀ t ∈ l, t.fits
  | [] => by simp [tmsFit]
  | t :: ts => by simp [tmsFit, tmsFit_iff ts]
theorem fmsFit_iff : ∀ l : List Fm, fmsFit l ↔ ∀ t ∈ l, t.fits
  | [] => by simp [fmsFit]
  | t :: ts => by simp [fmsFit, fmsFit_iff ts]
mutual
/-- What lyceumlaw19.terms adds for a term, with so much left. -/
def Tm.w19 : Tm → Int → Int
  | .mk _ n l, r => 1 + (n.length : Int).tdiv 20 + tms19 l 0 (r - 1)
def tms19 : List Tm → Int → Int → Int
  | [], z, _ => z
  | t :: ts, z, left => if z ≤ left then tms19 ts (z + t.w19 (left - z)) left else z
end
mutual
def Fm.w19 : Fm → Int → Int
  | .mk _ n l s, r => 1 + (n.length : Int).tdiv 20 + tms19 l 0 r + fms19 s 0 (r - 1)
def fms19 : List Fm → Int → Int → Int
  | [], z, _ => z
  | t :: ts, z, left => if z ≤ left then fms19 ts (z + t.w19 (left - z)) left else z
end
theorem div20 {n : Nat} (h : n ≤ 140737488351232) : 0 ≤ (n : Int).tdiv 20 ∧ (n : Int).tdiv 20 ≤ 7100000000000 := by
  rw [Int.tdiv_eq_ediv_of_nonneg (by omega)]
  omega
mutual
theorem Tm.w19_le : ∀ (t : Tm) (r : Int), t.fits → 0 ≤ r → r ≤ 300 → 1 ≤ t.w19 r ∧ t.w19 r ≤ 7200000000000 + (r + 1) * 8000000000000 ∧ (t.w19 r ≤ r → (t.nodes : Int) ≤ t.w19 r)
  | .mk v n l, r, hs, h0, h1 => by
    rw [Tm.fits] at hs
    have hd := div20 hs.1
    have hi := tms19_le l 0 (r - 1) hs.2 (by omega) (by omega) (by omega) (by omega)
    rw [Tm.w19, Tm.nodes]
    refine ⟨by omega, by omega, fun h => ?_⟩
    have := hi.2.2 (by omega)
    omega
theorem tms19_le : ∀ (l : List Tm) (z left : Int), tmsFit l → -1 ≤ left → left ≤ 300 → 0 ≤ z → z ≤ (left + 2) * 8000000000000 → z ≤ tms19 l z left ∧ tms19 l z left ≤ (left + 2) * 8000000000000 ∧ (tms19 l z left ≤ left → z + (tmsNodes l : Int) ≤ tms19 l z left)
  | [], z, left, hs, h0, h1, h2, h3 => by rw [tms19, tmsNodes]; exact ⟨by omega, h3, fun _ => by omega⟩
  | t :: ts, z, left, hs, h0, h1, h2, h3 => by
    rw [tmsFit] at hs
    rw [tms19]
    split
    · rename_i hz
      have ht := Tm.w19_le t (left - z) hs.1 (by omega) (by omega)
      have hr := tms19_le ts (z + t.w19 (left - z)) left hs.2 h0 h1 (by omega) (by omega)
      refine ⟨by omega, hr.2.1, fun h => ?_⟩
      have h4 := hr.2.2 h
      have h5 := ht.2.2 (by omega)
      rw [tmsNodes]
      omega
    · exact ⟨by omega, h3, fun h => by omega⟩
end
mutual
theorem Fm.w19_le : ∀ (t : Fm) (r : Int), t.fits → 0 ≤ r → r ≤ 300 → 1 ≤ t.w19 r ∧ t.w19 r ≤ 2450000000000000 + (r + 1) * 2500000000000000 ∧ (t.w19 r ≤ r → (t.nodes : Int) ≤ t.w19 r)
  | .mk o n l s, r, hs, h0, h1 => by
    rw [Fm.fits] at hs
    have hd := div20 hs.1
    have hi := tms19_le l 0 r hs.2.1 (by omega) (by omega) (by omega) (by omega)
    have hj := fms19_le s 0 (r - 1) hs.2.2 (by omega) (by omega) (by omega) (by omega)
    rw [Fm.w19, Fm.nodes]
    refine ⟨by omega, by omega, fun h => ?_⟩
    have h4 := hi.2.2 (by omega)
    have h5 := hj.2.2 (by omega)
    omega
theorem fms19_le : ∀ (l : List Fm) (z left : Int), fmsFit l → -1 ≤ left → left ≤ 300 → 0 ≤ z → z ≤ (left + 2) * 2500000000000000 → z ≤ fms19 l z left ∧ fms19 l z left ≤ (left + 2) * 2500000000000000 ∧ (fms19 l z left ≤ left → z + (fmsNodes l : Int) ≤ fms19 l z left)
  | [], z, left, hs, h0, h1, h2, h3 => by rw [fms19, fmsNodes]; exact ⟨by omega, h3, fun _ => by omega⟩
  | t :: ts, z, left, hs, h0, h1, h2, h3 => by
    rw [fmsFit] at hs
    rw [fms19]
    split
    · rename_i hz
      have ht := Fm.w19_le t (left - z) hs.1 (by omega) (by omega)
      have hr := fms19_le ts (z + t.w19 (left - z)) left hs.2 h0 h1 (by omega) (by omega)
      refine ⟨by omega, hr.2.1, fun h => ?_⟩
      have h4 := hr.2.2 h
      have h5 := ht.2.2 (by omega)
      rw [fmsNodes]
      omega
    · exact ⟨by omega, h3, fun h => by omega⟩
end
theorem tms19_done {l : List Tm} {z left : Int} (h : ¬ z ≤ left) : tms19 l z left = z := by
  cases l with
  | nil => rw [tms19]
  | cons t ts => rw [tms19, if_neg h]
theorem fms19_done {l : List Fm} {z left : Int} (h : ¬ z ≤ left) : fms19 l z left = z := by
  cases l with
  | nil => rw [fms19]
  | cons t ts => rw [fms19, if_neg h]
theorem tms19_next {l : List Tm} {z left : Int} {j : Nat} {T : Tm} (hT : l[j]? = some T) (h : z ≤ left) : tms19 (l.drop j) z left = tms19 (l.drop (j + 1)) (z + T.w19 (left - z)) left := by
  rw [List.drop_eq_getElem_cons (List.getElem?_eq_some_iff.1 hT).1, tms19, if_pos h, (List.getElem?_eq_some_iff.1 hT).2]
theorem fms19_next {l : List Fm} {z left : Int} {j : Nat} {T : Fm} (hT : l[j]? = some T) (h : z ≤ left) : fms19 (l.drop j) z left = fms19 (l.drop (j + 1)) (z + T.w19 (left - z)) left := by
  rw [List.drop_eq_getElem_cons (List.getElem?_eq_some_iff.1 hT).1, fms19, if_pos h, (List.getElem?_eq_some_iff.1 hT).2]
end Ly
