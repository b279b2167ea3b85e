/- Plain laws: the outline of a formula, the order of a proof's lines, lists that are joined and split. Nothing of the program is imported. -/
import Derived.Test.YtcandidgaegghaaGreatDoorPlB
import Derived.Lib.Split
set_option linter.unusedSimpArgs false
/- Plain law: the outline of a formula, scanned along the words of its text. Nothing of the program is imported. -/
namespace Ly

def Fm.headToks : Fm → List Bs
  | .mk op n as _ => if op = 1 then termWords n as else if op = 2 then [wFalse] else signToks op n
def Fm.head (f : Fm) : Bs := if f.op = 1 ∨ f.op = 2 then f.text else signFirst f.op f.name

mutual
def Fm.outl (lv : Nat) : Fm → List (Nat × Bs)
  | .mk op n as sub => (lv, (Fm.mk op n as sub).head) :: fmsOutl (lv + 1) sub
def fmsOutl (lv : Nat) : List Fm → List (Nat × Bs)
  | [] => []
  | f :: fs => f.outl lv ++ fmsOutl lv fs
end
mutual
def Fm.parts : Fm → Nat
  | .mk _ _ _ sub => 1 + fmsParts sub
def fmsParts : List Fm → Nat
  | [] => 0
  | f :: fs => f.parts + fmsParts fs
end
mutual
theorem Fm.outl_length : ∀ (f : Fm) (lv : Nat), (f.outl lv).length = f.parts
  | .mk op n as sub, lv => by simp [Fm.outl, Fm.parts, fmsOutl_length sub (lv + 1)]; omega
theorem fmsOutl_length : ∀ (fs : List Fm) (lv : Nat), (fmsOutl lv fs).length = fmsParts fs
  | [], _ => rfl
  | f :: fs, lv => by simp [fmsOutl, fmsParts, Fm.outl_length f lv, fmsOutl_length fs lv]
end

theorem Fm.headToks_ne (f : Fm) : f.headToks ≠ [] := by
  obtain ⟨op, n, as, sub⟩ := f
  simp only [Fm.headToks]
  split
  · simp [termWords]
  · split
    · simp
    · exact signToks_ne _ _
theorem Fm.head_eq (f : Fm) : f.head = joinSp f.headToks := by
  obtain ⟨op, n, as, sub⟩ := f
  unfold Fm.head
  simp only [Fm.op, Fm.name, Fm.headToks]
  by_cases h1 : op = 1
  · simp [h1, Fm.text, Fm.words]
  · by_cases h2 : op = 2
    · simp [h2, Fm.text, Fm.words]
    · simp only [h1, h2, or_self, if_false]
      rw [← signFirst_toks]; rfl
/-- The parts of an operator come behind its own words; an atom has none. -/
theorem Fm.toks_head {f : Fm} (h : f.ok = true) : f.toks = f.headToks ++ fmsToks f.op true f.sub := by
  obtain ⟨op, n, as, sub⟩ := f
  simp only [Fm.ok, Bool.and_eq_true, decide_eq_true_eq] at h
  simp only [Fm.toks, Fm.headToks, Fm.op, Fm.sub]
  by_cases h1 : op = 1
  · have z : sub = [] := List.eq_nil_of_length_eq_zero (by have := h.1.1.1.1; simpa [h1, arity] using this)
    subst z; simp [h1, fmsToks]
  · by_cases h2 : op = 2
    · have z : sub = [] := List.eq_nil_of_length_eq_zero (by have := h.1.1.1.1; simpa [h2, arity] using this)
      subst z; simp [h2, fmsToks]
    · simp [h1, h2]

theorem Fm.noSp_head {f : Fm} (h : f.ok = true) : noSp f.headToks := by
  have := Fm.noSp_toks f h
  rw [Fm.toks_head h, noSp_append] at this
  exact this.1

/- Prefixes. -/
theorem pre_yes {a c : List Bs} (ha : a ≠ []) : (joinSp a ++ [32]).isPrefixOf (joinSp (a ++ c) ++ [32]) = true := by
  rw [List.isPrefixOf_iff_prefix]
  by_cases hc : c = []
  · subst hc; simp
  · rw [joinSp_append a c ha hc]; exact ⟨joinSp c ++ [32], by simp⟩
theorem sp_head {x : Bs} {r : List Bs} : ∃ t, joinSp (x :: r) ++ [32] = x ++ 32 :: t := by
  cases r with
  | nil => exact ⟨[], rfl⟩
  | cons y r => exact ⟨joinSp (y :: r) ++ [32], by rw [joinSp_cons x (y :: r) (by simp)]; simp⟩
theorem pre_no {x y : Bs} {r s : List Bs} (hx : (32 : UInt8) ∉ x) (hy : (32 : UInt8) ∉ y) (h : x ≠ y) : (joinSp (x :: r) ++ [32]).isPrefixOf (joinSp (y :: s) ++ [32]) = false := by
  cases e : (joinSp (x :: r) ++ [32]).isPrefixOf (joinSp (y :: s) ++ [32]) with
  | false => rfl
  | true =>
    rw [List.isPrefixOf_iff_prefix] at e
    obtain ⟨z, e⟩ := e
    obtain ⟨t, e1⟩ := sp_head (x := x) (r := r)
    obtain ⟨u, e2⟩ := sp_head (x := y) (r := s)
    rw [e1, e2, List.append_assoc, List.cons_append] at e
    exact absurd (split_at hx hy e).1 h

/-- The words between two parts. -/
def isBetween (w : Bs) : Prop := w = wAnd ∨ w = wOr ∨ w = wThen ∨ w = wSo ∨ w = wUntil
theorem between_sign {op : Int} (h : op = 4 ∨ op = 5 ∨ op = 6 ∨ op = 7 ∨ op = 14) : isBetween (signBetween op) := by
  rcases h with rfl | rfl | rfl | rfl | rfl <;> simp [isBetween, signBetween]
theorem between_of {op : Int} {n : Bs} {as : List Tm} {sub : List Fm} (h : (Fm.mk op n as sub).ok = true) : sub.length ≤ 1 ∨ isBetween (signBetween op) := by
  have ho := Fm.ok_op h
  simp only [Fm.ok, Bool.and_eq_true, decide_eq_true_eq] at h
  have h1 := h.1.1.1.1
  rcases ho with rfl | rfl | rfl | rfl | rfl | rfl | rfl | rfl | rfl | rfl | rfl | rfl | rfl | rfl
  all_goals first | (left; rw [h1]; decide) | (right; exact between_sign (by simp))
theorem between_noSp {w : Bs} (h : isBetween w) : (32 : UInt8) ∉ w := by
  rcases h with rfl | rfl | rfl | rfl | rfl <;> decide
/-- No formula begins with a word that stands between two parts. -/
theorem head_not_between {f : Fm} (h : f.ok = true) : ∃ x r, f.headToks = x :: r ∧ ∀ w, isBetween w → x ≠ w := by
  obtain ⟨op, n, as, sub⟩ := f
  have ho := Fm.ok_op h
  have hk := h
  simp only [Fm.ok, Bool.and_eq_true, decide_eq_true_eq] at h
  by_cases h1 : op = 1
  · subst h1
    refine ⟨n, tmsWords true as ++ (if as.isEmpty then [] else [wClose]), rfl, ?_⟩
    have hp : predName n = true := by simp_all
    intro w hw
    refine predName_ne hp fun c r e => ?_
    rcases hw with rfl | rfl | rfl | rfl | rfl <;> (cases e; decide)
  · rcases ho with rfl | rfl | rfl | rfl | rfl | rfl | rfl | rfl | rfl | rfl | rfl | rfl | rfl | rfl
    · exact absurd rfl h1
    all_goals exact ⟨_, _, rfl, fun w hw => by rcases hw with rfl | rfl | rfl | rfl | rfl <;> simp [signFirst, wNot, wNec, wPos, wNext, wAlways, wBoth, wEither, wIf, wAs, wWhile, wFor, wFalse, wAnd, wOr, wThen, wSo, wUntil]⟩

/-- One line of the outline, scanned: W the words of the text, st: how many are read, and the level of the line before. -/
def scan1 (W : List Bs) (first : Bool) (st : Nat × Int) (ln : Nat × Bs) : Option (Nat × Int) :=
  if st.2 + 1 < ln.1 ∨ (decide (ln.1 = 0) != first) = true then none
  else
    let at1 := if first = false ∧ st.1 < W.length ∧ (ln.2 ++ [32]).isPrefixOf (joinSp (W.drop st.1) ++ [32]) = false then st.1 + 1 else st.1
    if (ln.2 ++ [32]).isPrefixOf (joinSp (W.drop (min at1 W.length)) ++ [32]) = true then some (at1 + (ln.2.count 32 + 1), (ln.1 : Int)) else none
def scan (W : List Bs) : List (Nat × Bs) → Nat × Int → Option (Nat × Int)
  | [], st => some st
  | ln :: r, st => match scan1 W false st ln with | none => none | some st' => scan W r st'

theorem count_joinSp : ∀ {a : List Bs}, noSp a → a ≠ [] → (joinSp a).count 32 + 1 = a.length
  | [], _, h => absurd rfl h
  | [x], h, _ => by
    have := h x (by simp)
    simp [joinSp, List.count_eq_zero.2 this]
  | x :: y :: r, h, _ => by
    have h0 := h x (by simp)
    have ih := count_joinSp (a := y :: r) (fun z hz => h z (by simp at hz ⊢; right; exact hz)) (by simp)
    rw [joinSp_cons x (y :: r) (by simp), List.count_append, List.count_eq_zero.2 h0, List.count_cons_self]
    simp at ih ⊢; omega

/-- Where scanning stands ahead of a part: at it, or at the word between two parts that stands ahead of it. -/
def Stands (pre : List Bs) (at_ : Nat) : Prop := at_ = pre.length ∨ ∃ p w, pre = p ++ [w] ∧ isBetween w ∧ at_ = p.length

theorem scan1_head {f : Fm} (h : f.ok = true) (W pre post : List Bs) (hW : W = pre ++ (f.headToks ++ post)) (lv at_ : Nat) (level : Int) (hlv : 1 ≤ lv) (hl : (lv : Int) ≤ level + 1) (hs : Stands pre at_) :
    scan1 W false (at_, level) (lv, f.head) = some (pre.length + f.headToks.length, (lv : Int)) := by
  have hne := Fm.headToks_ne f
  have hn := Fm.noSp_head h
  have hc : f.head.count 32 + 1 = f.headToks.length := by rw [Fm.head_eq]; exact count_joinSp hn hne
  have yes : (f.head ++ [32]).isPrefixOf (joinSp (W.drop pre.length) ++ [32]) = true := by
    rw [hW, List.drop_left, Fm.head_eq]; exact pre_yes hne
  have hlen : pre.length < W.length := by
    rw [hW]; simp only [List.length_append]
    have : 0 < f.headToks.length := List.length_pos_iff.2 hne
    omega
  unfold scan1
  rw [if_neg (by simp; omega)]
  rcases hs with rfl | ⟨p, w, rfl, hw, rfl⟩
  · simp only [yes, Bool.true_eq_false, and_false, if_false, Nat.min_eq_left (Nat.le_of_lt hlen), if_true, hc]
  · have no : (f.head ++ [32]).isPrefixOf (joinSp (W.drop p.length) ++ [32]) = false := by
      obtain ⟨x, r, e, hx⟩ := head_not_between h
      rw [hW, List.append_assoc, List.drop_left, Fm.head_eq, e]
      refine pre_no ?_ (between_noSp hw) (hx w hw)
      rw [e] at hn; exact (noSp_cons.1 hn).1
    have hlen2 : p.length + 1 < W.length := by simpa using hlen
    have yes2 : (f.head ++ [32]).isPrefixOf (joinSp (W.drop (p.length + 1)) ++ [32]) = true := by simpa using yes
    have c1 : p.length < W.length := by omega
    simp only [no, c1, and_self, if_true, Nat.min_eq_left (Nat.le_of_lt hlen2), yes2, hc, List.length_append, List.length_cons, List.length_nil, Nat.zero_add]

mutual
theorem scan_f : ∀ (f : Fm), f.ok = true → ∀ (W pre post : List Bs) (rest : List (Nat × Bs)) (lv at_ : Nat) (level : Int), W = pre ++ (f.toks ++ post) → 1 ≤ lv → (lv : Int) ≤ level + 1 → Stands pre at_ →
    ∃ level', (lv : Int) ≤ level' ∧ scan W (f.outl lv ++ rest) (at_, level) = scan W rest (pre.length + f.toks.length, level')
  | .mk op n as sub, h, W, pre, post, rest, lv, at_, level, hW, hlv, hl, hs => by
    have et := Fm.toks_head h
    simp only [Fm.op, Fm.sub] at et
    have e1 := scan1_head h W pre (fmsToks op true sub ++ post) (by rw [hW, et, List.append_assoc]) lv at_ level hlv hl hs
    have hk := h
    simp only [Fm.ok, Bool.and_eq_true, decide_eq_true_eq] at hk
    have hb : sub.length ≤ 1 ∨ isBetween (signBetween op) := between_of h
    obtain ⟨l', h1, h2⟩ := scan_fs op sub hk.2 true hb W (pre ++ (Fm.mk op n as sub).headToks) post rest (lv + 1) (pre.length + (Fm.mk op n as sub).headToks.length) lv
      (by rw [hW, et]; simp) (by omega) (by omega) (fun _ _ => .inl (by simp)) (by simp)
    refine ⟨l', by omega, ?_⟩
    simp only [Fm.outl, List.cons_append, scan]
    rw [e1]
    simp only []
    rw [h2, et]
    simp only [List.length_append, Nat.add_assoc]
theorem scan_fs (op : Int) : ∀ (fs : List Fm), fmsOk fs = true → ∀ (b : Bool), fs.length ≤ (if b then 1 else 0) ∨ isBetween (signBetween op) → ∀ (W pre post : List Bs) (rest : List (Nat × Bs)) (lv at_ : Nat) (level : Int), W = pre ++ (fmsToks op b fs ++ post) → 1 ≤ lv → (lv : Int) ≤ level + 1 →
    (b = true → fs ≠ [] → Stands pre at_) → (at_ = pre.length) →
    ∃ level', ((lv : Int) - 1 ≤ level') ∧ scan W (fmsOutl lv fs ++ rest) (at_, level) = scan W rest (pre.length + (fmsToks op b fs).length, level')
  | [], _, b, _, W, pre, post, rest, lv, at_, level, hW, hlv, hl, _, ha => ⟨level, by omega, by simp [fmsOutl, fmsToks, ha]⟩
  | f :: fs, h, b, hb, W, pre, post, rest, lv, at_, level, hW, hlv, hl, hs, ha => by
    simp only [fmsOk, Bool.and_eq_true] at h
    cases b with
    | true =>
      have hb' : fs.length ≤ (if false = true then 1 else 0) ∨ isBetween (signBetween op) := by
        rcases hb with hb | hb
        · left; simpa using hb
        · exact .inr hb
      simp only [fmsToks, if_true, List.nil_append, List.append_assoc] at hW ⊢
      obtain ⟨l1, a1, a2⟩ := scan_f f h.1 W pre (fmsToks op false fs ++ post) (fmsOutl lv fs ++ rest) lv at_ level hW hlv hl (hs rfl (by simp))
      obtain ⟨l2, b1, b2⟩ := scan_fs op fs h.2 false hb' W (pre ++ f.toks) post rest lv (pre.length + f.toks.length) l1 (by rw [hW]; simp) hlv (by omega) (by simp) (by simp)
      refine ⟨l2, b1, ?_⟩
      simp only [fmsOutl, List.append_assoc]
      rw [a2, b2]; simp [Nat.add_assoc]
    | false =>
      have hb' : isBetween (signBetween op) := by
        rcases hb with hb | hb
        · simp at hb
        · exact hb
      simp only [fmsToks, Bool.false_eq_true, if_false, List.append_assoc] at hW ⊢
      obtain ⟨l1, a1, a2⟩ := scan_f f h.1 W (pre ++ [signBetween op]) (fmsToks op false fs ++ post) (fmsOutl lv fs ++ rest) lv at_ level (by rw [hW]; simp) hlv hl (.inr ⟨pre, _, rfl, hb', ha⟩)
      obtain ⟨l2, b1, b2⟩ := scan_fs op fs h.2 false (.inr hb') W (pre ++ [signBetween op] ++ f.toks) post rest lv ((pre ++ [signBetween op]).length + f.toks.length) l1 (by rw [hW]; simp) hlv (by omega) (by simp) (by simp; omega)
      refine ⟨l2, b1, ?_⟩
      simp only [fmsOutl, List.append_assoc]
      rw [a2, b2]; simp [Nat.add_assoc]
      congr 2; omega
end

end Ly
/- Plain law: the lines of a proof, and which lines a step uses. Nothing of the program is imported. -/
namespace Ly
open Go.Lib (decDigits itoa index cut)

/-- The numbers of the last lines of some proofs, k lines ahead of them. -/
def premNums : Nat → List Pf → List Nat
  | _, [] => []
  | k, p :: ps => (k + p.steps) :: premNums (k + p.steps) ps
mutual
/-- Line by line, the lines that it uses. -/
def Pf.uses : Nat → Pf → List (List Nat)
  | k, .mk _ _ _ sub _ => pfsUses k sub ++ [premNums k sub]
def pfsUses : Nat → List Pf → List (List Nat)
  | _, [] => []
  | k, p :: ps => p.uses k ++ pfsUses (k + p.steps) ps
end
mutual
theorem Pf.uses_length : ∀ (p : Pf) (k : Nat), (p.uses k).length = p.steps
  | .mk _ _ _ sub _, k => by simp [Pf.uses, Pf.steps, pfsUses_length sub k]
theorem pfsUses_length : ∀ (ps : List Pf) (k : Nat), (pfsUses k ps).length = pfsSteps ps
  | [], _ => rfl
  | p :: ps, k => by simp [pfsUses, pfsSteps, Pf.uses_length p k, pfsUses_length ps (k + p.steps)]
end
theorem Pf.steps_pos (p : Pf) : 1 ≤ p.steps := by cases p; simp [Pf.steps]

mutual
theorem Pf.uses_count : ∀ (p : Pf) (k n : Nat), (p.uses k).flatten.count n = if k < n ∧ n < k + p.steps then 1 else 0
  | .mk r f l sub ms, k, n => by
    have h0 := pfsUses_count sub k n
    have e : (Pf.mk r f l sub ms).steps = pfsSteps sub + 1 := by simp [Pf.steps]
    generalize (Pf.mk r f l sub ms).steps = S at *
    simp only [Pf.uses, List.flatten_append, List.flatten_cons, List.flatten_nil, List.append_nil, List.count_append]
    rw [h0]
    by_cases h : k < n ∧ n ≤ k + pfsSteps sub
    · rw [if_pos h, if_pos (by omega)]
    · rw [if_neg h, if_neg (by omega)]
theorem pfsUses_count : ∀ (ps : List Pf) (k n : Nat), (pfsUses k ps).flatten.count n + (premNums k ps).count n = if k < n ∧ n ≤ k + pfsSteps ps then 1 else 0
  | [], k, n => by
    have e : pfsSteps [] = 0 := by simp [pfsSteps]
    rw [if_neg (by rw [e]; omega)]; simp [pfsUses, premNums]
  | p :: ps, k, n => by
    have h1 := Pf.uses_count p k n
    have h2 := pfsUses_count ps (k + p.steps) n
    have h3 := Pf.steps_pos p
    have e : pfsSteps (p :: ps) = p.steps + pfsSteps ps := by simp [pfsSteps]
    generalize pfsSteps (p :: ps) = S at *
    simp only [pfsUses, premNums, List.flatten_append, List.count_append, List.count_cons]
    rw [h1]
    have h4 : (if (k + p.steps == n) = true then 1 else 0) = if k + p.steps = n then 1 else 0 := by simp
    rw [h4]
    by_cases a : k < n ∧ n < k + p.steps
    · rw [if_neg (by omega)] at h2
      rw [if_pos a, if_neg (by omega), if_pos (by omega)]; omega
    · by_cases b : k + p.steps = n
      · rw [if_neg (by omega)] at h2
        rw [if_neg a, if_pos b, if_pos (by omega)]; omega
      · by_cases c : k + p.steps < n ∧ n ≤ k + p.steps + pfsSteps ps
        · rw [if_pos c] at h2
          rw [if_neg a, if_neg b, if_pos (by omega)]; omega
        · rw [if_neg c] at h2
          rw [if_neg a, if_neg b, if_neg (by omega)]; omega
end

theorem premNums_bd : ∀ (ps : List Pf) (k n : Nat), n ∈ premNums k ps → k < n ∧ n ≤ k + pfsSteps ps
  | [], _, _, h => by cases h
  | p :: ps, k, n, h => by
    have h3 := Pf.steps_pos p
    simp only [premNums, pfsSteps] at h ⊢
    rcases List.mem_cons.1 h with e | e
    · omega
    · have := premNums_bd ps _ _ e; omega
mutual
theorem Pf.uses_bd : ∀ (p : Pf) (k i : Nat) (l : List Nat), (p.uses k)[i]? = some l → ∀ n ∈ l, k < n ∧ n ≤ k + i
  | .mk r f lb sub ms, k, i, l, h, n, hn => by
    simp only [Pf.uses] at h
    have e := pfsUses_length sub k
    by_cases hi : i < (pfsUses k sub).length
    · rw [List.getElem?_append_left hi] at h
      exact pfsUses_bd sub k i l h n hn
    · rw [List.getElem?_append_right (by omega)] at h
      have hz : i - (pfsUses k sub).length = 0 := by
        have := (List.getElem?_eq_some_iff.1 h).1; simp at this; omega
      rw [hz] at h
      simp at h; subst h
      have := premNums_bd sub k n hn
      omega
theorem pfsUses_bd : ∀ (ps : List Pf) (k i : Nat) (l : List Nat), (pfsUses k ps)[i]? = some l → ∀ n ∈ l, k < n ∧ n ≤ k + i
  | [], k, i, l, h, n, hn => by simp [pfsUses] at h
  | p :: ps, k, i, l, h, n, hn => by
    simp only [pfsUses] at h
    have e := Pf.uses_length p k
    by_cases hi : i < (p.uses k).length
    · rw [List.getElem?_append_left hi] at h
      exact Pf.uses_bd p k i l h n hn
    · rw [List.getElem?_append_right (by omega)] at h
      have := pfsUses_bd ps _ _ l h n hn
      omega
end

/- No 'r' ahead of an 'o'. -/
def noRO : Bs → Bool
  | [] => true
  | [_] => true
  | a :: b :: r => !(a == 114 && b == 111) && noRO (b :: r)
def roF (f : Fm) : Prop := ∀ x ∈ f.toks, noRO x = true
mutual
def Pf.ro : Pf → Prop
  | .mk rule form _ sub _ => noRO rule = true ∧ roF form ∧ pfsRo sub
def pfsRo : List Pf → Prop
  | [] => True
  | p :: ps => p.ro ∧ pfsRo ps
end

/-- A step's body: rule, formula, label, premises. -/
inductive LineAt : Nat → List Nat → Bs → Prop where
  | mk (i : Nat) (nums : List Nat) (rule : Bs) (form : Fm) (label : Int) (sub : List Pf) (marks : List (List Int)) (k : Nat) (hok : (Pf.mk rule form label sub marks).ok = true) (hro : (Pf.mk rule form label sub marks).ro) (hn : nums = premNums k sub) :
      LineAt i nums (itoa (i + 1 : Nat) ++ colon ++ bodyText rule form label (premTexts k sub marks))
mutual
theorem Pf.line_at : ∀ (p : Pf) (k i : Nat) (l : List Nat) (ln : Bs), p.ok = true → p.ro → (p.uses k)[i]? = some l → (p.lines k)[i]? = some ln → LineAt (k + i) l ln
  | .mk r f lb sub ms, k, i, l, ln, hok, hr, h, h' => by
    simp only [Pf.uses] at h
    simp only [Pf.lines] at h'
    have e := pfsUses_length sub k
    have e' := pfsLines_length sub k
    have hs : pfsOk sub = true := by simp only [Pf.ok, Bool.and_eq_true] at hok; exact hok.2
    by_cases hi : i < pfsSteps sub
    · rw [List.getElem?_append_left (by omega)] at h h'
      exact pfs_line_at sub k i l ln hs (by simp only [Pf.ro] at hr; exact hr.2.2) h h'
    · rw [List.getElem?_append_right (by omega)] at h h'
      have hz : i - (pfsUses k sub).length = 0 := by
        have := (List.getElem?_eq_some_iff.1 h).1; simp at this; omega
      rw [hz] at h
      rw [e', ← e, hz] at h'
      simp at h h'
      subst h h'
      have : k + i = k + pfsSteps sub := by omega
      rw [this]
      have hm := LineAt.mk (k + pfsSteps sub) _ r f lb sub ms k hok hr rfl
      rw [e]
      simpa using hm
theorem pfs_line_at : ∀ (ps : List Pf) (k i : Nat) (l : List Nat) (ln : Bs), pfsOk ps = true → pfsRo ps → (pfsUses k ps)[i]? = some l → (pfsLines k ps)[i]? = some ln → LineAt (k + i) l ln
  | [], k, i, l, ln, hok, hr, h, h' => by simp [pfsUses] at h
  | p :: ps, k, i, l, ln, hok, hr, h, h' => by
    simp only [pfsOk, Bool.and_eq_true] at hok
    simp only [pfsRo] at hr
    simp only [pfsUses] at h
    simp only [pfsLines] at h'
    have e := Pf.uses_length p k
    have e' := Pf.lines_length p k
    by_cases hi : i < p.steps
    · rw [List.getElem?_append_left (by omega)] at h h'
      exact Pf.line_at p k i l ln hok.1 hr.1 h h'
    · rw [List.getElem?_append_right (by omega)] at h h'
      rw [e] at h; rw [e'] at h'
      have := pfs_line_at ps _ _ l ln hok.2 hr.2 h h'
      rwa [show k + p.steps + (i - p.steps) = k + i by omega] at this
end

def RInv (s : List Fm) : Prop := ∀ f ∈ s, roF f
end Ly
/- Plain law: what was joined is split again. Nothing of the program is imported. -/
namespace Ly
open Go.Lib (index count split splitK countFrom)

theorem index_sep {c : UInt8} {t : Bs} : ∀ (x r : Bs), c ∉ x → index (x ++ (c :: t) ++ r) (c :: t) = x.length
  | [], r, _ => by
    simp only [List.nil_append, List.cons_append, index]
    rw [if_pos (by rw [List.isPrefixOf_iff_prefix]; exact ⟨r, by simp⟩)]; rfl
  | a :: x, r, h => by
    have ih := index_sep x r (fun hm => h (List.mem_cons_of_mem _ hm)) (t := t)
    have ha : a ≠ c := fun e => h (by rw [e]; exact List.mem_cons_self)
    rw [List.cons_append, List.cons_append, index, ih]
    have : (c :: t).isPrefixOf (a :: (x ++ c :: t ++ r)) = false := by simp [List.isPrefixOf, Ne.symm ha]
    rw [this]
    simp
theorem index_none {c : UInt8} {t : Bs} : ∀ (x : Bs), c ∉ x → index x (c :: t) = -1
  | [], _ => by simp [index]
  | a :: x, h => by
    have ih := index_none x (fun hm => h (List.mem_cons_of_mem _ hm)) (t := t)
    have ha : a ≠ c := fun e => h (by rw [e]; exact List.mem_cons_self)
    rw [index, ih]
    have : (c :: t).isPrefixOf (a :: x) = false := by simp [List.isPrefixOf, Ne.symm ha]
    rw [this]
    simp

theorem split_joinBy {c : UInt8} {t : Bs} : ∀ (l : List Bs), l ≠ [] → (∀ x ∈ l, c ∉ x) → count (joinBy (c :: t) l) (c :: t) + 1 = l.length ∧ ∀ k, l.length ≤ k + 1 → splitK (c :: t) 0 k (joinBy (c :: t) l) = l
  | [], h, _ => absurd rfl h
  | [x], _, hx => by
    have e := index_none (t := t) x (hx x (by simp))
    refine ⟨?_, fun k _ => ?_⟩
    · simp only [joinBy, List.length_cons, List.length_nil]
      rw [Go.Lib.count_miss e]
    · simp only [joinBy]
      cases k with
      | zero => rfl
      | succ k => rw [splitK, e]; simp
  | x :: y :: r, _, hx => by
    obtain ⟨h1, h2⟩ := split_joinBy (c := c) (t := t) (y :: r) (by simp) (fun z hz => hx z (by simp at hz ⊢; right; exact hz))
    have e := index_sep (c := c) (t := t) x (joinBy (c :: t) (y :: r)) (hx x (by simp))
    have ej : joinBy (c :: t) (x :: y :: r) = x ++ (c :: t) ++ joinBy (c :: t) (y :: r) := rfl
    have ed : (x ++ (c :: t) ++ joinBy (c :: t) (y :: r)).drop (x.length + (c :: t).length) = joinBy (c :: t) (y :: r) := by
      rw [← List.length_append, List.drop_left]
    rw [ej]
    refine ⟨?_, fun k hk => ?_⟩
    · rw [Go.Lib.count_hit (by simp) e, ed]
      simp only [List.length_cons] at h1 ⊢; omega
    · cases k with
      | zero => simp at hk
      | succ k =>
        rw [splitK, e]
        simp only [Nat.add_zero, Int.toNat_natCast]
        rw [if_neg (by simp), ed, h2 k (by simp at hk ⊢; omega)]
        simp
theorem split_join {c : UInt8} {t : Bs} (l : List Bs) (h : l ≠ []) (hx : ∀ x ∈ l, c ∉ x) : split (joinBy (c :: t) l) (c :: t) = l := by
  obtain ⟨h1, h2⟩ := split_joinBy (c := c) (t := t) l h hx
  unfold split
  exact h2 _ (by omega)
/-- THE WORDS OF A FORMULA'S TEXT. -/
theorem split_text (f : Fm) (h : f.ok = true) : split f.text [32] = f.toks := by
  rw [Fm.text_eq, joinSp_eq]
  exact split_join f.toks (Fm.toks_ne f) (Fm.noSp_toks f h)
end Ly
