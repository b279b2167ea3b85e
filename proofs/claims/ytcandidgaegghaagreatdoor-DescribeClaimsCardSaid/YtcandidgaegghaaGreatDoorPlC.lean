/- Plain laws: the outline of a formula, the order of a proof's lines, lists that are joined and split. Nothing of the program is imported. -/
import Derived.Test.YtcandidgaegghaaGreatDoorPlB
import Derived.Lib.Split
set_option linter.unusedSimpArgs false
/- Plain law: the outline of a formula, scanned along the words of its text. Nothing of the program is imported. -/
namespace Ly

def Fm.headToks : Fm → List Bs
  | .mk op n as _ => if op = 1 then termWords n as else if op = 2 then [wFalse] else signToks op n
def Fm.head (f : Fm) : Bs := if f.op = 1 ∨ f.op = 2 then f.text else signFirst f.op f.name

mutual
def Fm.outl (lv : Nat) : Fm → List (Nat × Bs)
  | .mk op n as sub => (lv, (Fm.mk op n as sub).head) :: fmsOutl (lv + 1) sub
def fmsOutl (lv : Nat) : List Fm → List (Nat × Bs)
  | [] => []
  | f :: fs => f.outl lv ++ fmsOutl lv fs
end
mutual
def Fm.parts : Fm → Nat
  | .mk _ _ _ sub => 1 + fmsParts sub
def fmsParts : List Fm → Nat
  | [] => 0
  | f :: fs => f.parts + fmsParts fs
end
mutual
theorem Fm.outl_length : ∀ (f : Fm) (lv : Nat), (f.outl lv).length = f.parts
  | .mk op n as sub, lv => by simp [Fm.outl, Fm.parts, fmsOutl_length sub (lv + 1)]; omega
theorem fmsOutl_length : ∀ (fs : List Fm) (lv : Nat), (fmsOutl lv fs).length = fmsParts fs
  | [], _ => rfl
  | f :: fs, lv => by simp [fmsOutl, fmsParts, Fm.outl_length f lv, fmsOutl_length fs lv]
end

theorem Fm.headToks_ne (f : Fm) : f.headToks ≠ [] := by
  obtain ⟨op, n, as, sub⟩ := f
  simp only [Fm.headToks]
  split
  · simp [termWords]
  · split
    · simp
    · exact signToks_ne _ _
theorem Fm.head_eq (f : Fm) : f.head = joinSp f.headToks := by
  obtain ⟨op, n, as, sub⟩ := f
  unfold Fm.head
  simp only [Fm.op, Fm.name, Fm.headToks]
  by_cases h1 : op = 1
  · simp [h1, Fm.text, Fm.words]
  · by_cases h2 : op = 2
    · simp [h2, Fm.text, Fm.words]
    · simp only [h1, h2, or_self, if_false]
      rw [← signFirst_toks]; rfl
/-- The parts of an operator come behind its own words; an atom has none. -/
theorem Fm.toks_head {f : Fm} (h : f.ok = true) : f.toks = f.headToks ++ fmsToks f.op true f.sub := by
  obtain ⟨op, n, as, sub⟩ := f
  simp only [Fm.ok, Bool.and_eq_true, decide_eq_true_eq] at h
  simp only [Fm.toks, Fm.headToks, Fm.op, Fm.sub]
  by_cases h1 : op = 1
  · have z : sub = [] := List.eq_nil_of_length_eq_zero (by have := h.1.1.1.1; simpa [h1, arity] using this)
    subst z; simp [h1, fmsToks]
  · by_cases h2 : op = 2
    · have z : sub = [] := List.eq_nil_of_length_eq_zero (by have := h.1.1.1.1; simpa [h2, arity] using this)
      subst z; simp [h2, fmsToks]
    · simp [h1, h2]

theorem Fm.noSp_head {f : Fm} (h : f.ok = true) : noSp f.headToks := by
  have := Fm.noSp_toks f h
  rw [Fm.toks_head h, noSp_append] at this
  exact this.1

/- Prefixes. -/
theorem pre_yes {a c : List Bs} (ha : a ≠ []) : (joinSp a ++ [32]).isPrefixOf (joinSp (a ++ c) ++ [32]) = true := by
  rw [List.isPrefixOf_iff_prefix]
  by_cases hc : c = []
  · subst hc; simp
  · rw [joinSp_append a c ha hc]; exact ⟨joinSp c ++ [32], by simp⟩
theorem sp_head {x : Bs} {r : List Bs} : ∃ t, joinSp (x :: r) ++ [32] = x ++ 32 :: t := by
  cases r with
  | nil => exact ⟨[], rfl⟩
  | cons y r => exact ⟨joinSp (y :: r) ++ [32], by rw [joinSp_cons x (y :: r) (by simp)]; simp⟩
theorem pre_no {x y : Bs} {r s : List Bs} (hx : (32 : UInt8) ∉ x) (hy : (32 : UInt8) ∉ y) (h : x ≠ y) : (joinSp (x :: r) ++ [32]).isPrefixOf (joinSp (y :: s) ++ [32]) = false := by
  cases e : (joinSp (x :: r) ++ [32]).isPrefixOf (joinSp (y :: s) ++ [32]) with
  | false => rfl
  | true =>
    rw [List.isPrefixOf_iff_prefix] at e
    obtain ⟨z, e⟩ := e
    obtain ⟨t, e1⟩ := sp_head (x := x) (r := r)
    obtain ⟨u, e2⟩ := sp_head (x := y) (r := s)
    rw [e1, e2, List.append_assoc, List.cons_append] at e
    exact absurd (split_at hx hy e).1 h

/-- The words between two parts. -/
def isBetween (w : Bs) : Prop := w = wAnd ∨ w = wOr ∨ w = wThen ∨ w = wSo ∨ w = wUntil
theorem between_sign {op : Int} (h : op = 4 ∨ op = 5 ∨ op = 6 ∨ op = 7 ∨ op = 14) : isBetween (signBetween op) := by
  rcases h with rfl | rfl | rfl | rfl | rfl <;> simp [isBetween, signBetween]
theorem between_of {op : Int} {n : Bs} {as : List Tm} {sub : List Fm} (h : (Fm.mk op n as sub).ok = true) : sub.length ≤ 1 ∨ isBetween (signBetween op) := by
  have ho := Fm.ok_op h
  simp only [Fm.ok, Bool.and_eq_true, decide_eq_true_eq] at h
  have h1 := h.1.1.1.1
  rcases ho with rfl | rfl | rfl | rfl | rfl | rfl | rfl | rfl | rfl | rfl | rfl | rfl | rfl | rfl
  all_goals first | (left; rw [h1]; decide) | (right; exact between_sign (by simp))
theorem between_noSp {w : Bs} (h : isBetween w) : (32 : UInt8) ∉ w := by
  rcases h with rfl | rfl | rfl | rfl | rfl <;> decide
/-- No formula begins with a word that stands between two parts. -/
theorem head_not_between {f : Fm} (h : f.ok = true) : ∃ x r, f.headToks = x :: r ∧ ∀ w, isBetween w → x ≠ w := by
  obtain ⟨op, n, as, sub⟩ := f
  have ho := Fm.ok_op h
  have hk := h
  simp only [Fm.ok, Bool.and_eq_true, decide_eq_true_eq] at h
  by_cases h1 : op = 1
  · subst h1
    refine ⟨n, tmsWords true as ++ (if as.isEmpty then [] else [wClose]), rfl, ?_⟩
    have hp : predName n = true := by simp_all
    intro w hw
    refine predName_ne hp fun c r e => ?_
    rcases hw with rfl | rfl | rfl | rfl | rfl <;> (cases e; decide)
  · rcases ho with rfl | rfl | rfl | rfl | rfl | rfl | rfl | rfl | rfl | rfl | rfl | rfl | rfl | rfl
    · exact absurd rfl h1
    all_goals exact ⟨_, _, rfl, fun w hw => by rcases hw with rfl | rfl | rfl | rfl | rfl <;> simp [signFirst, wNot, wNec, wPos, wNext, wAlways, wBoth, wEither, wIf, wAs, wWhile, wFor, wFalse, wAnd, wOr, wThen, wSo, wUntil]⟩

/-- One line of the outline, scanned: W the words of the text, st: how many are read, and the level of the line before. -/
def scan1 (W : List Bs) (first : Bool) (st : Nat × Int) (ln : Nat × Bs) : Option (Nat × Int) :=
  if st.2 + 1 < ln.1 ∨ (decide (ln.1 = 0) != first) = true then none
  else
    let at1 := if first = false ∧ st.1 < W.length ∧ (ln.2 ++ [32]).isPrefixOf (joinSp (W.drop st.1) ++ [32]) = false then st.1 + 1 else st.1
    if (ln.2 ++ [32]).isPrefixOf (joinSp (W.drop (min at1 W.length)) ++ [32]) = true then some (at1 + (ln.2.count 32 + 1), (ln.1 : Int)) else none
def scan (W : List Bs) : List (Nat × Bs) → Nat × Int → Option (Nat × Int)
  | [], st => some st
  | ln :: r, st => match scan1 W false st ln with | none => none | some st' => scan W r st'

theorem count_joinSp : ∀ {a : List Bs}, noSp a → a ≠ [] → (joinSp a).count 32 + 1 = a.length
  | [], _, h => absurd rfl h
  | [x], h, _ => by
    have := h x (by simp)
    simp [joinSp, List.count_eq_zero.2 this]
  | x :: y :: r, h, _ => by
    have h0 := h x (by simp)
    have ih := count_joinSp (a := y :: r) (fun z hz => h z (by simp at hz ⊢; right; exact hz)) (by simp)
    rw [joinSp_cons x (y :: r) (by simp), List.count_append, List.count_eq_zero.2 h0, List.count_cons_self]
    simp at ih ⊢; omega

/-- Where scanning stands ahead of a part: at it, or at the word between two parts that stands ahead of it. -/
def Stands (pre : List Bs) (at_ : Nat) : Prop := at_ = pre.length ∨ ∃ p w, pre = p ++ [w] ∧ isBetween w ∧ at_ = p.length

theorem scan1_head {f : Fm} (h : f.ok = true) (W pre post : List Bs) (hW : W = pre ++ (f.headToks ++ post)) (lv at_ : Nat) (level : Int) (hlv : 1 ≤ lv) (hl : (lv : Int) ≤ level + 1) (hs : Stands pre at_) :
    scan1 W false (at_, level) (lv, f.head) = some (pre.length + f.headToks.length, (lv : Int)) := by
  have hne := Fm.headToks_ne f
  have hn := Fm.noSp_head h
  have hc : f.head.count 32 + 1 = f.headToks.length := by rw [Fm.head_eq]; exact count_joinSp hn hne
  have yes : (f.head ++ [32]).isPrefixOf (joinSp (W.drop pre.length) ++ [32]) = true := by
    rw [hW, List.drop_left, Fm.head_eq]; exact pre_yes hne
  have hlen : pre.length < W.length := by
    rw [hW]; simp only [List.length_append]
    have : 0 < f.headToks.length := List.length_pos_iff.2 hne
    omega
  unfold scan1
  rw [if_neg (by simp; omega)]
  rcases hs with rfl | ⟨p, w, rfl, hw, rfl⟩
  · simp only [yes, Bool.true_eq_false, and_false, if_false, Nat.min_eq_left (Nat.le_of_lt hlen), if_true, hc]
  · have no : (f.head ++ [32]).isPrefixOf (joinSp (W.drop p.length) ++ [32]) = false := by
      obtain ⟨x, r, e, hx⟩ := head_not_between h
      rw [hW, List.append_assoc, List.drop_left, Fm.head_eq, e]
      refine pre_no ?_ (between_noSp hw) (hx w hw)
      rw [e] at hn; exact (noSp_cons.1 hn).1
    have hlen2 : p.length + 1 < W.length := by simpa using hlen
    have yes2 : (f.head ++ [32]).isPrefixOf (joinSp (W.drop (p.length + 1)) ++ [32]) = true := by simpa using yes
    have c1 : p.length < W.length := by omega
    simp only [no, c1, and_self, if_true, Nat.min_eq_left (Nat.le_of_lt hlen2), yes2, hc, List.length_append, List.length_cons, List.length_nil, Nat.zero_add]

mutual
theorem scan_f : ∀ (f : Fm), f.ok = true → ∀ (W pre post : List Bs) (rest : List (Nat × Bs)) (lv at_ : Nat) (level : Int), W = pre ++ (f.toks ++ post) → 1 ≤ lv → (lv : Int) ≤ level + 1 → Stands pre at_ →
    ∃ level', (lv : Int) ≤ level' ∧ scan W (f.outl lv ++ rest) (at_, level) = scan W rest (pre.length + f.toks.length, level')
  | .mk op n as sub, h, W, pre, post, rest, lv, at_, level, hW, hlv, hl, hs => by
    have et := Fm.toks_head h
    simp only [Fm.op, Fm.sub] at et
    have e1 := scan1_head h W pre (fmsToks op true sub ++ post) (by rw [hW, et, List.append_assoc]) lv at_ level hlv hl hs
    have hk := h
    simp only [Fm.ok, Bool.and_eq_true, decide_eq_true_eq] at hk
    have hb : sub.length ≤ 1 ∨ isBetween (signBetween op) := between_of h
    obtain ⟨l', h1, h2⟩ := scan_fs op sub hk.2 true hb W (pre ++ (Fm.mk op n as sub).headToks) post rest (lv + 1) (pre.length + (Fm.mk op n as sub).headToks.length) lv
      (by rw [hW, et]; simp) (by omega) (by omega) (fun _ _ => .inl (by simp)) (by simp)
    refine ⟨l', by omega, ?_⟩
    simp only [Fm.outl, List.cons_append, scan]
    rw [e1]
    simp only []
    rw [h2, et]
    simp only [List.length_append, Nat.add_assoc]
theorem scan_fs (op : Int) : ∀ (fs : List Fm), fmsOk fs = true → ∀ (b : Bool), fs.length ≤ (if b then 1 else 0) ∨ isBetween (signBetween op) → ∀ (W pre post : List Bs) (rest : List (Nat × Bs)) (lv at_ : Nat) (level : Int), W = pre ++ (fmsToks op b fs ++ post) → 1 ≤ lv → (lv : Int) ≤ level + 1 →
    (b = true → fs ≠ [] → Stands pre at_) → (at_ = pre.length) →
    ∃ level', ((lv : Int) - 1 ≤ level') ∧ scan W (fmsOutl lv fs ++ rest) (at_, level) = scan W rest (pre.length + (fmsToks op b fs).length, level')
  | [], _, b, _, W, pre, post, rest, lv, at_, level, hW, hlv, hl, _, ha => ⟨level, by omega, by simp [fmsOutl, fmsToks, ha]⟩
  | f :: fs, h, b, hb, W, pre, post, rest, lv, at_, level, hW, hlv, hl, hs, ha => by
    simp only [fmsOk, Bool.and_eq_true] at h
    cases b with
    | true =>
      have hb' : fs.length ≤ (if false = true then 1 else 0) ∨ isBetween (signBetween op) := by
        rcases hb with hb | hb
        · left; simpa using hb
        · exact .inr hb
      simp only [fmsToks, if_true, List.nil_append, List.append_assoc] at hW ⊢
      obtain ⟨l1, a1, a2⟩ := scan_f f h.1 W pre (fmsToks op false fs ++ post) (fmsOutl lv fs ++ rest) lv at_ level hW hlv hl (hs rfl (by simp))
      obtain ⟨l2, b1, b2⟩ := scan_fs op fs h.2 false hb' W (pre ++ f.toks) post rest lv (pre.length + f.toks.length) l1 (by rw [hW]; simp) hlv (by omega) (by simp) (by simp)
      refine ⟨l2, b1, ?_⟩
      simp only [fmsOutl, List.append_assoc]
      rw [a2, b2]; simp [Nat.add_assoc]
    | false =>
      have hb' : isBetween (signBetween op) := by
        rcases hb with hb | hb
        · simp at hb
        · exact hb
      simp only [fmsToks, Bool.false_eq_true, if_false, List.append_assoc] at hW ⊢
      obtain ⟨l1, a1, a2⟩ := scan_f f h.1 W (pre ++ [signBetween op]) (fmsToks op false fs ++ post) (fmsOutl lv fs ++ rest) lv at_ level (by rw [hW]; simp) hlv hl (.inr ⟨pre, _, rfl, hb', ha⟩)
      obtain ⟨l2, b1, b2⟩ := scan_fs op fs h.2 false (.inr hb') W (pre ++ [signBetween op] ++ f.toks) post rest lv ((pre ++ [signBetween op]).length + f.toks.length) l1 (by rw [hW]; simp) hlv (by omega) (by simp) (by simp; omega)
      refine ⟨l2, b1, ?_⟩
      simp only [fmsOutl, List.append_assoc]
      rw [a2, b2]; simp [Nat.add_assoc]
      congr 2; omega
end

/-- THE OUTLINE OF A RIGHT FORMULA FITS THE WORDS OF ITS TEXT. -/
theorem outline_law (f : Fm) (h : f.ok = true) : ∃ ln r, f.outl 0 = ln :: r ∧ ∃ st l', scan1 f.toks true (0, -1) ln = some st ∧ scan f.toks r st = some (f.toks.length, l') := by
  obtain ⟨op, n, as, sub⟩ := f
  refine ⟨_, _, rfl, ?_⟩
  have et := Fm.toks_head h
  simp only [Fm.op, Fm.sub] at et
  have hne := Fm.headToks_ne (Fm.mk op n as sub)
  have hn := Fm.noSp_head h
  have hc : (Fm.mk op n as sub).head.count 32 + 1 = (Fm.mk op n as sub).headToks.length := by rw [Fm.head_eq]; exact count_joinSp hn hne
  have yes : ((Fm.mk op n as sub).head ++ [32]).isPrefixOf (joinSp ((Fm.mk op n as sub).toks.drop 0) ++ [32]) = true := by
    rw [List.drop_zero, et, Fm.head_eq]; exact pre_yes hne
  refine ⟨((Fm.mk op n as sub).headToks.length, 0), ?_⟩
  have hk := h
  simp only [Fm.ok, Bool.and_eq_true, decide_eq_true_eq] at hk
  have hb : sub.length ≤ 1 ∨ isBetween (signBetween op) := between_of h
  obtain ⟨l', h1, h2⟩ := scan_fs op sub hk.2 true hb (Fm.mk op n as sub).toks (Fm.mk op n as sub).headToks [] [] 1 (Fm.mk op n as sub).headToks.length 0
    (by rw [et]; simp) (by omega) (by omega) (fun _ _ => .inl rfl) (by simp)
  refine ⟨l', ?_, ?_⟩
  · unfold scan1
    simp only [hc, Bool.true_eq_false, false_and, if_false, Nat.zero_min, yes, if_true, Nat.zero_add]
    simp
  · simp only [List.append_nil] at h2
    rw [Nat.zero_add, h2, et]
    simp [scan]
end Ly
/- Plain law: the lines of a proof, and which lines a step uses. Nothing of the program is imported. -/
namespace Ly
open Go.Lib (decDigits itoa index cut)

/-- The numbers of the last lines of some proofs, k lines ahead of them. -/
def premNums : Nat → List Pf → List Nat
  | _, [] => []
  | k, p :: ps => (k + p.steps) :: premNums (k + p.steps) ps
mutual
/-- Line by line, the lines that it uses. -/
def Pf.uses : Nat → Pf → List (List Nat)
  | k, .mk _ _ _ sub _ => pfsUses k sub ++ [premNums k sub]
def pfsUses : Nat → List Pf → List (List Nat)
  | _, [] => []
  | k, p :: ps => p.uses k ++ pfsUses (k + p.steps) ps
end
mutual
theorem Pf.uses_length : ∀ (p : Pf) (k : Nat), (p.uses k).length = p.steps
  | .mk _ _ _ sub _, k => by simp [Pf.uses, Pf.steps, pfsUses_length sub k]
theorem pfsUses_length : ∀ (ps : List Pf) (k : Nat), (pfsUses k ps).length = pfsSteps ps
  | [], _ => rfl
  | p :: ps, k => by simp [pfsUses, pfsSteps, Pf.uses_length p k, pfsUses_length ps (k + p.steps)]
end
theorem Pf.steps_pos (p : Pf) : 1 ≤ p.steps := by cases p; simp [Pf.steps]

mutual
theorem Pf.uses_count : ∀ (p : Pf) (k n : Nat), (p.uses k).flatten.count n = if k < n ∧ n < k + p.steps then 1 else 0
  | .mk r f l sub ms, k, n => by
    have h0 := pfsUses_count sub k n
    have e : (Pf.mk r f l sub ms).steps = pfsSteps sub + 1 := by simp [Pf.steps]
    generalize (Pf.mk r f l sub ms).steps = S at *
    simp only [Pf.uses, List.flatten_append, List.flatten_cons, List.flatten_nil, List.append_nil, List.count_append]
    rw [h0]
    by_cases h : k < n ∧ n ≤ k + pfsSteps sub
    · rw [if_pos h, if_pos (by omega)]
    · rw [if_neg h, if_neg (by omega)]
theorem pfsUses_count : ∀ (ps : List Pf) (k n : Nat), (pfsUses k ps).flatten.count n + (premNums k ps).count n = if k < n ∧ n ≤ k + pfsSteps ps then 1 else 0
  | [], k, n => by
    have e : pfsSteps [] = 0 := by simp [pfsSteps]
    rw [if_neg (by rw [e]; omega)]; simp [pfsUses, premNums]
  | p :: ps, k, n => by
    have h1 := Pf.uses_count p k n
    have h2 := pfsUses_count ps (k + p.steps) n
    have h3 := Pf.steps_pos p
    have e : pfsSteps (p :: ps) = p.steps + pfsSteps ps := by simp [pfsSteps]
    generalize pfsSteps (p :: ps) = S at *
    simp only [pfsUses, premNums, List.flatten_append, List.count_append, List.count_cons]
    rw [h1]
    have h4 : (if (k + p.steps == n) = true then 1 else 0) = if k + p.steps = n then 1 else 0 := by simp
    rw [h4]
    by_cases a : k < n ∧ n < k + p.steps
    · rw [if_neg (by omega)] at h2
      rw [if_pos a, if_neg (by omega), if_pos (by omega)]; omega
    · by_cases b : k + p.steps = n
      · rw [if_neg (by omega)] at h2
        rw [if_neg a, if_pos b, if_pos (by omega)]; omega
      · by_cases c : k + p.steps < n ∧ n ≤ k + p.steps + pfsSteps ps
        · rw [if_pos c] at h2
          rw [if_neg a, if_neg b, if_pos (by omega)]; omega
        · rw [if_neg c] at h2
          rw [if_neg a, if_neg b, if_neg (by omega)]; omega
end

theorem premNums_bd : ∀ (ps : List Pf) (k n : Nat), n ∈ premNums k ps → k < n ∧ n ≤ k + pfsSteps ps
  | [], _, _, h => by cases h
  | p :: ps, k, n, h => by
    have h3 := Pf.steps_pos p
    simp only [premNums, pfsSteps] at h ⊢
    rcases List.mem_cons.1 h with e | e
    · omega
    · have := premNums_bd ps _ _ e; omega
mutual
theorem Pf.uses_bd : ∀ (p : Pf) (k i : Nat) (l : List Nat), (p.uses k)[i]? = some l → ∀ n ∈ l, k < n ∧ n ≤ k + i
  | .mk r f lb sub ms, k, i, l, h, n, hn => by
    simp only [Pf.uses] at h
    have e := pfsUses_length sub k
    by_cases hi : i < (pfsUses k sub).length
    · rw [List.getElem?_append_left hi] at h
      exact pfsUses_bd sub k i l h n hn
    · rw [List.getElem?_append_right (by omega)] at h
      have hz : i - (pfsUses k sub).length = 0 := by
        have := (List.getElem?_eq_some_iff.1 h).1; simp at this; omega
      rw [hz] at h
      simp at h; subst h
      have := premNums_bd sub k n hn
      omega
theorem pfsUses_bd : ∀ (ps : List Pf) (k i : Nat) (l : List Nat), (pfsUses k ps)[i]? = some l → ∀ n ∈ l, k < n ∧ n ≤ k + i
  | [], k, i, l, h, n, hn => by simp [pfsUses] at h
  | p :: ps, k, i, l, h, n, hn => by
    simp only [pfsUses] at h
    have e := Pf.uses_length p k
    by_cases hi : i < (p.uses k).length
    · rw [List.getElem?_append_left hi] at h
      exact Pf.uses_bd p k i l h n hn
    · rw [List.getElem?_append_right (by omega)] at h
      have := pfsUses_bd ps _ _ l h n hn
      omega
end

/- No 'r' ahead of an 'o'. -/
def noRO : Bs → Bool
  | [] => true
  | [_] => true
  | a :: b :: r => !(a == 114 && b == 111) && noRO (b :: r)
def roF (f : Fm) : Prop := ∀ x ∈ f.toks, noRO x = true
mutual
def Pf.ro : Pf → Prop
  | .mk rule form _ sub _ => noRO rule = true ∧ roF form ∧ pfsRo sub
def pfsRo : List Pf → Prop
  | [] => True
  | p :: ps => p.ro ∧ pfsRo ps
end

/-- A step's body: rule, formula, label, premises. -/
inductive LineAt : Nat → List Nat → Bs → Prop where
  | mk (i : Nat) (nums : List Nat) (rule : Bs) (form : Fm) (label : Int) (sub : List Pf) (marks : List (List Int)) (k : Nat) (hok : (Pf.mk rule form label sub marks).ok = true) (hro : (Pf.mk rule form label sub marks).ro) (hn : nums = premNums k sub) :
      LineAt i nums (itoa (i + 1 : Nat) ++ colon ++ bodyText rule form label (premTexts k sub marks))
mutual
theorem Pf.line_at : ∀ (p : Pf) (k i : Nat) (l : List Nat) (ln : Bs), p.ok = true → p.ro → (p.uses k)[i]? = some l → (p.lines k)[i]? = some ln → LineAt (k + i) l ln
  | .mk r f lb sub ms, k, i, l, ln, hok, hr, h, h' => by
    simp only [Pf.uses] at h
    simp only [Pf.lines] at h'
    have e := pfsUses_length sub k
    have e' := pfsLines_length sub k
    have hs : pfsOk sub = true := by simp only [Pf.ok, Bool.and_eq_true] at hok; exact hok.2
    by_cases hi : i < pfsSteps sub
    · rw [List.getElem?_append_left (by omega)] at h h'
      exact pfs_line_at sub k i l ln hs (by simp only [Pf.ro] at hr; exact hr.2.2) h h'
    · rw [List.getElem?_append_right (by omega)] at h h'
      have hz : i - (pfsUses k sub).length = 0 := by
        have := (List.getElem?_eq_some_iff.1 h).1; simp at this; omega
      rw [hz] at h
      rw [e', ← e, hz] at h'
      simp at h h'
      subst h h'
      have : k + i = k + pfsSteps sub := by omega
      rw [this]
      have hm := LineAt.mk (k + pfsSteps sub) _ r f lb sub ms k hok hr rfl
      rw [e]
      simpa using hm
theorem pfs_line_at : ∀ (ps : List Pf) (k i : Nat) (l : List Nat) (ln : Bs), pfsOk ps = true → pfsRo ps → (pfsUses k ps)[i]? = some l → (pfsLines k ps)[i]? = some ln → LineAt (k + i) l ln
  | [], k, i, l, ln, hok, hr, h, h' => by simp [pfsUses] at h
  | p :: ps, k, i, l, ln, hok, hr, h, h' => by
    simp only [pfsOk, Bool.and_eq_true] at hok
    simp only [pfsRo] at hr
    simp only [pfsUses] at h
    simp only [pfsLines] at h'
    have e := Pf.uses_length p k
    have e' := Pf.lines_length p k
    by_cases hi : i < p.steps
    · rw [List.getElem?_append_left (by omega)] at h h'
      exact Pf.line_at p k i l ln hok.1 hr.1 h h'
    · rw [List.getElem?_append_right (by omega)] at h h'
      rw [e] at h; rw [e'] at h'
      have := pfs_line_at ps _ _ l ln hok.2 hr.2 h h'
      rwa [show k + p.steps + (i - p.steps) = k + i by omega] at this
end

/- No 'r' ahead of an 'o': then there is no " from " in it. -/
theorem noRO_tail {a : UInt8} {r : Bs} (h : noRO (a :: r) = true) : noRO r = true := by
  cases r with
  | nil => rfl
  | cons b r => simp [noRO] at h; exact h.2
theorem noRO_append {a b : Bs} {c : UInt8} (hc : c ≠ 114) (hc' : c ≠ 111) (ha : noRO a = true) (hb : noRO b = true) : noRO (a ++ c :: b) = true := by
  induction a with
  | nil =>
    cases b with
    | nil => rfl
    | cons x b => simp [noRO, hc, hb]
  | cons x a ih =>
    have := ih (noRO_tail ha)
    cases a with
    | nil => simp only [List.cons_append, List.nil_append] at this ⊢; simp [noRO, hc', this]
    | cons y a =>
      simp only [List.cons_append] at this ⊢
      simp only [noRO, Bool.and_eq_true] at ha ⊢
      exact ⟨ha.1, this⟩
theorem noRO_joinSp : ∀ {l : List Bs}, (∀ x ∈ l, noRO x = true) → noRO (joinSp l) = true
  | [], _ => rfl
  | [x], h => h x (by simp)
  | x :: y :: r, h => by
    rw [joinSp_cons x (y :: r) (by simp)]
    exact noRO_append (by decide) (by decide) (h x (by simp)) (noRO_joinSp fun z hz => h z (by simp at hz ⊢; right; exact hz))
theorem noRO_digits {l : Bs} (h : ∀ c ∈ l, 48 ≤ c.toNat ∧ c.toNat ≤ 57) : noRO l = true := by
  induction l with
  | nil => rfl
  | cons x l ih =>
    have hx := h x (by simp)
    have := ih fun c hc => h c (by simp [hc])
    cases l with
    | nil => rfl
    | cons y l =>
      simp only [noRO, Bool.and_eq_true, this, and_true]
      have : (x == 114) = false := by
        cases e : x == 114 with
        | false => rfl
        | true => have := beq_iff_eq.1 e; subst this; simp at hx
      simp [this]

theorem from_pfx (c c1 c2 c3 : UInt8) (r : Bs) (h : c2 ≠ 114 ∨ c3 ≠ 111) : wFrom.isPrefixOf (c :: c1 :: c2 :: c3 :: r) = false := by
  simp only [wFrom, List.isPrefixOf]
  rcases h with h | h
  · have : ((114 : UInt8) == c2) = false := by simp [Ne.symm h]
    simp [this]
  · have : ((111 : UInt8) == c3) = false := by simp [Ne.symm h]
    simp [this]
theorem noRO_third {c c1 c2 c3 : UInt8} {r : Bs} (h : noRO (c :: c1 :: c2 :: c3 :: r) = true) : c2 ≠ 114 ∨ c3 ≠ 111 := by
  simp only [noRO, Bool.and_eq_true, Bool.not_eq_true', Bool.and_eq_false_iff, beq_eq_false_iff_ne] at h
  exact h.2.2.1
theorem index_from : ∀ (s t : Bs), noRO s = true → index (s ++ wFrom ++ t) wFrom = s.length
  | [], t, _ => by simp [index, wFrom, List.isPrefixOf]
  | c :: s, t, h => by
    have ih := index_from s t (noRO_tail h)
    have hp : (wFrom).isPrefixOf (c :: (s ++ wFrom ++ t)) = false := by
      cases s with
      | nil => simp [wFrom, List.isPrefixOf]
      | cons c1 s =>
        cases s with
        | nil => simp [wFrom, List.isPrefixOf]
        | cons c2 s =>
          cases s with
          | nil => simp [wFrom, List.isPrefixOf]
          | cons c3 s => exact from_pfx _ _ _ _ _ (noRO_third h)
    rw [List.cons_append, List.cons_append, index, hp, ih]
    simp
theorem index_no_from : ∀ (s : Bs), noRO s = true → index s wFrom = -1
  | [], _ => by simp [index, wFrom]
  | c :: s, h => by
    have ih := index_no_from s (noRO_tail h)
    have hp : (wFrom).isPrefixOf (c :: s) = false := by
      cases s with
      | nil => simp [wFrom, List.isPrefixOf]
      | cons c1 s =>
        cases s with
        | nil => simp [wFrom, List.isPrefixOf]
        | cons c2 s =>
          cases s with
          | nil => simp [wFrom, List.isPrefixOf]
          | cons c3 s => exact from_pfx _ _ _ _ _ (noRO_third h)
    rw [index, hp, ih]
    simp
/- What is built has none. -/
theorem leafTm_ro (k : Nat) : ∀ x ∈ (leafTm k).words, noRO x = true := by
  unfold leafTm
  repeat' split
  all_goals decide
theorem builtTm_ro (b : Nat) : ∀ x ∈ (builtTm b).words, noRO x = true := by
  have h := leafTm_ro (b % 5)
  unfold builtTm
  split
  · intro x hx
    have e : ∀ (n : Bs), (Tm.mk false n [leafTm (b % 5)]).words = n :: wOf :: ((leafTm (b % 5)).words ++ [wClose]) := by intro n; simp [Tm.words, tmsWords]
    rw [e] at hx
    simp only [List.mem_cons, List.mem_append, List.mem_nil_iff, or_false] at hx
    rcases hx with hx | hx | hx | hx
    · subst hx; split <;> decide
    · subst hx; decide
    · exact h x hx
    · subst hx; decide
  · exact h
theorem fls_ro : roF fls := by unfold roF; decide
theorem predPQR_ro (k : Nat) : noRO (predPQR k) = true := by unfold predPQR; (repeat' split) <;> decide
theorem varXYZ_ro (k : Nat) : noRO (varXYZ k) = true := by unfold varXYZ; (repeat' split) <;> decide
theorem atom_ro {n : Bs} {as : List Tm} (hn : noRO n = true) (ha : ∀ t ∈ as, ∀ x ∈ t.words, noRO x = true) : roF (.mk 1 n as []) := by
  have key : ∀ (b : Bool) (as : List Tm), (∀ t ∈ as, ∀ x ∈ t.words, noRO x = true) → ∀ x ∈ tmsWords b as, noRO x = true := by
    intro b as
    induction as generalizing b with
    | nil => intro _ x hx; simp [tmsWords] at hx
    | cons t as ih =>
      intro h x hx
      simp only [tmsWords, List.mem_cons, List.mem_append] at hx
      rcases hx with hx | hx | hx
      · subst hx; cases b <;> decide
      · exact h t (by simp) x hx
      · exact ih false (fun u hu => h u (by simp [hu])) x hx
  intro x hx
  simp only [Fm.toks, if_true, termWords, List.mem_cons, List.mem_append] at hx
  rcases hx with hx | hx | hx
  · subst hx; exact hn
  · exact key true as ha x hx
  · split at hx
    · cases hx
    · simp only [List.mem_cons, List.mem_nil_iff, or_false] at hx; subst hx; decide
theorem one_ro {op : Int} {n : Bs} {f : Fm} (h : roF f) (h1 : op ≠ 1) (h2 : op ≠ 2) (hn : op = 8 ∨ op = 9 → noRO n = true) : roF (.mk op n [] [f]) := by
  intro x hx
  simp only [Fm.toks, h1, h2, if_false, fmsToks, if_true, List.nil_append, List.append_nil, List.mem_append] at hx
  rcases hx with hx | hx
  · unfold signToks at hx
    split at hx
    · rename_i e
      simp only [List.mem_cons, List.mem_nil_iff, or_false] at hx
      rcases hx with hx | hx | hx
      · subst hx; decide
      · subst hx; decide
      · subst hx; exact hn (.inl e)
    · split at hx
      · rename_i e
        simp only [List.mem_cons, List.mem_nil_iff, or_false] at hx
        rcases hx with hx | hx | hx
        · subst hx; decide
        · subst hx; decide
        · subst hx; exact hn (.inr e)
      · rename_i e8 e9
        simp only [List.mem_cons, List.mem_nil_iff, or_false] at hx
        subst hx
        unfold signFirst
        simp only [e8, e9, if_false]
        (repeat' split) <;> decide
  · exact h x hx
theorem two_ro {op : Int} {f g : Fm} (h : roF f) (h' : roF g) (h1 : op ≠ 1) (h2 : op ≠ 2) (h8 : op ≠ 8) (h9 : op ≠ 9) : roF (.mk op [] [] [f, g]) := by
  intro x hx
  simp only [Fm.toks, h1, h2, if_false, fmsToks, if_true, Bool.false_eq_true, List.nil_append, List.append_nil, List.mem_append, signToks, h8, h9, List.mem_cons, List.mem_nil_iff, or_false] at hx
  rcases hx with hx | hx | hx | hx
  · subst hx
    unfold signFirst
    simp only [h8, h9, if_false]
    (repeat' split) <;> decide
  · exact h x hx
  · subst hx
    unfold signBetween
    (repeat' split) <;> decide
  · exact h' x hx
def RInv (s : List Fm) : Prop := ∀ f ∈ s, roF f
theorem rinv_put {s : List Fm} (h : RInv s) {f : Fm} (hf : roF f) (j : Nat) : RInv (s.take j ++ [f]) := by
  intro g hg
  rcases List.mem_append.1 hg with hg | hg
  · exact h g (List.mem_of_mem_take hg)
  · simp only [List.mem_cons, List.mem_nil_iff, or_false] at hg; subst hg; exact hf
theorem rinv_put0 {s : List Fm} (h : RInv s) {f : Fm} (hf : roF f) : RInv (s ++ [f]) := by
  have := rinv_put h hf s.length
  simpa using this
theorem rinv_get {s : List Fm} (h : RInv s) (i : Nat) : roF (s.getD i fls) := by
  rw [List.getD_eq_getElem?_getD]
  cases e : s[i]? with
  | none => exact fls_ro
  | some f => exact h f (List.mem_of_getElem? e)
theorem bStep_ro {s : List Fm} (h : RInv s) (c : Nat) : RInv (bStep s c) := by
  have b1 := builtTm_ro (c / 12)
  have b2 := builtTm_ro (c / 12 / 3)
  unfold bStep
  split
  · exact rinv_put0 h (atom_ro (predPQR_ro _) (by simp))
  split
  · refine rinv_put0 h (atom_ro ?_ ?_)
    · split <;> decide
    · intro t ht; simp only [List.mem_cons, List.mem_nil_iff, or_false] at ht; subst ht; exact b1
  split
  · refine rinv_put0 h (atom_ro (by decide) ?_)
    intro t ht; simp only [List.mem_cons, List.mem_nil_iff, or_false] at ht
    rcases ht with ht | ht
    · subst ht; exact b1
    · subst ht; exact b2
  split
  · exact rinv_put0 h fls_ro
  split
  · split
    · refine rinv_put h (one_ro (rinv_get h _) ?_ ?_ ?_) _
      · unfold unOp; (repeat' split) <;> decide
      · unfold unOp; (repeat' split) <;> decide
      · unfold unOp; intro e; (repeat' split at e) <;> omega
    · exact h
  split
  · split
    · exact rinv_put h (two_ro (rinv_get h _) (rinv_get h _) (by omega) (by omega) (by omega) (by omega)) _
    · exact h
  · split
    · exact rinv_put h (one_ro (rinv_get h _) (by omega) (by omega) (fun _ => varXYZ_ro _)) _
    · exact h
theorem built_ro (l : Bs) : roF (built l) := by
  have h : ∀ (l : Bs) (s : List Fm), RInv s → RInv (l.foldl (fun s c => bStep s c.toNat) s) := by
    intro l
    induction l with
    | nil => intro s h; exact h
    | cons c l ih => intro s h; exact ih _ (bStep_ro h _)
  have h0 : RInv (bFold (l.take 20)) := h _ [] (by intro f hf; cases hf)
  unfold built
  generalize bFold (l.take 20) = s at *
  cases s with
  | nil => exact fls_ro
  | cons f r =>
    have key : ∀ (r : List Fm) (f : Fm), roF f → RInv r → roF (untils f r) := by
      intro r
      induction r with
      | nil => intro f hf _; exact hf
      | cons g r ih => intro f hf hr; exact ih _ (two_ro hf (hr g (by simp)) (by decide) (by decide) (by decide) (by decide)) (fun x hx => hr x (by simp [hx]))
    exact key r f (h0 f (by simp)) (fun x hx => h0 x (by simp [hx]))
theorem pfsRo_iff (l : List Pf) : pfsRo l ↔ ∀ p ∈ l, p.ro := by
  induction l with
  | nil => simp [pfsRo]
  | cons x l ih => simp [pfsRo, ih]
theorem pFold_ro (l : Bs) : ∀ k, ∀ p ∈ pFold l k, p.ro
  | 0 => by intro p hp; cases hp
  | k + 1 => by
    have ih := pFold_ro l k
    simp only [pFold]
    generalize (l.getD k 0).toNat = b
    generalize pFold l k = s at *
    have put : ∀ (q : Pf) (j : Nat), q.ro → ∀ p ∈ s.take j ++ [q], p.ro := by
      intro q j hq p hp
      rcases List.mem_append.1 hp with hp | hp
      · exact ih p (List.mem_of_mem_take hp)
      · simp only [List.mem_cons, List.mem_nil_iff, or_false] at hp; subst hp; exact hq
    have put0 : ∀ (q : Pf), q.ro → ∀ p ∈ s ++ [q], p.ro := by
      intro q hq; have := put q s.length hq; simpa using this
    unfold pStep
    split
    · exact put0 _ (by simp only [Pf.ro, pfsRo]; exact ⟨rfl, built_ro _, trivial⟩)
    split
    · exact put0 _ (by simp only [Pf.ro, pfsRo]; exact ⟨rfl, built_ro _, trivial⟩)
    split
    · refine put _ _ ?_
      simp only [Pf.ro]
      refine ⟨?_, built_ro _, (pfsRo_iff _).2 fun p hp => ih p (List.mem_of_mem_drop hp)⟩
      unfold ruleOf; (repeat' split) <;> decide
    · exact ih
theorem proved_ro (l : Bs) : (proved l).ro := by
  unfold proved
  have h := pFold_ro l (min l.length 30)
  generalize pFold l (min l.length 30) = s at *
  rcases List.eq_nil_or_concat s with rfl | ⟨s', p, rfl⟩
  · simp only [List.getLastD_nil, dummyPf, Pf.ro, pfsRo]; exact ⟨rfl, fls_ro, trivial⟩
  · have := h p (by simp)
    simpa using this

theorem premNums_len : ∀ (ps : List Pf) (k : Nat), (premNums k ps).length = ps.length
  | [], _ => rfl
  | p :: ps, k => by simp [premNums, premNums_len ps]
theorem premTexts_nums : ∀ (ps : List Pf) (k : Nat) (ms : List (List Int)) (j : Nat) (x : Bs), (premTexts k ps ms)[j]? = some x → ∃ n, (premNums k ps)[j]? = some n ∧ (x = itoa (n : Int) ∨ ∃ t, x = itoa (n : Int) ++ 32 :: t)
  | [], k, ms, j, x, h => by simp [premTexts] at h
  | p :: ps, k, ms, 0, x, h => by
    simp only [premTexts, List.getElem?_cons_zero, Option.some.injEq] at h
    subst h
    refine ⟨k + p.steps, by simp [premNums], ?_⟩
    unfold premText
    split
    · left; simp
    · right; exact ⟨[101, 110, 100, 105, 110, 103, 32] ++ numbers (ms.headD []), by simp [wEnding]⟩
  | p :: ps, k, ms, j + 1, x, h => by
    simp only [premTexts, List.getElem?_cons_succ] at h
    obtain ⟨n, h1, h2⟩ := premTexts_nums ps _ _ j x h
    exact ⟨n, by simpa [premNums] using h1, h2⟩
theorem premTexts_len : ∀ (ps : List Pf) (k : Nat) (ms : List (List Int)), (premTexts k ps ms).length = ps.length
  | [], _, _ => rfl
  | p :: ps, k, ms => by simp [premTexts, premTexts_len ps]

/-- WHAT STANDS BEHIND A LINE's NUMBER: without premises no " from " occurs; with premises the first one is ahead of their list. -/
theorem line_body {i : Nat} {nums : List Nat} {ln : Bs} (h : LineAt i nums ln) : ∃ body, ln = itoa (i + 1 : Nat) ++ colon ++ body ∧
    ((nums = [] ∧ index body wFrom = -1) ∨
     (nums ≠ [] ∧ ∃ s ps, body = s ++ wFrom ++ joinBy cs ps ∧ index body wFrom = s.length ∧ ps.length = nums.length ∧ (∀ x ∈ ps, (44 : UInt8) ∉ x) ∧ ∀ (j : Nat) (x : Bs), ps[j]? = some x → ∃ n, nums[j]? = some n ∧ (x = itoa (n : Int) ∨ ∃ t, x = itoa (n : Int) ++ 32 :: t))) := by
  rcases h with ⟨rule, form, label, sub, marks, k, hok, hro, hn⟩
  refine ⟨_, rfl, ?_⟩
  simp only [Pf.ok, Bool.and_eq_true] at hok
  simp only [Pf.ro] at hro
  obtain ⟨⟨hf, hsh⟩, hsub⟩ := hok
  have ht : noRO form.text = true := by rw [Fm.text_eq]; exact noRO_joinSp hro.2.1
  have hnl := premNums_len sub k
  rw [← hn] at hnl
  unfold bodyText
  unfold shaped at hsh
  by_cases r0 : rule = []
  · simp only [r0, if_true, Bool.and_eq_true, decide_eq_true_eq] at hsh ⊢
    left
    refine ⟨List.eq_nil_of_length_eq_zero (by omega), index_no_from _ ?_⟩
    have hd : noRO (itoa label) = true := noRO_digits (itoa_digit (by omega))
    have e : wAssume ++ itoa label ++ cs ++ form.text = [97, 115, 115, 117, 109, 101] ++ 32 :: (itoa label ++ 44 :: ([] ++ 32 :: form.text)) := by simp [wAssume, cs]
    rw [e]
    exact noRO_append (by decide) (by decide) (by decide) (noRO_append (by decide) (by decide) hd (noRO_append (by decide) (by decide) rfl ht))
  · by_cases r1 : rule = hole
    · simp only [r1, if_true, if_false, show hole ≠ [] by decide, Bool.and_eq_true, decide_eq_true_eq] at hsh ⊢
      left
      refine ⟨List.eq_nil_of_length_eq_zero (by omega), index_no_from _ ?_⟩
      exact noRO_append (b := [32, 115, 116, 105, 108, 108, 32, 116, 111, 32, 115, 104, 111, 119]) (by decide) (by decide) ht (by decide)
    · simp only [r0, r1, if_false, Bool.and_eq_true, decide_eq_true_eq] at hsh ⊢
      have hb : noRO (form.text ++ wBy ++ rule) = true := by
        have e : form.text ++ wBy ++ rule = form.text ++ 44 :: ([] ++ 32 :: ([98, 121] ++ 32 :: rule)) := by simp [wBy]
        rw [e]
        exact noRO_append (by decide) (by decide) ht (noRO_append (by decide) (by decide) rfl (noRO_append (by decide) (by decide) (by decide) hro.1))
      by_cases hs : sub = []
      · subst hs
        left
        refine ⟨by rw [hn]; rfl, ?_⟩
        simp only [premTexts, List.isEmpty_nil, if_true, List.append_nil]
        exact index_no_from _ hb
      · right
        have hne : premTexts k sub marks ≠ [] := fun e => hs (premTexts_ne.1 e)
        have e : (premTexts k sub marks).isEmpty = false := by cases h : premTexts k sub marks with | nil => exact absurd h hne | cons _ _ => rfl
        have hmk : marksOk marks := marksOk_of hsh.2
        rw [e]
        simp only [Bool.false_eq_true, if_false]
        refine ⟨?_, form.text ++ wBy ++ rule, premTexts k sub marks, by simp, ?_, by rw [premTexts_len, hnl], premTexts_not sub k marks hmk, ?_⟩
        · intro e0
          rw [e0] at hnl
          exact hs (List.eq_nil_of_length_eq_zero hnl.symm)
        · rw [← List.append_assoc]; exact index_from _ _ hb
        · intro j x hx
          rw [hn]
          exact premTexts_nums sub k marks j x hx
end Ly
/- Plain law: what was joined is split again. Nothing of the program is imported. -/
namespace Ly
open Go.Lib (index count split splitK countFrom)

theorem index_sep {c : UInt8} {t : Bs} : ∀ (x r : Bs), c ∉ x → index (x ++ (c :: t) ++ r) (c :: t) = x.length
  | [], r, _ => by
    simp only [List.nil_append, List.cons_append, index]
    rw [if_pos (by rw [List.isPrefixOf_iff_prefix]; exact ⟨r, by simp⟩)]; rfl
  | a :: x, r, h => by
    have ih := index_sep x r (fun hm => h (List.mem_cons_of_mem _ hm)) (t := t)
    have ha : a ≠ c := fun e => h (by rw [e]; exact List.mem_cons_self)
    rw [List.cons_append, List.cons_append, index, ih]
    have : (c :: t).isPrefixOf (a :: (x ++ c :: t ++ r)) = false := by simp [List.isPrefixOf, Ne.symm ha]
    rw [this]
    simp
theorem index_none {c : UInt8} {t : Bs} : ∀ (x : Bs), c ∉ x → index x (c :: t) = -1
  | [], _ => by simp [index]
  | a :: x, h => by
    have ih := index_none x (fun hm => h (List.mem_cons_of_mem _ hm)) (t := t)
    have ha : a ≠ c := fun e => h (by rw [e]; exact List.mem_cons_self)
    rw [index, ih]
    have : (c :: t).isPrefixOf (a :: x) = false := by simp [List.isPrefixOf, Ne.symm ha]
    rw [this]
    simp

theorem split_joinBy {c : UInt8} {t : Bs} : ∀ (l : List Bs), l ≠ [] → (∀ x ∈ l, c ∉ x) → count (joinBy (c :: t) l) (c :: t) + 1 = l.length ∧ ∀ k, l.length ≤ k + 1 → splitK (c :: t) 0 k (joinBy (c :: t) l) = l
  | [], h, _ => absurd rfl h
  | [x], _, hx => by
    have e := index_none (t := t) x (hx x (by simp))
    refine ⟨?_, fun k _ => ?_⟩
    · simp only [joinBy, List.length_cons, List.length_nil]
      rw [Go.Lib.count_miss e]
    · simp only [joinBy]
      cases k with
      | zero => rfl
      | succ k => rw [splitK, e]; simp
  | x :: y :: r, _, hx => by
    obtain ⟨h1, h2⟩ := split_joinBy (c := c) (t := t) (y :: r) (by simp) (fun z hz => hx z (by simp at hz ⊢; right; exact hz))
    have e := index_sep (c := c) (t := t) x (joinBy (c :: t) (y :: r)) (hx x (by simp))
    have ej : joinBy (c :: t) (x :: y :: r) = x ++ (c :: t) ++ joinBy (c :: t) (y :: r) := rfl
    have ed : (x ++ (c :: t) ++ joinBy (c :: t) (y :: r)).drop (x.length + (c :: t).length) = joinBy (c :: t) (y :: r) := by
      rw [← List.length_append, List.drop_left]
    rw [ej]
    refine ⟨?_, fun k hk => ?_⟩
    · rw [Go.Lib.count_hit (by simp) e, ed]
      simp only [List.length_cons] at h1 ⊢; omega
    · cases k with
      | zero => simp at hk
      | succ k =>
        rw [splitK, e]
        simp only [Nat.add_zero, Int.toNat_natCast]
        rw [if_neg (by simp), ed, h2 k (by simp at hk ⊢; omega)]
        simp
theorem split_join {c : UInt8} {t : Bs} (l : List Bs) (h : l ≠ []) (hx : ∀ x ∈ l, c ∉ x) : split (joinBy (c :: t) l) (c :: t) = l := by
  obtain ⟨h1, h2⟩ := split_joinBy (c := c) (t := t) l h hx
  unfold split
  exact h2 _ (by omega)
/-- THE WORDS OF A FORMULA'S TEXT. -/
theorem split_text (f : Fm) (h : f.ok = true) : split f.text [32] = f.toks := by
  rw [Fm.text_eq, joinSp_eq]
  exact split_join f.toks (Fm.toks_ne f) (Fm.noSp_toks f h)
end Ly
