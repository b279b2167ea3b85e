/- How long the text of a formula can be that lyceumlaw30.Built makes. Nothing of the program's code is walked. lyceumlaw41.DescribeReads: what its loop keeps in memory. Conditions: none but those of each statement. Plain laws for the describe family: the six defects of a formula's words. Nothing of the program is imported. -/
import Derived.Test.YtcandidgaegghaaGreatDoorFormB
import Derived.Test.YtcandidgaegghaaGreatDoorPlB
import Derived.Test.YtcandidgaegghaaGreatDoorRdClZ
import Derived.Test.YtcandidgaegghaaGreatDoorRdPZ
import Derived.Test.YtcandidgaegghaaGreatDoorWrEZ
section
namespace Go.Proofs.YtcandidgaegghaaGreatDoor
open Go Go.RowKit Ly
set_option linter.unusedSimpArgs false
set_option linter.unusedVariables false
def fw : List Fm → Nat
  | [] => 0
  | f :: r => wlen f.words + 13 + fw r
theorem fw_app : ∀ a b : List Fm, fw (a ++ b) = fw a + fw b
  | [], b => by simp [fw]
  | f :: a, b => by simp [fw, fw_app a b]; omega
theorem leafTm_wlen (k : Nat) : wlen (leafTm k).words = 2 := by
  unfold leafTm
  repeat' split
  all_goals rfl
theorem builtTm_wlen (b : Nat) : wlen (builtTm b).words ≤ 13 := by
  have h := leafTm_wlen (b % 5)
  unfold builtTm
  split
  · have e : ∀ (n : Bs), (Tm.mk false n [leafTm (b % 5)]).words = n :: wOf :: ((leafTm (b % 5)).words ++ [wClose]) := by intro n; simp [Tm.words, tmsWords]
    rw [e]
    simp only [wlen, wlen_app, h, show wOf.length = 2 from rfl, show wClose.length = 5 from rfl]
    split <;> simp [nmF, nmG]
  · omega
theorem atom0_wlen (n : Bs) (hn : n.length = 1) : wlen (Fm.mk 1 n [] []).words = 2 := by
  simp [Fm.words, termWords, tmsWords, wlen, hn]
theorem atom1_wlen (n : Bs) (hn : n.length = 1) (b : Nat) : wlen (Fm.mk 1 n [builtTm b] []).words ≤ 30 := by
  have := builtTm_wlen b
  have e : (Fm.mk 1 n [builtTm b] []).words = n :: wOf :: ((builtTm b).words ++ [wClose]) := by simp [Fm.words, termWords, tmsWords]
  rw [e]
  simp only [wlen, wlen_app, hn, show wOf.length = 2 from rfl, show wClose.length = 5 from rfl]
  omega
theorem atom2_wlen (n : Bs) (hn : n.length = 1) (b b' : Nat) : wlen (Fm.mk 1 n [builtTm b, builtTm b'] []).words ≤ 45 := by
  have h1 := builtTm_wlen b
  have h2 := builtTm_wlen b'
  have e : (Fm.mk 1 n [builtTm b, builtTm b'] []).words = n :: wOf :: ((builtTm b).words ++ (wAnd :: ((builtTm b').words ++ [wClose]))) := by simp [Fm.words, termWords, tmsWords]
  rw [e]
  simp only [wlen, wlen_app, hn, show wOf.length = 2 from rfl, show wAnd.length = 3 from rfl, show wClose.length = 5 from rfl]
  omega
theorem un_wlen (op : Int) (n : Bs) (hn : n.length ≤ 1) (f : Fm) (h1 : op ≠ 1) (h2 : op ≠ 2) : wlen (Fm.mk op n [] [f]).words ≤ wlen f.words + 14 := by
  have e : (Fm.mk op n [] [f]).words = signFirst op n :: f.words := by simp [Fm.words, fmsWords, h1, h2]
  have := (sign_len op n).1
  rw [e]
  simp only [wlen]
  omega
theorem bin_sign (op : Int) (h : op = 4 ∨ op = 5 ∨ op = 6 ∨ op = 14) : (signFirst op []).length + (signBetween op).length ≤ 10 := by
  rcases h with rfl | rfl | rfl | rfl <;> decide
theorem bin_wlen (op : Int) (f g : Fm) (h : op = 4 ∨ op = 5 ∨ op = 6 ∨ op = 14) : wlen (Fm.mk op [] [] [f, g]).words ≤ wlen f.words + wlen g.words + 13 := by
  have h1 : op ≠ 1 := by omega
  have h2 : op ≠ 2 := by omega
  have e : (Fm.mk op [] [] [f, g]).words = signFirst op [] :: (f.words ++ (signBetween op :: g.words)) := by simp [Fm.words, fmsWords, h1, h2]
  have := bin_sign op h
  rw [e]
  simp only [wlen, wlen_app]
  omega
theorem predPQR_len (k : Nat) : (predPQR k).length = 1 := by unfold predPQR; (repeat' split) <;> rfl
theorem varXYZ_len (k : Nat) : (varXYZ k).length = 1 := by unfold varXYZ; (repeat' split) <;> rfl
theorem bStep_fw (s : List Fm) (c : Nat) : fw (bStep s c) ≤ fw s + 60 := by
  unfold bStep
  split
  · rw [fw_app]; simp only [fw, atom0_wlen _ (predPQR_len _)]; omega
  split
  · have := atom1_wlen (if c % 12 % 2 = 0 then nmP else nmQ) (by split <;> rfl) (c / 12)
    rw [fw_app]; simp only [fw]; omega
  split
  · have := atom2_wlen nmR rfl (c / 12) (c / 12 / 3)
    rw [fw_app]; simp only [fw]; omega
  split
  · have : wlen fls.words = 6 := rfl
    rw [fw_app]; simp only [fw]; omega
  split
  · split
    · rename_i h1
      have e := congrArg fw (getD_split1 h1)
      have := un_wlen (unOp (c / 12 % 3)) [] (by simp) (s.getD (s.length - 1) fls) (by unfold unOp; (repeat' split) <;> decide) (by unfold unOp; (repeat' split) <;> decide)
      rw [fw_app] at e ⊢
      simp only [fw] at e ⊢
      omega
    · omega
  split
  · split
    · rename_i hc h2
      have e := congrArg fw (getD_split2 h2)
      have := bin_wlen ((c % 12 : Nat) - 3) (s.getD (s.length - 2) fls) (s.getD (s.length - 1) fls) (by omega)
      rw [fw_app] at e ⊢
      simp only [fw] at e ⊢
      omega
    · omega
  · split
    · rename_i h1
      have e := congrArg fw (getD_split1 h1)
      have := un_wlen ((c % 12 : Nat) - 2) (varXYZ (c / 12 % 3)) (by rw [varXYZ_len]; omega) (s.getD (s.length - 1) fls) (by omega) (by omega)
      rw [fw_app] at e ⊢
      simp only [fw] at e ⊢
      omega
    · omega
theorem bFold_fw : ∀ (l : Bs) (s : List Fm), fw (l.foldl (fun s c => bStep s c.toNat) s) ≤ fw s + 60 * l.length
  | [], s => by simp
  | c :: l, s => by
    have h1 := bFold_fw l (bStep s c.toNat)
    have h2 := bStep_fw s c.toNat
    simp only [List.foldl_cons, List.length_cons]
    omega
theorem untils_wlen : ∀ (r : List Fm) (f : Fm), wlen (untils f r).words + 13 ≤ wlen f.words + 13 + fw r
  | [], f => by simp [untils, fw]
  | g :: r, f => by
    have h1 := untils_wlen r (.mk 14 [] [] [f, g])
    have h2 := bin_wlen 14 f g (by omega)
    have e : untils f (g :: r) = untils (.mk 14 [] [] [f, g]) r := rfl
    rw [e]
    simp only [fw]
    omega
theorem built_wlen (l : Bs) : wlen (built l).words ≤ 1300 := by
  have h := bFold_fw (l.take 20) []
  have hl : (l.take 20).length ≤ 20 := by simp; omega
  unfold built
  show wlen (builtOf (bFold (l.take 20))).words ≤ 1300
  have e : bFold (l.take 20) = (l.take 20).foldl (fun s c => bStep s c.toNat) [] := rfl
  rw [← e] at h
  generalize bFold (l.take 20) = s at h
  simp only [fw] at h
  cases s with
  | nil => exact (by decide : wlen fls.words ≤ 1300)
  | cons f r =>
    have := untils_wlen r f
    simp only [fw] at h
    show wlen (untils f r).words ≤ 1300
    omega
theorem built_text_len (l : Bs) : (built l).text.length ≤ 1300 := by
  have h1 := built_wlen l
  have h2 := joinSp_le (built l).words
  unfold Fm.text
  omega
end Go.Proofs.YtcandidgaegghaaGreatDoor
end
section
namespace Go.Proofs.YtcandidgaegghaaGreatDoor
open Go Go.RowKit Ly
set_option maxRecDepth 10000
set_option linter.unusedSimpArgs false
set_option linter.unusedVariables false
/-- Rows of bytes that came in. -/
def BBAt (w : World) (L : List Bs) (a : Option Addr) (n c : Nat) : Prop :=
  n = L.length ∧ n ≤ c ∧ c ≤ maxLen ∧ (n = 0 ∨ ∃ b off, a = some ⟨b, off, none⟩ ∧ ∀ i x, L[i]? = some x → ∃ a' n' c', w.cell? ⟨b, off + i, none⟩ = some (.slice a' n' c') ∧ BtsAt w x (.slice a' n' c'))
theorem BBAt.get {w : World} {L : List Bs} {a : Option Addr} {n c i : Nat} {x : Bs} (h : BBAt w L a n c) (hi : L[i]? = some x) : ∃ b off, a = some ⟨b, off, none⟩ ∧ ∃ a' n' c', w.cell? ⟨b, off + i, none⟩ = some (.slice a' n' c') ∧ BtsAt w x (.slice a' n' c') := by
  obtain ⟨h1, _, _, h4⟩ := h
  have hlt := (List.getElem?_eq_some_iff.1 hi).1
  rcases h4 with h4 | ⟨b, off, rfl, h4⟩
  · omega
  · exact ⟨b, off, rfl, h4 i x hi⟩
/-- The claim that is put together: its variable, at the end of world w1, and its two lists. -/
structure RS (w1 : World) (X Y : List Fm) (vx vy : Value) (W : World) : Prop where
  bw : Below w1.heap.size w1 W
  c7 : W.heap[w1.heap.size]? = some (.cells #[vx, vy] 48 (0, 0))
  cl : CL (w1.heap.size + 1) X Y vx vy W
theorem RS.lt {w1 W : World} {X Y : List Fm} {vx vy : Value} (h : RS w1 X Y vx vy W) : w1.heap.size + 1 ≤ W.heap.size := (Array.getElem?_eq_some_iff.1 h.c7).1
theorem RS.below {w1 A W : World} {X Y : List Fm} {vx vy : Value} (h : RS w1 X Y vx vy A) (b : Below A.heap.size A W) : RS w1 X Y vx vy W :=
  ⟨belowThen h.bw b, kc b h.c7, h.cl.turned fun i o _ hi _ => (b.block i (Array.getElem?_eq_some_iff.1 hi).1).trans hi⟩
theorem RS.new (w1 : World) : RS w1 [] [] (.slice none 0 0) (.slice none 0 0) (w1.alloc (.cells #[.slice none 0 0, .slice none 0 0] 48)) :=
  ⟨(Below.refl _ _).alloc (Nat.le_refl _) _, heap_alloc_new _ _, CL.nil _ _⟩
theorem CL.form {B : Nat} {X Y : List Fm} {vx vy : Value} {W : World} (h : CL B X Y vx vy W) : ∃ a c b d, vx = .slice a X.length c ∧ vy = .slice b Y.length d := by
  obtain ⟨xs, ho, _⟩ := h.ox
  obtain ⟨ys, ho', _⟩ := h.oy
  obtain ⟨a, c, e⟩ := row_form ho
  obtain ⟨b, d, e'⟩ := row_form ho'
  exact ⟨a, c, b, d, e, e'⟩
/-- A formula that was built, in its variable g, in memory behind world wr. -/
structure RF (wr : World) (f : Fm) (g : Nat) (a : Option Addr) (n c : Nat) (b : Option Addr) (m d : Nat) (W : World) : Prop where
  cell : W.heap[g]? = some (.cells #[.int .u8 f.op, str f.name, .slice a n c, .slice b m d] 25 (0, 0))
  ge : wr.heap.size ≤ g
  h1 : TmsAt (hide (lo wr) W) f.args (.slice a n c)
  h2 : FmsAt (hide (lo wr) W) f.sub (.slice b m d)
theorem RF.stays {wr A W : World} {f : Fm} {g : Nat} {a : Option Addr} {n c : Nat} {b : Option Addr} {m d : Nat} (h : RF wr f g a n c b m d A) (k : ∀ i, wr.heap.size ≤ i → i < A.heap.size → W.heap[i]? = A.heap[i]?) : RF wr f g a n c b m d W := by
  have K : Keeps (hide (lo wr) A) (hide (lo wr) W) := hide_keeps2 fun i h1 h2 => ⟨h2, k i (by simp only [lo, decide_eq_false_iff_not, Nat.not_lt] at h2; exact h2) h1⟩
  exact ⟨(k g h.ge (Array.getElem?_eq_some_iff.1 h.cell).1).trans h.cell, h.ge, h.h1.keep K, h.h2.keep K⟩
theorem RF.below {wr A W : World} {f : Fm} {g : Nat} {a : Option Addr} {n c : Nat} {b : Option Addr} {m d : Nat} (h : RF wr f g a n c b m d A) (k : Below A.heap.size A W) : RF wr f g a n c b m d W := h.stays fun i _ h2 => k.block i h2
theorem RF.val {wr W : World} {f : Fm} {g : Nat} {a : Option Addr} {n c : Nat} {b : Option Addr} {m d : Nat} (h : RF wr f g a n c b m d W) : FmVal W f (.agg #[.int .u8 f.op, str f.name, .slice a n c, .slice b m d]) := ⟨_, _, _, _, _, _, rfl, h.h1.keep unhide, h.h2.keep unhide⟩
/-- A proof in its variable. -/
structure PV (P : Pf) (g : Nat) (a : Option Addr) (n c : Nat) (b : Option Addr) (m d : Nat) (s : Option Addr) (sn sc : Nat) (q : Option Addr) (qn qc : Nat) (wx : World) : Prop where
  cell : wx.heap[g]? = some (.cells #[str P.rule, .int .u8 P.form.op, str P.form.name, .slice a n c, .slice b m d, .int .i64 P.label, .slice s sn sc, .slice q qn qc] 53 (0, 0))
  h1 : TmsAt wx P.form.args (.slice a n c)
  h2 : FmsAt wx P.form.sub (.slice b m d)
  h3 : PfsAt wx P.sub (.slice s sn sc)
  h4 : MarksAt wx P.marks (.slice q qn qc)
theorem PV.below {P : Pf} {g : Nat} {a : Option Addr} {n c : Nat} {b : Option Addr} {m d : Nat} {s : Option Addr} {sn sc : Nat} {q : Option Addr} {qn qc : Nat} {wx wy : World} (h : PV P g a n c b m d s sn sc q qn qc wx) (k : Below wx.heap.size wx wy) : PV P g a n c b m d s sn sc q qn qc wy :=
  ⟨kc k h.cell, h.h1.keep (keeps_of_below k), h.h2.keep (keeps_of_below k), h.h3.keep (keeps_of_below k), h.h4.keep (keeps_of_below k)⟩
theorem PV.val {P : Pf} {g : Nat} {a : Option Addr} {n c : Nat} {b : Option Addr} {m d : Nat} {s : Option Addr} {sn sc : Nat} {q : Option Addr} {qn qc : Nat} {wx : World} (h : PV P g a n c b m d s sn sc q qn qc wx) : PfVal wx P (.agg #[str P.rule, .int .u8 P.form.op, str P.form.name, .slice a n c, .slice b m d, .int .i64 P.label, .slice s sn sc, .slice q qn qc]) :=
  ⟨_, _, _, _, _, _, _, _, _, _, _, _, rfl, h.h1, h.h2, h.h3, h.h4⟩
end Go.Proofs.YtcandidgaegghaaGreatDoor
end
section
namespace Ly
open Go.Lib
theorem join_sum : ∀ L : List Bs, L ≠ [] → (joinBy [32] L).length + 1 = (L.map fun x => x.length + 1).sum
  | [], h => absurd rfl h
  | [x], _ => by simp [joinBy]
  | x :: y :: r, _ => by
    have := join_sum (y :: r) (by simp)
    simp only [joinBy, List.length_append, List.map_cons, List.sum_cons, List.length_cons, List.length_nil] at this ⊢
    omega
theorem join_le_sum (L : List Bs) : (joinBy [32] L).length ≤ (L.map fun x => x.length + 1).sum := by
  by_cases h : L = []
  · subst h; simp [joinBy]
  · have := join_sum L h; omega
theorem sum_set : ∀ (L : List Bs) (k : Nat) (x : Bs), ((L.set k x).map fun x => x.length + 1).sum ≤ (L.map fun x => x.length + 1).sum + (x.length + 1)
  | [], k, x => by simp
  | y :: r, 0, x => by simp; omega
  | y :: r, k + 1, x => by
    have := sum_set r k x
    simp only [List.set_cons_succ, List.map_cons, List.sum_cons] at this ⊢
    omega
theorem sum_mem : ∀ (L : List Bs) (x : Bs), x ∈ L → x.length + 1 ≤ (L.map fun x => x.length + 1).sum
  | [], x, h => by cases h
  | y :: r, x, h => by
    rcases List.mem_cons.1 h with rfl | h
    · simp only [List.map_cons, List.sum_cons]; omega
    · have := sum_mem r x h
      simp only [List.map_cons, List.sum_cons]; omega
theorem sum_take : ∀ (L : List Bs) (k : Nat), ((L.take k).map fun x => x.length + 1).sum ≤ (L.map fun x => x.length + 1).sum
  | [], k => by simp
  | y :: r, 0 => by simp
  | y :: r, k + 1 => by
    have := sum_take r k
    simp only [List.take_succ_cons, List.map_cons, List.sum_cons] at this ⊢
    omega
/-- Words with a defect, and the place of the first wrong one. -/
structure SW (V : List Bs) (k : Nat) : Prop where
  sp : ∀ x ∈ V, (32 : UInt8) ∉ x
  wr : WrongRead (if V = [] ∨ V = [[]] then [] else V) k
  len : (joinBy [32] V).length ≤ 16384
section
variable {F : Fm} (ok : F.ok = true) (tl : F.text.length ≤ 1300)
include ok
theorem toks_sp : ∀ x ∈ F.toks, (32 : UInt8) ∉ x := Fm.noSp_toks F ok
theorem toks_head_ne {y : List Bs} : F.toks ≠ [] :: y := fun e => by
  have h := pForm_ok (3 * F.toks.length + 1) F [] ok notOf_nil (by simp)
  rw [List.append_nil, e, pForm_stop (.inr ⟨[], y, rfl, dead_nil⟩) (by omega)] at h
  cases h
include tl
omit ok in
theorem toks_sum : (F.toks.map fun x => x.length + 1).sum ≤ 1301 := by
  have := join_sum F.toks (Fm.toks_ne F)
  rw [Fm.text_eq, joinSp_eq] at tl
  omega
theorem sw0 {k : Nat} {x : Bs} (hx : F.toks[k]? = some x) : SW (F.toks.set k (wNonsense ++ x)) k := by
  have hk := (List.getElem?_eq_some_iff.1 hx).1
  have hm := List.mem_of_getElem? hx
  have h1 := toks_sum tl
  have h2 := sum_mem F.toks x hm
  have h3 := sum_set F.toks k (wNonsense ++ x)
  have h4 := join_le_sum (F.toks.set k (wNonsense ++ x))
  refine ⟨fun y hy => ?_, ?_, ?_⟩
  · rcases List.mem_or_eq_of_mem_set hy with h | rfl
    · exact toks_sp ok y h
    · intro h
      rcases List.mem_append.1 h with h | h
      · revert h; decide
      · exact toks_sp ok x hm h
  · rw [if_neg]
    · exact wrong_set ok hk (dead_nonsense x)
    · rintro (e | e)
      · have := congrArg List.length e; simp at this; have := Fm.toks_ne F; simp_all
      · have hl : F.toks.length = 1 := by have := congrArg List.length e; simpa using this
        have hk0 : k = 0 := by omega
        subst hk0
        have h0 : (F.toks.set 0 (wNonsense ++ x))[0]? = some (wNonsense ++ x) := by simp [hl]
        rw [e] at h0
        simp [wNonsense] at h0
  · simp only [List.length_append, show wNonsense.length = 9 from rfl] at h3; omega
theorem sw1 {k : Nat} (hk : k < F.toks.length) : SW (F.toks.set k []) k := by
  have h1 := toks_sum tl
  have h3 := sum_set F.toks k []
  have h4 := join_le_sum (F.toks.set k [])
  refine ⟨fun y hy => ?_, ?_, ?_⟩
  · rcases List.mem_or_eq_of_mem_set hy with h | rfl
    · exact toks_sp ok y h
    · simp
  · by_cases h0 : F.toks.set k [] = [] ∨ F.toks.set k [] = [[]]
    · rw [if_pos h0]
      have hl : F.toks.length ≤ 1 := by
        rcases h0 with e | e <;> (have := congrArg List.length e; simp at this; try omega)
        rw [this]; simp
      obtain rfl : k = 0 := by omega
      exact wrong_nil
    · rw [if_neg h0]
      exact wrong_set ok hk dead_nil
  · simp only [List.length_nil] at h3; omega
theorem sw2 : SW (F.toks ++ [nmP]) F.toks.length := by
  have h1 := toks_sum tl
  have h4 := join_le_sum (F.toks ++ [nmP])
  have hl : 1 ≤ F.toks.length := List.length_pos_iff.2 (Fm.toks_ne F)
  refine ⟨fun y hy => ?_, ?_, ?_⟩
  · rcases List.mem_append.1 hy with h | h
    · exact toks_sp ok y h
    · have : y = nmP := by simpa using h
      subst this; decide
  · rw [if_neg]
    · exact wrong_more ok
    · rintro (e | e) <;> (have := congrArg List.length e; simp at this; try omega)
      have : F.toks = [] := by simpa using this
      exact Fm.toks_ne F this
  · simp only [List.map_append, List.sum_append, List.map_cons, List.map_nil, List.sum_cons, List.sum_nil, show nmP.length = 1 from rfl] at h4; omega
theorem sw3 : SW (F.toks.take (F.toks.length - 1)) (F.toks.length - 1) := by
  have h1 := toks_sum tl
  have h3 := sum_take F.toks (F.toks.length - 1)
  have h4 := join_le_sum (F.toks.take (F.toks.length - 1))
  have hl : 1 ≤ F.toks.length := List.length_pos_iff.2 (Fm.toks_ne F)
  refine ⟨fun y hy => toks_sp ok y (List.mem_of_mem_take hy), ?_, by omega⟩
  by_cases h0 : F.toks.take (F.toks.length - 1) = [] ∨ F.toks.take (F.toks.length - 1) = [[]]
  · rw [if_pos h0]
    rcases h0 with e | e
    · have : F.toks.length - 1 = 0 := by have := congrArg List.length e; simp at this; omega
      rw [this]; exact wrong_nil
    · exfalso
      cases hF : F.toks with
      | nil => exact Fm.toks_ne F hF
      | cons x r =>
        rw [hF] at e
        have : x = [] := by
          cases r with
          | nil => simp at e
          | cons y r => simp at e; exact e.1
        subst this
        exact toks_head_ne ok hF
  · rw [if_neg h0, ← List.dropLast_eq_take]
    exact wrong_less ok
theorem sw4 : SW (wNot :: wThen :: F.toks) 1 := by
  have h1 := toks_sum tl
  have h4 := join_le_sum (wNot :: wThen :: F.toks)
  refine ⟨fun y hy => ?_, ?_, ?_⟩
  · rcases List.mem_cons.1 hy with rfl | hy
    · decide
    · rcases List.mem_cons.1 hy with rfl | hy
      · decide
      · exact toks_sp ok y hy
  · rw [if_neg (by simp)]
    exact wrong_then _
  · simp only [List.map_cons, List.sum_cons, show wNot.length = 3 from rfl, show wThen.length = 4 from rfl] at h4; omega
theorem sw5 : SW (wBoth :: F.toks) (F.toks.length + 1) := by
  have h1 := toks_sum tl
  have h4 := join_le_sum (wBoth :: F.toks)
  refine ⟨fun y hy => ?_, ?_, ?_⟩
  · rcases List.mem_cons.1 hy with rfl | hy
    · decide
    · exact toks_sp ok y hy
  · rw [if_neg (by simp [wBoth])]
    exact wrong_both ok
  · simp only [List.map_cons, List.sum_cons, show wBoth.length = 4 from rfl] at h4; omega
end
end Ly
end
