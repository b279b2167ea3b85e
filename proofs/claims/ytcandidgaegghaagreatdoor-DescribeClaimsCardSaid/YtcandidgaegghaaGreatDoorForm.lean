/- Contracts of describe.signOf, words, text and Form. -/
import Derived.Deep.DeepCutAuto
import Derived.Test.YtcandidgaegghaaGreatDoorWords
import Derived.Test.YtcandidgaegghaaGreatDoorRight
namespace Go.Proofs.YtcandidgaegghaaGreatDoor
open Go Go.RowKit Ly

set_option linter.unusedSimpArgs false
set_option linter.unusedVariables false
theorem bytes_app (x y : Array UInt8) : (⟨x⟩ : ByteArray) ++ ⟨y⟩ = ⟨x ++ y⟩ := ByteArray.ext (by simp)

set_option maxHeartbeats 800000
theorem signOf_3 (n : Bs) (a : Option Addr) (k c : Nat) (a' : Option Addr) (m d : Nat) (w : World) (hn : n.length ≤ 1000000) :
    Calls Tryz.prog 169 #[.agg #[.int .u8 3, str n, .slice a k c, .slice a' m d]] w fun e w' => e = .returned (.agg #[str (signFirst 3 n), str (signBetween 3)]) ∧ Below w.heap.size w w' := by
  go_enter Tryz.func169, Tryz.ntmps169
  go_wp2
  exact bodyPost_ret (v := .agg #[str (signFirst 3 n), str (signBetween 3)]) (by simp [results, Tryz.results169, go_sem, signFirst, signBetween, bytes_app, wNot]) rfl ⟨rfl, ((Below.refl _ _).alloc (Nat.le_refl _) _).alloc (by simp) _⟩
theorem signOf_4 (n : Bs) (a : Option Addr) (k c : Nat) (a' : Option Addr) (m d : Nat) (w : World) (hn : n.length ≤ 1000000) :
    Calls Tryz.prog 169 #[.agg #[.int .u8 4, str n, .slice a k c, .slice a' m d]] w fun e w' => e = .returned (.agg #[str (signFirst 4 n), str (signBetween 4)]) ∧ Below w.heap.size w w' := by
  go_enter Tryz.func169, Tryz.ntmps169
  go_wp2
  exact bodyPost_ret (v := .agg #[str (signFirst 4 n), str (signBetween 4)]) (by simp [results, Tryz.results169, go_sem, signFirst, signBetween, bytes_app, wBoth, wAnd]) rfl ⟨rfl, ((Below.refl _ _).alloc (Nat.le_refl _) _).alloc (by simp) _⟩
theorem signOf_5 (n : Bs) (a : Option Addr) (k c : Nat) (a' : Option Addr) (m d : Nat) (w : World) (hn : n.length ≤ 1000000) :
    Calls Tryz.prog 169 #[.agg #[.int .u8 5, str n, .slice a k c, .slice a' m d]] w fun e w' => e = .returned (.agg #[str (signFirst 5 n), str (signBetween 5)]) ∧ Below w.heap.size w w' := by
  go_enter Tryz.func169, Tryz.ntmps169
  go_wp2
  exact bodyPost_ret (v := .agg #[str (signFirst 5 n), str (signBetween 5)]) (by simp [results, Tryz.results169, go_sem, signFirst, signBetween, bytes_app, wEither, wOr]) rfl ⟨rfl, ((Below.refl _ _).alloc (Nat.le_refl _) _).alloc (by simp) _⟩
theorem signOf_6 (n : Bs) (a : Option Addr) (k c : Nat) (a' : Option Addr) (m d : Nat) (w : World) (hn : n.length ≤ 1000000) :
    Calls Tryz.prog 169 #[.agg #[.int .u8 6, str n, .slice a k c, .slice a' m d]] w fun e w' => e = .returned (.agg #[str (signFirst 6 n), str (signBetween 6)]) ∧ Below w.heap.size w w' := by
  go_enter Tryz.func169, Tryz.ntmps169
  go_wp2
  exact bodyPost_ret (v := .agg #[str (signFirst 6 n), str (signBetween 6)]) (by simp [results, Tryz.results169, go_sem, signFirst, signBetween, bytes_app, wIf, wThen]) rfl ⟨rfl, ((Below.refl _ _).alloc (Nat.le_refl _) _).alloc (by simp) _⟩
theorem signOf_7 (n : Bs) (a : Option Addr) (k c : Nat) (a' : Option Addr) (m d : Nat) (w : World) (hn : n.length ≤ 1000000) :
    Calls Tryz.prog 169 #[.agg #[.int .u8 7, str n, .slice a k c, .slice a' m d]] w fun e w' => e = .returned (.agg #[str (signFirst 7 n), str (signBetween 7)]) ∧ Below w.heap.size w w' := by
  go_enter Tryz.func169, Tryz.ntmps169
  go_wp2
  exact bodyPost_ret (v := .agg #[str (signFirst 7 n), str (signBetween 7)]) (by simp [results, Tryz.results169, go_sem, signFirst, signBetween, bytes_app, wAs, wSo]) rfl ⟨rfl, ((Below.refl _ _).alloc (Nat.le_refl _) _).alloc (by simp) _⟩
theorem signOf_8 (n : Bs) (a : Option Addr) (k c : Nat) (a' : Option Addr) (m d : Nat) (w : World) (hn : n.length ≤ 1000000) :
    Calls Tryz.prog 169 #[.agg #[.int .u8 8, str n, .slice a k c, .slice a' m d]] w fun e w' => e = .returned (.agg #[str (signFirst 8 n), str (signBetween 8)]) ∧ Below w.heap.size w w' := by
  go_enter Tryz.func169, Tryz.ntmps169
  go_wp2
  exact bodyPost_ret (v := .agg #[str (signFirst 8 n), str (signBetween 8)]) (by simp [results, Tryz.results169, go_sem, signFirst, signBetween, bytes_app, wFor, wAll]) rfl ⟨rfl, ((Below.refl _ _).alloc (Nat.le_refl _) _).alloc (by simp) _⟩
theorem signOf_9 (n : Bs) (a : Option Addr) (k c : Nat) (a' : Option Addr) (m d : Nat) (w : World) (hn : n.length ≤ 1000000) :
    Calls Tryz.prog 169 #[.agg #[.int .u8 9, str n, .slice a k c, .slice a' m d]] w fun e w' => e = .returned (.agg #[str (signFirst 9 n), str (signBetween 9)]) ∧ Below w.heap.size w w' := by
  go_enter Tryz.func169, Tryz.ntmps169
  go_wp2
  exact bodyPost_ret (v := .agg #[str (signFirst 9 n), str (signBetween 9)]) (by simp [results, Tryz.results169, go_sem, signFirst, signBetween, bytes_app, wFor, wSome]) rfl ⟨rfl, ((Below.refl _ _).alloc (Nat.le_refl _) _).alloc (by simp) _⟩
theorem signOf_10 (n : Bs) (a : Option Addr) (k c : Nat) (a' : Option Addr) (m d : Nat) (w : World) (hn : n.length ≤ 1000000) :
    Calls Tryz.prog 169 #[.agg #[.int .u8 10, str n, .slice a k c, .slice a' m d]] w fun e w' => e = .returned (.agg #[str (signFirst 10 n), str (signBetween 10)]) ∧ Below w.heap.size w w' := by
  go_enter Tryz.func169, Tryz.ntmps169
  go_wp2
  exact bodyPost_ret (v := .agg #[str (signFirst 10 n), str (signBetween 10)]) (by simp [results, Tryz.results169, go_sem, signFirst, signBetween, bytes_app, wNec]) rfl ⟨rfl, ((Below.refl _ _).alloc (Nat.le_refl _) _).alloc (by simp) _⟩
theorem signOf_11 (n : Bs) (a : Option Addr) (k c : Nat) (a' : Option Addr) (m d : Nat) (w : World) (hn : n.length ≤ 1000000) :
    Calls Tryz.prog 169 #[.agg #[.int .u8 11, str n, .slice a k c, .slice a' m d]] w fun e w' => e = .returned (.agg #[str (signFirst 11 n), str (signBetween 11)]) ∧ Below w.heap.size w w' := by
  go_enter Tryz.func169, Tryz.ntmps169
  go_wp2
  exact bodyPost_ret (v := .agg #[str (signFirst 11 n), str (signBetween 11)]) (by simp [results, Tryz.results169, go_sem, signFirst, signBetween, bytes_app, wPos]) rfl ⟨rfl, ((Below.refl _ _).alloc (Nat.le_refl _) _).alloc (by simp) _⟩
theorem signOf_12 (n : Bs) (a : Option Addr) (k c : Nat) (a' : Option Addr) (m d : Nat) (w : World) (hn : n.length ≤ 1000000) :
    Calls Tryz.prog 169 #[.agg #[.int .u8 12, str n, .slice a k c, .slice a' m d]] w fun e w' => e = .returned (.agg #[str (signFirst 12 n), str (signBetween 12)]) ∧ Below w.heap.size w w' := by
  go_enter Tryz.func169, Tryz.ntmps169
  go_wp2
  exact bodyPost_ret (v := .agg #[str (signFirst 12 n), str (signBetween 12)]) (by simp [results, Tryz.results169, go_sem, signFirst, signBetween, bytes_app, wNext]) rfl ⟨rfl, ((Below.refl _ _).alloc (Nat.le_refl _) _).alloc (by simp) _⟩
theorem signOf_13 (n : Bs) (a : Option Addr) (k c : Nat) (a' : Option Addr) (m d : Nat) (w : World) (hn : n.length ≤ 1000000) :
    Calls Tryz.prog 169 #[.agg #[.int .u8 13, str n, .slice a k c, .slice a' m d]] w fun e w' => e = .returned (.agg #[str (signFirst 13 n), str (signBetween 13)]) ∧ Below w.heap.size w w' := by
  go_enter Tryz.func169, Tryz.ntmps169
  go_wp2
  exact bodyPost_ret (v := .agg #[str (signFirst 13 n), str (signBetween 13)]) (by simp [results, Tryz.results169, go_sem, signFirst, signBetween, bytes_app, wAlways]) rfl ⟨rfl, ((Below.refl _ _).alloc (Nat.le_refl _) _).alloc (by simp) _⟩
theorem signOf_14 (n : Bs) (a : Option Addr) (k c : Nat) (a' : Option Addr) (m d : Nat) (w : World) (hn : n.length ≤ 1000000) :
    Calls Tryz.prog 169 #[.agg #[.int .u8 14, str n, .slice a k c, .slice a' m d]] w fun e w' => e = .returned (.agg #[str (signFirst 14 n), str (signBetween 14)]) ∧ Below w.heap.size w w' := by
  go_enter Tryz.func169, Tryz.ntmps169
  go_wp2
  exact bodyPost_ret (v := .agg #[str (signFirst 14 n), str (signBetween 14)]) (by simp [results, Tryz.results169, go_sem, signFirst, signBetween, bytes_app, wWhile, wUntil]) rfl ⟨rfl, ((Below.refl _ _).alloc (Nat.le_refl _) _).alloc (by simp) _⟩
theorem signOf_c (op : Int) (n : Bs) (a : Option Addr) (k c : Nat) (a' : Option Addr) (m d : Nat) (w : World) (h : 3 ≤ op ∧ op ≤ 14) (hn : n.length ≤ 1000000) :
    Calls Tryz.prog 169 #[.agg #[.int .u8 op, str n, .slice a k c, .slice a' m d]] w fun e w' => e = .returned (.agg #[str (signFirst op n), str (signBetween op)]) ∧ Below w.heap.size w w' := by
  rcases (show op = 3 ∨ op = 4 ∨ op = 5 ∨ op = 6 ∨ op = 7 ∨ op = 8 ∨ op = 9 ∨ op = 10 ∨ op = 11 ∨ op = 12 ∨ op = 13 ∨ op = 14 by omega) with rfl | rfl | rfl | rfl | rfl | rfl | rfl | rfl | rfl | rfl | rfl | rfl
  · exact signOf_3 n a k c a' m d w hn
  · exact signOf_4 n a k c a' m d w hn
  · exact signOf_5 n a k c a' m d w hn
  · exact signOf_6 n a k c a' m d w hn
  · exact signOf_7 n a k c a' m d w hn
  · exact signOf_8 n a k c a' m d w hn
  · exact signOf_9 n a k c a' m d w hn
  · exact signOf_10 n a k c a' m d w hn
  · exact signOf_11 n a k c a' m d w hn
  · exact signOf_12 n a k c a' m d w hn
  · exact signOf_13 n a k c a' m d w hn
  · exact signOf_14 n a k c a' m d w hn

theorem keeps_drew (w : World) : Keeps w w.drew := keeps_of_below (Below.refl _ _).drew

theorem stepA {w W w2 : World} {O : Obj} (h : Below w.heap.size w W) (b2 : Below (W.alloc O).drew.heap.size (W.alloc O).drew w2) : Below w.heap.size w w2 ∧ Keeps W w2 :=
  ⟨h.trans ((below1 (belowThen (Below.refl _ _).drew b2)).mono h.size), ((keeps1 W O).trans (keeps_drew _)).trans (keeps_of_below b2)⟩
theorem stepB {w W w2 : World} (h : Below w.heap.size w W) (b2 : Below W.drew.heap.size W.drew w2) : Below w.heap.size w w2 ∧ Keeps W w2 :=
  ⟨h.trans ((belowThen (Below.refl _ _).drew b2).mono h.size), (keeps_drew _).trans (keeps_of_below b2)⟩
theorem nextA {w W w2 w3 : World} {O : Obj} {l : List Bs} {v : Value} (h : Below w.heap.size w w2 ∧ Keeps W w2) (o3 : OwnStrs (w2.alloc O).heap.size w3 l v) (b3 : Below (w2.alloc O).heap.size (w2.alloc O) w3) :
    OwnStrs w.heap.size w3 l v ∧ Below w.heap.size w w3 ∧ Keeps W w3 := by
  have s0 := h.1.size
  exact ⟨o3.mono (by simp; omega), h.1.trans ((below1 b3).mono s0), (h.2.trans (keeps1 _ _)).trans (keeps_of_below b3)⟩
theorem nextB {w W w2 w3 : World} {O O' : Obj} {l : List Bs} {v : Value} (h : Below w.heap.size w w2 ∧ Keeps W w2) (o3 : OwnStrs ((w2.alloc O).alloc O').heap.size w3 l v) (b3 : Below ((w2.alloc O).alloc O').heap.size ((w2.alloc O).alloc O') w3) :
    OwnStrs w.heap.size w3 l v ∧ Below w.heap.size w w3 ∧ Keeps W w3 := by
  have s0 := h.1.size
  exact ⟨o3.mono (by simp; omega), h.1.trans ((below2 b3).mono s0), (h.2.trans (keeps2 _ _ _)).trans (keeps_of_below b3)⟩
theorem cellA {W w2 : World} {B : Nat} {F : Bs} (hB : W.heap.size = B) (b2 : Below (W.alloc (.cells #[str F] 9)).drew.heap.size (W.alloc (.cells #[str F] 9)).drew w2) : w2.cell? ⟨B, 0, none⟩ = some (str F) :=
  keeps_of_below b2 _ _ (keeps_drew _ _ _ (by subst hB; simp [go_sem]))
theorem listsA2 {W w2 : World} {B : Nat} {F : Bs} {m : List Bs} {z0 : Option Addr} {z1 z2 : Nat} (hB : W.heap.size = B) (b2 : Below (W.alloc (.cells #[str F] 9)).drew.heap.size (W.alloc (.cells #[str F] 9)).drew w2) (o2 : StrsAt w2 m (.slice z0 z1 z2)) (T : TypeId) :
    ListsAt (w2.alloc (.cells #[.slice (some ⟨B, 0, none⟩) 1 1, .slice z0 z1 z2] T)) [[F], m] (.slice (some ⟨w2.heap.size, 0, none⟩) 2 2) :=
  lists_two (u1 := .slice (some ⟨B, 0, none⟩) 1 1) (u2 := .slice z0 z1 z2) (by simp [go_sem]) (by simp [go_sem]) ((strs_one (cellA hB b2)).keep (keeps1 _ _)) (o2.keep (keeps1 _ _))
theorem listsB2 {w2 : World} {F : Bs} {m : List Bs} {z0 : Option Addr} {z1 z2 : Nat} (o2 : StrsAt w2 m (.slice z0 z1 z2)) (T : TypeId) :
    ListsAt ((w2.alloc (.cells #[str F] 9)).alloc (.cells #[.slice (some ⟨w2.heap.size, 0, none⟩) 1 1, .slice z0 z1 z2] T)) [[F], m] (.slice (some ⟨w2.heap.size + 1, 0, none⟩) 2 2) := by
  refine lists_two (u1 := .slice (some ⟨w2.heap.size, 0, none⟩) 1 1) (u2 := .slice z0 z1 z2) (by simp [go_sem]) (by simp [go_sem]) ?_ (o2.keep (keeps2 _ _ _))
  exact (strs_one (show (w2.alloc (.cells #[str F] 9)).cell? ⟨w2.heap.size, 0, none⟩ = some (str F) by simp [go_sem])).keep (keeps1 _ _)
theorem listsA3 {W w2 : World} {B : Nat} {F : Bs} {l m : List Bs} {y0 z0 : Option Addr} {y1 y2 z1 z2 : Nat} (hB : W.heap.size = B) (b2 : Below (W.alloc (.cells #[str F] 9)).drew.heap.size (W.alloc (.cells #[str F] 9)).drew w2)
    (o1 : StrsAt W l (.slice y0 y1 y2)) (o2 : StrsAt w2 m (.slice z0 z1 z2)) (T : TypeId) :
    ListsAt (w2.alloc (.cells #[.slice y0 y1 y2, .slice (some ⟨B, 0, none⟩) 1 1, .slice z0 z1 z2] T)) [l, [F], m] (.slice (some ⟨w2.heap.size, 0, none⟩) 3 3) :=
  lists_three (u1 := .slice y0 y1 y2) (u2 := .slice (some ⟨B, 0, none⟩) 1 1) (u3 := .slice z0 z1 z2) (by simp [go_sem]) (by simp [go_sem]) (by simp [go_sem])
    (o1.keep ((((keeps1 _ _).trans (keeps_drew _)).trans (keeps_of_below b2)).trans (keeps1 _ _))) ((strs_one (cellA hB b2)).keep (keeps1 _ _)) (o2.keep (keeps1 _ _))
theorem listsB3 {W w2 : World} {F : Bs} {l m : List Bs} {y0 z0 : Option Addr} {y1 y2 z1 z2 : Nat} (b2 : Below W.drew.heap.size W.drew w2) (o1 : StrsAt W l (.slice y0 y1 y2)) (o2 : StrsAt w2 m (.slice z0 z1 z2)) (T : TypeId) :
    ListsAt ((w2.alloc (.cells #[str F] 9)).alloc (.cells #[.slice y0 y1 y2, .slice (some ⟨w2.heap.size, 0, none⟩) 1 1, .slice z0 z1 z2] T)) [l, [F], m] (.slice (some ⟨w2.heap.size + 1, 0, none⟩) 3 3) := by
  refine lists_three (u1 := .slice y0 y1 y2) (u2 := .slice (some ⟨w2.heap.size, 0, none⟩) 1 1) (u3 := .slice z0 z1 z2) (by simp [go_sem]) (by simp [go_sem]) (by simp [go_sem])
    (o1.keep (((keeps_drew _).trans (keeps_of_below b2)).trans (keeps2 _ _ _))) ?_ (o2.keep (keeps2 _ _ _))
  exact (strs_one (show (w2.alloc (.cells #[str F] 9)).cell? ⟨w2.heap.size, 0, none⟩ = some (str F) by simp [go_sem])).keep (keeps1 _ _)
theorem wd_cell {W w2 : World} {p : Addr} {v : Value} (b2 : Below W.drew.heap.size W.drew w2) (h : W.cell? p = some v) : w2.cell? p = some v ∧ p.block < w2.heap.size :=
  have e := keeps_of_below b2 _ _ (keeps_drew _ _ _ h)
  ⟨e, World.block_lt_of_cell? w2 _ e⟩

def FW (f : Fm) : Prop := ∀ (a : Option Addr) (k c : Nat) (a' : Option Addr) (m d : Nat) (w : World), TmsAt w f.args (.slice a k c) → FmsAt w f.sub (.slice a' m d) → f.words.length ≤ 1000000 →
  Calls Tryz.prog 161 #[.agg #[.int .u8 f.op, str f.name, .slice a k c, .slice a' m d]] w (RetStrs f.words w)

theorem flat2_ok {F : Bs} {m : List Bs} (hm : m ≠ []) (hl : m.length ≤ 1000000) : (∀ l ∈ ([[F], m] : List (List Bs)), l ≠ []) ∧ ([[F], m] : List (List Bs)).flatten.length * 16 ≤ 140737488355328 ∧ ([[F], m] : List (List Bs)).flatten = F :: m := by
  refine ⟨?_, ?_, by simp⟩
  · intro l hl; simp only [List.mem_cons, List.mem_nil_iff, or_false] at hl
    rcases hl with rfl | rfl
    · simp
    · exact hm
  · simp only [List.flatten_cons, List.flatten_nil, List.length_append, List.length_nil, List.length_cons]; omega
theorem flat3_ok {F : Bs} {l m : List Bs} (h0 : l ≠ []) (hm : m ≠ []) (hl : l.length ≤ 2000000) (hl2 : m.length ≤ 1000000) : (∀ x ∈ ([l, [F], m] : List (List Bs)), x ≠ []) ∧ ([l, [F], m] : List (List Bs)).flatten.length * 16 ≤ 140737488355328 ∧ ([l, [F], m] : List (List Bs)).flatten = l ++ F :: m := by
  refine ⟨?_, ?_, by simp⟩
  · intro x hx; simp only [List.mem_cons, List.mem_nil_iff, or_false] at hx
    rcases hx with rfl | rfl | rfl
    · exact h0
    · simp
    · exact hm
  · simp only [List.flatten_cons, List.flatten_nil, List.length_append, List.length_nil, List.length_cons]; omega

set_option maxHeartbeats 2000000 in
theorem words_sub (op : Int) (n : Bs) (hop : 3 ≤ op ∧ op ≤ 14) (hn : n.length ≤ 1000000) (g : Fm) (gs : List Fm) (hg : FW g) (hgs : ∀ h ∈ gs, FW h ∧ h.words ≠ [] ∧ h.words.length ≤ 1000000) (hlen : gs.length ≤ 1) (hl : g.words.length ≤ 1000000) (hne : g.words ≠ [])
    (a : Option Addr) (k c : Nat) (b off m d : Nat) (w : World) (x : Option Addr) (x1 x2 : Nat) (y : Option Addr) (y1 y2 : Nat) (hc : FmCells w b off g x x1 x2 y y1 y2)
    (hcs : ∀ h ∈ gs, ∃ x x1 x2 y y1 y2, FmCells w b (off + 4) h x x1 x2 y y1 y2) (hm : m = gs.length + 1) (hd : m ≤ d) :
    Calls Tryz.prog 161 #[.agg #[.int .u8 op, str n, .slice a k c, .slice (some ⟨b, off, none⟩) m d]] w (RetStrs (signFirst op n :: (g.words ++ fmsWords op false gs)) w) := by
  have t1 : (op == 1) = false := by simp; omega
  have t2 : (op == 2) = false := by simp; omega
  have m1 : 0 < m := by omega
  have m2 : m ≤ 2 := by omega
  have HM := Lib.hid hm
  have OP := Lib.hid hop
  have HN := Lib.hid hn
  have HG := Lib.hid hg
  have HGS := Lib.hid hgs
  have HCS := Lib.hid hcs
  have HLEN := Lib.hid hlen
  have HL := Lib.hid hl
  have NE := Lib.hid hne
  have HC := Lib.hid hc
  clear hop hn hg hl hne hc hgs hcs hlen hm
  go_enter Tryz.func161, Tryz.ntmps161
  go_wp2_with fail
  refine (signOf_c op n _ _ _ _ _ _ _ OP.out HN.out).mono ?_
  rintro e w1 ⟨rfl, h1⟩
  obtain ⟨hc1, hf1⟩ := bcell h1
  have C0 := Lib.hid ((below1 h1).alloc (below1 h1).size (.cells #[str (signFirst op n), str (signBetween op)] 208))
  have K0 := Lib.hid (keeps_of_below (below1 h1))
  have D0 := K0.out _ _ HC.out.c0; have D1 := K0.out _ _ HC.out.c1; have D2 := K0.out _ _ HC.out.c2; have D3 := K0.out _ _ HC.out.c3
  have A1 := Lib.hid (HC.out.at_.keep K0.out)
  have A2 := Lib.hid (HC.out.at'.keep K0.out)
  generalize hFe : signFirst op n = F at *
  generalize hGe : signBetween op = G at *
  have FE := Lib.hid hFe
  have GE := Lib.hid hGe
  clear hFe hGe
  have F2 := Lib.hid (flat2_ok (F := F) NE.out HL.out)
  have e3 : w1.cell? ⟨w.heap.size, 3, none⟩ = some (.slice (some ⟨b, off, none⟩) m d) := by rw [hc1 _ _ (by simp)]; simp [go_sem]
  have S1 : w.heap.size < w1.heap.size := by have := h1.size; simp at this; omega
  have S2 : b < w1.heap.size := World.block_lt_of_cell? w1 ⟨b, off, none⟩ D0
  have WF : Hid ((w1.alloc (.cells #[str F, str G] 208)).cell? ⟨w1.heap.size, 0, none⟩ = some (str F)) := by show _ = _; simp [go_sem]
  have WG : Hid ((w1.alloc (.cells #[str F, str G] 208)).cell? ⟨w1.heap.size, 1, none⟩ = some (str G)) := by show _ = _; simp [go_sem]
  have W1 : Hid ((w1.alloc (.cells #[str F, str G] 208)).heap.size = w1.heap.size + 1) := by show _ = _; simp
  have E3 := Lib.hid e3
  go_upto_region 7 with fail
  clear hc1 hf1
  go_cut [4] from 19 to 28 (fun v wx => Hid (OwnStrs w.heap.size wx (F :: g.words) v ∧ Below w.heap.size w wx ∧ Keeps (w1.alloc (.cells #[str F, str G] 208)) wx))
  case first =>
    go_region_with (first
      | (go_at_call 161; refine (HG.out _ _ _ _ _ _ _ (A1.out.keep ((keeps2 _ _ _).trans (keeps_drew _))) (A2.out.keep ((keeps2 _ _ _).trans (keeps_drew _))) HL.out).mono ?_; rintro e w2 ⟨v2, rfl, o2, b2⟩; obtain ⟨z0, z1, z2, rfl⟩ := o2.strsAt.slice; have LS := Lib.hid (listsA2 W1.out b2 o2.strsAt 36); have BB := Lib.hid (stepA C0.out b2); clear o2 b2)
      | (go_at_call 161; refine (HG.out _ _ _ _ _ _ _ (A1.out.keep ((keeps1 _ _).trans (keeps_drew _))) (A2.out.keep ((keeps1 _ _).trans (keeps_drew _))) HL.out).mono ?_; rintro e w2 ⟨v2, rfl, o2, b2⟩; obtain ⟨z0, z1, z2, rfl⟩ := o2.strsAt.slice; have LS := Lib.hid (listsB2 (F := F) o2.strsAt 36); have BB := Lib.hid (stepB C0.out b2); obtain ⟨e20, S3⟩ := wd_cell b2 WF.out; clear o2 b2)
      | (go_at_call 68; refine (joined_c _ _ _ _ _ LS.out F2.out.1 F2.out.2.1).mono ?_; rintro e w3 ⟨v3, rfl, o3, b3⟩; rw [F2.out.2.2] at o3; have R := Lib.hid (nextA BB.out o3 b3); clear o3 b3)
      | (go_at_call 68; refine (joined_c _ _ _ _ _ LS.out F2.out.1 F2.out.2.1).mono ?_; rintro e w3 ⟨v3, rfl, o3, b3⟩; rw [F2.out.2.2] at o3; have R := Lib.hid (nextB BB.out o3 b3); clear o3 b3))
    all_goals (go_wp2_with fail; go_meet; exact R)
  case rest =>
    have f3 := hcut.out.2.2 _ _ (keeps1 _ _ _ _ E3.out)
    have f4 := hcut.out.2.2 _ _ WG.out
    clear e3 D0 D1 D2 D3 S1 S2
    have hl1 := HLEN.out
    rcases gs with _ | ⟨h, _ | ⟨_, _⟩⟩
    · have hm : m = 1 := HM.out
      subst hm
      go_wp2_with fail
      go_ret
      exact ⟨_, rfl, by rw [show (F :: (g.words ++ fmsWords op false [])) = F :: g.words by simp [fmsWords]]; exact hcut.out.1, hcut.out.2.1⟩
    · have hm : m = 2 := HM.out
      subst hm
      obtain ⟨x, x1, x2, y, y1, y2, hc⟩ := HCS.out h (by simp)
      have K1 : Keeps w wc := K0.out.trans ((keeps1 _ _).trans hcut.out.2.2)
      have D0 := K1 _ _ hc.c0; have D1 := K1 _ _ hc.c1; have D2 := K1 _ _ hc.c2; have D3 := K1 _ _ hc.c3
      have A1 := Lib.hid (hc.at_.keep K1)
      have A2 := Lib.hid (hc.at'.keep K1)
      have S1 : w.heap.size < wc.heap.size := World.block_lt_of_cell? wc ⟨w.heap.size, 3, none⟩ f3
      have S2 : b < wc.heap.size := World.block_lt_of_cell? wc ⟨b, off + 4, none⟩ D0
      have S3 : w1.heap.size < wc.heap.size := World.block_lt_of_cell? wc ⟨w1.heap.size, 1, none⟩ f4
      have HH := Lib.hid (HGS.out h (by simp))
      have F4 := Lib.hid f4
      have F3 := Lib.hid (flat3_ok (F := G) (l := F :: g.words) (m := h.words) (by simp) HH.out.2.1 (by have := HL.out; simp; omega) HH.out.2.2)
      have EE : Hid (F :: g.words ++ G :: h.words = F :: (g.words ++ fmsWords op false [h])) := by show _ = _; simp [fmsWords, GE.out]
      obtain ⟨v0, v1, v2, rfl⟩ := hcut.out.1.strsAt.slice
      have V := Lib.hid hcut.out.1.strsAt
      have CB := Lib.hid hcut.out.2.1
      clear hc K1 hl1
      clear hcut
      go_wp2_with fail
      go_region_with (first
        | (go_at_call 161; refine (HH.out.1 _ _ _ _ _ _ _ (A1.out.keep ((keeps1 _ _).trans (keeps_drew _))) (A2.out.keep ((keeps1 _ _).trans (keeps_drew _))) HH.out.2.2).mono ?_; rintro e w2 ⟨v2, rfl, o2, b2⟩; obtain ⟨z0, z1, z2, rfl⟩ := o2.strsAt.slice; have LS := Lib.hid (listsA3 rfl b2 V.out o2.strsAt 36); have BB := Lib.hid (stepA CB.out b2); clear o2 b2)
        | (go_at_call 161; refine (HH.out.1 _ _ _ _ _ _ _ (A1.out.keep (keeps_drew _)) (A2.out.keep (keeps_drew _)) HH.out.2.2).mono ?_; rintro e w2 ⟨v2, rfl, o2, b2⟩; obtain ⟨z0, z1, z2, rfl⟩ := o2.strsAt.slice; have LS := Lib.hid (listsB3 (F := G) b2 V.out o2.strsAt 36); have BB := Lib.hid (stepB CB.out b2); obtain ⟨e20, S5⟩ := wd_cell b2 F4.out; clear o2 b2)
        | (go_at_call 68; refine (joined_c _ _ _ _ _ LS.out F3.out.1 F3.out.2.1).mono ?_; rintro e w3 ⟨v3, rfl, o3, b3⟩; rw [F3.out.2.2] at o3; have R := Lib.hid (nextA BB.out o3 b3); clear o3 b3)
        | (go_at_call 68; refine (joined_c _ _ _ _ _ LS.out F3.out.1 F3.out.2.1).mono ?_; rintro e w3 ⟨v3, rfl, o3, b3⟩; rw [F3.out.2.2] at o3; have R := Lib.hid (nextB BB.out o3 b3); clear o3 b3))
      all_goals (go_wp2_with fail; go_ret; rw [EE.out] at R; exact ⟨_, rfl, R.out.1, R.out.2.1⟩)
    · simp at hl1
end Go.Proofs.YtcandidgaegghaaGreatDoor
