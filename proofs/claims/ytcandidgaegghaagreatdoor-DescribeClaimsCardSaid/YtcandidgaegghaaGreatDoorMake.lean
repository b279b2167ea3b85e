/- Contracts of the functions that make terms, formulas and proofs (lyceumlaw41 and lyceumlaw30: atom, variable, apply, join, bound, leaf, step). -/
import Derived.Deep.RegionWith
import Derived.Lib.Hide
import Derived.Test.YtcandidgaegghaaGreatDoorMem
import Derived.Test.YtcandidgaegghaaGreatDoorProg
namespace Go.Proofs.YtcandidgaegghaaGreatDoor
open Go Go.RowKit Ly

/-- It returns a value that reads as x; nothing old is written. -/
def Ret {α : Type} (A : World → α → Value → Prop) (x : α) (w : World) (e : Ending) (w' : World) : Prop := ∃ v, e = .returned v ∧ A w' x v ∧ Below w.heap.size w w'

/-- A slice of one or more whole formulas, made here. -/
theorem fms_one {w : World} {b : Nat} {f : Fm} {a : Option Addr} {n c : Nat} {a' : Option Addr} {m d : Nat} (h : FmCells w b 0 f a n c a' m d) : FmsAt w [f] (.slice (some ⟨b, 0, none⟩) 1 1) := by
  refine At.sl_mk (by simp [fmsDs, Fm.ds_length]) (Nat.le_refl _) (by decide) fun j d hd => ?_
  obtain ⟨op, nm, ts, sub⟩ := f
  have hj : j < 4 := by
    have := (List.getElem?_eq_some_iff.1 hd).1; simpa [fmsDs, Fm.ds_length] using this
  rcases (show j = 0 ∨ j = 1 ∨ j = 2 ∨ j = 3 by omega) with rfl | rfl | rfl | rfl
  · cases hd; exact ⟨_, h.c0, rfl⟩
  · cases hd; exact ⟨_, h.c1, rfl⟩
  · cases hd; exact ⟨_, h.c2, h.at_⟩
  · cases hd; exact ⟨_, h.c3, h.at'⟩

set_option maxHeartbeats 400000
theorem atom41_c (n : Bs) (ts : List Tm) (a : Option Addr) (k c : Nat) (w : World) (h : TmsAt w ts (.slice a k c)) :
    Calls Tryz.prog 55 #[str n, .slice a k c] w (Ret FmVal (.mk 1 n ts []) w) := by
  have H := Lib.hid h; clear h
  go_enter Tryz.func55, Tryz.ntmps55
  go_wp2
  have hb : Below w.heap.size w (w.alloc (.cells #[.int .u8 1, str n, .slice a k c, .slice none 0 0] 25)) := (Below.refl _ _).alloc (Nat.le_refl _) _
  exact bodyPost_ret (v := .agg #[.int .u8 1, str n, .slice a k c, .slice none 0 0]) (by simp [results, Tryz.results55, go_sem]) rfl
    ⟨_, rfl, ⟨_, _, _, _, _, _, rfl, H.out.keep (keeps_of_below hb), At.sl_nil (Nat.zero_le _)⟩, hb⟩
theorem atom30_c (n : Bs) (ts : List Tm) (a : Option Addr) (k c : Nat) (w : World) (h : TmsAt w ts (.slice a k c)) :
    Calls Tryz.prog 81 #[str n, .slice a k c] w (Ret FmVal (.mk 1 n ts []) w) := by
  have H := Lib.hid h; clear h
  go_enter Tryz.func81, Tryz.ntmps81
  go_wp2
  have hb : Below w.heap.size w (w.alloc (.cells #[.int .u8 1, str n, .slice a k c, .slice none 0 0] 25)) := (Below.refl _ _).alloc (Nat.le_refl _) _
  exact bodyPost_ret (v := .agg #[.int .u8 1, str n, .slice a k c, .slice none 0 0]) (by simp [results, Tryz.results81, go_sem]) rfl
    ⟨_, rfl, ⟨_, _, _, _, _, _, rfl, H.out.keep (keeps_of_below hb), At.sl_nil (Nat.zero_le _)⟩, hb⟩
theorem join41_c (o : Int) (fs : List Fm) (a : Option Addr) (k c : Nat) (w : World) (h : FmsAt w fs (.slice a k c)) :
    Calls Tryz.prog 47 #[.int .u8 o, .slice a k c] w (Ret FmVal (.mk o [] [] fs) w) := by
  have H := Lib.hid h; clear h
  go_enter Tryz.func47, Tryz.ntmps47
  go_wp2
  have hb : Below w.heap.size w (w.alloc (.cells #[.int .u8 o, str [], .slice none 0 0, .slice a k c] 25)) := (Below.refl _ _).alloc (Nat.le_refl _) _
  exact bodyPost_ret (v := .agg #[.int .u8 o, str [], .slice none 0 0, .slice a k c]) (by simp [results, Tryz.results47, go_sem]) rfl
    ⟨_, rfl, ⟨_, _, _, _, _, _, rfl, At.sl_nil (Nat.zero_le _), H.out.keep (keeps_of_below hb)⟩, hb⟩
theorem join30_c (o : Int) (fs : List Fm) (a : Option Addr) (k c : Nat) (w : World) (h : FmsAt w fs (.slice a k c)) :
    Calls Tryz.prog 83 #[.int .u8 o, .slice a k c] w (Ret FmVal (.mk o [] [] fs) w) := by
  have H := Lib.hid h; clear h
  go_enter Tryz.func83, Tryz.ntmps83
  go_wp2
  have hb : Below w.heap.size w (w.alloc (.cells #[.int .u8 o, str [], .slice none 0 0, .slice a k c] 25)) := (Below.refl _ _).alloc (Nat.le_refl _) _
  exact bodyPost_ret (v := .agg #[.int .u8 o, str [], .slice none 0 0, .slice a k c]) (by simp [results, Tryz.results83, go_sem]) rfl
    ⟨_, rfl, ⟨_, _, _, _, _, _, rfl, At.sl_nil (Nat.zero_le _), H.out.keep (keeps_of_below hb)⟩, hb⟩
theorem variable41_c (n : Bs) (w : World) : Calls Tryz.prog 56 #[str n] w (Ret TmVal (.mk true n []) w) := by
  go_enter Tryz.func56, Tryz.ntmps56
  go_wp2
  have hb : Below w.heap.size w (w.alloc (.cells #[.bool true, str n, .slice none 0 0] 95)) := (Below.refl _ _).alloc (Nat.le_refl _) _
  exact bodyPost_ret (v := .agg #[.bool true, str n, .slice none 0 0]) (by simp [results, Tryz.results56, go_sem]) rfl
    ⟨_, rfl, ⟨_, _, _, rfl, At.sl_nil (Nat.zero_le _)⟩, hb⟩
theorem variable30_c (n : Bs) (w : World) : Calls Tryz.prog 158 #[str n] w (Ret TmVal (.mk true n []) w) := by
  go_enter Tryz.func158, Tryz.ntmps158
  go_wp2
  have hb : Below w.heap.size w (w.alloc (.cells #[.bool true, str n, .slice none 0 0] 95)) := (Below.refl _ _).alloc (Nat.le_refl _) _
  exact bodyPost_ret (v := .agg #[.bool true, str n, .slice none 0 0]) (by simp [results, Tryz.results158, go_sem]) rfl
    ⟨_, rfl, ⟨_, _, _, rfl, At.sl_nil (Nat.zero_le _)⟩, hb⟩
theorem apply41_c (n : Bs) (ts : List Tm) (a : Option Addr) (k c : Nat) (w : World) (h : TmsAt w ts (.slice a k c)) :
    Calls Tryz.prog 58 #[str n, .slice a k c] w (Ret TmVal (.mk false n ts) w) := by
  have H := Lib.hid h; clear h
  go_enter Tryz.func58, Tryz.ntmps58
  go_wp2
  have hb : Below w.heap.size w (w.alloc (.cells #[.bool false, str n, .slice a k c] 95)) := (Below.refl _ _).alloc (Nat.le_refl _) _
  exact bodyPost_ret (v := .agg #[.bool false, str n, .slice a k c]) (by simp [results, Tryz.results58, go_sem]) rfl
    ⟨_, rfl, ⟨_, _, _, rfl, H.out.keep (keeps_of_below hb)⟩, hb⟩
theorem apply30_c (n : Bs) (ts : List Tm) (a : Option Addr) (k c : Nat) (w : World) (h : TmsAt w ts (.slice a k c)) :
    Calls Tryz.prog 159 #[str n, .slice a k c] w (Ret TmVal (.mk false n ts) w) := by
  have H := Lib.hid h; clear h
  go_enter Tryz.func159, Tryz.ntmps159
  go_wp2
  have hb : Below w.heap.size w (w.alloc (.cells #[.bool false, str n, .slice a k c] 95)) := (Below.refl _ _).alloc (Nat.le_refl _) _
  exact bodyPost_ret (v := .agg #[.bool false, str n, .slice a k c]) (by simp [results, Tryz.results159, go_sem]) rfl
    ⟨_, rfl, ⟨_, _, _, rfl, H.out.keep (keeps_of_below hb)⟩, hb⟩
theorem leaf41_c (l : Int) (f : Fm) (x : Value) (w : World) (h : FmVal w f x) :
    Calls Tryz.prog 60 #[.int .i64 l, x] w (Ret PfVal (.mk [] f l [] []) w) := by
  obtain ⟨a, n, c, b, m, d, rfl, h1, h2⟩ := h
  have H1 := Lib.hid h1; clear h1
  have H2 := Lib.hid h2; clear h2
  go_enter Tryz.func60, Tryz.ntmps60
  go_wp2
  refine bodyPost_ret (v := .agg #[str [], .int .u8 f.op, str f.name, .slice a n c, .slice b m d, .int .i64 l, .slice none 0 0, .slice none 0 0]) (by simp [results, Tryz.results60, go_sem]) rfl
    ⟨_, rfl, ⟨_, _, _, _, _, _, _, _, _, _, _, _, rfl, H1.out.keep (keeps2 _ _ _), H2.out.keep (keeps2 _ _ _), At.sl_nil (Nat.zero_le _), At.sl_nil (Nat.zero_le _)⟩, ?_⟩
  exact ((Below.refl _ _).alloc (Nat.le_refl _) _).alloc (by simp) _
theorem step41_c (r : Bs) (f : Fm) (x : Value) (ms : List (List Int)) (ps : List Pf) (a : Option Addr) (k c : Nat) (a' : Option Addr) (k' c' : Nat) (w : World) (h : FmVal w f x) (hm : MarksAt w ms (.slice a k c)) (hp : PfsAt w ps (.slice a' k' c')) :
    Calls Tryz.prog 59 #[str r, x, .slice a k c, .slice a' k' c'] w (Ret PfVal (.mk r f 0 ps ms) w) := by
  obtain ⟨a1, n1, c1, b1, m1, d1, rfl, h1, h2⟩ := h
  have H1 := Lib.hid h1; clear h1
  have H2 := Lib.hid h2; clear h2
  have H3 := Lib.hid hm; clear hm
  have H4 := Lib.hid hp; clear hp
  go_enter Tryz.func59, Tryz.ntmps59
  go_wp2
  refine bodyPost_ret (v := .agg #[str r, .int .u8 f.op, str f.name, .slice a1 n1 c1, .slice b1 m1 d1, .int .i64 0, .slice a' k' c', .slice a k c]) (by simp [results, Tryz.results59, go_sem]) rfl
    ⟨_, rfl, ⟨_, _, _, _, _, _, _, _, _, _, _, _, rfl, H1.out.keep (keeps2 _ _ _), H2.out.keep (keeps2 _ _ _), H4.out.keep (keeps2 _ _ _), H3.out.keep (keeps2 _ _ _)⟩, ?_⟩
  exact ((Below.refl _ _).alloc (Nat.le_refl _) _).alloc (by simp) _
theorem bound41_c (o : Int) (n : Bs) (f : Fm) (x : Value) (w : World) (h : FmVal w f x) :
    Calls Tryz.prog 57 #[.int .u8 o, str n, x] w (Ret FmVal (.mk o n [] [f]) w) := by
  obtain ⟨a, k, c, b, m, d, rfl, h1, h2⟩ := h
  have H1 := Lib.hid h1; clear h1
  have H2 := Lib.hid h2; clear h2
  go_enter Tryz.func57, Tryz.ntmps57
  go_wp2
  refine bodyPost_ret (v := .agg #[.int .u8 o, str n, .slice none 0 0, .slice (some ⟨w.heap.size + 1 + 1, 0, none⟩) 1 1]) (by simp [results, Tryz.results57, go_sem]) rfl
    ⟨_, rfl, ⟨_, _, _, _, _, _, rfl, At.sl_nil (Nat.zero_le _), fms_one (f := f) (a := a) (n := k) (c := c) (a' := b) (m := m) (d := d) ⟨by simp [go_sem], by simp [go_sem], by simp [go_sem], by simp [go_sem], H1.out.keep ((keeps2 _ _ _).trans (keeps1 _ _)), H2.out.keep ((keeps2 _ _ _).trans (keeps1 _ _))⟩⟩, ?_⟩
  exact (((Below.refl _ _).alloc (Nat.le_refl _) _).alloc (by simp) _).alloc (by simp; omega) _
theorem bound30_c (o : Int) (n : Bs) (f : Fm) (x : Value) (w : World) (h : FmVal w f x) :
    Calls Tryz.prog 84 #[.int .u8 o, str n, x] w (Ret FmVal (.mk o n [] [f]) w) := by
  obtain ⟨a, k, c, b, m, d, rfl, h1, h2⟩ := h
  have H1 := Lib.hid h1; clear h1
  have H2 := Lib.hid h2; clear h2
  go_enter Tryz.func84, Tryz.ntmps84
  go_wp2
  refine bodyPost_ret (v := .agg #[.int .u8 o, str n, .slice none 0 0, .slice (some ⟨w.heap.size + 1 + 1, 0, none⟩) 1 1]) (by simp [results, Tryz.results84, go_sem]) rfl
    ⟨_, rfl, ⟨_, _, _, _, _, _, rfl, At.sl_nil (Nat.zero_le _), fms_one (f := f) (a := a) (n := k) (c := c) (a' := b) (m := m) (d := d) ⟨by simp [go_sem], by simp [go_sem], by simp [go_sem], by simp [go_sem], H1.out.keep ((keeps2 _ _ _).trans (keeps1 _ _)), H2.out.keep ((keeps2 _ _ _).trans (keeps1 _ _))⟩⟩, ?_⟩
  exact (((Below.refl _ _).alloc (Nat.le_refl _) _).alloc (by simp) _).alloc (by simp; omega) _
end Go.Proofs.YtcandidgaegghaaGreatDoor
