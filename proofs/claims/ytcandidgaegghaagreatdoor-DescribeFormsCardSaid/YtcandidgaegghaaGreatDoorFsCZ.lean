/- lyceumlaw41.forms answers true. Conditions: at most 600 nodes; the program's tables lie as laid. lyceumlaw41.DescribeForms answers true. Conditions: the program's tables lie as laid. -/
import Derived.Test.YtcandidgaegghaaGreatDoorKpBZ
import Derived.Test.YtcandidgaegghaaGreatDoorLnCZ
import Derived.Lib.QuietBelow
import Derived.BigQuiet
import Derived.Test.YtcandidgaegghaaGreatDoorRefBZ
import Derived.Test.YtcandidgaegghaaGreatDoorAwake
section
namespace Go.Proofs.YtcandidgaegghaaGreatDoor
open Go Go.RowKit Go.Sort Ly
set_option maxRecDepth 10000
set_option linter.unusedSimpArgs false
set_option linter.unusedVariables false
set_option maxHeartbeats 4000000
theorem readPR_text2 {f : Fm} (h : f.right = true) : readPR f.text = .good f [] := by
  have ok := ok_of_right h
  have hs := split_text f ok
  have hp : pForm (3 * f.toks.length + 1) f.toks = .good f [] := by
    have := pForm_ok (3 * f.toks.length + 1) f [] ok notOf_nil (by simp)
    simpa using this
  have hne : f.text ≠ [] := fun e => by
    rw [e] at hs
    have h1 : f.toks = [[]] := hs.symm.trans (by decide +kernel)
    rw [h1] at hp
    have h2 : pForm (3 * [([] : Bs)].length + 1) [[]] = .bad [[]] := by kernel_rfl
    rw [h2] at hp
    cases hp
  unfold readPR wordsOf
  rw [if_neg hne, hs]
  exact hp
theorem rGot_text {f : Fm} (h : f.right = true) (hl : f.text.length ≤ 16384) : rGot f.text = (f, 0, 0) := by
  simp [rGot, show ¬ 16384 < f.text.length by omega, readPR_text2 h, h]
theorem rGot_long {s : Bs} (hl : 16384 < s.length) : rGot s = (fm0, 0, 3) := by
  simp [rGot, hl]
/-- What lies in memory while forms runs: the formula's row, the lent one's. -/
structure FsS (w : World) (f : Fm) (a : Option Addr) (n c : Nat) (b : Option Addr) (m d : Nat) (lb ln lc lb' ln' lc' g5 : Nat) (W : World) : Prop where
  bw : Below w.heap.size w W
  c2 : W.heap[w.heap.size]? = some (.cells #[.int .u8 f.op, str f.name, .slice a n c, .slice b m d] 25 (0, 0))
  c5 : W.heap[g5]? = some (.cells #[.int .u8 f.op, str f.name, .slice (some ⟨lb, 0, none⟩) ln lc, .slice (some ⟨lb', 0, none⟩) ln' lc'] 25 (0, 0))
  lt : TmsLent W f.args (.slice (some ⟨lb, 0, none⟩) ln lc)
  lf : FmsLent W f.sub (.slice (some ⟨lb', 0, none⟩) ln' lc')
theorem FsS.below {w W W' : World} {f : Fm} {a : Option Addr} {n c : Nat} {b : Option Addr} {m d : Nat} {lb ln lc lb' ln' lc' g5 : Nat} (h : FsS w f a n c b m d lb ln lc lb' ln' lc' g5 W) (k : Below W.heap.size W W') : FsS w f a n c b m d lb ln lc lb' ln' lc' g5 W' :=
  ⟨belowThen h.bw k, kc k h.c2, kc k h.c5, h.lt.keep (keeps_of_below k), h.lf.keep (keeps_of_below k)⟩
theorem FsS.new {w w1 : World} {f : Fm} {a : Option Addr} {n c : Nat} {b : Option Addr} {m d : Nat} {lb ln lc lb' ln' lc' : Nat} (k : Below (w.alloc (.cells #[.int .u8 f.op, str f.name, .slice a n c, .slice b m d] 25)).heap.size (w.alloc (.cells #[.int .u8 f.op, str f.name, .slice a n c, .slice b m d] 25)) w1)
    (h1 : TmsLent (hide (lo (w.alloc (.cells #[.int .u8 f.op, str f.name, .slice a n c, .slice b m d] 25))) w1) f.args (.slice (some ⟨lb, 0, none⟩) ln lc)) (h2 : FmsLent (hide (lo (w.alloc (.cells #[.int .u8 f.op, str f.name, .slice a n c, .slice b m d] 25))) w1) f.sub (.slice (some ⟨lb', 0, none⟩) ln' lc')) :
    FsS w f a n c b m d lb ln lc lb' ln' lc' w1.heap.size (w1.alloc (.cells #[.int .u8 f.op, str f.name, .slice (some ⟨lb, 0, none⟩) ln lc, .slice (some ⟨lb', 0, none⟩) ln' lc'] 25)) :=
  have hA : Below w1.heap.size w1 (w1.alloc (.cells #[.int .u8 f.op, str f.name, .slice (some ⟨lb, 0, none⟩) ln lc, .slice (some ⟨lb', 0, none⟩) ln' lc'] 25)) := (Below.refl _ _).alloc (Nat.le_refl _) _
  ⟨belowThen (belowThen ((Below.refl _ _).alloc (Nat.le_refl _) _) k) hA, kc hA (kc k (heap_alloc_new _ _)), heap_alloc_new _ _, (h1.keep (hide_keeps _ _)).keep (keeps_of_below hA), (h2.keep (hide_keeps _ _)).keep (keeps_of_below hA)⟩
theorem forms_c (f : Fm) (hf : f.sz) (hn : f.nodes ≤ 600) (s : Bs) (hs : s.length ≤ maxLen) (x : Value) (w : World) (hr : RowsAt w) (hrn : RowsNo w) (hp : PowAt w) (hm : MaxAt w) (hx : FmVal w f x) :
    Calls Tryz.prog 13 #[x, str s] w fun e w' => e = .returned (.bool true) ∧ Below w.heap.size w w' := by
  obtain ⟨a, n, c, b, m, d, rfl, hA, hS⟩ := hx
  have HV : Hid (∀ W, Below w.heap.size w W → FmVal W f (.agg #[.int .u8 f.op, str f.name, .slice a n c, .slice b m d])) := fun W hW => ⟨_, _, _, _, _, _, rfl, hA.keep (keeps_of_below hW), hS.keep (keeps_of_below hW)⟩
  have B0 : Hid (Below w.heap.size w (w.alloc (.cells #[.int .u8 f.op, str f.name, .slice a n c, .slice b m d] 25))) := (Below.refl _ _).alloc (Nat.le_refl _) _
  obtain ⟨cd, hcd⟩ : ∃ cd, fCd f = cd := ⟨_, rfl⟩
  obtain ⟨T, hT⟩ : ∃ T, fTxt f = T := ⟨_, rfl⟩
  have C50 := Lib.hid (lentForm_c f _ _ (HV.out _ B0.out) (by omega))
  have C21 : Hid (∀ {lb ln lc lb' ln' lc' g5 : Nat} W, FsS w f a n c b m d lb ln lc lb' ln' lc' g5 W → Calls Tryz.prog 21 #[.agg #[.int .u8 f.op, str f.name, .slice (some ⟨lb, 0, none⟩) ln lc, .slice (some ⟨lb', 0, none⟩) ln' lc']] W fun e w' => e = .returned (.tuple #[str T, .int .i64 cd]) ∧ Below W.heap.size W w') := fun W S => by
    rw [← hT, ← hcd]
    exact Form_any f hf _ W (hr.keep (keeps_of_below S.bw)) (hrn.keep (keeps_of_below S.bw)) ⟨_, _, _, _, _, _, rfl, S.lt.at, S.lf.at⟩
  have C30 : Hid (∀ {lb ln lc lb' ln' lc' g5 : Nat} W, FsS w f a n c b m d lb ln lc lb' ln' lc' g5 W → Calls Tryz.prog 30 #[.agg #[.int .u8 f.op, str f.name, .slice (some ⟨lb, 0, none⟩) ln lc, .slice (some ⟨lb', 0, none⟩) ln' lc']] W fun e w' => ∃ oa on oc, e = .returned (.tuple #[.slice oa on oc, .int .i64 cd]) ∧ StrsAt w' (fOut f) (.slice oa on oc) ∧ Below W.heap.size W w') := fun W S => by
    rw [← hcd]
    exact Outline_any f hf _ W (hr.keep (keeps_of_below S.bw)) (hrn.keep (keeps_of_below S.bw)) (hp.below S.bw) ⟨_, _, _, _, _, _, rfl, S.lt.at, S.lf.at⟩
  have C43 : Hid (∀ t : Bs, t.length ≤ maxLen → ∀ W, Below w.heap.size w W → Calls Tryz.prog 43 #[str t] W (GotAns t W)) := fun t ht W hW => Read_got t ht W (hm.keep (keeps_of_below hW)) (hr.keep (keeps_of_below hW)) (hrn.keep (keeps_of_below hW))
  have C51 : Hid (∀ {lb ln lc lb' ln' lc' g5 : Nat} W, FsS w f a n c b m d lb ln lc lb' ln' lc' g5 W → Calls Tryz.prog 51 #[.agg #[.int .u8 f.op, str f.name, .slice (some ⟨lb, 0, none⟩) ln lc, .slice (some ⟨lb', 0, none⟩) ln' lc'], .agg #[.int .u8 f.op, str f.name, .slice a n c, .slice b m d]] W fun e w' => e = .returned (.bool true) ∧ Below W.heap.size W w') := fun W S =>
    keptForm_c f _ _ _ W S.lt S.lf (HV.out W S.bw)
  have C52 : Hid (∀ W, Below w.heap.size w W → Calls Tryz.prog 52 #[.agg #[.int .u8 f.op, str f.name, .slice a n c, .slice b m d]] W fun e w' => e = .returned (.tuple #[str T, .int .i64 cd]) ∧ Below W.heap.size W w') := fun W hW => by
    rw [← hT, ← hcd]
    exact refForm_any f hf (by omega) _ W (HV.out W hW)
  have C53 : Hid (∀ W, Below w.heap.size w W → Calls Tryz.prog 53 #[.agg #[.int .u8 f.op, str f.name, .slice a n c, .slice b m d]] W fun e w' => ∃ oa on oc, e = .returned (.tuple #[.slice oa on oc, .int .i64 cd]) ∧ StrsAt w' (fOut f) (.slice oa on oc) ∧ Below W.heap.size W w') := fun W hW => by
    rw [← hcd]
    exact refOutline_any f hf (by omega) _ W (HV.out W hW)
  have C54 := Lib.hid (fun W => RRead_got s hs W)
  have C19 : Hid (∀ W oa on oc oa' on' oc', StrsAt W (fOut f) (.slice oa on oc) → StrsAt W (fOut f) (.slice oa' on' oc') → Calls Tryz.prog 19 #[.slice oa on oc, .slice oa' on' oc'] W fun e w' => e = .returned (.bool true) ∧ Below W.heap.size W w') := fun W oa on oc oa' on' oc' h1 h2 => by
    have := SameTexts_step (fOut f) (fOut f) oa oa' on oc on' oc' W h1 h2
    simpa using this
  obtain ⟨g, hg⟩ : ∃ g, rGot s = g := ⟨_, rfl⟩
  obtain ⟨G, gi, gc'⟩ := g
  have C44 : Hid (∀ (G : Fm) W u v, FmVal W G u → FmVal W G v → Calls Tryz.prog 44 #[u, v] W fun e w' => e = .returned (.bool true) ∧ Below W.heap.size W w') := fun G W u v h1 h2 => by
    have := SameForm_c G G u v W h1 h2
    rwa [fm_same_self] at this
  have C43s : Hid (∀ W, Below w.heap.size w W → Calls Tryz.prog 43 #[str s] W fun e w' => ∃ ga gn gc ha hn hc, e = .returned (.tuple #[.agg #[.int .u8 G.op, str G.name, .slice ga gn gc, .slice ha hn hc], .int .i64 gi, .int .i64 gc']) ∧ TmsAt (hide (lo W) w') G.args (.slice ga gn gc) ∧ FmsAt (hide (lo W) w') G.sub (.slice ha hn hc) ∧ Below W.heap.size W w') := fun W hW => by
    have := C43.out s hs W hW
    unfold GotAns at this
    rwa [hg] at this
  have C54s : Hid (∀ W, Calls Tryz.prog 54 #[str s] W fun e w' => ∃ ga gn gc ha hn hc, e = .returned (.tuple #[.agg #[.int .u8 G.op, str G.name, .slice ga gn gc, .slice ha hn hc], .int .i64 gi, .int .i64 gc']) ∧ TmsAt (hide (lo W) w') G.args (.slice ga gn gc) ∧ FmsAt (hide (lo W) w') G.sub (.slice ha hn hc) ∧ Below W.heap.size W w') := fun W => by
    have := C54.out W
    unfold GotAns at this
    rwa [hg] at this
  have TC : cd = 2 ∨ (cd = 0 ∧ f.text = T ∧ f.right = true) := by
    rw [← hT, ← hcd]
    by_cases h : f.right = true
    · exact .inr ⟨by simp [fCd, h], by simp [fTxt, h], h⟩
    · exact .inl (by simp [fCd, h])
  have TL : Hid (cd = 0 → T.length ≤ 1000000) := fun h0 => by
    rcases TC with h | ⟨-, h3, h4⟩
    · omega
    · rw [← h3]; have := (right_len h4).2; omega
  have RT : Hid (cd = 0 → T.length ≤ 16384 → ∀ W, Below w.heap.size w W → Calls Tryz.prog 43 #[str T] W fun e w' => ∃ ga gn gc ha hn hc, e = .returned (.tuple #[.agg #[.int .u8 f.op, str f.name, .slice ga gn gc, .slice ha hn hc], .int .i64 0, .int .i64 0]) ∧ TmsAt (hide (lo W) w') f.args (.slice ga gn gc) ∧ FmsAt (hide (lo W) w') f.sub (.slice ha hn hc) ∧ Below W.heap.size W w') := fun h0 hl W hW => by
    rcases TC with h | ⟨-, h3, h4⟩
    · omega
    · have := C43.out T (by unfold maxLen; omega) W hW
      unfold GotAns at this
      have hg : rGot T = (f, 0, 0) := by rw [← h3]; exact rGot_text h4 (by rw [h3]; exact hl)
      rwa [hg] at this
  have RTL : Hid (cd = 0 → 16384 < T.length → ∀ W, Below w.heap.size w W → Calls Tryz.prog 43 #[str T] W fun e w' => ∃ ga gn gc ha hn hc, e = .returned (.tuple #[.agg #[.int .u8 0, str [], .slice ga gn gc, .slice ha hn hc], .int .i64 0, .int .i64 3]) ∧ Below W.heap.size W w') := fun h0 hl W hW => by
    have := C43.out T (by have := TL.out h0; unfold maxLen; omega) W hW
    unfold GotAns at this
    rw [rGot_long hl] at this
    exact this.mono fun e w' ⟨ga, gn, gc, ha, hn, hc, he, _, _, b⟩ => ⟨ga, gn, gc, ha, hn, hc, he, b⟩
  have TC2 : cd = 2 ∨ cd = 0 := TC.elim .inl (fun h => .inr h.1)
  obtain ⟨O, hO⟩ : ∃ O, fOut f = O := ⟨_, rfl⟩
  rw [hO] at C30 C53 C19
  have HT := Lib.hid hT
  have HCD := Lib.hid hcd
  clear hf hn hr hrn hp hm hA hS hT hcd hg hO C54 hs TC HT HCD C43
  go_enter Tryz.func13, Tryz.ntmps13
  go_upto_region 10 with (first
    | (go_at_call 50; refine C50.out.mono ?_; rintro e w1 ⟨lb, ln, lc, lb', ln', lc', rfl, l1, l2, b1⟩; have S1 := Lib.hid (FsS.new b1 l1 l2); clear l1 l2 b1; obtain ⟨p0, p1, p2, p3, -, -, -, -⟩ := row25' S1.out.c5)
    | (go_at_call 21; refine (C21.out _ S1.out).mono ?_; rintro e w2 ⟨rfl, b2⟩; have S2 := Lib.hid (S1.out.below b2); clear b2 p0 p1 p2 p3; obtain ⟨p0, p1, p2, p3, -, -, -, -⟩ := row25' S2.out.c5)
    | (go_at_call 30; refine (C30.out _ S2.out).mono ?_; rintro e w3 ⟨oa, on, oc, rfl, ho, b3⟩; have S3 := Lib.hid (S2.out.below b3); have HO := Lib.hid ho; clear b3 ho p0 p1 p2 p3; obtain ⟨p0, p1, p2, p3, -, -, -, -⟩ := row25' S3.out.c5)
    | (go_at_call 43; refine (C43s.out _ S3.out.bw).mono ?_; rintro e w4 ⟨ga, gn, gc, ha, hn, hc, rfl, h1, h2, b4⟩; have BA := Lib.hid ((Below.refl w4.heap.size w4).alloc (Nat.le_refl _) (.cells #[.int .u8 G.op, str G.name, .slice ga gn gc, .slice ha hn hc] 25)); have S4 := Lib.hid ((S3.out.below b4).below BA.out); have HO4 := Lib.hid (HO.out.keep (keeps_of_below (belowThen b4 BA.out))); have V4 : Hid (FmVal (w4.alloc (.cells #[.int .u8 G.op, str G.name, .slice ga gn gc, .slice ha hn hc] 25)) G (.agg #[.int .u8 G.op, str G.name, .slice ga gn gc, .slice ha hn hc])) := ⟨_, _, _, _, _, _, rfl, (h1.keep (hide_keeps _ _)).keep (keeps_of_below BA.out), (h2.keep (hide_keeps _ _)).keep (keeps_of_below BA.out)⟩; have R4 := Lib.hid (heap_alloc_new w4 (.cells #[.int .u8 G.op, str G.name, .slice ga gn gc, .slice ha hn hc] 25)); clear h1 h2 b4 p0 p1 p2 p3; obtain ⟨p0, p1, p2, p3, -, -, -, -⟩ := row25' S4.out.c5; obtain ⟨q0, q1, q2, q3, -, -, -, -⟩ := row25' S4.out.c2)
    | (go_at_call 51; refine (C51.out _ S4.out).mono ?_; rintro e w5 ⟨rfl, b5⟩; have S5 := Lib.hid (S4.out.below b5); have B5 := Lib.hid b5; clear b5 p0 p1 p2 p3 q0 q1 q2 q3; obtain ⟨q0, q1, q2, q3, -, -, -, -⟩ := row25' S5.out.c2)
    | (go_at_call 52; refine (C52.out _ S5.out.bw).mono ?_; rintro e w6 ⟨rfl, b6⟩; have S6 := Lib.hid (S5.out.below b6); have B6 := Lib.hid (belowThen B5.out b6); clear b6 q0 q1 q2 q3; obtain ⟨q0, q1, q2, q3, -, -, -, -⟩ := row25' S6.out.c2)
    | (go_at_call 53; refine (C53.out _ S6.out.bw).mono ?_; rintro e w7 ⟨pa, pn, pc, rfl, ho, b7⟩; have S7 := Lib.hid (S6.out.below b7); have B7 := Lib.hid (belowThen B6.out b7); have HP := Lib.hid ho; clear b7 ho q0 q1 q2 q3)
    | (go_at_call 54; refine (C54s.out _).mono ?_; rintro e w8 ⟨ja, jn, jc, ka, kn, kc', rfl, h1, h2, b8⟩; have BA8 := Lib.hid ((Below.refl w8.heap.size w8).alloc (Nat.le_refl _) (.cells #[.int .u8 G.op, str G.name, .slice ja jn jc, .slice ka kn kc'] 25)); have S8 := Lib.hid ((S7.out.below b8).below BA8.out); have B8 := Lib.hid (belowThen (belowThen B7.out b8) BA8.out); have HP8 := Lib.hid (HP.out.keep (keeps_of_below (belowThen b8 BA8.out))); have HO8 := Lib.hid (HO4.out.keep (keeps_of_below B8.out)); have V8 : Hid (FmVal (w8.alloc (.cells #[.int .u8 G.op, str G.name, .slice ja jn jc, .slice ka kn kc'] 25)) G (.agg #[.int .u8 G.op, str G.name, .slice ja jn jc, .slice ka kn kc'])) := ⟨_, _, _, _, _, _, rfl, (h1.keep (hide_keeps _ _)).keep (keeps_of_below BA8.out), (h2.keep (hide_keeps _ _)).keep (keeps_of_below BA8.out)⟩; have R8 := Lib.hid (heap_alloc_new w8 (.cells #[.int .u8 G.op, str G.name, .slice ja jn jc, .slice ka kn kc'] 25)); have R48 := Lib.hid (kc B8.out R4.out); clear h1 h2 b8; obtain ⟨p0, p1, p2, p3, -, -, -, -⟩ := row25' R8.out; obtain ⟨q0, q1, q2, q3, -, -, -, -⟩ := row25' R48.out))
  generalize hW8 : w8.alloc (.cells #[.int .u8 G.op, str G.name, .slice ja jn jc, .slice ka kn kc'] 25) = W8 at *
  have S9 : Hid (w4.heap.size < W8.heap.size) := by have := B8.out.size; simp at this; show _ < _; omega
  go_upto_region 12 with (first
    | (go_at_call 19; refine (C19.out _ _ _ _ _ _ _ HO8.out HP8.out).mono ?_; rintro e w9 ⟨rfl, b9⟩; have S9' := Lib.hid (S8.out.below b9); have V49 := Lib.hid (V4.out.keep (keeps_of_below (belowThen B8.out b9))); have V89 := Lib.hid (V8.out.keep (keeps_of_below b9)); have R9 := Lib.hid (kc b9 R8.out); have R49 := Lib.hid (kc b9 R48.out); clear b9 p0 p1 p2 p3 q0 q1 q2 q3; obtain ⟨p0, p1, p2, p3, -, -, -, -⟩ := row25' R9.out; obtain ⟨q0, q1, q2, q3, -, -, -, -⟩ := row25' R49.out)
    | (go_at_call 44; refine (C44.out G _ _ _ V49.out V89.out).mono ?_; rintro e w10 ⟨rfl, b10⟩; have S10 := Lib.hid (S9'.out.below b10); clear b10 p0 p1 p2 p3 q0 q1 q2 q3))
  rcases TC2 with rfl | rfl
  · go_wp2_with fail
    go_ret
    exact ⟨rfl, S10.out.bw⟩
  · have tl := TL.out rfl
    by_cases hl : T.length ≤ 16384
    · have t3 : decide ((16384 : Int) < T.length) = false := by simp; omega
      have RT' := Lib.hid (RT.out rfl hl)
      clear RT RTL
      go_wp2_with (first
        | (go_at_call 44; refine (C44.out f _ _ _ V12.out (HV.out _ S12.out.bw)).mono ?_; rintro e w12 ⟨rfl, b12⟩; have S13 := Lib.hid (S12.out.below b12); clear b12)
        | (go_at_call 43; refine (RT'.out _ S10.out.bw).mono ?_; rintro e w11 ⟨ya, yn, yc, za, zn, zc, rfl, h1, h2, b11⟩; have BA11 := Lib.hid ((Below.refl w11.heap.size w11).alloc (Nat.le_refl _) (.cells #[.int .u8 f.op, str f.name, .slice ya yn yc, .slice za zn zc] 25)); have S12 := Lib.hid ((S10.out.below b11).below BA11.out); have V12 : Hid (FmVal (w11.alloc (.cells #[.int .u8 f.op, str f.name, .slice ya yn yc, .slice za zn zc] 25)) f (.agg #[.int .u8 f.op, str f.name, .slice ya yn yc, .slice za zn zc])) := ⟨_, _, _, _, _, _, rfl, (h1.keep (hide_keeps _ _)).keep (keeps_of_below BA11.out), (h2.keep (hide_keeps _ _)).keep (keeps_of_below BA11.out)⟩; have R12 := Lib.hid (heap_alloc_new w11 (.cells #[.int .u8 f.op, str f.name, .slice ya yn yc, .slice za zn zc] 25)); clear h1 h2 b11; obtain ⟨p0, p1, p2, p3, -, -, -, -⟩ := row25' R12.out; obtain ⟨q0, q1, q2, q3, -, -, -, -⟩ := row25' S12.out.c2))
      go_ret
      exact ⟨rfl, S13.out.bw⟩
    · have t3 : decide ((16384 : Int) < T.length) = true := by simp; omega
      have RT' := Lib.hid (RTL.out rfl (by omega))
      clear RT RTL
      go_wp2_with (go_at_call 43; refine (RT'.out _ S10.out.bw).mono ?_; rintro e w11 ⟨ya, yn, yc, za, zn, zc, rfl, b11⟩; have BA11 := Lib.hid ((Below.refl w11.heap.size w11).alloc (Nat.le_refl _) (.cells #[.int .u8 0, str [], .slice ya yn yc, .slice za zn zc] 25)); have S12 := Lib.hid ((S10.out.below b11).below BA11.out); clear b11)
      go_ret
      exact ⟨rfl, S12.out.bw⟩
end Go.Proofs.YtcandidgaegghaaGreatDoor
end
section
namespace Go.Proofs.YtcandidgaegghaaGreatDoor
open Go Go.RowKit Ly
set_option maxRecDepth 10000
set_option linter.unusedSimpArgs false
set_option linter.unusedVariables false
set_option maxHeartbeats 4000000
theorem describeForms_c (F : Fm) (hz : F.sz) (s : Bs) (hs : s.length ≤ maxLen) (x : Value) (w : World) (hr : RowsAt w) (hrn : RowsNo w) (hp : PowAt w) (hm : MaxAt w) (hx : FmVal w F x) :
    Calls Tryz.prog 3 #[x, str s] w fun e w' => e = .returned (.bool true) ∧ Below w.heap.size w w' := by
  obtain ⟨a, n, c, b, m, d, rfl, hA, hS⟩ := hx
  have hl2 : (s.length : Int) ≤ 9223372036854775807 := by unfold maxLen at hs; omega
  have HB : Hid (Below w.heap.size w ((w.alloc (.cells #[.int .u8 F.op, str F.name, .slice a n c, .slice b m d] 25)).alloc (.cells #[.int .u8 F.op, str F.name, .slice a n c, .slice b m d] 25))) := ((Below.refl _ _).alloc (Nat.le_refl _) _).alloc (by simp) _
  have NEW : Hid (((w.alloc (.cells #[.int .u8 F.op, str F.name, .slice a n c, .slice b m d] 25)).alloc (.cells #[.int .u8 F.op, str F.name, .slice a n c, .slice b m d] 25)).heap[w.heap.size]? = some (.cells #[.int .u8 F.op, str F.name, .slice a n c, .slice b m d] 25 (0, 0))) := kc ((Below.refl _ _).alloc (Nat.le_refl _) _) (heap_alloc_new w _)
  have FEW : Hid (Calls Tryz.prog 12 #[.slice (some ⟨w.heap.size + 1, 0, none⟩) 1 1] ((w.alloc (.cells #[.int .u8 F.op, str F.name, .slice a n c, .slice b m d] 25)).alloc (.cells #[.int .u8 F.op, str F.name, .slice a n c, .slice b m d] 25)) fun e w' => e = .returned (.bool (decide (F.nodes ≤ 600))) ∧ Below ((w.alloc (.cells #[.int .u8 F.op, str F.name, .slice a n c, .slice b m d] 25)).alloc (.cells #[.int .u8 F.op, str F.name, .slice a n c, .slice b m d] 25)).heap.size ((w.alloc (.cells #[.int .u8 F.op, str F.name, .slice a n c, .slice b m d] 25)).alloc (.cells #[.int .u8 F.op, str F.name, .slice a n c, .slice b m d] 25)) w') := by
    have := few_c [F] (some ⟨w.heap.size + 1, 0, none⟩) 1 1 ((w.alloc (.cells #[.int .u8 F.op, str F.name, .slice a n c, .slice b m d] 25)).alloc (.cells #[.int .u8 F.op, str F.name, .slice a n c, .slice b m d] 25)) (fms_one (f := F) (a := a) (n := n) (c := c) (a' := b) (m := m) (d := d) ⟨by simp [go_sem], by simp [go_sem], by simp [go_sem], by simp [go_sem], hA.keep (keeps2 _ _ _), hS.keep (keeps2 _ _ _)⟩)
    have e : fmsNodes [F] = F.nodes := by simp [fmsNodes]
    rwa [e] at this
  have C13 : Hid (F.nodes ≤ 600 → ∀ W, Below w.heap.size w W → Calls Tryz.prog 13 #[.agg #[.int .u8 F.op, str F.name, .slice a n c, .slice b m d], str s] W fun e w' => e = .returned (.bool true) ∧ Below W.heap.size W w') := fun h6 W hW =>
    forms_c F hz h6 s hs _ W (hr.keep (keeps_of_below hW)) (hrn.keep (keeps_of_below hW)) (hp.below hW) (hm.keep (keeps_of_below hW)) ⟨_, _, _, _, _, _, rfl, hA.keep (keeps_of_below hW), hS.keep (keeps_of_below hW)⟩
  have C14 : Hid (∀ W, Below w.heap.size w W → Calls Tryz.prog 14 #[] W fun e w' => e = .returned (.bool true) ∧ Below W.heap.size W w') := fun W hW =>
    awake_c W (hr.keep (keeps_of_below hW)) (hp.below hW) (hm.keep (keeps_of_below hW))
  clear hr hrn hp hm hA hS hz hs
  by_cases h6 : F.nodes ≤ 600
  · have C13' := Lib.hid (C13.out h6)
    rw [decide_eq_true h6] at FEW
    clear h6 C13
    by_cases h3 : (3000 : Int) < s.length
    · have t3 : decide ((3000 : Int) < s.length) = true := by simp; omega
      by_cases h4 : (s.length : Int) ≤ 16384
      · have t4 : decide ((s.length : Int) ≤ 16384) = true := by simp; omega
        go_enter Tryz.func3, Tryz.ntmps3
        go_wp2_with (first
          | (go_at_call 12; refine FEW.out.mono ?_; rintro e w2 ⟨rfl, b2⟩; have B2 := Lib.hid (belowThen HB.out b2); clear b2)
          | (go_at_call 14; refine (C14.out _ B2.out).mono ?_; rintro e w4 ⟨rfl, b4⟩; have B4 := Lib.hid (belowThen B2.out b4); clear b4))
        go_ret
        exact ⟨rfl, B4.out⟩
      · have t4 : decide ((s.length : Int) ≤ 16384) = false := by simp; omega
        go_enter Tryz.func3, Tryz.ntmps3
        go_wp2_with (first
          | (go_at_call 12; refine FEW.out.mono ?_; rintro e w2 ⟨rfl, b2⟩; have B2 := Lib.hid (belowThen HB.out b2); have E2 := Lib.hid (kc b2 NEW.out); clear b2; obtain ⟨p0, p1, p2, p3, -, -, -, -⟩ := row25' E2.out)
          | (go_at_call 13; refine (C13'.out _ B2.out).mono ?_; rintro e w3 ⟨rfl, b3⟩; have B3 := Lib.hid (belowThen B2.out b3); clear b3)
          | (go_at_call 14; refine (C14.out _ B3.out).mono ?_; rintro e w4 ⟨rfl, b4⟩; have B4 := Lib.hid (belowThen B3.out b4); clear b4))
        go_ret
        exact ⟨rfl, B4.out⟩
    · have t3 : decide ((3000 : Int) < s.length) = false := by simp; omega
      go_enter Tryz.func3, Tryz.ntmps3
      go_wp2_with (first
        | (go_at_call 12; refine FEW.out.mono ?_; rintro e w2 ⟨rfl, b2⟩; have B2 := Lib.hid (belowThen HB.out b2); have E2 := Lib.hid (kc b2 NEW.out); clear b2; obtain ⟨p0, p1, p2, p3, -, -, -, -⟩ := row25' E2.out)
        | (go_at_call 13; refine (C13'.out _ B2.out).mono ?_; rintro e w3 ⟨rfl, b3⟩; have B3 := Lib.hid (belowThen B2.out b3); clear b3)
        | (go_at_call 14; refine (C14.out _ B3.out).mono ?_; rintro e w4 ⟨rfl, b4⟩; have B4 := Lib.hid (belowThen B3.out b4); clear b4))
      go_ret
      exact ⟨rfl, B4.out⟩
  · rw [decide_eq_false h6] at FEW
    clear h6 C13
    go_enter Tryz.func3, Tryz.ntmps3
    go_wp2_with (first
      | (go_at_call 12; refine FEW.out.mono ?_; rintro e w2 ⟨rfl, b2⟩; have B2 := Lib.hid (belowThen HB.out b2); clear b2)
      | (go_at_call 14; refine (C14.out _ B2.out).mono ?_; rintro e w4 ⟨rfl, b4⟩; have B4 := Lib.hid (belowThen B2.out b4); clear b4))
    go_ret
    exact ⟨rfl, B4.out⟩
end Go.Proofs.YtcandidgaegghaaGreatDoor
end
