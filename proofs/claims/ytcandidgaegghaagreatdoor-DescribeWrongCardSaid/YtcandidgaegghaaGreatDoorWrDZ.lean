/- lyceumlaw41.DescribeWrong: what is not right has no words. The first half of the walk. Conditions: the program's tables (rows, powers of ten, MaxLen) lie as laid. -/
import Derived.Test.YtcandidgaegghaaGreatDoorWrRZ
import Derived.Test.YtcandidgaegghaaGreatDoorWrEZ
import Derived.Test.YtcandidgaegghaaGreatDoorWrMZ
import Derived.Test.YtcandidgaegghaaGreatDoorPlIZ
import Derived.Test.YtcandidgaegghaaGreatDoorProvedZ
import Derived.Deep.OwnRows
import Derived.Deep.CutBlock
namespace Go.Proofs.YtcandidgaegghaaGreatDoor
open Go Go.RowKit Ly
set_option maxRecDepth 10000
set_option linter.unusedSimpArgs false
set_option linter.unusedVariables false
set_option maxHeartbeats 4000000
/-- A formula in its variable. -/
structure FV (F : Fm) (g : Nat) (a : Option Addr) (n c : Nat) (b : Option Addr) (m d : Nat) (wx : World) : Prop where
  cell : wx.heap[g]? = some (.cells #[.int .u8 F.op, str F.name, .slice a n c, .slice b m d] 25 (0, 0))
  h1 : TmsAt wx F.args (.slice a n c)
  h2 : FmsAt wx F.sub (.slice b m d)
theorem FV.below {F : Fm} {g : Nat} {a : Option Addr} {n c : Nat} {b : Option Addr} {m d : Nat} {wx wy : World} (h : FV F g a n c b m d wx) (k : Below wx.heap.size wx wy) : FV F g a n c b m d wy :=
  ⟨kc k h.cell, h.h1.keep (keeps_of_below k), h.h2.keep (keeps_of_below k)⟩
theorem FV.val {F : Fm} {g : Nat} {a : Option Addr} {n c : Nat} {b : Option Addr} {m d : Nat} {wx : World} (h : FV F g a n c b m d wx) : FmVal wx F (.agg #[.int .u8 F.op, str F.name, .slice a n c, .slice b m d]) := ⟨_, _, _, _, _, _, rfl, h.h1, h.h2⟩
/-- What has been built: the formula and the proof, in their variables. -/
structure WV (w : World) (F : Fm) (P : Pf) (g9 : Nat) (fa : Option Addr) (fn fc : Nat) (fb : Option Addr) (fm fd : Nat) (g10 : Nat) (p1 : Option Addr) (p2 p3 : Nat) (p4 : Option Addr) (p5 p6 : Nat) (p7 : Option Addr) (p8 p9 : Nat) (p10 : Option Addr) (p11 p12 : Nat) (W : World) : Prop where
  bw : Below w.heap.size w W
  f : FV F g9 fa fn fc fb fm fd W
  p : PV P g10 p1 p2 p3 p4 p5 p6 p7 p8 p9 p10 p11 p12 W
theorem own_part {W : World} {g base n : Nat} {L : List Bs} (h : W.heap[g]? = some (.cells (L.map str).toArray 9 (0, 0))) (hb : base ≤ g) (hn : n ≤ L.length) (hl : L.length ≤ maxLen) : OwnStrs base W (L.take n) (.slice (some ⟨g, 0, none⟩) n L.length) := by
  unfold OwnStrs
  rw [List.length_take, Nat.min_eq_left hn]
  refine ⟨by simp; omega, .inr ⟨g, L.length, _, rfl, hb, h, hn, hl, by simp, ?_⟩⟩
  simp [List.map_take]
theorem own_all {W : World} {g base : Nat} {L : List Bs} (h : W.heap[g]? = some (.cells (L.map str).toArray 9 (0, 0))) (hb : base ≤ g) (hl : L.length ≤ maxLen) : OwnStrs base W L (.slice (some ⟨g, 0, none⟩) L.length L.length) := by
  have := own_part h hb (Nat.le_refl _) hl
  rwa [List.take_length] at this
theorem own_set {W : World} {g base k : Nat} {L : List Bs} {x : Bs} (h : W.heap[g]? = some (.cells (L.map str).toArray 9 (0, 0))) (hb : base ≤ g) (hl : L.length ≤ maxLen) : OwnStrs base (W.setCell ⟨g, k, none⟩ (str x)) (L.set k x) (.slice (some ⟨g, 0, none⟩) L.length L.length) := by
  have h1 := set_block (o := k) (u := str x) h
  rw [List.setIfInBounds_toArray, ← List.map_set] at h1
  have := own_all h1 hb (by simpa using hl)
  rwa [List.length_set] at this
variable {w : World} {F : Fm} {P : Pf} {g9 : Nat} {fa : Option Addr} {fn fc : Nat} {fb : Option Addr} {fm fd : Nat} {g10 : Nat} {p1 : Option Addr} {p2 p3 : Nat} {p4 : Option Addr} {p5 p6 : Nat} {p7 : Option Addr} {p8 p9 : Nat} {p10 : Option Addr} {p11 p12 : Nat}
theorem WV.below {A W : World} (h : WV w F P g9 fa fn fc fb fm fd g10 p1 p2 p3 p4 p5 p6 p7 p8 p9 p10 p11 p12 A) (b : Below A.heap.size A W) : WV w F P g9 fa fn fc fb fm fd g10 p1 p2 p3 p4 p5 p6 p7 p8 p9 p10 p11 p12 W := ⟨belowThen h.bw b, h.f.below b, h.p.below b⟩
theorem wv_new {w3 : World} (b : Below w.heap.size w w3) (f1 : TmsAt w3 F.args (.slice fa fn fc)) (f2 : FmsAt w3 F.sub (.slice fb fm fd)) (h1 : TmsAt w3 P.form.args (.slice p1 p2 p3)) (h2 : FmsAt w3 P.form.sub (.slice p4 p5 p6)) (h3 : PfsAt w3 P.sub (.slice p7 p8 p9)) (h4 : MarksAt w3 P.marks (.slice p10 p11 p12)) :
    WV w F P w3.heap.size fa fn fc fb fm fd (w3.heap.size + 1) p1 p2 p3 p4 p5 p6 p7 p8 p9 p10 p11 p12 ((w3.alloc (.cells #[.int .u8 F.op, str F.name, .slice fa fn fc, .slice fb fm fd] 25)).alloc (.cells #[str P.rule, .int .u8 P.form.op, str P.form.name, .slice p1 p2 p3, .slice p4 p5 p6, .int .i64 P.label, .slice p7 p8 p9, .slice p10 p11 p12] 53)) := by
  have k : ∀ o o', Keeps w3 ((w3.alloc o).alloc o') := fun o o' => keeps_of_below (((Below.refl _ _).alloc (Nat.le_refl _) _).alloc (by simp) _)
  refine ⟨belowThen b (((Below.refl _ _).alloc (Nat.le_refl _) _).alloc (by simp) _), ⟨kc ((Below.refl _ _).alloc (Nat.le_refl _) _) (heap_alloc_new w3 _), f1.keep (k _ _), f2.keep (k _ _)⟩, ⟨?_, h1.keep (k _ _), h2.keep (k _ _), h3.keep (k _ _), h4.keep (k _ _)⟩⟩
  have := heap_alloc_new (w3.alloc (.cells #[.int .u8 F.op, str F.name, .slice fa fn fc, .slice fb fm fd] 25)) (.cells #[str P.rule, .int .u8 P.form.op, str P.form.name, .slice p1 p2 p3, .slice p4 p5 p6, .int .i64 P.label, .slice p7 p8 p9, .slice p10 p11 p12] 53)
  rwa [World.size_alloc] at this
/-- The formula that is not right, in its variable. -/
structure BV (F : Fm) (g : Nat) (a : Option Addr) (n c : Nat) (b : Option Addr) (m d : Nat) (wx : World) : Prop where
  cell : wx.heap[g]? = some (.cells #[.int .u8 4, str [], .slice a n c, .slice b m d] 25 (0, 0))
  val : FmVal wx (badFm F) (.agg #[.int .u8 4, str [], .slice a n c, .slice b m d])
theorem fmval_keep {A W : World} {f : Fm} {u : Value} (h : FmVal A f u) (k : Keeps A W) : FmVal W f u := by
  obtain ⟨a, n, c, b, m, d, e, h1, h2⟩ := h
  exact ⟨a, n, c, b, m, d, e, h1.keep k, h2.keep k⟩
theorem BV.below {g : Nat} {a : Option Addr} {n c : Nat} {b : Option Addr} {m d : Nat} {A W : World} (h : BV F g a n c b m d A) (k : Below A.heap.size A W) : BV F g a n c b m d W := ⟨kc k h.cell, fmval_keep h.val (keeps_of_below k)⟩
theorem wrong_c (l : Bs) (a : Option Addr) (n c : Nat) (code : Bs) (ca : Option Addr) (cn cc : Nat) (lw z : Int) (hv : 0 ≤ lw ∧ lw < 256) (hz : -9223372036854775808 ≤ z ∧ z ≤ 9223372036854775807) (w : World) (hr : RowsAt w) (hr15 : Row15At w) (hp : PowAt w) (hm : MaxAt w) (hl : BtsAt w l (.slice a n c)) (hc : BtsAt w code (.slice ca cn cc)) :
    Calls Tryz.prog 11 #[.slice a n c, .slice ca cn cc, .int .u8 lw, .int .i64 z] w fun e w' => e = .returned (.bool true) ∧ Below w.heap.size w w' := by
  have HR := Lib.hid hr
  have HR15 := Lib.hid hr15
  have HP := Lib.hid hp
  have HM := Lib.hid hm
  have HL := Lib.hid hl
  have HC := Lib.hid hc
  obtain ⟨hv0, hv1⟩ := hv
  obtain ⟨hz0, hz1⟩ := hz
  clear hr hr15 hp hm hl hc
  obtain ⟨F, hF⟩ : ∃ F, built l = F := ⟨_, rfl⟩
  have FR : Hid (F.right = true ∧ F.text.length ≤ 1300 ∧ F.nodes ≤ 398 ∧ F.depth ≤ 39) := by rw [← hF]; exact ⟨built_right l, built_text_len l, (built_small l).1, (built_small l).2⟩
  have BC : Hid (∀ w a n c, BtsAt w l (.slice a n c) → Calls Tryz.prog 20 #[.slice a n c] w (RetF F w)) := fun w a n c h => by rw [← hF]; exact built_c l a n c w h
  obtain ⟨P, hP⟩ : ∃ P, proved code = P := ⟨_, rfl⟩
  have rP : Hid (P.right = true) := by show _ = _; rw [← hP]; exact proved_right code
  have PC : Hid (∀ w a n c, BtsAt w code (.slice a n c) → Calls Tryz.prog 23 #[.slice a n c] w (Ret PfVal P w)) := fun w a n c h => by rw [← hP]; exact proved_c code a n c w h
  have HPS : Hid (P.steps ≤ 31) := by rw [Hid, ← hP]; exact proved_small code
  clear hF hP
  go_enter Tryz.func11, Tryz.ntmps11
  go_upto_region 3 with (go_at_call 14; refine (awake_c _ HR.out HP.out HM.out).mono ?_; rintro e w1 ⟨rfl, b1⟩; have B1 := Lib.hid b1; clear b1)
  go_cut [9, 10] from 47 to 50 (fun u9 u10 wx => ∃ g9 fa fn fc fb fm fd g10 p1 p2 p3 p4 p5 p6 p7 p8 p9 p10 p11 p12, u9 = one g9 ∧ u10 = one g10 ∧ Hid (WV w F P g9 fa fn fc fb fm fd g10 p1 p2 p3 p4 p5 p6 p7 p8 p9 p10 p11 p12 wx))
  case first =>
    go_wp2_with (first
      | (go_at_call 20; refine (BC.out _ _ _ _ (HL.out.keep (keeps_of_below B1.out))).mono ?_; rintro e w2 ⟨fa, fn, fc, fb, fm, fd, rfl, h1, h2, b2⟩; have H2 := Lib.hid (And.intro h1 (And.intro h2 b2)); have B2 := Lib.hid (belowThen B1.out b2); clear h1 h2 b2)
      | (go_at_call 23; refine (PC.out _ _ _ _ (HC.out.keep (keeps_of_below B2.out))).mono ?_; rintro e w3 ⟨v, rfl, ⟨p1, p2, p3, p4, p5, p6, p7, p8, p9, p10, p11, p12, rfl, h1, h2, h3, h4⟩, b3⟩; have H3 := Lib.hid (And.intro h1 (And.intro h2 (And.intro h3 (And.intro h4 b3)))); clear h1 h2 h3 h4 b3))
    go_meet
    obtain ⟨h1, h2, b2⟩ := H2.out
    obtain ⟨h3, h4, h5, h6, b3⟩ := H3.out
    exact ⟨_, fa, fn, fc, fb, fm, fd, _, p1, p2, p3, p4, p5, p6, p7, p8, p9, p10, p11, p12, rfl, rfl, wv_new (belowThen B2.out b3) ((h1.keep unhide).keep (keeps_of_below b3)) ((h2.keep unhide).keep (keeps_of_below b3)) h3 h4 h5 h6⟩
  case rest =>
  obtain ⟨g9, fa, fn, fc, fb, fm, fd, g10, p1, p2, p3, p4, p5, p6, p7, p8, p9, p10, p11, p12, rfl, rfl, HV⟩ := hcut
  clear BC PC HL HC B1
  go_upto_region 4 with fail
  go_cut [11] from 51 to 54 (fun u11 wx => ∃ g11 xa xn xc ha hn hc, u11 = one g11 ∧ Hid (WV w F P g9 fa fn fc fb fm fd g10 p1 p2 p3 p4 p5 p6 p7 p8 p9 p10 p11 p12 wx ∧ BV F g11 xa xn xc ha hn hc wx))
  case first =>
    obtain ⟨x0, x1, x2, x3, -, -, -, -⟩ := row25' HV.out.f.cell
    have FS : Hid (∀ o, o = .cells #[.int .u8 F.op, str F.name, .slice fa fn fc, .slice fb fm fd, .int .u8 15, str [63, 65], .slice none 0 0, .slice none 0 0] 25 → FmsAt (wc.alloc o) [F, metaFm] (.slice (some ⟨wc.heap.size, 0, none⟩) 2 2)) := fun o e => by
      subst e
      exact fms_of2 (f' := metaFm) (heap_alloc_new _ _) (HV.out.f.h1.keep (keeps1 _ _)) (HV.out.f.h2.keep (keeps1 _ _)) (At.sl_nil (Nat.zero_le _)) (At.sl_nil (Nat.zero_le _))
    go_wp2_with (go_at_call 47; refine (join41_c 4 [F, metaFm] _ _ _ _ (FS.out _ rfl)).mono ?_; rintro e w4 ⟨v, rfl, ⟨xa, xn, xc, ha, hn, hc, rfl, h1, h2⟩, b4⟩; have H4 := Lib.hid (And.intro h1 (And.intro h2 (belowThen ((Below.refl _ _).alloc (Nat.le_refl _) _) b4))); clear h1 h2 b4)
    go_meet
    obtain ⟨h1, h2, b4⟩ := H4.out
    exact ⟨_, xa, xn, xc, ha, hn, hc, rfl, (HV.out.below b4).below ((Below.refl _ _).alloc (Nat.le_refl _) _), heap_alloc_new _ _, _, _, _, _, _, _, rfl, h1.keep (keeps1 _ _), h2.keep (keeps1 _ _)⟩
  case rest =>
  obtain ⟨g11, xa, xn, xc, ha, hn, hc, rfl, HB⟩ := hcut
  clear HV
  have HV := Lib.hid HB.out.1
  have HBV := Lib.hid HB.out.2
  clear HB
  obtain ⟨x0, x1, x2, x3, x4, x5, x6, x7⟩ := row53 HV.out.p.cell
  obtain ⟨y0, y1, y2, y3, -, -, -, -⟩ := row25' HBV.out.cell
  have z10 := (Array.getElem?_eq_some_iff.1 HV.out.p.cell).1
  have z11 := (Array.getElem?_eq_some_iff.1 HBV.out.cell).1
  go_upto_region 9 with fail
  clear x0 x1 x2 x3 x4 x5 x6 x7 y0 y1 y2 y3 z10 z11
  have b5 : Below wc.heap.size wc ((wc.alloc (.cells #[str P.rule, .int .u8 4, str [], .slice xa xn xc, .slice ha hn hc, .int .i64 P.label, .slice p7 p8 p9, .slice p10 p11 p12] 53)).alloc (.cells #[str P.rule, .int .u8 P.form.op, str P.form.name, .slice p1 p2 p3, .slice p4 p5 p6, .int .i64 (max z 1000), .slice p7 p8 p9, .slice p10 p11 p12] 53)) := ((Below.refl _ _).alloc (Nat.le_refl _) _).alloc (by simp) _
  have k12 : ((wc.alloc (.cells #[str P.rule, .int .u8 4, str [], .slice xa xn xc, .slice ha hn hc, .int .i64 P.label, .slice p7 p8 p9, .slice p10 p11 p12] 53)).alloc (.cells #[str P.rule, .int .u8 P.form.op, str P.form.name, .slice p1 p2 p3, .slice p4 p5 p6, .int .i64 (max z 1000), .slice p7 p8 p9, .slice p10 p11 p12] 53)).heap[wc.heap.size]? = some (.cells #[str P.rule, .int .u8 4, str [], .slice xa xn xc, .slice ha hn hc, .int .i64 P.label, .slice p7 p8 p9, .slice p10 p11 p12] 53 (0, 0)) := kc ((Below.refl _ _).alloc (Nat.le_refl _) _) (heap_alloc_new wc _)
  have k13 : ((wc.alloc (.cells #[str P.rule, .int .u8 4, str [], .slice xa xn xc, .slice ha hn hc, .int .i64 P.label, .slice p7 p8 p9, .slice p10 p11 p12] 53)).alloc (.cells #[str P.rule, .int .u8 P.form.op, str P.form.name, .slice p1 p2 p3, .slice p4 p5 p6, .int .i64 (max z 1000), .slice p7 p8 p9, .slice p10 p11 p12] 53)).heap[wc.heap.size + 1]? = some (.cells #[str P.rule, .int .u8 P.form.op, str P.form.name, .slice p1 p2 p3, .slice p4 p5 p6, .int .i64 (max z 1000), .slice p7 p8 p9, .slice p10 p11 p12] 53 (0, 0)) := by
    have := heap_alloc_new (wc.alloc (.cells #[str P.rule, .int .u8 4, str [], .slice xa xn xc, .slice ha hn hc, .int .i64 P.label, .slice p7 p8 p9, .slice p10 p11 p12] 53)) (.cells #[str P.rule, .int .u8 P.form.op, str P.form.name, .slice p1 p2 p3, .slice p4 p5 p6, .int .i64 (max z 1000), .slice p7 p8 p9, .slice p10 p11 p12] 53)
    rwa [World.size_alloc] at this
  have BN5 := Lib.hid (And.intro (HV.out.below b5) (And.intro (HBV.out.below b5) (And.intro k12 k13)))
  change Code.wp _ _ _ _ ((wc.alloc (.cells #[str P.rule, .int .u8 4, str [], .slice xa xn xc, .slice ha hn hc, .int .i64 P.label, .slice p7 p8 p9, .slice p10 p11 p12] 53)).alloc (.cells #[str P.rule, .int .u8 P.form.op, str P.form.name, .slice p1 p2 p3, .slice p4 p5 p6, .int .i64 (max z 1000), .slice p7 p8 p9, .slice p10 p11 p12] 53))
  clear b5 k12 k13 HV HBV
  generalize (wc.alloc (.cells #[str P.rule, .int .u8 4, str [], .slice xa xn xc, .slice ha hn hc, .int .i64 P.label, .slice p7 p8 p9, .slice p10 p11 p12] 53)).alloc (.cells #[str P.rule, .int .u8 P.form.op, str P.form.name, .slice p1 p2 p3, .slice p4 p5 p6, .int .i64 (max z 1000), .slice p7 p8 p9, .slice p10 p11 p12] 53) = w5 at *
  generalize wc.heap.size = g12 at *
  obtain ⟨L, hL⟩ : ∃ L, max z 1000 = L := ⟨_, rfl⟩
  rw [hL] at BN5
  have L0 : 1000 ≤ L := by omega
  clear hL
  have BB : Hid (∀ A W, Below A.heap.size A W → (WV w F P g9 fa fn fc fb fm fd g10 p1 p2 p3 p4 p5 p6 p7 p8 p9 p10 p11 p12 A ∧ BV F g11 xa xn xc ha hn hc A ∧ A.heap[g12]? = some (.cells #[str P.rule, .int .u8 4, str [], .slice xa xn xc, .slice ha hn hc, .int .i64 P.label, .slice p7 p8 p9, .slice p10 p11 p12] 53 (0, 0)) ∧ A.heap[g12 + 1]? = some (.cells #[str P.rule, .int .u8 P.form.op, str P.form.name, .slice p1 p2 p3, .slice p4 p5 p6, .int .i64 L, .slice p7 p8 p9, .slice p10 p11 p12] 53 (0, 0))) → (WV w F P g9 fa fn fc fb fm fd g10 p1 p2 p3 p4 p5 p6 p7 p8 p9 p10 p11 p12 W ∧ BV F g11 xa xn xc ha hn hc W ∧ W.heap[g12]? = some (.cells #[str P.rule, .int .u8 4, str [], .slice xa xn xc, .slice ha hn hc, .int .i64 P.label, .slice p7 p8 p9, .slice p10 p11 p12] 53 (0, 0)) ∧ W.heap[g12 + 1]? = some (.cells #[str P.rule, .int .u8 P.form.op, str P.form.name, .slice p1 p2 p3, .slice p4 p5 p6, .int .i64 L, .slice p7 p8 p9, .slice p10 p11 p12] 53 (0, 0)))) := fun A W b h => ⟨h.1.below b, h.2.1.below b, kc b h.2.2.1, kc b h.2.2.2⟩
  have FO : Hid (F.ok = true) := ok_of_right FR.out.1
  have RW : Hid (∀ W, WV w F P g9 fa fn fc fb fm fd g10 p1 p2 p3 p4 p5 p6 p7 p8 p9 p10 p11 p12 W → RowsAt W ∧ Row15At W ∧ PowAt W ∧ MaxAt W) := fun W h => ⟨HR.out.keep (keeps_of_below h.bw), HR15.out.keep (keeps_of_below h.bw), HP.out.below h.bw, HM.out.keep (keeps_of_below h.bw)⟩
  have RBD : Hid (∀ W, WV w F P g9 fa fn fc fb fm fd g10 p1 p2 p3 p4 p5 p6 p7 p8 p9 p10 p11 p12 W → BV F g11 xa xn xc ha hn hc W → Calls Tryz.prog 85 #[.agg #[.int .u8 4, str [], .slice xa xn xc, .slice ha hn hc]] W fun e w' => e = .returned (.bool false) ∧ Below W.heap.size W w') := fun W h1 h2 => Right_bad F FO.out FR.out.2.2.1 FR.out.2.2.2 _ W (RW.out W h1).1 (RW.out W h1).2.1 h2.val
  have c21 : Hid (∀ W, WV w F P g9 fa fn fc fb fm fd g10 p1 p2 p3 p4 p5 p6 p7 p8 p9 p10 p11 p12 W → BV F g11 xa xn xc ha hn hc W → Calls Tryz.prog 21 #[.agg #[.int .u8 4, str [], .slice xa xn xc, .slice ha hn hc]] W fun e w' => e = .returned (.tuple #[str [], .int .i64 2]) ∧ Below W.heap.size W w') := fun W h1 h2 => Form_bad F FO.out FR.out.2.2.1 FR.out.2.2.2 _ W (RW.out W h1).1 (RW.out W h1).2.1 h2.val
  have c30 : Hid (∀ W, WV w F P g9 fa fn fc fb fm fd g10 p1 p2 p3 p4 p5 p6 p7 p8 p9 p10 p11 p12 W → BV F g11 xa xn xc ha hn hc W → Calls Tryz.prog 30 #[.agg #[.int .u8 4, str [], .slice xa xn xc, .slice ha hn hc]] W fun e w' => e = .returned (.tuple #[.slice none 0 0, .int .i64 2]) ∧ Below W.heap.size W w') := fun W h1 h2 => Outline_bad F FO.out FR.out.2.2.1 FR.out.2.2.2 _ W (RW.out W h1).1 (RW.out W h1).2.1 h2.val
  have c22 : Hid (∀ W, WV w F P g9 fa fn fc fb fm fd g10 p1 p2 p3 p4 p5 p6 p7 p8 p9 p10 p11 p12 W → BV F g11 xa xn xc ha hn hc W → ∀ o1 o2, o1 = .cells #[.int .u8 F.op, str F.name, .slice fa fn fc, .slice fb fm fd] 25 → o2 = .cells #[.int .u8 4, str [], .slice xa xn xc, .slice ha hn hc] 25 → Calls Tryz.prog 22 #[.agg #[.slice (some ⟨W.heap.size, 0, none⟩) 1 1, .slice (some ⟨W.heap.size + 1, 0, none⟩) 1 1]] ((W.alloc o1).alloc o2) fun e w' => e = .returned (.tuple #[str [], .int .i64 2]) ∧ Below W.heap.size W w') := fun W h1 h2 o1 o2 e1 e2 => by
    have bA : Below W.heap.size W ((W.alloc o1).alloc o2) := ((Below.refl _ _).alloc (Nat.le_refl _) _).alloc (by simp) _
    have k := keeps_of_below bA
    obtain ⟨_, _, _, _, _, _, e, t1, t2⟩ := fmval_keep h2.val k
    cases e
    have hc1 : ((W.alloc o1).alloc o2).heap[W.heap.size]? = some (.cells #[.int .u8 F.op, str F.name, .slice fa fn fc, .slice fb fm fd] 25 (0, 0)) := by rw [← e1]; exact kc ((Below.refl _ _).alloc (Nat.le_refl _) _) (heap_alloc_new W _)
    have hc2 : ((W.alloc o1).alloc o2).heap[W.heap.size + 1]? = some (.cells #[.int .u8 4, str [], .slice xa xn xc, .slice ha hn hc] 25 (0, 0)) := by
      rw [← e2]
      have := heap_alloc_new (W.alloc o1) o2
      rwa [World.size_alloc] at this
    refine (Claim_bad [F] (fun g hg => by simp at hg; subst hg; exact FR.out.1) F FO.out FR.out.2.2.1 FR.out.2.2.2 (by simp) _ _ ((RW.out W h1).1.keep k) ((RW.out W h1).2.1.keep k) ⟨_, _, _, _, _, _, rfl, fms_of1 hc1 (h1.f.h1.keep k) (h1.f.h2.keep k), fms_of1 (f := badFm F) hc2 t1 t2⟩).mono fun e w' ⟨h3, h4⟩ => ⟨h3, belowThen bA h4⟩
  have c24a : Hid (∀ W, WV w F P g9 fa fn fc fb fm fd g10 p1 p2 p3 p4 p5 p6 p7 p8 p9 p10 p11 p12 W → BV F g11 xa xn xc ha hn hc W → Calls Tryz.prog 24 #[.agg #[str P.rule, .int .u8 4, str [], .slice xa xn xc, .slice ha hn hc, .int .i64 P.label, .slice p7 p8 p9, .slice p10 p11 p12]] W fun e w' => e = .returned (.tuple #[.slice none 0 0, .int .i64 2]) ∧ Below W.heap.size W w') := fun W h1 h2 =>
    Proof_no _ _ _ _ _ _ _ _ W fun w' g hb hg hl => desc_bad (badFm F) P.rule P.label xa ha p7 p10 xn xc hn hc p8 p9 p11 p12 g W w' hb hg hl fun w'' hb'' => RBD.out w'' (h1.below hb'') (h2.below hb'')
  have PP : Hid (P.form.right = true ∧ shaped P.rule P.label P.sub.length P.marks = true) := by
    have := rP.out
    simp only [Pf.right, Bool.and_eq_true, decide_eq_true_eq] at this
    have := this.1.1
    obtain ⟨r, f, lb, sub, ms⟩ := P
    simp only [Pf.ok, Bool.and_eq_true] at this
    exact this.1
  have c24b : Hid (∀ W, WV w F P g9 fa fn fc fb fm fd g10 p1 p2 p3 p4 p5 p6 p7 p8 p9 p10 p11 p12 W → Calls Tryz.prog 24 #[.agg #[str P.rule, .int .u8 P.form.op, str P.form.name, .slice p1 p2 p3, .slice p4 p5 p6, .int .i64 L, .slice p7 p8 p9, .slice p10 p11 p12]] W fun e w' => e = .returned (.tuple #[.slice none 0 0, .int .i64 2]) ∧ Below W.heap.size W w') := fun W h1 =>
    Proof_no _ _ _ _ _ _ _ _ W fun w' g hb hg hl => desc_odd P.form P.rule L p1 p4 p7 p10 p2 p3 p5 p6 p8 p9 p11 p12 g W w' hb hg hl
      (fun w'' hb'' => Right_yes P.form _ w'' ((RW.out W h1).1.keep (keeps_of_below hb'')) ⟨_, _, _, _, _, _, rfl, h1.p.h1.keep (keeps_of_below hb''), h1.p.h2.keep (keeps_of_below hb'')⟩ PP.out.1)
      (fun w'' => shaped_odd P.rule P.form P.label L P.sub P.marks L0 PP.out.2 _ _ _ _ _ _ _ _ _ _ _ _ _ _ h1.p.h3.len.1 h1.p.h4.len.1 (Nat.le_trans h1.p.h3.len.2.1 h1.p.h3.len.2.2) (Nat.le_trans h1.p.h4.len.2.1 h1.p.h4.len.2.2) w'')
  obtain ⟨y0, y1, y2, y3, -, -, -, -⟩ := row25' BN5.out.2.1.cell
  go_upto_region 10 with (go_at_call 21; refine (c21.out _ BN5.out.1 BN5.out.2.1).mono ?_; rintro e w6 ⟨rfl, b6⟩; have BN6 := Lib.hid (BB.out _ _ b6 BN5.out); clear b6)
  clear y0 y1 y2 y3 BN5
  obtain ⟨y0, y1, y2, y3, -, -, -, -⟩ := row25' BN6.out.2.1.cell
  go_upto_region 11 with (go_at_call 30; refine (c30.out _ BN6.out.1 BN6.out.2.1).mono ?_; rintro e w7 ⟨rfl, b7⟩; have BN7 := Lib.hid (BB.out _ _ b7 BN6.out); clear b7)
  clear y0 y1 y2 y3 BN6
  obtain ⟨y0, y1, y2, y3, -, -, -, -⟩ := row25' BN7.out.2.1.cell
  obtain ⟨x0, x1, x2, x3, -, -, -, -⟩ := row25' BN7.out.1.f.cell
  have z9 := (Array.getElem?_eq_some_iff.1 BN7.out.1.f.cell).1
  have z11 := (Array.getElem?_eq_some_iff.1 BN7.out.2.1.cell).1
  go_upto_region 12 with (go_at_call 22; refine (c22.out _ BN7.out.1 BN7.out.2.1 _ _ rfl rfl).mono ?_; rintro e w8 ⟨rfl, b8⟩; have BN8 := Lib.hid (BB.out _ _ b8 BN7.out); clear b8)
  clear y0 y1 y2 y3 x0 x1 x2 x3 z9 z11 BN7
  obtain ⟨x0, x1, x2, x3, x4, x5, x6, x7⟩ := row53 BN8.out.2.2.1
  go_upto_region 13 with (go_at_call 24; refine (c24a.out _ BN8.out.1 BN8.out.2.1).mono ?_; rintro e w9 ⟨rfl, b9⟩; have BN9 := Lib.hid (BB.out _ _ b9 BN8.out); clear b9)
  clear x0 x1 x2 x3 x4 x5 x6 x7 BN8
  obtain ⟨x0, x1, x2, x3, x4, x5, x6, x7⟩ := row53 BN9.out.2.2.2
  go_upto_region 14 with (go_at_call 24; refine (c24b.out _ BN9.out.1).mono ?_; rintro e w10 ⟨rfl, b10⟩; have WV10 := Lib.hid (BN9.out.1.below b10); clear b10)
  clear x0 x1 x2 x3 x4 x5 x6 x7 BN9 BB RBD c21 c30 c22 c24a c24b
  obtain ⟨κ, hκ⟩ : ∃ κ, lw.tmod 8 = κ := ⟨_, rfl⟩
  obtain ⟨m0, hm0⟩ : ∃ m0, min z 0 = m0 := ⟨_, rfl⟩
  have κ0 : 0 ≤ κ ∧ κ < 8 := by rw [← hκ, Int.tmod_eq_emod_of_nonneg hv0]; omega
  have c16 : Hid (∀ W, Calls Tryz.prog 16 #[.agg #[.int .u8 κ, .int .i64 m0, .slice none 0 0, .int .i64 0, .slice none 0 0, .slice none 0 0, .slice none 0 0]] W fun e w' => e = .returned (.tuple #[.slice none 0 0, .int .i64 2]) ∧ Below W.heap.size W w') := fun W => Model_bad κ m0 κ0.1 κ0.2 (by omega) W
  go_upto_region 15 with (go_at_call 16; refine (c16.out _).mono ?_; rintro e w11 ⟨rfl, b11⟩; have WV11 := Lib.hid (WV10.out.below b11); clear b11)
  clear hκ hm0 κ0 c16 WV10
  have c46 : Hid (∀ W, WV w F P g9 fa fn fc fb fm fd g10 p1 p2 p3 p4 p5 p6 p7 p8 p9 p10 p11 p12 W → Calls Tryz.prog 46 #[.slice none 0 0] W fun e w' => e = .returned (.tuple #[.agg #[str [], .int .u8 0, str [], .slice none 0 0, .slice none 0 0, .int .i64 0, .slice none 0 0, .slice none 0 0], .int .i64 2]) ∧ Below W.heap.size W w') := fun W h =>
    (ReadProof_all [] [] rfl (by simp [pfsSteps]) (fun ln hl => by cases hl) (by simp) (fun Q _ e => by cases e) none 0 0 W (RW.out W h).2.2.2 (RW.out W h).1 (RW.out W h).2.2.1 (At.sl_nil (Nat.zero_le _))).mono fun e w' ⟨hb, hx⟩ => by
      rcases hx with ⟨_, Q, v, e1, _⟩ | ⟨_, h1⟩
      · cases e1
      · exact ⟨h1, hb⟩
  go_upto_region 16 with (go_at_call 46; refine (c46.out _ WV11.out).mono ?_; rintro e w12 ⟨rfl, b12⟩; have WV12 := Lib.hid ((WV11.out.below b12).below ((Below.refl _ _).alloc (Nat.le_refl _) (.cells #[str [], .int .u8 0, str [], .slice none 0 0, .slice none 0 0, .int .i64 0, .slice none 0 0, .slice none 0 0] 53))); clear b12)
  clear c46 WV11
  obtain ⟨R, hR⟩ : ∃ R, List.replicate lw.toNat (32 : UInt8) = R := ⟨_, rfl⟩
  have rl : R.length ≤ 255 := by rw [← hR]; simp; omega
  have c48 : Hid (∀ W, Calls Tryz.prog 48 #[.string ⟨#[32]⟩, .int .i64 lw] W fun e w' => e = .returned (str R) ∧ Below W.heap.size W w') := fun W => by
    have := repeat_c lw.toNat (by omega) W
    rw [hR, show ((lw.toNat : Nat) : Int) = lw by omega] at this
    exact this
  have c45 : Hid (∀ W, WV w F P g9 fa fn fc fb fm fd g10 p1 p2 p3 p4 p5 p6 p7 p8 p9 p10 p11 p12 W → Calls Tryz.prog 45 #[.string (⟨#[115, 104, 111, 119]⟩ ++ ⟨R.toArray⟩)] W fun e w' => e = .returned (.tuple #[.agg #[.slice none 0 0, .slice none 0 0], .int .i64 2]) ∧ Below W.heap.size W w') := fun W h => by
    have := ReadClaim_show lw.toNat (by omega) W (RW.out W h).2.2.2 (RW.out W h).1
    rw [hR] at this
    rw [str_app]
    exact this
  clear hR
  go_upto_region 17 with (first
    | (go_at_call 45; refine (c45.out _ WV13.out).mono ?_; rintro e w14 ⟨rfl, b14⟩; have WV14 := Lib.hid ((WV13.out.below b14).below ((Below.refl _ _).alloc (Nat.le_refl _) (.cells #[.slice none 0 0, .slice none 0 0] 48))); clear b14)
    | (go_at_call 48; refine (c48.out _).mono ?_; rintro e w13 ⟨rfl, b13⟩; have WV13 := Lib.hid (WV12.out.below b13); clear b13))
  clear c48 c45 WV12 WV13 rl
  have WV15 := Lib.hid (WV14.out.below ((Below.refl _ _).alloc (Nat.le_refl _) (.cells #[.int .i64 2, .int .i64 2, .int .i64 2, .int .i64 2, .int .i64 2, .int .i64 2, .int .i64 2, .int .i64 2] 37)))
  have k15 := heap_alloc_new (w14.alloc (.cells #[.slice none 0 0, .slice none 0 0] 48)) (.cells #[.int .i64 2, .int .i64 2, .int .i64 2, .int .i64 2, .int .i64 2, .int .i64 2, .int .i64 2, .int .i64 2] 37)
  rw [World.size_alloc] at k15
  go_wp2_with fail
  generalize (w14.alloc (.cells #[.slice none 0 0, .slice none 0 0] 48)).alloc (.cells #[.int .i64 2, .int .i64 2, .int .i64 2, .int .i64 2, .int .i64 2, .int .i64 2, .int .i64 2, .int .i64 2] 37) = w15 at *
  have k16 : Hid (∀ j : Nat, j < 8 → w15.cell? ⟨w14.heap.size + 1, j, none⟩ = some (.int .i64 2)) := fun j hj => by
    rw [box_cell k15]
    rcases (show j = 0 ∨ j = 1 ∨ j = 2 ∨ j = 3 ∨ j = 4 ∨ j = 5 ∨ j = 6 ∨ j = 7 by omega) with rfl | rfl | rfl | rfl | rfl | rfl | rfl | rfl <;> rfl
  clear k15
  go_loopw [31, 122] (fun u31 i wr => ∃ j : Nat, j ≤ 8 ∧ i = .int .i64 j ∧ wr = w15) (fun _ i _ => 8 - (intOf i).toNat)
  case atStart => exact ⟨0, by omega, rfl, rfl⟩
  case round =>
    obtain ⟨j, hj, rfl, rfl⟩ := hrel
    by_cases hlt : j < 8
    · have cj := k16.out j hlt
      have j1 : (j : Int) < 8 := by omega
      go_wp2_with fail
      go_roundw
      case rel => exact ⟨j + 1, by omega, by go_num, by trivial⟩
      case measure => simp [intOf]; omega
    · have j1 : ¬ (j : Int) < 8 := by omega
      clear k16
      go_upto_region 23 with fail
      obtain ⟨T, hT⟩ : ∃ T, F.text = T := ⟨_, rfl⟩
      have FF : Hid (∀ x w, RowsAt w → FmVal w F x → Calls Tryz.prog 21 #[x] w fun e w' => e = .returned (.tuple #[str T, .int .i64 0]) ∧ Below w.heap.size w w') := fun x w h1 h2 => by rw [← hT]; exact Form_yes F FR.out.1 x w h1 h2
      have QC : Hid (∀ x w, RowsAt w → PowAt w → PfVal w P x → Calls Tryz.prog 24 #[x] w (RetStrs0 (P.lines 0) w)) := fun x w h1 h2 h3 => Proof_c P x w h1 h2 h3 rP.out
      have TL : T.length ≤ 1300 := by rw [← hT]; exact FR.out.2.1
      have SPT : Hid (Lib.split T [32] = F.toks) := by show _ = _; rw [← hT]; exact split_text F FO.out
      obtain ⟨y0, y1, y2, y3, -, -, -, -⟩ := row25' WV15.out.f.cell
      obtain ⟨x0, x1, x2, x3, x4, x5, x6, x7⟩ := row53 WV15.out.p.cell
      go_upto_region 24 with (go_at_call 21; refine (FF.out _ _ (RW.out _ WV15.out).1 WV15.out.f.val).mono ?_; rintro e w16 ⟨rfl, b16⟩; have WV16 := Lib.hid (WV15.out.below b16); clear b16)
      clear y0 y1 y2 y3 x0 x1 x2 x3 x4 x5 x6 x7 WV15 FF
      obtain ⟨x0, x1, x2, x3, x4, x5, x6, x7⟩ := row53 WV16.out.p.cell
      go_upto_region 25 with (go_at_call 24; refine (QC.out _ _ (RW.out _ WV16.out).1 (RW.out _ WV16.out).2.2.1 WV16.out.p.val).mono ?_; rintro e w17 ⟨v, rfl, ho, b17⟩; obtain ⟨la, N, lc, rfl⟩ := StrsAt.slice ho.strsAt; have O17 := Lib.hid ho; have WV17 := Lib.hid (WV16.out.below b17); have B17 := Lib.hid b17; clear b17 ho)
      clear x0 x1 x2 x3 x4 x5 x6 x7 QC
      go_upto_region 27 with fail
      go_upto_region 28 with (go_at_call 31; refine (splitAt_c T [32] (by omega) (by decide) F.toks SPT.out _ (RW.out _ WV17.out).2.2.2).mono ?_; rintro e w18 ⟨rfl, hw18, b18⟩; have S18 := Lib.hid hw18; have B18 := Lib.hid b18; have WV18 := Lib.hid (WV17.out.below b18); clear hw18 b18)
      have FL : Hid (F.toks.length ≤ 1301 ∧ 1 ≤ F.toks.length) := by
        have h1 := split_le T [32] (by decide)
        rw [SPT.out] at h1
        exact ⟨by omega, List.length_pos_iff.2 (Fm.toks_ne F)⟩
      obtain ⟨M, hM⟩ : ∃ M, F.toks.length = M := ⟨_, rfl⟩
      have HMM := Lib.hid hM
      have ML : M ≤ 1301 ∧ 1 ≤ M := by rw [← hM]; exact FL.out
      obtain ⟨q6, hq6⟩ : ∃ q6, lw.tdiv 6 = q6 := ⟨_, rfl⟩
      have q60 : 0 ≤ q6 ∧ q6 < 256 := by rw [← hq6]; exact ⟨Int.tdiv_nonneg hv0 (by decide), by rw [Int.tdiv_eq_ediv_of_nonneg hv0]; omega⟩
      obtain ⟨at_, hat⟩ : ∃ at_ : Nat, q6.tmod (M : Int) = at_ := ⟨(q6.tmod (M : Int)).toNat, by have := Int.tmod_nonneg (M : Int) q60.1; omega⟩
      have atM : at_ < M := by have := Int.tmod_lt_of_pos q6 (b := (M : Int)) (by omega); omega
      obtain ⟨md, hmd⟩ : ∃ md, lw.tmod 6 = md := ⟨_, rfl⟩
      have md0 : 0 ≤ md ∧ md < 6 := by rw [← hmd, Int.tmod_eq_emod_of_nonneg hv0]; omega
      have M0 : ¬ (M : Int) = 0 := by omega
      have M0' : (M : Int) ≠ 0 := by omega
      obtain ⟨md1, md2⟩ := md0
      obtain ⟨q61, q62⟩ := q60
      obtain ⟨ML1, ML2⟩ := ML
      rw [hM]
      clear hM FL
      obtain ⟨sb, hsb⟩ : ∃ sb, w17.heap.size = sb := ⟨_, rfl⟩
      have HSB := Lib.hid hsb
      rw [hsb] at S18 ⊢
      have z18 : sb < w18.heap.size := (Array.getElem?_eq_some_iff.1 S18.out).1
      clear hsb
      have TL2 := Lib.hid (show F.text.length ≤ 1300 from FR.out.2.1)
      go_upto_block 2 with fail
      go_cut [36, 37] from 151 to 196 (fun u36 u37 wx => ∃ (V' : List Bs) (k : Nat) (xa : Option Addr) (xn xc : Nat), u36 = .slice xa xn xc ∧ u37 = .int .i64 k ∧ Hid (SW V' k ∧ OwnStrs sb wx V' (.slice xa xn xc) ∧ Below w17.heap.size w17 wx))
      case first =>
        obtain ⟨i0, hi0, hz0, hs0, hb0⟩ := info_parts info9
        have mlen : F.toks.length ≤ maxLen := by rw [HMM.out]; unfold maxLen; omega
        have ML3 := Lib.hid mlen
        clear mlen
        rcases (show md = 0 ∨ md = 1 ∨ md = 2 ∨ md = 3 ∨ md = 4 ∨ md = 5 by omega) with rfl | rfl | rfl | rfl | rfl | rfl
        · obtain ⟨x, hx⟩ := get_of_lt (l := F.toks) (j := at_) (by rw [HMM.out]; exact atM)
          have cx : w18.cell? ⟨sb, at_, none⟩ = some (str x) := by rw [box_cell S18.out]; simp [hx]
          have fx : w18.frozen? ⟨sb, at_, none⟩ = false := by simp [World.frozen?, S18.out]
          have xl : x.length ≤ 1301 := by have := sum_mem _ _ (List.mem_of_getElem? hx); have := toks_sum TL2.out; omega
          have HX := Lib.hid hx
          clear hx
          have at0 : (0 : Int) ≤ at_ := by omega
          have at1 : (at_ : Int) < M := by omega
          go_wp2_with fail
          go_meet
          refine ⟨F.toks.set at_ (wNonsense ++ x), at_, some ⟨sb, 0, none⟩, M, M, rfl, rfl, sw0 FO.out TL2.out HX.out, ?_, B18.out.setCell (Nat.le_of_eq HSB.out) _⟩
          rw [str_app]
          have := own_set (k := at_) (x := wNonsense ++ x) S18.out (Nat.le_refl sb) ML3.out
          rw [HMM.out] at this
          exact this
        · obtain ⟨x, hx⟩ := get_of_lt (l := F.toks) (j := at_) (by rw [HMM.out]; exact atM)
          have cx : w18.cell? ⟨sb, at_, none⟩ = some (str x) := by rw [box_cell S18.out]; simp [hx]
          have fx : w18.frozen? ⟨sb, at_, none⟩ = false := by simp [World.frozen?, S18.out]
          have at0 : (0 : Int) ≤ at_ := by omega
          have at1 : (at_ : Int) < M := by omega
          clear hx
          go_wp2_with fail
          go_meet
          refine ⟨F.toks.set at_ [], at_, some ⟨sb, 0, none⟩, M, M, rfl, rfl, sw1 FO.out TL2.out (by rw [HMM.out]; exact atM), ?_, B18.out.setCell (Nat.le_of_eq HSB.out) _⟩
          have := own_set (k := at_) (x := []) S18.out (Nat.le_refl sb) ML3.out
          rw [HMM.out] at this
          exact this
        · have OW : Hid (∀ o, (w18.alloc o).ownsRow sb 9 1 (.slice (some ⟨sb, 0, none⟩) M M) M (F.toks.map str)) := fun o => by
            have := (own_all S18.out (Nat.le_refl sb) ML3.out)
            unfold OwnStrs at this
            rw [HMM.out] at this
            exact this.alloc o
          go_wp2_with (at_builtin; refine wpList_append_own_at _ rfl _ _ 36 rfl sb 9 i0 (.string ⟨#[]⟩) 1 16 Tryz.underlying36 hi0 hz0 hs0 hb0 rfl (by decide) _ M (F.toks.map str) rfl (OW.out _) ⟨w18.heap.size, 0, none⟩ 1 1 [str nmP] rfl rfl (cell_one_new _ _ _) (by intro u hu; simp at hu; subst hu; rfl) (by unfold maxLen; omega) (by omega) (by simp; omega) ?_; intro v5 w19 h5 hg5 hn5 hat5; obtain ⟨g5, c5, rfl⟩ := ownsRow_succ h5; have H5 := Lib.hid h5; have HG5 := Lib.hid hg5; clear h5 hg5 hn5 hat5)
          go_meet
          refine ⟨F.toks ++ [nmP], M, some ⟨g5, 0, none⟩, M + 1, c5, rfl, rfl, by rw [← HMM.out]; exact sw2 FO.out TL2.out, ?_, (B18.out.alloc B18.out.size _).grown (show (w18.alloc (.cells #[str nmP] 9)).grownBy w19 (some sb) from HG5.out) (by have := B18.out.size; simp; omega) (fun kk hkk => by cases hkk; exact Nat.le_of_eq HSB.out)⟩
          have := H5.out
          unfold OwnStrs
          rw [List.length_append, HMM.out, List.map_append]
          exact this
        · go_wp2_with fail
          go_meet
          refine ⟨F.toks.take (M - 1), M - 1, some ⟨sb, 0, none⟩, M - 1, M, rfl, rfl, by rw [← HMM.out]; exact sw3 FO.out TL2.out, ?_, B18.out⟩
          have := own_part (n := M - 1) S18.out (Nat.le_refl sb) (by rw [HMM.out]; omega) ML3.out
          rw [HMM.out] at this
          exact this
        · have NW : Hid (∀ o, ∀ (j : Nat) (u : Value), (F.toks.map str)[j]? = some u → (w18.alloc o).cell? ((⟨sb, 0, none⟩ : Addr).add j) = some u) := fun o j u hj => by
            rw [Addr.add_lit, Nat.zero_add]
            refine keeps1 w18 o _ _ ?_
            rw [box_cell S18.out]
            simpa using hj
          have OW : Hid ((w18.alloc (.cells #[str wNot, str wThen] 9)).ownsRow sb 9 1 (.slice (some ⟨w18.heap.size, 0, none⟩) 2 2) 2 [str wNot, str wThen]) := ⟨rfl, .inr ⟨w18.heap.size, 2, #[str wNot, str wThen], rfl, by omega, heap_alloc_new w18 _, Nat.le_refl _, by decide, rfl, rfl⟩⟩
          go_wp2_with (at_builtin; refine wpList_append_own_at _ rfl _ _ 36 rfl sb 9 i0 (.string ⟨#[]⟩) 1 16 Tryz.underlying36 hi0 hz0 hs0 hb0 rfl (by decide) _ 2 [str wNot, str wThen] rfl OW.out ⟨sb, 0, none⟩ M M (F.toks.map str) rfl (by rw [List.length_map, HMM.out, Nat.mul_one]) (NW.out _) (by intro u hu; obtain ⟨x, _, rfl⟩ := List.mem_map.1 hu; rfl) (by unfold maxLen; omega) (by omega) (by simp; omega) ?_; intro v5 w19 h5 hg5 hn5 hat5; obtain ⟨a5, c5, rfl⟩ := row_form h5; have H5 := Lib.hid h5; have HG5 : Hid ((w18.alloc (.cells #[str wNot, str wThen] 9)).grownBy w19 (some w18.heap.size)) := hg5; clear h5 hg5 hn5 hat5)
          go_meet
          refine ⟨wNot :: wThen :: F.toks, 1, a5, 2 + M, c5, rfl, rfl, sw4 FO.out TL2.out, ?_, (B18.out.alloc B18.out.size _).grown HG5.out (by have := B18.out.size; simp; omega) (fun kk hkk => by cases hkk; exact B18.out.size)⟩
          have := H5.out
          unfold OwnStrs
          rw [show (wNot :: wThen :: F.toks).length = 2 + M by simp only [List.length_cons]; rw [HMM.out]; omega]
          exact this
        · have NW : Hid (∀ o, ∀ (j : Nat) (u : Value), (F.toks.map str)[j]? = some u → (w18.alloc o).cell? ((⟨sb, 0, none⟩ : Addr).add j) = some u) := fun o j u hj => by
            rw [Addr.add_lit, Nat.zero_add]
            refine keeps1 w18 o _ _ ?_
            rw [box_cell S18.out]
            simpa using hj
          have OW : Hid ((w18.alloc (.cells #[str wBoth] 9)).ownsRow sb 9 1 (.slice (some ⟨w18.heap.size, 0, none⟩) 1 1) 1 [str wBoth]) := ⟨rfl, .inr ⟨w18.heap.size, 1, #[str wBoth], rfl, by omega, heap_alloc_new w18 _, Nat.le_refl _, by decide, rfl, rfl⟩⟩
          go_wp2_with (at_builtin; refine wpList_append_own_at _ rfl _ _ 36 rfl sb 9 i0 (.string ⟨#[]⟩) 1 16 Tryz.underlying36 hi0 hz0 hs0 hb0 rfl (by decide) _ 1 [str wBoth] rfl OW.out ⟨sb, 0, none⟩ M M (F.toks.map str) rfl (by rw [List.length_map, HMM.out, Nat.mul_one]) (NW.out _) (by intro u hu; obtain ⟨x, _, rfl⟩ := List.mem_map.1 hu; rfl) (by unfold maxLen; omega) (by omega) (by simp; omega) ?_; intro v5 w19 h5 hg5 hn5 hat5; obtain ⟨a5, c5, rfl⟩ := row_form h5; have H5 := Lib.hid h5; have HG5 : Hid ((w18.alloc (.cells #[str wBoth] 9)).grownBy w19 (some w18.heap.size)) := hg5; clear h5 hg5 hn5 hat5)
          go_meet
          refine ⟨wBoth :: F.toks, M + 1, a5, 1 + M, c5, rfl, by congr 1; omega, by rw [← HMM.out]; exact sw5 FO.out TL2.out, ?_, (B18.out.alloc B18.out.size _).grown HG5.out (by have := B18.out.size; simp; omega) (fun kk hkk => by cases hkk; exact B18.out.size)⟩
          have := H5.out
          unfold OwnStrs
          rw [show (wBoth :: F.toks).length = 1 + M by simp only [List.length_cons]; rw [HMM.out]; omega]
          exact this
      case rest =>
      obtain ⟨V', kk, va, vn, vc, rfl, rfl, HS⟩ := hcut
      have BS := Lib.hid HS.out.2.2
      have OS := Lib.hid HS.out.2.1
      have SWH := Lib.hid HS.out.1
      have WVc := Lib.hid (WV17.out.below HS.out.2.2)
      have OL := Lib.hid (OwnStrs.below O17.out HS.out.2.2)
      clear HS S18 B18 WV18 HSB
      obtain ⟨J, hJ⟩ : ∃ J, joinBy [32] V' = J := ⟨_, rfl⟩
      have vl : V'.length ≤ 16385 := by
        have h1 := SWH.out.len
        by_cases h : V' = []
        · subst h; simp
        · have h2 := join_sum V' h
          have h3 := length_le_sum V'
          omega
      have c37 : Hid (∀ W, OwnStrs sb W V' (.slice va vn vc) → Calls Tryz.prog 37 #[.slice va vn vc, .string ⟨#[32]⟩] W fun e w' => e = .returned (str J) ∧ Below W.heap.size W w') := fun W h => by
        rw [← hJ]; exact join_any [32] h (by omega) (by have := SWH.out.len; omega)
      have c43 : Hid (∀ W, MaxAt W → RowsAt W → Calls Tryz.prog 43 #[str J] W fun e w' => e = .returned (.tuple #[.agg #[.int .u8 0, str [], .slice none 0 0, .slice none 0 0], .int .i64 kk, .int .i64 410]) ∧ Below W.heap.size W w') := fun W h1 h2 =>
        Read_wrong J (by rw [← hJ]; exact SWH.out.len) kk (by rw [← hJ, wordsOf_join SWH.out.sp]; exact SWH.out.wr) W h1 h2
      have VN : Hid (vn = V'.length) := OS.out.strsAt.len.1
      clear hJ vl
      go_upto_region 47 with (first
        | (go_at_call 43; refine (c43.out _ (RW.out _ WV20.out).2.2.2 (RW.out _ WV20.out).1).mono ?_; rintro e w21 ⟨rfl, b21⟩; have B22 := Lib.hid (belowThen (belowThen B20.out b21) ((Below.refl _ _).alloc (Nat.le_refl _) (.cells #[.int .u8 0, str [], .slice none 0 0, .slice none 0 0] 25))); clear b21)
        | (go_at_call 37; refine (c37.out _ OS.out).mono ?_; rintro e w20 ⟨rfl, b20⟩; have WV20 := Lib.hid (WVc.out.below b20); have B20 := Lib.hid b20; clear b20))
      have WV22 := Lib.hid (WVc.out.below B22.out)
      have BS22 := Lib.hid (belowThen BS.out B22.out)
      have OL22 := Lib.hid (OwnStrs.below OL.out B22.out)
      clear c37 c43 OS OL WVc WV20 B20 B22 BS
      obtain ⟨w22, hw22⟩ : ∃ W, w21.alloc (.cells #[.int .u8 0, str [], .slice none 0 0, .slice none 0 0] 25) = W := ⟨_, rfl⟩
      rw [hw22] at WV22 BS22 OL22
      change Code.wp _ _ _ _ (w21.alloc (.cells #[.int .u8 0, str [], .slice none 0 0, .slice none 0 0] 25))
      rw [hw22]
      clear hw22
      have KM : Hid (∀ kx : Nat, md = 3 → vn = 0 → kk = 0) := fun _ h1 h2 => by
        have h3 := VN.out
        have h4 : V' = [] := List.eq_nil_of_length_eq_zero (by omega)
        have h5 := SWH.out.wr
        rw [h4, if_pos (.inl rfl)] at h5
        obtain ⟨r, _, h6⟩ := h5
        simp at h6
        omega
      have PS : Hid (P.ok = true ∧ P.steps ≤ 31) := by
        have h := rP.out
        simp only [Pf.right, Bool.and_eq_true, decide_eq_true_eq] at h
        exact ⟨h.1.1, HPS.out⟩
      have NL : Hid (N = P.steps) := by have := OL22.out.strsAt.len.1; rw [Pf.lines_length] at this; exact this
      obtain ⟨n1, hn1⟩ : ∃ n1, P.steps = n1 + 1 := ⟨P.steps - 1, by have := Pf.steps_pos P; omega⟩
      have N1 : N = n1 + 1 := by rw [NL.out, hn1]
      have N31 : N ≤ 31 := by rw [NL.out]; exact PS.out.2
      obtain ⟨x, hx⟩ := get_of_lt (l := P.lines 0) (j := n1) (by rw [Pf.lines_length]; omega)
      obtain ⟨lb, hla⟩ : ∃ lb, la = some ⟨lb, 0, none⟩ := by
        rcases OL22.out.2 with ⟨h1, _⟩ | ⟨g, cap, cur, h1, _⟩
        · exfalso
          have : N = 0 := by cases h1; rfl
          omega
        · exact ⟨g, by cases h1; rfl⟩
      subst hla
      have cx : w22.cell? ⟨lb, n1, none⟩ = some (str x) := by
        obtain ⟨b, off, e, hc⟩ := OL22.out.strsAt.get (ne_of_get hx)
        cases e
        have := hc n1 x hx
        simpa using this
      have HX := Lib.hid hx
      have nz : (N : Int) - 1 = n1 := by omega
      have nlt : (n1 : Int) < N := by omega
      have nge : (0 : Int) ≤ n1 := by omega
      have three : (md = 3 ∧ vn = 0) ∨ (md = 3 ∧ vn ≠ 0) ∨ md ≠ 3 := by omega
      obtain ⟨i0, hi0, hz0, hs0, hb0⟩ := info_parts info9
      have LL := Lib.hid (last_line P)
      have ex : x = lineOf (0, P) := by
        have h1 := HX.out
        rw [LL.out, List.getElem?_append_right (by rw [pfsLines_post, List.length_map, pfsPost_length]; have := LL.out; have h2 := Pf.lines_length P 0; rw [LL.out, List.length_append, pfsLines_post, List.length_map, pfsPost_length] at h2; simp at h2; omega)] at h1
        have h2 := Pf.lines_length P 0
        rw [LL.out, List.length_append] at h2
        rw [show n1 - (pfsLines 0 P.sub).length = 0 by simp at h2; omega] at h1
        simpa using h1.symm
      have XL : Hid (x.length ≤ 1000000000) := by
        show _ ≤ _
        have := body_len PS.out.1 (k := 0) (by have := PS.out.2; omega)
        have h2 := itoa_len (n := ((0 + pfsSteps P.sub + 1 : Nat) : Int)) (by omega) (by have := PS.out.2; have := steps_sub P; omega)
        rw [ex]
        unfold lineOf
        simp only [List.length_append, show colon.length = 2 from rfl]
        omega
      have BAD : Hid (BadLine x) := by
        have h0 := XL.out
        rw [ex] at h0
        show BadLine x
        rw [ex]
        exact lastLine_bad PS.out.1 (0 + pfsSteps P.sub + 1) (by have := PS.out.2; have := steps_sub P; omega) (premTexts 0 P.sub P.marks) h0
      have PRE : Hid (Lib.hasPrefix x (Lib.itoa ((pfsSteps [P] : Nat) + 1 : Int) ++ colon) = false) := by
        show _ = _
        rw [ex, show ((pfsSteps [P] : Nat) : Int) + 1 = ((P.steps + 1 : Nat) : Int) by simp [pfsSteps]]
        unfold lineOf
        exact line_other (by have := steps_sub P; simp only; omega) _
      have c46a : Hid (∀ W a5 m5 c5, WV w F P g9 fa fn fc fb fm fd g10 p1 p2 p3 p4 p5 p6 p7 p8 p9 p10 p11 p12 W → W.ownsRow w16.heap.size 9 1 (.slice a5 m5 c5) (N + 1) ((P.lines 0).map str ++ [str x]) → Calls Tryz.prog 46 #[.slice a5 m5 c5] W fun e w' => e = .returned (.tuple #[.agg #[str [], .int .u8 0, str [], .slice none 0 0, .slice none 0 0, .int .i64 0, .slice none 0 0, .slice none 0 0], .int .i64 2]) ∧ Below W.heap.size W w') := fun W a5 m5 c5 h1 h2 => by
        have hS : StrsAt W (pfsLines 0 [P] ++ [x]) (.slice a5 m5 c5) := by
          have : OwnStrs w16.heap.size W (P.lines 0 ++ [x]) (.slice a5 m5 c5) := by
            unfold OwnStrs
            rw [List.length_append, Pf.lines_length, List.map_append, ← NL.out]
            exact h2
          have := this.strsAt
          simpa [pfsLines] using this
        have hX : ∀ ln ∈ [x], ln.length ≤ 1000000000 ∧ BadLine ln ∧ Lib.hasPrefix ln (Lib.itoa ((pfsSteps [P] : Nat) + 1 : Int) ++ colon) = false := by
          intro ln hl
          obtain rfl : ln = x := by simpa using hl
          exact ⟨XL.out, BAD.out, PRE.out⟩
        refine (ReadProof_all [P] [x] (by simp [pfsOk, PS.out.1]) (by simp [pfsSteps]; have := PS.out.2; omega) hX (by simp) (fun Q h => by cases h) _ _ _ W (RW.out W h1).2.2.2 (RW.out W h1).1 (RW.out W h1).2.2.1 hS).mono fun e w' ⟨hb, hx⟩ => ?_
        rcases hx with ⟨h, _⟩ | ⟨_, h⟩
        · cases h
        · exact ⟨h, hb⟩
      have c46b : Hid (∀ W a5 m5 c5, WV w F P g9 fa fn fc fb fm fd g10 p1 p2 p3 p4 p5 p6 p7 p8 p9 p10 p11 p12 W → StrsAt W (pfsLines 0 P.sub) (.slice a5 m5 c5) → Calls Tryz.prog 46 #[.slice a5 m5 c5] W fun e w' => ∃ (Q : Pf) (s1 : Option Addr) (s2 s3 : Nat) (s4 : Option Addr) (s5 s6 : Nat) (s7 : Option Addr) (s8 s9 : Nat) (s10 : Option Addr) (s11 s12 : Nat) (e2 : Int), e = .returned (.tuple #[.agg #[str Q.rule, .int .u8 Q.form.op, str Q.form.name, .slice s1 s2 s3, .slice s4 s5 s6, .int .i64 Q.label, .slice s7 s8 s9, .slice s10 s11 s12], .int .i64 e2]) ∧ ((e2 = 0 ∧ P.sub.length = 1) ∨ (e2 = 2 ∧ P.sub.length ≠ 1)) ∧ Below W.heap.size W w') := fun W a5 m5 c5 h1 h2 => by
        refine (ReadProof_all P.sub [] (sub_ok PS.out.1) (by have := PS.out.2; have := steps_sub P; simp; omega) (fun ln hl => by cases hl) (by simp) (fun Q _ e => sub_right rP.out e) _ _ _ W (RW.out W h1).2.2.2 (RW.out W h1).1 (RW.out W h1).2.2.1 (by rw [List.append_nil]; exact h2)).mono fun e w' ⟨hb, hx⟩ => ?_
        rcases hx with ⟨_, Q, v, e1, e2, hv⟩ | ⟨h3, h4⟩
        · obtain ⟨_, _, _, _, _, _, _, _, _, _, _, _, rfl, _⟩ := hv
          exact ⟨Q, _, _, _, _, _, _, _, _, _, _, _, _, 0, e2, .inl ⟨rfl, by rw [e1]; rfl⟩, hb⟩
        · refine ⟨.mk [] (.mk 0 [] [] []) 0 [] [], _, _, _, _, _, _, _, _, _, _, _, _, 2, h4, .inr ⟨rfl, ?_⟩, hb⟩
          rcases h3 with h3 | h3
          · exact absurd rfl h3
          · exact h3
      have BX22 : Hid (Below w16.heap.size w16 w22) := belowThen B17.out BS22.out
      have LB : Hid (w16.heap.size ≤ lb ∧ lb < w22.heap.size) := OL22.out.lt lb rfl
      have KX : Hid (∀ (o : Obj) W, (w22.alloc o).grownBy W (some lb) → Below w16.heap.size w16 W) := fun o W h => (BX22.out.alloc BX22.out.size _).grown h (by have := BX22.out.size; simp; omega) (fun kk hkk => by cases hkk; exact LB.out.1)
      have OWA : Hid (∀ o, (w22.alloc o).ownsRow w16.heap.size 9 1 (.slice (some ⟨lb, 0, none⟩) N lc) N ((P.lines 0).map str)) := fun o => by
        have h := OL22.out
        unfold OwnStrs at h
        rw [Pf.lines_length, ← NL.out] at h
        exact h.alloc o
      have CXA : Hid (∀ o, o = .cells #[str x] 9 → (w22.alloc o).cell? ⟨w22.heap.size, 0, none⟩ = some (str x)) := fun o e => by
        subst e
        rw [box_cell (heap_alloc_new w22 _)]; rfl
      have ZB : Hid (∀ o, w16.heap.size ≤ (w22.alloc o).heap.size) := fun o => by have := BX22.out.size; simp; omega
      have NL1 : Hid (n1 ≤ (P.lines 0).length) := by show _ ≤ _; rw [Pf.lines_length]; omega
      have TK : Hid ((P.lines 0).take n1 = pfsLines 0 P.sub) := by
        show _ = _
        have h2 := Pf.lines_length P 0
        rw [LL.out, List.length_append] at h2
        have : n1 = (pfsLines 0 P.sub).length := by simp at h2; omega
        rw [LL.out, this, List.take_left]
      have NP1 : 1 ≤ N := by omega
      have NLC : N ≤ lc := by have := OL22.out.strsAt.len.2.1; omega
      have NLC1 : (n1 : Int) ≤ lc := by omega
      have NL1N : Hid (n1 ≤ N) := by show _ ≤ _; omega
      clear N1 hn1 ex
      clear hmd hq6 hat hx
      rcases three with h3 | h3 | h3
      case' inl =>
        obtain ⟨rfl, rfl⟩ := h3
        obtain rfl := KM.out 0 rfl rfl
        go_upto_region 49 with fail
      case' inr.inl =>
        obtain ⟨rfl, h0⟩ := h3
        have h1 : ((vn : Int) == 0) = false := by simp; omega
        go_upto_region 49 with fail
      case' inr.inr =>
        have h1 : (md == 3) = false := by simp; omega
        go_upto_region 49 with fail
      all_goals
        go_upto_region 50 with (first
          | (at_builtin; refine wpList_append_keep _ rfl _ _ 36 rfl w16.heap.size 9 i0 (.string ⟨#[]⟩) 16 Tryz.underlying36 hi0 hz0 hs0 hb0 rfl lb N lc ((P.lines 0).map str) rfl (OWA.out _) ⟨w22.heap.size, 0, none⟩ 1 (str x) rfl (CXA.out _ rfl) rfl (by unfold maxLen; omega) (by omega) (ZB.out _) ?_; intro v5 w23 h5 hg5 hk5; obtain ⟨a5, c5, rfl⟩ := row_form h5; have H5 := Lib.hid h5; have HK5O : Hid (OwnStrs w16.heap.size w23 (P.lines 0) (.slice (some ⟨lb, 0, none⟩) N lc)) := (by show OwnStrs _ _ _ _; unfold OwnStrs; rw [Pf.lines_length, ← NL.out]; exact hk5); have BX23 := Lib.hid (KX.out _ _ hg5); have WV23 := Lib.hid (WV16.out.below BX23.out); clear h5 hg5 hk5)
          | (go_at_call 46; refine (c46a.out _ _ _ _ WV23.out H5.out).mono ?_; rintro e w24 ⟨rfl, b24⟩; have B25 := Lib.hid (belowThen b24 ((Below.refl _ _).alloc (Nat.le_refl _) (.cells #[str [], .int .u8 0, str [], .slice none 0 0, .slice none 0 0, .int .i64 0, .slice none 0 0, .slice none 0 0] 53))); clear b24))
        have WV25 := Lib.hid (WV23.out.below B25.out)
        have OT25 := Lib.hid (own_take (OwnStrs.below HK5O.out B25.out) (j := n1) NL1N.out)
        obtain ⟨w25, hw25⟩ : ∃ W, w24.alloc (.cells #[str [], .int .u8 0, str [], .slice none 0 0, .slice none 0 0, .int .i64 0, .slice none 0 0, .slice none 0 0] 53) = W := ⟨_, rfl⟩
        rw [hw25] at WV25 OT25
        rw [TK.out] at OT25
        change Code.wp _ _ _ _ (w24.alloc (.cells #[str [], .int .u8 0, str [], .slice none 0 0, .slice none 0 0, .int .i64 0, .slice none 0 0, .slice none 0 0] 53))
        rw [hw25]
        clear hw25 B25 WV23 BX23 HK5O H5 OWA CXA ZB KX c46a
        go_upto_region 51 with (go_at_call 46; refine (c46b.out _ _ _ _ WV25.out OT25.out.strsAt).mono ?_; rintro e w26 ⟨Q, s1, s2, s3, s4, s5, s6, s7, s8, s9, s10, s11, s12, e2, rfl, he2, b26⟩; have HE2 := Lib.hid he2; have WV27 := Lib.hid ((WV25.out.below b26).below ((Below.refl _ _).alloc (Nat.le_refl _) (.cells #[str Q.rule, .int .u8 Q.form.op, str Q.form.name, .slice s1 s2 s3, .slice s4 s5 s6, .int .i64 Q.label, .slice s7 s8 s9, .slice s10 s11 s12] 53))); clear b26 he2)
        have P8 : p8 = P.sub.length := WV27.out.p.h3.len.1
        obtain ⟨x0, x1, x2, x3, x4, x5, x6, x7⟩ := row53 WV27.out.p.cell
        rcases HE2.out with ⟨rfl, hq⟩ | ⟨rfl, hq⟩
        case' inl => have hq8 : (p8 : Int) = 1 := by omega
        case' inr => have hq8 : ((p8 : Int) == 1) = false := by simp; omega
        all_goals
          clear P8
          go_wp2_with fail
          try go_ret
          exact ⟨rfl, WV27.out.bw⟩
end Go.Proofs.YtcandidgaegghaaGreatDoor
