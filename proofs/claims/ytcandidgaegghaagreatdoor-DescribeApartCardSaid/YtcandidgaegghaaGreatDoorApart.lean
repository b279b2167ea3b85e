/- lyceumlaw41.DescribeApart answers true, whatever its bytes are. Conditions: the program's tables (rows, powers of ten, MaxLen) lie as laid. -/
import Derived.Test.YtcandidgaegghaaGreatDoorAwake
import Derived.Test.YtcandidgaegghaaGreatDoorCmp
import Derived.Test.YtcandidgaegghaaGreatDoorProved
import Derived.Test.YtcandidgaegghaaGreatDoorApA
import Derived.Outline
import Derived.Deep.CutBlock
namespace Go.Proofs.YtcandidgaegghaaGreatDoor
open Go Go.RowKit Ly
open Go.Sort (grow)
set_option maxRecDepth 10000
set_option linter.unusedSimpArgs false
set_option linter.unusedVariables false
set_option maxHeartbeats 2000000
/-- The two formulas in their variables. -/
structure AP (w : World) (F G : Fm) (fa : Option Addr) (fn fc : Nat) (fb : Option Addr) (fm fd : Nat) (ga : Option Addr) (gn gc : Nat) (gb : Option Addr) (gm gd : Nat) (g7 g8 : Nat) (wx : World) : Prop where
  bw : Below w.heap.size w wx
  c7 : wx.heap[g7]? = some (.cells #[.int .u8 F.op, str F.name, .slice fa fn fc, .slice fb fm fd] 25 (0, 0))
  c8 : wx.heap[g8]? = some (.cells #[.int .u8 G.op, str G.name, .slice ga gn gc, .slice gb gm gd] 25 (0, 0))
  ta : TmsAt wx F.args (.slice fa fn fc)
  ts : FmsAt wx F.sub (.slice fb fm fd)
  ua : TmsAt wx G.args (.slice ga gn gc)
  us : FmsAt wx G.sub (.slice gb gm gd)
theorem AP.below {w : World} {F G : Fm} {fa : Option Addr} {fn fc : Nat} {fb : Option Addr} {fm fd : Nat} {ga : Option Addr} {gn gc : Nat} {gb : Option Addr} {gm gd : Nat} {g7 g8 : Nat} {wx wy : World} (h : AP w F G fa fn fc fb fm fd ga gn gc gb gm gd g7 g8 wx) (b : Below wx.heap.size wx wy) : AP w F G fa fn fc fb fm fd ga gn gc gb gm gd g7 g8 wy :=
  ⟨belowThen h.bw b, kc b h.c7, kc b h.c8, h.ta.keep (keeps_of_below b), h.ts.keep (keeps_of_below b), h.ua.keep (keeps_of_below b), h.us.keep (keeps_of_below b)⟩
/- The plain law. -/
theorem form_apart {F G : Fm} (hF : F.right = true) (hG : G.right = true) : (F.text == G.text) = F.same G := by
  rw [Bool.eq_iff_iff, beq_iff_eq, Fm.same_iff]
  exact ⟨fun h => Fm.text_inj (ok_of_right hF) (ok_of_right hG) h, fun h => by rw [h]⟩
theorem claims_apart {F G : Fm} (hF : F.right = true) (hG : G.right = true) {L R : List Fm} (h : L = [F, G] ∧ R = [] ∨ L = [G] ∧ R = [F]) : (claimText [F] [G] == claimText L R) = (fmsSame [F] L && fmsSame [G] R) := by
  have h1 : ∀ g ∈ [F], g.right = true := fun g hg => by rw [List.mem_singleton.1 hg]; exact hF
  have h2 : ∀ g ∈ [G], g.right = true := fun g hg => by rw [List.mem_singleton.1 hg]; exact hG
  have hL : ∀ g ∈ L, g.right = true := by
    rcases h with ⟨rfl, rfl⟩ | ⟨rfl, rfl⟩
    · intro g hg; rcases List.mem_cons.1 hg with e | e
      · rw [e]; exact hF
      · exact h2 g e
    · exact h2
  have hR : ∀ g ∈ R, g.right = true := by
    rcases h with ⟨rfl, rfl⟩ | ⟨rfl, rfl⟩
    · intro g hg; cases hg
    · exact h1
  have n2 : claimParts L R ≠ [] := by
    rcases h with ⟨rfl, rfl⟩ | ⟨rfl, rfl⟩ <;> simp [claimParts]
  rw [Bool.eq_iff_iff, beq_iff_eq, Bool.and_eq_true, fmsSame_iff, fmsSame_iff]
  exact ⟨fun e => claim_inj h1 hL h2 hR (by simp [claimParts]) n2 e, fun ⟨e1, e2⟩ => by rw [← e1, ← e2]⟩
theorem proofs_apart {P Q : Pf} (hP : P.right = true) (hQ : Q.right = true) : (P.lines 0 == Q.lines 0) = P.same Q := by
  simp only [Pf.right, Bool.and_eq_true, decide_eq_true_eq] at hP hQ
  rw [Bool.eq_iff_iff, beq_iff_eq, Pf.same_iff]
  exact ⟨fun h => Pf.told (by simp [hP]) (by simp [hQ]) h, fun h => by rw [h]⟩
/-- The claims, right behind their statement. -/
structure AQ0 (w : World) (F G : Fm) (fa : Option Addr) (fn fc : Nat) (fb : Option Addr) (fm fd : Nat) (ga : Option Addr) (gn gc : Nat) (gb : Option Addr) (gm gd : Nat) (g7 g8 g13 g14 y z u : Nat) (w5 wx : World) : Prop where
  ap : AP w F G fa fn fc fb fm fd ga gn gc gb gm gd g7 g8 w5
  bw : Below w5.heap.size w5 wx
  c13 : wx.heap[g13]? = some (.cells #[.slice (some ⟨y, 0, none⟩) 1 1, .slice (some ⟨z, 0, none⟩) 1 1] 48 (0, 0))
  c14 : wx.heap[g14]? = some (.cells #[.slice (some ⟨u, 0, none⟩) 2 2, .slice none 0 0] 48 (0, 0))
  cy : wx.heap[y]? = some (.cells #[.int .u8 F.op, str F.name, .slice fa fn fc, .slice fb fm fd] 25 (0, 0))
  cz : wx.heap[z]? = some (.cells #[.int .u8 G.op, str G.name, .slice ga gn gc, .slice gb gm gd] 25 (0, 0))
  cu : wx.heap[u]? = some (.cells #[.int .u8 F.op, str F.name, .slice fa fn fc, .slice fb fm fd, .int .u8 G.op, str G.name, .slice ga gn gc, .slice gb gm gd] 25 (0, 0))
  ne : g13 ≠ g14
  h14 : w5.heap.size ≤ g14
/-- The claims, the second one as chosen. -/
structure AQ (w : World) (F G : Fm) (fa : Option Addr) (fn fc : Nat) (fb : Option Addr) (fm fd : Nat) (ga : Option Addr) (gn gc : Nat) (gb : Option Addr) (gm gd : Nat) (g7 g8 g13 g14 : Nat) (L R : List Fm) (vl vr : Value) (y z : Nat) (wx : World) : Prop where
  ap : AP w F G fa fn fc fb fm fd ga gn gc gb gm gd g7 g8 wx
  c13 : wx.heap[g13]? = some (.cells #[.slice (some ⟨y, 0, none⟩) 1 1, .slice (some ⟨z, 0, none⟩) 1 1] 48 (0, 0))
  c14 : wx.heap[g14]? = some (.cells #[vl, vr] 48 (0, 0))
  ly : FmsAt wx [F] (.slice (some ⟨y, 0, none⟩) 1 1)
  lz : FmsAt wx [G] (.slice (some ⟨z, 0, none⟩) 1 1)
  ll : FmsAt wx L vl
  lr : FmsAt wx R vr
theorem AQ.below {w : World} {F G : Fm} {fa : Option Addr} {fn fc : Nat} {fb : Option Addr} {fm fd : Nat} {ga : Option Addr} {gn gc : Nat} {gb : Option Addr} {gm gd : Nat} {g7 g8 g13 g14 : Nat} {L R : List Fm} {vl vr : Value} {y z : Nat} {wx wy : World} (A : AQ w F G fa fn fc fb fm fd ga gn gc gb gm gd g7 g8 g13 g14 L R vl vr y z wx) (b : Below wx.heap.size wx wy) : AQ w F G fa fn fc fb fm fd ga gn gc gb gm gd g7 g8 g13 g14 L R vl vr y z wy :=
  ⟨A.ap.below b, kc b A.c13, kc b A.c14, A.ly.keep (keeps_of_below b), A.lz.keep (keeps_of_below b), A.ll.keep (keeps_of_below b), A.lr.keep (keeps_of_below b)⟩
theorem AQ0.stay {w : World} {F G : Fm} {fa : Option Addr} {fn fc : Nat} {fb : Option Addr} {fm fd : Nat} {ga : Option Addr} {gn gc : Nat} {gb : Option Addr} {gm gd : Nat} {g7 g8 g13 g14 y z u : Nat} {w5 wx : World} (A : AQ0 w F G fa fn fc fb fm fd ga gn gc gb gm gd g7 g8 g13 g14 y z u w5 wx) : AQ w F G fa fn fc fb fm fd ga gn gc gb gm gd g7 g8 g13 g14 [F, G] [] (.slice (some ⟨u, 0, none⟩) 2 2) (.slice none 0 0) y z wx :=
  have P := A.ap.below A.bw
  ⟨P, A.c13, A.c14, fms_of1 A.cy P.ta P.ts, fms_of1 A.cz P.ua P.us, fms_of2 A.cu P.ta P.ts P.ua P.us, At.sl_nil (Nat.zero_le _)⟩
theorem AQ0.turn {w : World} {F G : Fm} {fa : Option Addr} {fn fc : Nat} {fb : Option Addr} {fm fd : Nat} {ga : Option Addr} {gn gc : Nat} {gb : Option Addr} {gm gd : Nat} {g7 g8 g13 g14 y z u : Nat} {w5 wx : World} (A : AQ0 w F G fa fn fc fb fm fd ga gn gc gb gm gd g7 g8 g13 g14 y z u w5 wx) : AQ w F G fa fn fc fb fm fd ga gn gc gb gm gd g7 g8 g13 g14 [G] [F] (.slice (some ⟨wx.heap.size, 0, none⟩) 1 1) (.slice (some ⟨wx.heap.size + 1, 0, none⟩) 1 1) y z ((((wx.setCell ⟨g14, 0, none⟩ (.slice (some ⟨wx.heap.size, 0, none⟩) 1 1)).setCell ⟨g14, 1, none⟩ (.slice (some ⟨wx.heap.size + 1, 0, none⟩) 1 1)).alloc (.cells #[.int .u8 G.op, str G.name, .slice ga gn gc, .slice gb gm gd] 25)).alloc (.cells #[.int .u8 F.op, str F.name, .slice fa fn fc, .slice fb fm fd] 25)) := by
  have z14 := (Array.getElem?_eq_some_iff.1 A.c14).1
  have hs : ((wx.setCell ⟨g14, 0, none⟩ (.slice (some ⟨wx.heap.size, 0, none⟩) 1 1)).setCell ⟨g14, 1, none⟩ (.slice (some ⟨wx.heap.size + 1, 0, none⟩) 1 1)).heap.size = wx.heap.size := by simp
  have h1 := set_block (o := 1) (u := .slice (some ⟨wx.heap.size + 1, 0, none⟩) 1 1) (set_block (o := 0) (u := .slice (some ⟨wx.heap.size, 0, none⟩) 1 1) A.c14)
  have B1 : Below w5.heap.size w5 ((wx.setCell ⟨g14, 0, none⟩ (.slice (some ⟨wx.heap.size, 0, none⟩) 1 1)).setCell ⟨g14, 1, none⟩ (.slice (some ⟨wx.heap.size + 1, 0, none⟩) 1 1)) := (A.bw.setCell A.h14 _).setCell A.h14 _
  have off : ∀ b, b ≠ g14 → ((wx.setCell ⟨g14, 0, none⟩ (.slice (some ⟨wx.heap.size, 0, none⟩) 1 1)).setCell ⟨g14, 1, none⟩ (.slice (some ⟨wx.heap.size + 1, 0, none⟩) 1 1)).heap[b]? = wx.heap[b]? := fun b hb => by rw [Below.heap_setCell _ _ _ _ hb, Below.heap_setCell _ _ _ _ hb]
  have k : ∀ (b : Nat) (cs : Array Value), wx.heap[b]? = some (Obj.cells cs 25 (0, 0)) → ((wx.setCell ⟨g14, 0, none⟩ (.slice (some ⟨wx.heap.size, 0, none⟩) 1 1)).setCell ⟨g14, 1, none⟩ (.slice (some ⟨wx.heap.size + 1, 0, none⟩) 1 1)).heap[b]? = some (Obj.cells cs 25 (0, 0)) := fun b cs h => by
    rw [off b (fun e => by subst e; rw [A.c14] at h; simp at h)]; exact h
  have c13 := (off g13 A.ne).trans A.c13
  have cy := k _ _ A.cy
  have cz := k _ _ A.cz
  generalize ((wx.setCell ⟨g14, 0, none⟩ (.slice (some ⟨wx.heap.size, 0, none⟩) 1 1)).setCell ⟨g14, 1, none⟩ (.slice (some ⟨wx.heap.size + 1, 0, none⟩) 1 1)) = W at *
  have n0 := heap_alloc2_old W (.cells #[.int .u8 G.op, str G.name, .slice ga gn gc, .slice gb gm gd] 25) (.cells #[.int .u8 F.op, str F.name, .slice fa fn fc, .slice fb fm fd] 25)
  have n1 := heap_alloc2_new W (.cells #[.int .u8 G.op, str G.name, .slice ga gn gc, .slice gb gm gd] 25) (.cells #[.int .u8 F.op, str F.name, .slice fa fn fc, .slice fb fm fd] 25)
  have B : Below w5.heap.size w5 ((W.alloc (.cells #[.int .u8 G.op, str G.name, .slice ga gn gc, .slice gb gm gd] 25)).alloc (.cells #[.int .u8 F.op, str F.name, .slice fa fn fc, .slice fb fm fd] 25)) := (B1.alloc B1.size _).alloc (by have := B1.size; simp; omega) _
  have P := A.ap.below B
  rw [hs] at n0 n1
  exact ⟨P, ka _ (ka _ c13), ka _ (ka _ (h1.trans rfl)), fms_of1 (ka _ (ka _ cy)) P.ta P.ts, fms_of1 (ka _ (ka _ cz)) P.ua P.us, fms_of1 n0 P.ua P.us, fms_of1 n1 P.ta P.ts⟩
/-- A proof in its variable. -/
structure PV (P : Pf) (g : Nat) (a : Option Addr) (n c : Nat) (b : Option Addr) (m d : Nat) (s : Option Addr) (sn sc : Nat) (q : Option Addr) (qn qc : Nat) (wx : World) : Prop where
  cell : wx.heap[g]? = some (.cells #[str P.rule, .int .u8 P.form.op, str P.form.name, .slice a n c, .slice b m d, .int .i64 P.label, .slice s sn sc, .slice q qn qc] 53 (0, 0))
  h1 : TmsAt wx P.form.args (.slice a n c)
  h2 : FmsAt wx P.form.sub (.slice b m d)
  h3 : PfsAt wx P.sub (.slice s sn sc)
  h4 : MarksAt wx P.marks (.slice q qn qc)
theorem PV.below {P : Pf} {g : Nat} {a : Option Addr} {n c : Nat} {b : Option Addr} {m d : Nat} {s : Option Addr} {sn sc : Nat} {q : Option Addr} {qn qc : Nat} {wx wy : World} (h : PV P g a n c b m d s sn sc q qn qc wx) (k : Below wx.heap.size wx wy) : PV P g a n c b m d s sn sc q qn qc wy :=
  ⟨kc k h.cell, h.h1.keep (keeps_of_below k), h.h2.keep (keeps_of_below k), h.h3.keep (keeps_of_below k), h.h4.keep (keeps_of_below k)⟩
theorem PV.val {P : Pf} {g : Nat} {a : Option Addr} {n c : Nat} {b : Option Addr} {m d : Nat} {s : Option Addr} {sn sc : Nat} {q : Option Addr} {qn qc : Nat} {wx : World} (h : PV P g a n c b m d s sn sc q qn qc wx) : PfVal wx P (.agg #[str P.rule, .int .u8 P.form.op, str P.form.name, .slice a n c, .slice b m d, .int .i64 P.label, .slice s sn sc, .slice q qn qc]) :=
  ⟨_, _, _, _, _, _, _, _, _, _, _, _, rfl, h.h1, h.h2, h.h3, h.h4⟩
theorem row48 {w : World} {b : Nat} {x y : Value} (h : w.heap[b]? = some (.cells #[x, y] 48 (0, 0))) :
    w.cell? ⟨b, 0, none⟩ = some x ∧ w.cell? ⟨b, 1, none⟩ = some y ∧ w.frozen? ⟨b, 0, none⟩ = false ∧ w.frozen? ⟨b, 1, none⟩ = false :=
  ⟨(box_cell h 0).trans rfl, (box_cell h 1).trans rfl, by simp [World.frozen?, h], by simp [World.frozen?, h]⟩
set_option maxHeartbeats 4000000 in
theorem apart_c (l m : Bs) (a a' : Option Addr) (n c n' c' : Nat) (sd : Int) (s0 : 0 ≤ sd) (s1 : sd < 256) (w : World) (hr : RowsAt w) (hp : PowAt w) (hm : MaxAt w) (hl : BtsAt w l (.slice a n c)) (hl' : BtsAt w m (.slice a' n' c')) :
    Calls Tryz.prog 5 #[.slice a n c, .slice a' n' c', .int .u8 sd] w fun e w' => e = .returned (.bool true) ∧ Below w.heap.size w w' := by
  have HR := Lib.hid hr
  have HP := Lib.hid hp
  have HM := Lib.hid hm
  have HL := Lib.hid hl
  have HL' := Lib.hid hl'
  clear hr hp hm hl hl'
  obtain ⟨F, hF⟩ : ∃ F, built l = F := ⟨_, rfl⟩
  obtain ⟨G, hG⟩ : ∃ G, built m = G := ⟨_, rfl⟩
  have rF : Hid (F.right = true) := by rw [Hid, ← hF]; exact built_right l
  have rG : Hid (G.right = true) := by rw [Hid, ← hG]; exact built_right m
  have EF := Lib.hid hF
  have EG := Lib.hid hG
  clear hF hG
  go_enter Tryz.func5, Tryz.ntmps5
  go_upto_region 3 with (go_at_call 14; refine (awake_c _ HR.out HP.out HM.out).mono ?_; rintro e w1 ⟨rfl, b1⟩; have B1 := Lib.hid b1; clear b1)
  go_cut [7, 8] from 27 to 30 (fun u7 u8 wx => ∃ fa fn fc fb fm fd ga gn gc gb gm gd g7 g8, u7 = one g7 ∧ u8 = one g8 ∧ Hid (AP w F G fa fn fc fb fm fd ga gn gc gb gm gd g7 g8 wx))
  case first =>
    go_wp2_with (first
      | (go_at_call_of 20 (Value.slice a n c); refine (built_c l _ _ _ _ (HL.out.keep (keeps_of_below B1.out))).mono ?_; rintro e w2 ⟨fa, fn, fc, fb, fm, fd, rfl, ht, hs, b2⟩; rw [EF.out] at ht hs ⊢; have H2 := Lib.hid (And.intro ht (And.intro hs b2)); clear ht hs b2)
      | (go_at_call_of 20 (Value.slice a' n' c'); refine (built_c m _ _ _ _ (HL'.out.keep (keeps_of_below (belowThen B1.out H2.out.2.2)))).mono ?_; rintro e w3 ⟨ga, gn, gc, gb, gm, gd, rfl, ht, hs, b3⟩; rw [EG.out] at ht hs ⊢; have H3 := Lib.hid (And.intro ht (And.intro hs b3)); clear ht hs b3))
    go_meet
    have K2 : Keeps w2 ((w3.alloc (.cells #[.int .u8 F.op, str F.name, .slice fa fn fc, .slice fb fm fd] 25)).alloc (.cells #[.int .u8 G.op, str G.name, .slice ga gn gc, .slice gb gm gd] 25)) := (keeps_of_below H3.out.2.2).trans (keeps2 _ _ _)
    refine ⟨fa, fn, fc, fb, fm, fd, ga, gn, gc, gb, gm, gd, _, _, rfl, rfl, ?_, heap_alloc2_old _ _ _, heap_alloc2_new _ _ _, (H2.out.1.keep (hide_keeps _ _)).keep K2, (H2.out.2.1.keep (hide_keeps _ _)).keep K2, (H3.out.1.keep (hide_keeps _ _)).keep (keeps2 _ _ _), (H3.out.2.1.keep (hide_keeps _ _)).keep (keeps2 _ _ _)⟩
    exact belowThen (belowThen B1.out (belowThen H2.out.2.2 H3.out.2.2)) (((Below.refl _ _).alloc (Nat.le_refl _) _).alloc (by simp) _)
  case rest =>
  obtain ⟨fa, fn, fc, fb, fm, fd, ga, gn, gc, gb, gm, gd, g7, g8, rfl, rfl, A⟩ := hcut
  clear B1
  obtain ⟨p0, p1, p2, p3, -, -, -, -⟩ := row25' A.out.c7
  obtain ⟨q0, q1, q2, q3, -, -, -, -⟩ := row25' A.out.c8
  go_upto_region 6 with (first
    | (go_at_call 21; refine (Form_yes F rF.out _ _ (HR.out.keep (keeps_of_below A.out.bw)) ⟨_, _, _, _, _, _, rfl, A.out.ta, A.out.ts⟩).mono ?_; rintro e w4 ⟨rfl, b4⟩; have K := keeps_of_below b4; replace p0 := K _ _ p0; replace q0 := K _ _ q0; replace p1 := K _ _ p1; replace q1 := K _ _ q1; replace p2 := K _ _ p2; replace q2 := K _ _ q2; replace p3 := K _ _ p3; replace q3 := K _ _ q3; have A4 := Lib.hid (A.out.below b4); clear K b4 A)
    | (go_at_call 21; refine (Form_yes G rG.out _ _ (HR.out.keep (keeps_of_below A4.out.bw)) ⟨_, _, _, _, _, _, rfl, A4.out.ua, A4.out.us⟩).mono ?_; rintro e w5 ⟨rfl, b5⟩; have K := keeps_of_below b5; replace p0 := K _ _ p0; replace q0 := K _ _ q0; replace p1 := K _ _ p1; replace q1 := K _ _ q1; replace p2 := K _ _ p2; replace q2 := K _ _ q2; replace p3 := K _ _ p3; replace q3 := K _ _ q3; have A5 := Lib.hid (A4.out.below b5); clear K b5 A4))
  go_cut [13, 14] from 41 to 49 (fun u13 u14 wx => ∃ g13 g14 y z u, u13 = one g13 ∧ u14 = one g14 ∧ Hid (AQ0 w F G fa fn fc fb fm fd ga gn gc gb gm gd g7 g8 g13 g14 y z u w5 wx))
  case first =>
    refine wp_region_inv (fun (listed : Array Bool) (act : Act) (w' : World) => ∃ x13 x14 x41 x42 x43 x44 x45 x46 x47 x48 x49 : Value, act = ⟨List.toArray ((Value.slice a n c) :: (Value.slice a' n' c') :: (Value.int IntKind.u8 sd) :: undef :: undef :: undef :: (Value.bool false) :: (one g7) :: (one g8) :: (str F.text) :: (Value.int IntKind.i64 0) :: (str G.text) :: (Value.int IntKind.i64 0) :: x13 :: x14 :: undef :: undef :: undef :: undef :: undef :: undef :: undef :: undef :: undef :: undef :: (Value.bool true) :: (Value.bool false) :: u27 :: u28 :: u29 :: u30 :: (Value.tuple #[str F.text, Value.int IntKind.i64 0]) :: (Value.agg #[Value.int IntKind.u8 F.op, str F.name, Value.slice fa fn fc, Value.slice fb fm fd]) :: (Value.tuple #[str F.text, Value.int IntKind.i64 0]) :: (str F.text) :: (Value.int IntKind.i64 0) :: (Value.tuple #[str G.text, Value.int IntKind.i64 0]) :: (Value.agg #[Value.int IntKind.u8 G.op, str G.name, Value.slice ga gn gc, Value.slice gb gm gd]) :: (Value.tuple #[str G.text, Value.int IntKind.i64 0]) :: (str G.text) :: (Value.int IntKind.i64 0) :: x41 :: x42 :: x43 :: x44 :: x45 :: x46 :: x47 :: x48 :: x49 :: undef :: undef :: undef :: undef :: undef :: undef :: undef :: undef :: undef :: undef :: undef :: undef :: undef :: undef :: undef :: undef :: undef :: undef :: undef :: undef :: undef :: undef :: undef :: undef :: undef :: undef :: undef :: undef :: undef :: undef :: undef :: undef :: undef :: undef :: undef :: undef :: undef :: undef :: undef :: undef :: undef :: undef :: undef :: undef :: undef :: undef :: undef :: undef :: undef :: undef :: undef :: undef :: undef :: undef :: undef :: undef :: undef :: undef :: undef :: undef :: undef :: undef :: undef :: undef :: undef :: undef :: undef :: undef :: undef :: []), []⟩ ∧ I6 w5 F G fa fn fc fb fm fd ga gn gc gb gm gd listed x13 x14 x41 x42 x43 x44 x45 x46 x47 x48 x49 w') (by kernel_rfl) (by kernel_rfl) (fun listed act w' h => ?_) ⟨undef, undef, undef, undef, undef, undef, undef, undef, undef, undef, undef, rfl, ?_⟩ [0, 1, 2, 3, 4, 5, 6, 7, 8, 9, 10, 11, 12] (by kernel_rfl) ?_ ?_
    · obtain ⟨x13, x14, x41, x42, x43, x44, x45, x46, x47, x48, x49, _, I⟩ := h; exact I.sz
    · constructor
      · rfl
      · exact (Below.refl _ _).drew
      all_goals (intro h; exact (replicate_none h).elim)
    refine AllSteps.cons rfl (fun listed act wI hI hr K hK => ?_) ?_
    · obtain ⟨x13, x14, x41, x42, x43, x44, x45, x46, x47, x48, x49, rfl, I⟩ := hI
      have r0 := keeps_of_below I.bw _ _ p0; have r1 := keeps_of_below I.bw _ _ p1; have r2 := keeps_of_below I.bw _ _ p2; have r3 := keeps_of_below I.bw _ _ p3
      go_simp
      exact hK.out _ _ ⟨_, _, _, _, _, _, _, _, _, _, _, rfl, I.s0⟩
    refine AllSteps.cons rfl (fun listed act wI hI hr K hK => ?_) ?_
    · obtain ⟨x13, x14, x41, x42, x43, x44, x45, x46, x47, x48, x49, rfl, I⟩ := hI
      obtain rfl := I.f0 (dep_listed (depB_spec (by kernel_rfl)) hr : listed.getD 0 false = true)
      go_simp
      exact hK.out _ _ ⟨_, _, _, _, _, _, _, _, _, _, _, rfl, (I.alloc _).s1 ⟨_, rfl, I.bw.size, heap_alloc_new _ _⟩⟩
    refine AllSteps.cons rfl (fun listed act wI hI hr K hK => ?_) ?_
    · obtain ⟨x13, x14, x41, x42, x43, x44, x45, x46, x47, x48, x49, rfl, I⟩ := hI
      have r0 := keeps_of_below I.bw _ _ q0; have r1 := keeps_of_below I.bw _ _ q1; have r2 := keeps_of_below I.bw _ _ q2; have r3 := keeps_of_below I.bw _ _ q3
      go_simp
      exact hK.out _ _ ⟨_, _, _, _, _, _, _, _, _, _, _, rfl, I.s2⟩
    refine AllSteps.cons rfl (fun listed act wI hI hr K hK => ?_) ?_
    · obtain ⟨x13, x14, x41, x42, x43, x44, x45, x46, x47, x48, x49, rfl, I⟩ := hI
      obtain rfl := I.f2 (dep_listed (depB_spec (by kernel_rfl)) hr : listed.getD 2 false = true)
      go_simp
      exact hK.out _ _ ⟨_, _, _, _, _, _, _, _, _, _, _, rfl, (I.alloc _).s3 ⟨_, rfl, I.bw.size, heap_alloc_new _ _⟩⟩
    refine AllSteps.cons rfl (fun listed act wI hI hr K hK => ?_) ?_
    · obtain ⟨x13, x14, x41, x42, x43, x44, x45, x46, x47, x48, x49, rfl, I⟩ := hI
      have d1 := (dep_listed (depB_spec (by kernel_rfl)) hr : listed.getD 1 false = true)
      have d3 := (dep_listed (depB_spec (by kernel_rfl)) hr : listed.getD 3 false = true)
      obtain ⟨y1, rfl, -⟩ := I.f1 d1
      obtain ⟨z1, rfl, -⟩ := I.f3 d3
      go_simp
      exact hK.out _ _ ⟨_, _, _, _, _, _, _, _, _, _, _, rfl, I.s4 d1 d3⟩
    refine AllSteps.cons rfl (fun listed act wI hI hr K hK => ?_) ?_
    · obtain ⟨x13, x14, x41, x42, x43, x44, x45, x46, x47, x48, x49, rfl, I⟩ := hI
      have r0 := keeps_of_below I.bw _ _ p0; have r1 := keeps_of_below I.bw _ _ p1; have r2 := keeps_of_below I.bw _ _ p2; have r3 := keeps_of_below I.bw _ _ p3
      go_simp
      exact hK.out _ _ ⟨_, _, _, _, _, _, _, _, _, _, _, rfl, I.s5⟩
    refine AllSteps.cons rfl (fun listed act wI hI hr K hK => ?_) ?_
    · obtain ⟨x13, x14, x41, x42, x43, x44, x45, x46, x47, x48, x49, rfl, I⟩ := hI
      have r0 := keeps_of_below I.bw _ _ q0; have r1 := keeps_of_below I.bw _ _ q1; have r2 := keeps_of_below I.bw _ _ q2; have r3 := keeps_of_below I.bw _ _ q3
      go_simp
      exact hK.out _ _ ⟨_, _, _, _, _, _, _, _, _, _, _, rfl, I.s6⟩
    refine AllSteps.cons rfl (fun listed act wI hI hr K hK => ?_) ?_
    · obtain ⟨x13, x14, x41, x42, x43, x44, x45, x46, x47, x48, x49, rfl, I⟩ := hI
      obtain rfl := I.f5 (dep_listed (depB_spec (by kernel_rfl)) hr : listed.getD 5 false = true)
      obtain rfl := I.f6 (dep_listed (depB_spec (by kernel_rfl)) hr : listed.getD 6 false = true)
      go_simp
      exact hK.out _ _ ⟨_, _, _, _, _, _, _, _, _, _, _, rfl, (I.alloc _).s7 ⟨_, rfl, I.bw.size, heap_alloc_new _ _⟩⟩
    refine AllSteps.cons rfl (fun listed act wI hI hr K hK => ?_) ?_
    · obtain ⟨x13, x14, x41, x42, x43, x44, x45, x46, x47, x48, x49, rfl, I⟩ := hI
      have d7 := (dep_listed (depB_spec (by kernel_rfl)) hr : listed.getD 7 false = true)
      obtain ⟨y1, rfl, -⟩ := I.f7 d7
      go_simp
      exact hK.out _ _ ⟨_, _, _, _, _, _, _, _, _, _, _, rfl, I.s8 d7⟩
    refine AllSteps.cons rfl (fun listed act wI hI hr K hK => ?_) ?_
    · obtain ⟨x13, x14, x41, x42, x43, x44, x45, x46, x47, x48, x49, rfl, I⟩ := hI
      have hu := ready_un I.sz (by decide) hr
      go_simp
      refine hK.out _ _ ⟨_, _, _, _, _, _, _, _, _, _, _, rfl, (I.alloc _).s9 hu I.bw.size (heap_alloc_new _ _) (fun h => ?_)⟩
      obtain ⟨g', _, _, e, _, h2, _⟩ := I.f10 h
      rw [e]; intro e2
      have := (Array.getElem?_eq_some_iff.1 h2).1
      simp [one] at e2 <;> omega
    refine AllSteps.cons rfl (fun listed act wI hI hr K hK => ?_) ?_
    · obtain ⟨x13, x14, x41, x42, x43, x44, x45, x46, x47, x48, x49, rfl, I⟩ := hI
      have hu := ready_un I.sz (by decide) hr
      go_simp
      refine hK.out _ _ ⟨_, _, _, _, _, _, _, _, _, _, _, rfl, (I.alloc _).s10 hu I.bw.size (heap_alloc_new _ _) (fun h => ?_)⟩
      obtain ⟨g', _, _, e, _, h2, _⟩ := I.f9 h
      rw [e]; intro e2
      have := (Array.getElem?_eq_some_iff.1 h2).1
      simp [one] at e2 <;> omega
    refine AllSteps.cons rfl (fun listed act wI hI hr K hK => ?_) ?_
    · obtain ⟨x13, x14, x41, x42, x43, x44, x45, x46, x47, x48, x49, rfl, I⟩ := hI
      obtain ⟨g, y, z, rfl, rfl, ⟨v, u, hh⟩, I'⟩ := I.s11 (dep_listed (depB_spec (by kernel_rfl)) hr : listed.getD 9 false = true) (dep_listed (depB_spec (by kernel_rfl)) hr : listed.getD 4 false = true)
      obtain ⟨e0, e1, e2, e3⟩ := row48 hh
      go_simp
      exact hK.out _ _ ⟨_, _, _, _, _, _, _, _, _, _, _, rfl, I'⟩
    refine AllSteps.cons rfl (fun listed act wI hI hr K hK => ?_) ?_
    · obtain ⟨x13, x14, x41, x42, x43, x44, x45, x46, x47, x48, x49, rfl, I⟩ := hI
      obtain ⟨g, y, rfl, rfl, ⟨v, u, hh⟩, I'⟩ := I.s12 (dep_listed (depB_spec (by kernel_rfl)) hr : listed.getD 10 false = true) (dep_listed (depB_spec (by kernel_rfl)) hr : listed.getD 8 false = true)
      obtain ⟨e0, e1, e2, e3⟩ := row48 hh
      go_simp
      exact hK.out _ _ ⟨_, _, _, _, _, _, _, _, _, _, _, rfl, I'⟩
    exact AllSteps.nil
    · rintro act w' ⟨listed, ⟨x13, x14, x41, x42, x43, x44, x45, x46, x47, x48, x49, rfl, I⟩, all⟩
      obtain ⟨g13, v1, v2, rfl, g1, h1, k1⟩ := I.f9 (all 9 (by decide))
      obtain ⟨g14, v3, v4, rfl, g2, h2, k2⟩ := I.f10 (all 10 (by decide))
      obtain ⟨⟨y, rfl, _, hy⟩, ⟨z, rfl, _, hz⟩⟩ := k1 (all 11 (by decide))
      obtain ⟨⟨u, rfl, _, hu⟩, rfl⟩ := k2 (all 12 (by decide))
      have hne : g13 ≠ g14 := fun e => I.ne (all 9 (by decide)) (all 10 (by decide)) (by rw [e])
      have A6 := Lib.hid (⟨A5.out, I.bw, h1, h2, hy, hz, hu, hne, g2⟩ : AQ0 w F G fa fn fc fb fm fd ga gn gc gb gm gd g7 g8 g13 g14 y z u w5 w')
      go_wp2_with fail
      go_meet
      exact ⟨g13, g14, y, z, u, rfl, rfl, A6.out⟩
  case rest =>
  obtain ⟨g13, g14, y, z, u, rfl, rfl, A0⟩ := hcut
  clear p0 p1 p2 p3 q0 q1 q2 q3
  have P0 := A0.out.ap.below A0.out.bw
  obtain ⟨p0, p1, p2, p3, -, -, -, -⟩ := row25' P0.c7
  obtain ⟨q0, q1, q2, q3, -, -, -, -⟩ := row25' P0.c8
  obtain ⟨r0, r1, r2, r3⟩ := row48 A0.out.c14
  have z14 := (Array.getElem?_eq_some_iff.1 A0.out.c14).1
  have z7 := (Array.getElem?_eq_some_iff.1 P0.c7).1
  have z8 := (Array.getElem?_eq_some_iff.1 P0.c8).1
  clear P0
  go_upto_if 52 with (fail)
  go_cut [] from 50 to 57 (fun wx => ∃ L R la ln lc ra rn rc, Hid (AQ w F G fa fn fc fb fm fd ga gn gc gb gm gd g7 g8 g13 g14 L R (.slice la ln lc) (.slice ra rn rc) y z wx ∧ (L = [F, G] ∧ R = [] ∨ L = [G] ∧ R = [F])))
  case first =>
    rcases (show sd % 2 = 0 ∨ sd % 2 = 1 by omega) with hs2 | hs2
    · go_wp2_with fail
      go_meet
      exact ⟨_, _, _, _, _, _, _, _, A0.out.stay, .inl ⟨rfl, rfl⟩⟩
    · go_wp2_with fail
      go_meet
      exact ⟨_, _, _, _, _, _, _, _, A0.out.turn, .inr ⟨rfl, rfl⟩⟩
  case rest =>
  obtain ⟨L, R, la, ln, lc, ra, rn, rc, A⟩ := hcut
  have HLR := Lib.hid A.out.2
  have AA := Lib.hid A.out.1
  clear A A0 p0 p1 p2 p3 q0 q1 q2 q3 r0 r1 r2 r3 z14 z7 z8
  have hLR : Hid ((∀ g ∈ L, g.right = true) ∧ (∀ g ∈ R, g.right = true) ∧ L.length + R.length ≤ 1000) := by
    rcases HLR.out with ⟨rfl, rfl⟩ | ⟨rfl, rfl⟩
    · exact ⟨fun g hg => (by rcases List.mem_cons.1 hg with rfl | hg; exact rF.out; rw [List.mem_singleton.1 hg]; exact rG.out), fun g hg => (by cases hg), by simp⟩
    · exact ⟨fun g hg => (by rw [List.mem_singleton.1 hg]; exact rG.out), fun g hg => (by rw [List.mem_singleton.1 hg]; exact rF.out), by simp⟩
  have hFG : Hid ((∀ g ∈ [F], g.right = true) ∧ (∀ g ∈ [G], g.right = true) ∧ [F].length + [G].length ≤ 1000) := ⟨fun g hg => (by rw [List.mem_singleton.1 hg]; exact rF.out), fun g hg => (by rw [List.mem_singleton.1 hg]; exact rG.out), by simp⟩
  obtain ⟨r0, r1, -, -⟩ := row48 AA.out.c13
  obtain ⟨t0, t1, -, -⟩ := row48 AA.out.c14
  go_upto_region 11 with (first
    | (go_at_call 22; refine (Claim_c [F] [G] hFG.out.1 hFG.out.2.1 hFG.out.2.2 _ _ (HR.out.keep (keeps_of_below AA.out.ap.bw)) ⟨_, _, _, _, _, _, rfl, AA.out.ly, AA.out.lz⟩).mono ?_; rintro e w8 ⟨rfl, b8⟩; have K := keeps_of_below b8; replace r0 := K _ _ r0; replace r1 := K _ _ r1; replace t0 := K _ _ t0; replace t1 := K _ _ t1; have A8 := Lib.hid (AA.out.below b8); clear K b8 AA)
    | (go_at_call 22; refine (Claim_c L R hLR.out.1 hLR.out.2.1 hLR.out.2.2 _ _ (HR.out.keep (keeps_of_below A8.out.ap.bw)) ⟨_, _, _, _, _, _, rfl, A8.out.ll, A8.out.lr⟩).mono ?_; rintro e w9 ⟨rfl, b9⟩; have K := keeps_of_below b9; replace r0 := K _ _ r0; replace r1 := K _ _ r1; replace t0 := K _ _ t0; replace t1 := K _ _ t1; have A9 := Lib.hid (A8.out.below b9); clear K b9 A8))
  obtain ⟨T1, hT1⟩ : ∃ T1, claimText [F] [G] = T1 := ⟨_, rfl⟩
  obtain ⟨T2, hT2⟩ : ∃ T2, claimText L R = T2 := ⟨_, rfl⟩
  rw [hT1, hT2]
  have HT := Lib.hid (And.intro hT1 hT2)
  clear hT1 hT2
  obtain ⟨P, hP⟩ : ∃ P, proved l = P := ⟨_, rfl⟩
  obtain ⟨Q, hQ⟩ : ∃ Q, proved m = Q := ⟨_, rfl⟩
  have rP : Hid (P.right = true) := by rw [Hid, ← hP]; exact proved_right l
  have rQ : Hid (Q.right = true) := by rw [Hid, ← hQ]; exact proved_right m
  have EP := Lib.hid hP
  have EQ := Lib.hid hQ
  clear hP hQ
  go_cut [19, 20] from 68 to 71 (fun u19 u20 wx => ∃ p1 p2 p3 p4 p5 p6 p7 p8 p9 p10 p11 p12 q1 q2 q3 q4 q5 q6 q7 q8 q9 q10 q11 q12 g19 g20, u19 = one g19 ∧ u20 = one g20 ∧ Hid (Below w9.heap.size w9 wx ∧ PV P g19 p1 p2 p3 p4 p5 p6 p7 p8 p9 p10 p11 p12 wx ∧ PV Q g20 q1 q2 q3 q4 q5 q6 q7 q8 q9 q10 q11 q12 wx))
  case first =>
    go_wp2_with (first
      | (go_at_call_of 23 (Value.slice a n c); refine (proved_c l _ _ _ _ (HL.out.keep (keeps_of_below A9.out.ap.bw))).mono ?_; rintro e w10 ⟨v, rfl, ⟨p1, p2, p3, p4, p5, p6, p7, p8, p9, p10, p11, p12, rfl, h1, h2, h3, h4⟩, b10⟩; rw [EP.out] at h1 h2 h3 h4 ⊢; have H10 := Lib.hid (And.intro h1 (And.intro h2 (And.intro h3 (And.intro h4 b10)))); clear h1 h2 h3 h4 b10)
      | (go_at_call_of 23 (Value.slice a' n' c'); refine (proved_c m _ _ _ _ (HL'.out.keep (keeps_of_below (belowThen A9.out.ap.bw H10.out.2.2.2.2)))).mono ?_; rintro e w11 ⟨v, rfl, ⟨q1, q2, q3, q4, q5, q6, q7, q8, q9, q10, q11, q12, rfl, h1, h2, h3, h4⟩, b11⟩; rw [EQ.out] at h1 h2 h3 h4 ⊢; have H11 := Lib.hid (And.intro h1 (And.intro h2 (And.intro h3 (And.intro h4 b11)))); clear h1 h2 h3 h4 b11))
    go_meet
    obtain ⟨h1, h2, h3, h4, b10⟩ := H10.out
    obtain ⟨k1, k2, k3, k4, b11⟩ := H11.out
    have K0 := keeps_of_below b11
    refine ⟨p1, p2, p3, p4, p5, p6, p7, p8, p9, p10, p11, p12, q1, q2, q3, q4, q5, q6, q7, q8, q9, q10, q11, q12, _, _, rfl, rfl, ?_, ⟨heap_alloc2_old _ _ _, (h1.keep K0).keep (keeps2 _ _ _), (h2.keep K0).keep (keeps2 _ _ _), (h3.keep K0).keep (keeps2 _ _ _), (h4.keep K0).keep (keeps2 _ _ _)⟩, ⟨heap_alloc2_new _ _ _, k1.keep (keeps2 _ _ _), k2.keep (keeps2 _ _ _), k3.keep (keeps2 _ _ _), k4.keep (keeps2 _ _ _)⟩⟩
    exact belowThen (belowThen b10 b11) (((Below.refl _ _).alloc (Nat.le_refl _) _).alloc (by simp) _)
  case rest =>
  obtain ⟨p1, p2, p3, p4, p5, p6, p7, p8, p9, p10, p11, p12, q1, q2, q3, q4, q5, q6, q7, q8, q9, q10, q11, q12, g19, g20, rfl, rfl, H⟩ := hcut
  clear r0 r1 t0 t1
  have A10 := Lib.hid (A9.out.below H.out.1)
  have V19 := Lib.hid H.out.2.1
  have V20 := Lib.hid H.out.2.2
  clear A9 H
  obtain ⟨x0, x1, x2, x3, x4, x5, x6, x7⟩ := row53 V19.out.cell
  obtain ⟨y0, y1, y2, y3, y4, y5, y6, y7⟩ := row53 V20.out.cell
  go_upto_region 14 with (first
    | (go_at_call 24; refine (Proof_c P _ _ (HR.out.keep (keeps_of_below A10.out.ap.bw)) (HP.out.below A10.out.ap.bw) V19.out.val rP.out).mono ?_; rintro e w12 ⟨v, rfl, ho, b12⟩; obtain ⟨la1, ln1, lc1, rfl⟩ := StrsAt.slice ho.strsAt; have O12 := Lib.hid ho.strsAt; have A12 := Lib.hid (A10.out.below b12); have K := keeps_of_below b12; replace y0 := K _ _ y0; replace y1 := K _ _ y1; replace y2 := K _ _ y2; replace y3 := K _ _ y3; replace y4 := K _ _ y4; replace y5 := K _ _ y5; replace y6 := K _ _ y6; replace y7 := K _ _ y7; have W19 := Lib.hid (V19.out.below b12); have W20 := Lib.hid (V20.out.below b12); clear ho b12 K A10 V19 V20 x0 x1 x2 x3 x4 x5 x6 x7)
    | (go_at_call 24; refine (Proof_c Q _ _ (HR.out.keep (keeps_of_below A12.out.ap.bw)) (HP.out.below A12.out.ap.bw) W20.out.val rQ.out).mono ?_; rintro e w13 ⟨v, rfl, ho, b13⟩; obtain ⟨la2, ln2, lc2, rfl⟩ := StrsAt.slice ho.strsAt; have O13 := Lib.hid ho.strsAt; have O12' := Lib.hid (O12.out.keep (keeps_of_below b13)); have A13 := Lib.hid (A12.out.below b13); have V19 := Lib.hid (W19.out.below b13); have V20 := Lib.hid (W20.out.below b13); clear ho b13 A12 W19 W20 O12 y0 y1 y2 y3 y4 y5 y6 y7))
  go_upto_region 16 with fail
  obtain ⟨B1, hB1⟩ : ∃ B1, F.same G = B1 := ⟨_, rfl⟩
  obtain ⟨B2, hB2⟩ : ∃ B2, (fmsSame [F] L && fmsSame [G] R) = B2 := ⟨_, rfl⟩
  obtain ⟨B3, hB3⟩ : ∃ B3, P.same Q = B3 := ⟨_, rfl⟩
  have e1 : (F.text == G.text) = B1 := by rw [← hB1]; exact form_apart rF.out rG.out
  have e2 : (T1 == T2) = B2 := by rw [← hB2, ← HT.out.1, ← HT.out.2]; exact claims_apart rF.out rG.out HLR.out
  have hB4 : (P.lines 0 == Q.lines 0) = B3 := by rw [← hB3]; exact proofs_apart rP.out rQ.out
  obtain ⟨p0, p1', p2', p3', -, -, -, -⟩ := row25' A13.out.ap.c7
  obtain ⟨q0, q1', q2', q3', -, -, -, -⟩ := row25' A13.out.ap.c8
  obtain ⟨r0, r1, -, -⟩ := row48 A13.out.c13
  obtain ⟨t0, t1, -, -⟩ := row48 A13.out.c14
  obtain ⟨x0, x1, x2, x3, x4, x5, x6, x7⟩ := row53 V19.out.cell
  obtain ⟨y0, y1, y2, y3, y4, y5, y6, y7⟩ := row53 V20.out.cell
  replace p0 := cell_regrown p0; replace p1' := cell_regrown p1'; replace p2' := cell_regrown p2'; replace p3' := cell_regrown p3'
  replace q0 := cell_regrown q0; replace q1' := cell_regrown q1'; replace q2' := cell_regrown q2'; replace q3' := cell_regrown q3'
  replace r0 := cell_regrown r0; replace r1 := cell_regrown r1; replace t0 := cell_regrown t0; replace t1 := cell_regrown t1
  replace x0 := cell_regrown x0; replace x1 := cell_regrown x1; replace x2 := cell_regrown x2; replace x3 := cell_regrown x3; replace x4 := cell_regrown x4; replace x5 := cell_regrown x5; replace x6 := cell_regrown x6; replace x7 := cell_regrown x7
  replace y0 := cell_regrown y0; replace y1 := cell_regrown y1; replace y2 := cell_regrown y2; replace y3 := cell_regrown y3; replace y4 := cell_regrown y4; replace y5 := cell_regrown y5; replace y6 := cell_regrown y6; replace y7 := cell_regrown y7
  have c25 : Hid (∀ d os, Calls Tryz.prog 25 #[.agg #[.int .u8 F.op, str F.name, .slice fa fn fc, .slice fb fm fd], .agg #[.int .u8 G.op, str G.name, .slice ga gn gc, .slice gb gm gd]] (grow (redrawn w13 d) os) fun e w'' => e = .returned (.bool B1) ∧ ∃ p : Regrown, w'' = grow (redrawn w13 p.d) p.os) := fun d os => by
    have K : Keeps w13 (grow (redrawn w13 d) os) := keeps_of_below (below_regrown w13 d os)
    have := Calls.regrown_of (synSame_c F G _ _ (grow (redrawn w13 d) os) ⟨_, _, _, _, _, _, rfl, A13.out.ap.ta.keep K, A13.out.ap.ts.keep K⟩ ⟨_, _, _, _, _, _, rfl, A13.out.ap.ua.keep K, A13.out.ap.us.keep K⟩)
    rw [hB1] at this; exact this
  have c26 : Hid (∀ d os, Calls Tryz.prog 26 #[.agg #[.slice (some ⟨y, 0, none⟩) 1 1, .slice (some ⟨z, 0, none⟩) 1 1], .agg #[.slice la ln lc, .slice ra rn rc]] (grow (redrawn w13 d) os) fun e w'' => e = .returned (.bool B2) ∧ ∃ p : Regrown, w'' = grow (redrawn w13 p.d) p.os) := fun d os => by
    have K : Keeps w13 (grow (redrawn w13 d) os) := keeps_of_below (below_regrown w13 d os)
    have := Calls.regrown_of (SameSeq_c [F] [G] L R _ _ (grow (redrawn w13 d) os) ⟨_, _, _, _, _, _, rfl, A13.out.ly.keep K, A13.out.lz.keep K⟩ ⟨_, _, _, _, _, _, rfl, A13.out.ll.keep K, A13.out.lr.keep K⟩)
    rw [hB2] at this; exact this
  have c19 : Hid (∀ d os, Calls Tryz.prog 19 #[.slice la1 ln1 lc1, .slice la2 ln2 lc2] (grow (redrawn w13 d) os) fun e w'' => e = .returned (.bool B3) ∧ ∃ p : Regrown, w'' = grow (redrawn w13 p.d) p.os) := fun d os => by
    have K : Keeps w13 (grow (redrawn w13 d) os) := keeps_of_below (below_regrown w13 d os)
    have := Calls.regrown_of (SameTexts_step (P.lines 0) (Q.lines 0) _ _ _ _ _ _ (grow (redrawn w13 d) os) (O12'.out.keep K) (O13.out.keep K))
    rw [← hB4]; exact this
  have c27 : Hid (∀ d os, Calls Tryz.prog 27 #[.agg #[str P.rule, .int .u8 P.form.op, str P.form.name, .slice p1 p2 p3, .slice p4 p5 p6, .int .i64 P.label, .slice p7 p8 p9, .slice p10 p11 p12], .agg #[str Q.rule, .int .u8 Q.form.op, str Q.form.name, .slice q1 q2 q3, .slice q4 q5 q6, .int .i64 Q.label, .slice q7 q8 q9, .slice q10 q11 q12]] (grow (redrawn w13 d) os) fun e w'' => e = .returned (.bool B3) ∧ ∃ p : Regrown, w'' = grow (redrawn w13 p.d) p.os) := fun d os => by
    have b0 := below_regrown w13 d os
    have := Calls.regrown_of (SameProof_c P Q _ _ (grow (redrawn w13 d) os) (V19.out.below b0).val (V20.out.below b0).val)
    rw [hB3] at this; exact this
  have BW := Lib.hid A13.out.ap.bw
  clear hB1 hB2 hB3 hB4 A13 V19 V20 O12' O13
  refine wp_region_quiet_below (by kernel_rfl) (by kernel_rfl) ?_
  repeat (go_big_quiet_step (first | (go_at_call 25; exact c25.out _ _) | (go_at_call 26; exact c26.out _ _) | (go_at_call 19; exact c19.out _ _) | (go_at_call 27; exact c27.out _ _)))
  refine wpQuiet_nil ?_
  intro wq hw'
  have WQ : Hid (Below w13.heap.size w13 wq) := by
    obtain ⟨⟨dq, osq⟩, hw''⟩ := hw'
    rw [hw'']; exact below_regrown w13 dq osq
  clear hw'
  go_wp2_with fail
  go_ret
  exact ⟨rfl, belowThen BW.out WQ.out⟩
end Go.Proofs.YtcandidgaegghaaGreatDoor
