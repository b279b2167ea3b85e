/- lyceumlaw41.DescribeReads answers true: the walk. Conditions: the program's tables (rows, powers of ten, MaxLen) lie as laid. -/
import Derived.Test.YtcandidgaegghaaGreatDoorShelf3Z
import Derived.Test.YtcandidgaegghaaGreatDoorRdPWZ
import Derived.Test.YtcandidgaegghaaGreatDoorProvedZ
import Derived.Deep.OwnRows
import Derived.Deep.CutBlock
namespace Go.Proofs.YtcandidgaegghaaGreatDoor
open Go Go.RowKit Ly
set_option maxRecDepth 10000
set_option linter.unusedSimpArgs false
set_option linter.unusedVariables false
set_option maxHeartbeats 4000000
theorem oneCells4 {nm : Bs} {op : Int} {a b : Option Addr} {n c m d : Nat} : ∀ u ∈ [Value.int .u8 op, str nm, .slice a n c, .slice b m d], u.oneCell' = true := by
  intro u hu; simp at hu; rcases hu with rfl | rfl | rfl | rfl <;> rfl
theorem reads_c (L : List Bs) (a : Option Addr) (n c : Nat) (lv : Int) (hv : 0 ≤ lv ∧ lv < 256) (code : Bs) (ca : Option Addr) (cn cc : Nat) (w : World) (hr : RowsAt w) (hp : PowAt w) (hm : MaxAt w) (hL : BBAt w L a n c) (hl : BtsAt w code (.slice ca cn cc)) :
    Calls Tryz.prog 10 #[.slice a n c, .int .u8 lv, .slice ca cn cc] w fun e w' => e = .returned (.bool true) ∧ Below w.heap.size w w' := by
  have HR := Lib.hid hr
  have HP := Lib.hid hp
  have HM := Lib.hid hm
  have HL := Lib.hid hL
  have HC := Lib.hid hl
  obtain ⟨hv0, hv1⟩ := hv
  have hN : Hid (n = L.length ∧ n ≤ c ∧ c ≤ maxLen) := ⟨hL.1, hL.2.1, hL.2.2.1⟩
  obtain ⟨q, hq⟩ : ∃ q : Nat, lv % 5 = q := ⟨(lv % 5).toNat, by omega⟩
  have q5 : q < 5 := by omega
  have ht : lv.tmod 5 = q := by rw [Int.tmod_eq_emod_of_nonneg hv0]; exact hq
  clear hr hp hm hL hl hq
  obtain ⟨i0, hi0, hz0, hs0, hb0⟩ := info_parts info25
  go_enter Tryz.func10, Tryz.ntmps10
  go_upto_region 3 with (go_at_call 14; refine (awake_c _ HR.out HP.out HM.out).mono ?_; rintro e w1 ⟨rfl, b1⟩; have B1 := Lib.hid b1; clear b1)
  go_upto_region 4 with fail
  have R0 := Lib.hid (RS.new w1)
  go_wp2_with fail
  go_loopw [8] (fun i wr => ∃ k : Nat, k ≤ 4 ∧ k ≤ n ∧ i = .int .i64 k ∧ Hid (∃ X Y va vc ua uc, RS w1 X Y (.slice va X.length vc) (.slice ua Y.length uc) wr ∧ X.length + Y.length = k ∧ ∀ f ∈ X ++ Y, f.right = true ∧ f.text.length ≤ 1300)) (fun i _ => 4 - (intOf i).toNat)
  case atStart => exact ⟨0, by omega, by omega, rfl, [], [], _, _, _, _, R0.out, rfl, fun f hf => by cases hf⟩
  case round =>
    obtain ⟨k, hk, hkn, rfl, hs⟩ := hrel
    clear R0
    obtain ⟨X, Y, va, vc, ua, uc, R, hXY, hall⟩ := hs.out
    have RR := Lib.hid R
    have HALL := Lib.hid hall
    have BW : Hid (Below w.heap.size w wr) := belowThen B1.out R.bw
    clear hs R hall
    by_cases hkk : k < n ∧ k < 4
    · obtain ⟨k3, k4⟩ := hkk
      obtain ⟨x, hx⟩ := get_of_lt (l := L) (j := k) (by have := hN.out.1; omega)
      obtain ⟨b, off, rfl, a', n', c', hcell, hbts⟩ := HL.out.get hx
      have c0 := keeps_of_below BW.out _ _ hcell
      have HB := Lib.hid (hbts.keep (keeps_of_below BW.out))
      have k1 : (k : Int) < n := by omega
      have k2 : (k : Int) < 4 := by omega
      have k0 : (0 : Int) ≤ k := by omega
      have k5 : decide ((k : Int) < 4) = true := by simp; omega
      obtain ⟨F, hF⟩ : ∃ F, built x = F := ⟨_, rfl⟩
      have FR : Hid (F.right = true ∧ F.text.length ≤ 1300) := by rw [← hF]; exact ⟨built_right x, built_text_len x⟩
      have BC : Hid (∀ w a n c, BtsAt w x (.slice a n c) → Calls Tryz.prog 20 #[.slice a n c] w (RetF F w)) := fun w a n c h => by rw [← hF]; exact built_c x a n c w h
      clear hx hcell hbts hF
      go_upto_region 7 with fail
      go_cut [9] from 36 to 40 (fun u9 wx => ∃ g fa fn fc fb fm fd, u9 = one g ∧ Hid (RF wr F g fa fn fc fb fm fd wx ∧ RS w1 X Y (.slice va X.length vc) (.slice ua Y.length uc) wx ∧ Below wr.heap.size wr wx))
      case first =>
        go_wp2_with (go_at_call 20; refine (BC.out _ _ _ _ HB.out).mono ?_; rintro e w3 ⟨fa, fn, fc, fb, fm, fd, rfl, h1, h2, b3⟩; have H3 := Lib.hid (And.intro h1 (And.intro h2 b3)); clear h1 h2 b3)
        go_meet
        obtain ⟨h1, h2, b3⟩ := H3.out
        have bA := (Below.refl w3.heap.size w3).alloc (Nat.le_refl _) (.cells #[.int .u8 F.op, str F.name, .slice fa fn fc, .slice fb fm fd] 25)
        have KA : Keeps (hide (lo wr) w3) (hide (lo wr) (w3.alloc (.cells #[.int .u8 F.op, str F.name, .slice fa fn fc, .slice fb fm fd] 25))) := hide_keeps2 fun i h1 h2 => ⟨h2, bA.block i h1⟩
        exact ⟨_, fa, fn, fc, fb, fm, fd, rfl, ⟨heap_alloc_new _ _, b3.size, h1.keep KA, h2.keep KA⟩, (RR.out.below b3).below bA, belowThen b3 bA⟩
      case rest =>
      obtain ⟨g9, fa, fn, fc, fb, fm, fd, rfl, H⟩ := hcut
      have RF9 := Lib.hid H.out.1
      have RS9 := Lib.hid H.out.2.1
      have B9 := Lib.hid H.out.2.2
      clear H c0 BC
      obtain ⟨wa, hwa⟩ : ∃ wa, wa = wc := ⟨_, rfl⟩
      subst hwa
      have ZR := Lib.hid RR.out.lt
      have OX := Lib.hid (own_lt RR.out.cl.ox)
      have OY := Lib.hid (own_lt RR.out.cl.oy)
      have zW : wr.heap.size ≤ wa.heap.size := B9.out.size
      have XYK := Lib.hid hXY
      have zx : X.length ≤ 4 := by omega
      have zy : Y.length ≤ 4 := by omega
      clear hXY
      go_upto_if 45 with fail
      go_cut [] from 41 to 57 (fun wx => ∃ X' Y' va' vc' ua' uc', Hid (RF wr F g9 fa fn fc fb fm fd wx ∧ RS w1 X' Y' (.slice va' X'.length vc') (.slice ua' Y'.length uc') wx ∧ X'.length + Y'.length = k + 1 ∧ ∀ f ∈ X' ++ Y', f.right = true ∧ f.text.length ≤ 1300))
      case first =>
        obtain ⟨d0, d1, e0, e1⟩ := row48' RS9.out.c7
        obtain ⟨p0, p1, p2, p3, -, -, -, -⟩ := row25' RF9.out.cell
        have z7 := (Array.getElem?_eq_some_iff.1 RS9.out.c7).1
        have z9 := (Array.getElem?_eq_some_iff.1 RF9.out.cell).1
        by_cases hkq : k < q
        · have t1 : (k : Int) < q := by omega
          obtain ⟨xs, ho, hc⟩ := RS9.out.cl.ox
          have OW : Hid (∀ o, (wa.alloc o).ownsRow (w1.heap.size + 1) 25 4 (.slice va X.length vc) X.length xs) := fun o => ho.alloc o
          have HCX := Lib.hid hc
          clear ho hc
          go_wp2_with (at_builtin; refine wpList_append_own_at _ rfl _ _ 23 rfl (w1.heap.size + 1) 25 i0 (.agg #[.int .u8 0, .string ⟨#[]⟩, .slice none 0 0, .slice none 0 0]) 4 72 Tryz.underlying23 hi0 hz0 hs0 hb0 rfl (by decide) _ X.length xs rfl (OW.out _) ⟨wa.heap.size, 0, none⟩ 1 1 [.int .u8 F.op, str F.name, .slice fa fn fc, .slice fb fm fd] rfl rfl (news4 _ _ _ _ _ _) oneCells4 (by unfold maxLen; omega) (by omega) (by simp; omega) ?_)
          intro v5 w5 h5 hg5 hn5 hat5
          obtain ⟨g5, c5, rfl⟩ := ownsRow_succ h5
          have c75 : w5.heap[w1.heap.size]? = some (.cells #[.slice va X.length vc, .slice ua Y.length uc] 48 (0, 0)) := (hg5.block _ (by simp; omega) (fun e => by have := OX.out _ e.symm; omega)).trans ((Below.heap_alloc wa _ _ z7).trans RS9.out.c7)
          obtain ⟨q0, q1, r0, r1⟩ := row48' c75
          have zz5 := (Array.getElem?_eq_some_iff.1 c75).1
          have PUT := Lib.hid (fun W2 e2 => reads_put (fo := 0) (W2 := W2) RS9.out.bw RS9.out.c7 RS9.out.cl RF9.out ZR.out OX.out OY.out zW HCX.out h5 hg5 (by rw [World.size_alloc]; exact hat5) e2)
          clear h5 hg5 hn5 hat5 c75 d0 d1 e0 e1 p0 p1 p2 p3
          go_wp2_with fail
          go_meet
          obtain ⟨b1, b2, b3, b4⟩ := PUT.out _ rfl
          have eX : (X ++ [F]).length = X.length + 1 := by simp
          refine ⟨X ++ [F], Y, some ⟨g5, 0, none⟩, c5, ua, uc, ?_⟩
          rw [Hid, eX]
          refine ⟨b4, ⟨b1, b2, b3⟩, by have := XYK.out; omega, fun f hf => ?_⟩
          simp only [List.mem_append, List.mem_singleton] at hf
          rcases hf with (hf | rfl) | hf
          · exact HALL.out f (List.mem_append_left _ hf)
          · exact FR.out
          · exact HALL.out f (List.mem_append_right _ hf)
        · have t1 : ¬ ((k : Int) < q) := by omega
          obtain ⟨xs, ho, hc⟩ := RS9.out.cl.oy
          have OW : Hid (∀ o, (wa.alloc o).ownsRow (w1.heap.size + 1) 25 4 (.slice ua Y.length uc) Y.length xs) := fun o => ho.alloc o
          have HCX := Lib.hid hc
          clear ho hc
          go_wp2_with (at_builtin; refine wpList_append_own_at _ rfl _ _ 23 rfl (w1.heap.size + 1) 25 i0 (.agg #[.int .u8 0, .string ⟨#[]⟩, .slice none 0 0, .slice none 0 0]) 4 72 Tryz.underlying23 hi0 hz0 hs0 hb0 rfl (by decide) _ Y.length xs rfl (OW.out _) ⟨wa.heap.size, 0, none⟩ 1 1 [.int .u8 F.op, str F.name, .slice fa fn fc, .slice fb fm fd] rfl rfl (news4 _ _ _ _ _ _) oneCells4 (by unfold maxLen; omega) (by omega) (by simp; omega) ?_)
          intro v5 w5 h5 hg5 hn5 hat5
          obtain ⟨g5, c5, rfl⟩ := ownsRow_succ h5
          have c75 : w5.heap[w1.heap.size]? = some (.cells #[.slice va X.length vc, .slice ua Y.length uc] 48 (0, 0)) := (hg5.block _ (by simp; omega) (fun e => by have := OY.out _ e.symm; omega)).trans ((Below.heap_alloc wa _ _ z7).trans RS9.out.c7)
          obtain ⟨q0, q1, r0, r1⟩ := row48' c75
          have zz5 := (Array.getElem?_eq_some_iff.1 c75).1
          have PUT := Lib.hid (fun W2 e2 => reads_put (fo := 1) (W2 := W2) RS9.out.bw RS9.out.c7 RS9.out.cl.swap RF9.out ZR.out OY.out OX.out zW HCX.out h5 hg5 (by rw [World.size_alloc]; exact hat5) e2)
          clear h5 hg5 hn5 hat5 c75 d0 d1 e0 e1 p0 p1 p2 p3
          go_wp2_with fail
          go_meet
          obtain ⟨b1, b2, b3, b4⟩ := PUT.out _ rfl
          have eX : (Y ++ [F]).length = Y.length + 1 := by simp
          refine ⟨X, Y ++ [F], va, vc, some ⟨g5, 0, none⟩, c5, ?_⟩
          rw [Hid, eX]
          refine ⟨b4, ⟨b1, b2, b3.swap⟩, by have := XYK.out; omega, fun f hf => ?_⟩
          simp only [List.mem_append, List.mem_singleton] at hf
          rcases hf with hf | (hf | rfl)
          · exact HALL.out f (List.mem_append_left _ hf)
          · exact HALL.out f (List.mem_append_right _ hf)
          · exact FR.out
      case rest =>
      obtain ⟨X', Y', va', vc', ua', uc', H⟩ := hcut
      have RF1 := Lib.hid H.out.1
      have RS1 := Lib.hid H.out.2.1
      have XY1 := Lib.hid H.out.2.2.1
      have AL1 := Lib.hid H.out.2.2.2
      have BWc : Hid (Below w.heap.size w wc) := belowThen B1.out RS1.out.bw
      obtain ⟨T, hT⟩ : ∃ T, F.text = T := ⟨_, rfl⟩
      have FF : Hid (∀ x w, RowsAt w → FmVal w F x → Calls Tryz.prog 21 #[x] w fun e w' => e = .returned (.tuple #[str T, .int .i64 0]) ∧ Below w.heap.size w w') := fun x w h1 h2 => by rw [← hT]; exact Form_yes F FR.out.1 x w h1 h2
      have RDF : Hid (∀ w, MaxAt w → RowsAt w → Calls Tryz.prog 43 #[str T] w (RetRead F w)) := fun w h1 h2 => by rw [← hT]; exact Read_yes F FR.out.1 w h1 h2
      have SF : Hid (∀ x y w, FmVal w F x → FmVal w F y → Calls Tryz.prog 44 #[x, y] w fun e w' => e = .returned (.bool true) ∧ Below w.heap.size w w') := fun x y w h1 h2 => by
        have := SameForm_c F F x y w h1 h2
        rwa [(Fm.same_iff F F).2 rfl] at this
      obtain ⟨p0, p1, p2, p3, -, -, -, -⟩ := row25' RF1.out.cell
      clear H RF9 RS9 B9 zW OX OY ZR XYK HALL RR FR zx zy hT
      go_upto_region 12 with (go_at_call 21; refine (FF.out _ _ (HR.out.keep (keeps_of_below BWc.out)) RF1.out.val).mono ?_; rintro e w4 ⟨rfl, b4⟩; have B4 := Lib.hid b4; clear b4)
      have BW4 : Hid (Below w.heap.size w w4) := belowThen BWc.out B4.out
      go_upto_region 13 with (go_at_call 43; refine (RDF.out _ (HM.out.keep (keeps_of_below BW4.out)) (HR.out.keep (keeps_of_below BW4.out))).mono ?_; rintro e w5 ⟨ga, gn, gc, gb, gm, gd, rfl, h1, h2, b5⟩; have H5 := Lib.hid (And.intro h1 (And.intro h2 b5)); clear h1 h2 b5)
      clear p0 p1 p2 p3
      have B6 : Hid (∀ o, Below wc.heap.size wc (w5.alloc o)) := fun o => belowThen (belowThen B4.out H5.out.2.2) ((Below.refl _ _).alloc (Nat.le_refl _) o)
      have RF6 := Lib.hid (RF1.out.below (B6.out (.cells #[.int .u8 F.op, str F.name, .slice ga gn gc, .slice gb gm gd] 25)))
      have RS6 := Lib.hid (RS1.out.below (B6.out (.cells #[.int .u8 F.op, str F.name, .slice ga gn gc, .slice gb gm gd] 25)))
      have V6 : Hid (FmVal (w5.alloc (.cells #[.int .u8 F.op, str F.name, .slice ga gn gc, .slice gb gm gd] 25)) F (.agg #[.int .u8 F.op, str F.name, .slice ga gn gc, .slice gb gm gd])) := ⟨_, _, _, _, _, _, rfl, (H5.out.1.keep unhide).keep (keeps1 _ _), (H5.out.2.1.keep unhide).keep (keeps1 _ _)⟩
      obtain ⟨p0, p1, p2, p3, -, -, -, -⟩ := row25' RF6.out.cell
      obtain ⟨q0, q1, q2, q3, -, -, -, -⟩ := row25' (heap_alloc_new w5 (.cells #[.int .u8 F.op, str F.name, .slice ga gn gc, .slice gb gm gd] 25))
      go_wp2_with (go_at_call 44; refine (SF.out _ _ _ V6.out RF6.out.val).mono ?_; rintro e w7 ⟨rfl, b7⟩; have RS7 := Lib.hid (RS6.out.below b7); clear b7)
      go_roundw
      case rel => exact ⟨k + 1, by omega, by omega, by go_num, X', Y', va', vc', ua', uc', RS7.out, XY1.out, AL1.out⟩
      case measure => simp [intOf]; omega
    · have XY4 : Hid (X.length + Y.length ≤ 4) := by show _ ≤ _; omega
      obtain ⟨P, hP⟩ : ∃ P, proved code = P := ⟨_, rfl⟩
      have rP : Hid (P.right = true) := by show _ = _; rw [← hP]; exact proved_right code
      have PC : Hid (∀ w a n c, BtsAt w code (.slice a n c) → Calls Tryz.prog 23 #[.slice a n c] w (Ret PfVal P w)) := fun w a n c h => by rw [← hP]; exact proved_c code a n c w h
      have GX : Hid (∀ f ∈ X, f.right = true) := fun f hf => (HALL.out f (List.mem_append_left _ hf)).1
      have GY : Hid (∀ f ∈ Y, f.right = true) := fun f hf => (HALL.out f (List.mem_append_right _ hf)).1
      obtain ⟨T, hT⟩ : ∃ T, claimText X Y = T := ⟨_, rfl⟩
      have CC : Hid (∀ x w, RowsAt w → SqVal w X Y x → Calls Tryz.prog 22 #[x] w fun e w' => e = .returned (.tuple #[str T, .int .i64 0]) ∧ Below w.heap.size w w') := fun x w h1 h2 => by
        rw [← hT]; exact Claim_c X Y GX.out GY.out (by have := XY4.out; omega) x w h1 h2
      have RC : Hid (∀ w, MaxAt w → RowsAt w → Calls Tryz.prog 45 #[str T] w fun e w' => ∃ a n c b m d, e = .returned (.tuple #[.agg #[.slice a n c, .slice b m d], .int .i64 0]) ∧ FmsAt w' X (.slice a n c) ∧ FmsAt w' Y (.slice b m d) ∧ Below w.heap.size w w') := fun w h1 h2 => by
        rw [← hT]; exact ReadClaim_c X Y GX.out GY.out (claim_cap (fun f hf => (HALL.out f hf).2) XY4.out) w h1 h2
      have HCW := Lib.hid (HC.out.keep (keeps_of_below BW.out))
      clear hP hT
      have RQ : Hid (∀ la N lc w, MaxAt w → RowsAt w → PowAt w → StrsAt w (P.lines 0) (.slice la N lc) → Calls Tryz.prog 46 #[.slice la N lc] w fun e w' => ∃ v, e = .returned (.tuple #[v, .int .i64 0]) ∧ PfVal w' P v ∧ Below w.heap.size w w') := fun la N lc w h1 h2 h3 h4 => ReadProof_c P rP.out la N lc w h1 h2 h3 h4
      have QC : Hid (∀ x w, RowsAt w → PowAt w → PfVal w P x → Calls Tryz.prog 24 #[x] w (RetStrs0 (P.lines 0) w)) := fun x w h1 h2 h3 => Proof_c P x w h1 h2 h3 rP.out
      have SS : Hid (∀ x y w, SqVal w X Y x → SqVal w X Y y → Calls Tryz.prog 26 #[x, y] w fun e w' => e = .returned (.bool true) ∧ Below w.heap.size w w') := fun x y w h1 h2 => by
        have := SameSeq_c X Y X Y x y w h1 h2
        rwa [(fmsSame_iff X X).2 rfl, (fmsSame_iff Y Y).2 rfl] at this
      have SP : Hid (∀ x y w, PfVal w P x → PfVal w P y → Calls Tryz.prog 27 #[x, y] w fun e w' => e = .returned (.bool true) ∧ Below w.heap.size w w') := fun x y w h1 h2 => by
        have := SameProof_c P P x y w h1 h2
        rwa [(Pf.same_iff P P).2 rfl] at this
      clear HALL GX GY rP hXY XY4
      rcases (show ¬ k < n ∨ (k < n ∧ ¬ k < 4) by omega) with h20 | ⟨h20, h21⟩
      all_goals
        go_upto_region 15 with fail
        go_cut [15] from 83 to 84 (fun u15 wx => ∃ p1 p2 p3 p4 p5 p6 p7 p8 p9 p10 p11 p12 g, u15 = one g ∧ Hid (PV P g p1 p2 p3 p4 p5 p6 p7 p8 p9 p10 p11 p12 wx ∧ Below wr.heap.size wr wx))
        case first =>
          go_wp2_with (go_at_call 23; refine (PC.out _ _ _ _ HCW.out).mono ?_; rintro e w3 ⟨v, rfl, ⟨p1, p2, p3, p4, p5, p6, p7, p8, p9, p10, p11, p12, rfl, h1, h2, h3, h4⟩, b3⟩; have H3 := Lib.hid (And.intro h1 (And.intro h2 (And.intro h3 (And.intro h4 b3)))); clear h1 h2 h3 h4 b3)
          go_meet
          obtain ⟨h1, h2, h3, h4, b3⟩ := H3.out
          exact ⟨p1, p2, p3, p4, p5, p6, p7, p8, p9, p10, p11, p12, _, rfl, ⟨heap_alloc_new _ _, h1.keep (keeps1 _ _), h2.keep (keeps1 _ _), h3.keep (keeps1 _ _), h4.keep (keeps1 _ _)⟩, belowThen b3 ((Below.refl _ _).alloc (Nat.le_refl _) _)⟩
        case rest =>
        obtain ⟨p1, p2, p3, p4, p5, p6, p7, p8, p9, p10, p11, p12, g3, rfl, H⟩ := hcut
        have P3 := Lib.hid H.1
        have R3 := Lib.hid (RR.out.below H.2)
        clear H PC HCW
        have BW3 : Hid (Below w.heap.size w wc) := belowThen B1.out R3.out.bw
        obtain ⟨d0, d1, e0, e1⟩ := row48' R3.out.c7
        have SQ3 : Hid (SqVal wc X Y (.agg #[.slice va X.length vc, .slice ua Y.length uc])) := ⟨_, _, _, _, _, _, rfl, R3.out.cl.ox.whole (fun _ _ _ h _ => h), R3.out.cl.oy.whole (fun _ _ _ h _ => h)⟩
        go_upto_region 17 with (go_at_call 22; refine (CC.out _ _ (HR.out.keep (keeps_of_below BW3.out)) SQ3.out).mono ?_; rintro e w4 ⟨rfl, b4⟩; have B4 := Lib.hid b4; clear b4)
        have BW4 : Hid (Below w.heap.size w w4) := belowThen BW3.out B4.out
        go_upto_region 18 with (go_at_call 45; refine (RC.out _ (HM.out.keep (keeps_of_below BW4.out)) (HR.out.keep (keeps_of_below BW4.out))).mono ?_; rintro e w5 ⟨xa, xn, xc, ya, yn, yc, rfl, h1, h2, b5⟩; have H5 := Lib.hid (And.intro h1 (And.intro h2 b5)); clear h1 h2 b5)
        clear d0 d1 e0 e1
        obtain ⟨g18, hg18⟩ : ∃ g, w5.heap.size = g := ⟨_, rfl⟩
        have c18 := heap_alloc_new w5 (.cells #[.slice xa xn xc, .slice ya yn yc] 48)
        have KE : Hid (∀ A W, Below A.heap.size A W → (PV P g3 p1 p2 p3 p4 p5 p6 p7 p8 p9 p10 p11 p12 A ∧ RS w1 X Y (.slice va X.length vc) (.slice ua Y.length uc) A ∧ A.heap[g18]? = some (.cells #[.slice xa xn xc, .slice ya yn yc] 48 (0, 0)) ∧ FmsAt A X (.slice xa xn xc) ∧ FmsAt A Y (.slice ya yn yc)) →
            PV P g3 p1 p2 p3 p4 p5 p6 p7 p8 p9 p10 p11 p12 W ∧ RS w1 X Y (.slice va X.length vc) (.slice ua Y.length uc) W ∧ W.heap[g18]? = some (.cells #[.slice xa xn xc, .slice ya yn yc] 48 (0, 0)) ∧ FmsAt W X (.slice xa xn xc) ∧ FmsAt W Y (.slice ya yn yc)) := fun A W b h => ⟨h.1.below b, h.2.1.below b, kc b h.2.2.1, h.2.2.2.1.keep (keeps_of_below b), h.2.2.2.2.keep (keeps_of_below b)⟩
        have B6 : Hid (Below wc.heap.size wc (w5.alloc (.cells #[.slice xa xn xc, .slice ya yn yc] 48))) := belowThen (belowThen B4.out H5.out.2.2) ((Below.refl _ _).alloc (Nat.le_refl _) _)
        rw [hg18] at c18
        have S6 := Lib.hid (And.intro (P3.out.below B6.out) (And.intro (R3.out.below B6.out) (And.intro c18 (And.intro (H5.out.1.keep (keeps1 _ (.cells #[.slice xa xn xc, .slice ya yn yc] 48))) (H5.out.2.1.keep (keeps1 _ (.cells #[.slice xa xn xc, .slice ya yn yc] 48)))))))
        have BW6 : Hid (Below w.heap.size w (w5.alloc (.cells #[.slice xa xn xc, .slice ya yn yc] 48))) := belowThen BW3.out B6.out
        rw [hg18]
        clear hg18 c18 B6 H5 P3 R3 SQ3 BW3 B4 BW4 CC RC
        obtain ⟨w6, hw6⟩ : ∃ w6, w5.alloc (.cells #[.slice xa xn xc, .slice ya yn yc] 48) = w6 := ⟨_, rfl⟩
        rw [hw6] at S6 BW6 ⊢
        clear hw6
        obtain ⟨x0, x1, x2, x3, x4, x5, x6, x7⟩ := row53 S6.out.1.cell
        go_upto_region 19 with (go_at_call 24; refine (QC.out _ _ (HR.out.keep (keeps_of_below BW6.out)) (HP.out.below BW6.out) S6.out.1.val).mono ?_; rintro e w7 ⟨v, rfl, ho, b7⟩; obtain ⟨la, N, lc, rfl⟩ := StrsAt.slice ho.strsAt; have O7 := Lib.hid ho.strsAt; have S7 := Lib.hid (KE.out _ _ b7 S6.out); have BW7 := Lib.hid (belowThen BW6.out b7); clear ho b7)
        clear x0 x1 x2 x3 x4 x5 x6 x7
        go_upto_region 20 with (go_at_call 46; refine (RQ.out _ _ _ _ (HM.out.keep (keeps_of_below BW7.out)) (HR.out.keep (keeps_of_below BW7.out)) (HP.out.below BW7.out) O7.out).mono ?_; rintro e w8 ⟨v, rfl, ⟨q1, q2, q3, q4, q5', q6, q7, q8, q9, q10, q11, q12, rfl, h1, h2, h3, h4⟩, b8⟩; have H8 := Lib.hid (And.intro h1 (And.intro h2 (And.intro h3 (And.intro h4 b8)))); clear h1 h2 h3 h4 b8)
        have PV9 : Hid (PV P w8.heap.size q1 q2 q3 q4 q5' q6 q7 q8 q9 q10 q11 q12 (w8.alloc (.cells #[str P.rule, .int .u8 P.form.op, str P.form.name, .slice q1 q2 q3, .slice q4 q5' q6, .int .i64 P.label, .slice q7 q8 q9, .slice q10 q11 q12] 53))) := ⟨heap_alloc_new _ _, H8.out.1.keep (keeps1 _ _), H8.out.2.1.keep (keeps1 _ _), H8.out.2.2.1.keep (keeps1 _ _), H8.out.2.2.2.1.keep (keeps1 _ _)⟩
        have b9 : Below w7.heap.size w7 (w8.alloc (.cells #[str P.rule, .int .u8 P.form.op, str P.form.name, .slice q1 q2 q3, .slice q4 q5' q6, .int .i64 P.label, .slice q7 q8 q9, .slice q10 q11 q12] 53)) := belowThen H8.out.2.2.2.2 ((Below.refl _ _).alloc (Nat.le_refl _) _)
        have S9 := Lib.hid (KE.out _ _ b9 S7.out)
        have BW9 := Lib.hid (belowThen BW7.out b9)
        clear b9 H8 S7 O7 QC RQ
        obtain ⟨w9, hw9⟩ : ∃ w9, w8.alloc (.cells #[str P.rule, .int .u8 P.form.op, str P.form.name, .slice q1 q2 q3, .slice q4 q5' q6, .int .i64 P.label, .slice q7 q8 q9, .slice q10 q11 q12] 53) = w9 := ⟨_, rfl⟩
        rw [hw9] at PV9 S9 BW9 ⊢
        clear hw9
        have SQ9 : Hid (SqVal w9 X Y (.agg #[.slice va X.length vc, .slice ua Y.length uc])) := ⟨_, _, _, _, _, _, rfl, S9.out.2.1.cl.ox.whole (fun _ _ _ h _ => h), S9.out.2.1.cl.oy.whole (fun _ _ _ h _ => h)⟩
        have SR9 : Hid (SqVal w9 X Y (.agg #[.slice xa xn xc, .slice ya yn yc])) := ⟨_, _, _, _, _, _, rfl, S9.out.2.2.2.1, S9.out.2.2.2.2⟩
        obtain ⟨d0, d1, e0, e1⟩ := row48' S9.out.2.1.c7
        obtain ⟨d2, d3, e2, e3⟩ := row48' S9.out.2.2.1
        go_wp2_with (first
          | (go_at_call 27; refine (SP.out _ _ _ PV10.out.val S10.out.val).mono ?_; rintro e w11 ⟨rfl, b11⟩)
          | (go_at_call 26; refine (SS.out _ _ _ SR9.out SQ9.out).mono ?_; rintro e w10 ⟨rfl, b10⟩; have PV10 := Lib.hid (PV9.out.below b10); have S10 := Lib.hid (S9.out.1.below b10); obtain ⟨x0, x1, x2, x3, x4, x5, x6, x7⟩ := row53 S10.out.cell; obtain ⟨y0, y1, y2, y3, y4, y5, y6, y7⟩ := row53 PV10.out.cell))
        go_ret
        exact ⟨rfl, belowThen (belowThen BW9.out b10) b11⟩
end Go.Proofs.YtcandidgaegghaaGreatDoor
