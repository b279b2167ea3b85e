/- Contracts of lyceumkit.SameForm(s), SameProof(s), SameSeq. Printed by gen/same.py. -/
import Derived.Test.YtcandidgaegghaaGreatDoorSameA
namespace Go.Proofs.YtcandidgaegghaaGreatDoor
open Go Go.RowKit Ly

set_option maxHeartbeats 800000 in
theorem SameForm_step (o : Int) (nm : Bs) (ts : List Tm) (fs : List Fm) (h : SameC 90 FmsAt fmsSame fs) : SameV 44 FmVal Fm.same (.mk o nm ts fs) := by
  intro u x y w hx hy
  obtain ⟨o', nm', us, gs⟩ := u
  obtain ⟨a, n, c, b, m, d, rfl, hx, hx2⟩ := hx
  obtain ⟨a', n', c', b', m', d', rfl, hy, hy2⟩ := hy
  simp only [Fm.op, Fm.name, Fm.args, Fm.sub] at *
  have H := Lib.hid h; clear h
  have X := Lib.hid hx; have Y := Lib.hid hy
  have X2 := Lib.hid hx2; have Y2 := Lib.hid hy2
  clear hx hy hx2 hy2
  have es : Hid (Fm.same (.mk o nm ts fs) (.mk o' nm' us gs) = ((o == o') && (nm == nm') && tmsSame ts us && fmsSame fs gs)) := rfl
  generalize hF : tmsSame ts us = F at es
  have HF := Lib.hid hF; clear hF
  generalize hP : fmsSame fs gs = P at es
  have HP := Lib.hid hP; clear hP
  have fin : ∀ e w', (e = .returned (.bool ((o == o') && (nm == nm') && F && P)) ∧ Below w.heap.size w w') → (e = Ending.returned (.bool (Fm.same (.mk o nm ts fs) (.mk o' nm' us gs))) ∧ Below w.heap.size w w') := fun e w' h => ⟨by rw [h.1, ← es.out], h.2⟩
  refine Calls.mono ?_ fin
  clear fin es
  cases F <;> cases P
  all_goals
    go_enter Tryz.func44, Tryz.ntmps44
    go_wp2_with (first
      | (go_at_call 118; refine (SameTerms_c ts us _ _ _ _ _ _ _ (X.out.keep (by exact keeps_of_below (((Below.refl _ _).alloc (Nat.le_refl _) _).alloc (by simp) _))) (Y.out.keep (by exact keeps_of_below (((Below.refl _ _).alloc (Nat.le_refl _) _).alloc (by simp) _)))).mono ?_; rintro e w1 ⟨he, hb1⟩; rw [HF.out] at he; subst he; obtain ⟨hc1, hf1⟩ := bcell hb1)
      | (go_at_call 90; refine (H.out gs _ _ _ _ _ _ _ (X2.out.keep (by exact (keeps_of_below (((Below.refl _ _).alloc (Nat.le_refl _) _).alloc (by simp) _)).trans (keeps_of_below hb1))) (Y2.out.keep (by exact (keeps_of_below (((Below.refl _ _).alloc (Nat.le_refl _) _).alloc (by simp) _)).trans (keeps_of_below hb1)))).mono ?_; rintro e w2 ⟨he, hb2⟩; rw [HP.out] at he; subst he; obtain ⟨hc2, hf2⟩ := bcell (belowThen hb1 hb2)))
    all_goals go_ret
    all_goals exact ⟨by simp [*], by
      first
      | exact below2 (belowThen hb1 hb2)
      | exact below2 hb1
      | exact ((Below.refl _ _).alloc (Nat.le_refl _) _).alloc (by simp) _⟩

mutual
theorem SameForm_c : ∀ t : Fm, SameV 44 FmVal Fm.same t
  | .mk o n ts fs => SameForm_step o n ts fs (SameForms_step fs (SameForm_all fs))
theorem SameForm_all : ∀ l : List Fm, ∀ t ∈ l, SameV 44 FmVal Fm.same t
  | [], _, h => by cases h
  | x :: xs, t, h => by
    rcases List.mem_cons.1 h with e | e
    · rw [e]; exact SameForm_c x
    · exact SameForm_all xs t e
end
theorem SameForms_c (l : List Fm) : SameC 90 FmsAt fmsSame l := SameForms_step l (SameForm_all l)

set_option maxHeartbeats 1600000 in
theorem SameProof_step (r : Bs) (f : Fm) (lb : Int) (ps : List Pf) (ms : List (List Int)) (h : SameC 91 PfsAt pfsSame ps) : SameV 27 PfVal Pf.same (.mk r f lb ps ms) := by
  intro u x y w hx hy
  obtain ⟨r', f', lb', qs, ns⟩ := u
  obtain ⟨a, n, c, b, m, d, s, sn, sc, q, qn, qc, rfl, hx, hx2, hx3, hx4⟩ := hx
  obtain ⟨a', n', c', b', m', d', s', sn', sc', q', qn', qc', rfl, hy, hy2, hy3, hy4⟩ := hy
  simp only [Pf.rule, Pf.form, Pf.label, Pf.sub, Pf.marks] at *
  have H := Lib.hid h; clear h
  have FX : Hid (FmVal w f (.agg #[.int .u8 f.op, str f.name, .slice a n c, .slice b m d])) := ⟨_, _, _, _, _, _, rfl, hx, hx2⟩
  have FY : Hid (FmVal w f' (.agg #[.int .u8 f'.op, str f'.name, .slice a' n' c', .slice b' m' d'])) := ⟨_, _, _, _, _, _, rfl, hy, hy2⟩
  have X3 := Lib.hid hx3; have Y3 := Lib.hid hy3
  have X4 := Lib.hid hx4; have Y4 := Lib.hid hy4
  clear hx hy hx2 hy2 hx3 hy3 hx4 hy4
  have es : Hid (Pf.same (.mk r f lb ps ms) (.mk r' f' lb' qs ns) = ((r == r') && f.same f' && (lb == lb') && pfsSame ps qs && (ms == ns))) := rfl
  generalize hF : f.same f' = F at es
  have HF := Lib.hid hF; clear hF
  generalize hP : pfsSame ps qs = P at es
  have HP := Lib.hid hP; clear hP
  generalize hM : (ms == ns) = M at es
  have HM := Lib.hid hM; clear hM
  have fin : ∀ e w', (e = .returned (.bool ((r == r') && F && (lb == lb') && P && M)) ∧ Below w.heap.size w w') → (e = Ending.returned (.bool (Pf.same (.mk r f lb ps ms) (.mk r' f' lb' qs ns))) ∧ Below w.heap.size w w') := fun e w' h => ⟨by rw [h.1, ← es.out], h.2⟩
  refine Calls.mono ?_ fin
  clear fin es
  cases F <;> cases P <;> cases M
  all_goals
    go_enter Tryz.func27, Tryz.ntmps27
    go_wp2_with (first
      | (go_at_call 44; refine (SameForm_c f f' _ _ _ (FX.out.keep (by exact keeps_of_below (((Below.refl _ _).alloc (Nat.le_refl _) _).alloc (by simp) _))) (FY.out.keep (by exact keeps_of_below (((Below.refl _ _).alloc (Nat.le_refl _) _).alloc (by simp) _)))).mono ?_; rintro e w1 ⟨he, hb1⟩; rw [HF.out] at he; subst he; obtain ⟨hc1, hf1⟩ := bcell hb1)
      | (go_at_call 91; refine (H.out qs _ _ _ _ _ _ _ (X3.out.keep (by exact (keeps_of_below (((Below.refl _ _).alloc (Nat.le_refl _) _).alloc (by simp) _)).trans (keeps_of_below hb1))) (Y3.out.keep (by exact (keeps_of_below (((Below.refl _ _).alloc (Nat.le_refl _) _).alloc (by simp) _)).trans (keeps_of_below hb1)))).mono ?_; rintro e w2 ⟨he, hb2⟩; rw [HP.out] at he; subst he; obtain ⟨hc2, hf2⟩ := bcell (belowThen hb1 hb2))
      | (go_at_call 92; refine (SameMarks_step ms ns _ _ _ _ _ _ _ (X4.out.keep (by exact ((keeps_of_below (((Below.refl _ _).alloc (Nat.le_refl _) _).alloc (by simp) _)).trans (keeps_of_below hb1)).trans (keeps_of_below hb2))) (Y4.out.keep (by exact ((keeps_of_below (((Below.refl _ _).alloc (Nat.le_refl _) _).alloc (by simp) _)).trans (keeps_of_below hb1)).trans (keeps_of_below hb2)))).mono ?_; rintro e w3 ⟨he, hb3⟩; have he' := he.trans (congrArg (fun b => Ending.returned (.bool b)) HM.out); subst he'))
    all_goals go_ret
    all_goals exact ⟨by simp [*], by
      first
      | exact below2 (belowThen (belowThen hb1 hb2) hb3)
      | exact below2 (belowThen hb1 hb2)
      | exact below2 hb1
      | exact ((Below.refl _ _).alloc (Nat.le_refl _) _).alloc (by simp) _⟩

mutual
theorem SameProof_c : ∀ t : Pf, SameV 27 PfVal Pf.same t
  | .mk r f l ps ms => SameProof_step r f l ps ms (SameProofs_step ps (SameProof_all ps))
theorem SameProof_all : ∀ l : List Pf, ∀ t ∈ l, SameV 27 PfVal Pf.same t
  | [], _, h => by cases h
  | x :: xs, t, h => by
    rcases List.mem_cons.1 h with e | e
    · rw [e]; exact SameProof_c x
    · exact SameProof_all xs t e
end

/-- Two lists of formulas by value. -/
def SqVal (w : World) (l r : List Fm) (u : Value) : Prop := ∃ a n c b m d, u = .agg #[.slice a n c, .slice b m d] ∧ FmsAt w l (.slice a n c) ∧ FmsAt w r (.slice b m d)

set_option maxHeartbeats 800000 in
theorem SameSeq_c (l r l' r' : List Fm) (x y : Value) (w : World) (hx : SqVal w l r x) (hy : SqVal w l' r' y) :
    Calls Tryz.prog 26 #[x, y] w fun e w' => e = .returned (.bool (fmsSame l l' && fmsSame r r')) ∧ Below w.heap.size w w' := by
  obtain ⟨a, n, c, b, m, d, rfl, hx, hx2⟩ := hx
  obtain ⟨a', n', c', b', m', d', rfl, hy, hy2⟩ := hy
  have X := Lib.hid hx; have Y := Lib.hid hy
  have X2 := Lib.hid hx2; have Y2 := Lib.hid hy2
  clear hx hy hx2 hy2
  generalize hF : fmsSame l l' = F
  have HF := Lib.hid hF; clear hF
  generalize hP : fmsSame r r' = P
  have HP := Lib.hid hP; clear hP
  cases F <;> cases P
  all_goals
    go_enter Tryz.func26, Tryz.ntmps26
    go_wp2_with fail
    refine (SameForms_c l l' _ _ _ _ _ _ _ (X.out.keep (by exact keeps_of_below (((Below.refl _ _).alloc (Nat.le_refl _) _).alloc (by simp) _))) (Y.out.keep (by exact keeps_of_below (((Below.refl _ _).alloc (Nat.le_refl _) _).alloc (by simp) _)))).mono ?_
    rintro e w1 ⟨he, hb1⟩; rw [HF.out] at he; subst he; obtain ⟨hc1, hf1⟩ := bcell hb1
    go_wp2_with (go_at_call 90; refine (SameForms_c r r' _ _ _ _ _ _ _ (X2.out.keep (by exact (keeps_of_below (((Below.refl _ _).alloc (Nat.le_refl _) _).alloc (by simp) _)).trans (keeps_of_below hb1))) (Y2.out.keep (by exact (keeps_of_below (((Below.refl _ _).alloc (Nat.le_refl _) _).alloc (by simp) _)).trans (keeps_of_below hb1)))).mono ?_; rintro e w2 ⟨he, hb2⟩; rw [HP.out] at he; subst he; obtain ⟨hc2, hf2⟩ := bcell (belowThen hb1 hb2))
    go_ret
    exact ⟨by simp, by first | exact below2 (belowThen hb1 hb2) | exact below2 hb1⟩

end Go.Proofs.YtcandidgaegghaaGreatDoor
