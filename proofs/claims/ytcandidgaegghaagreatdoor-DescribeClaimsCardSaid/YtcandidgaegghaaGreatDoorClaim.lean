/- Contract of describe.Claim at right formulas. -/
import Derived.Test.YtcandidgaegghaaGreatDoorFormC
import Derived.Test.YtcandidgaegghaaGreatDoorSameB
import Derived.Test.YtcandidgaegghaaGreatDoorPlB
namespace Go.Proofs.YtcandidgaegghaaGreatDoor
open Go Go.RowKit Ly

/-- An own list stays behind a call that writes nothing old. -/
theorem OwnStrs.below {B : Nat} {w w' : World} {l : List Bs} {v : Value} (h : OwnStrs B w l v) (hb : Below w.heap.size w w') : OwnStrs B w' l v := by
  obtain ⟨h1, h2⟩ := h
  refine ⟨h1, ?_⟩
  rcases h2 with h2 | ⟨g, cap, cur, e, hB, hg, r⟩
  · exact .inl h2
  · refine .inr ⟨g, cap, cur, e, hB, ?_, r⟩
    rw [hb.block g (Array.getElem?_eq_some_iff.1 hg).1]; exact hg
theorem str_app (x : Array UInt8) (y : Bs) : Value.string (⟨x⟩ ++ ⟨y.toArray⟩) = str (x.toList ++ y) := by
  show Value.string _ = Value.string _
  rw [bytes_app]; congr 2; simp
theorem map_snoc {α β : Type} (f : α → β) {l : List α} {j : Nat} {x : α} (h : l[j]? = some x) : (l.take (j + 1)).map f = (l.take j).map f ++ [f x] := by
  rw [List.take_add_one, h]; simp
theorem join_by (sep : Bs) : ∀ l : List Bs, Lib.join l sep = joinBy sep l
  | [] => rfl
  | [x] => by simp [Lib.join, joinBy]
  | x :: y :: r => by
    have := join_by sep (y :: r)
    simp [Lib.join, joinBy] at this ⊢
    exact this
/-- strings.Join of an own list, whatever the separator. -/
theorem join_any {B : Nat} {w : World} {l : List Bs} {v : Value} (sep : Bs) (h : OwnStrs B w l v) (h1 : l.length ≤ 1000000) (h2 : (joinBy sep l).length ≤ 140737488355328) :
    Calls Tryz.prog 37 #[v, .string ⟨sep.toArray⟩] w fun e w' => e = .returned (str (joinBy sep l)) ∧ Below w.heap.size w w' := by
  obtain ⟨a, n, c, rfl⟩ := h.strsAt.slice
  have hl := h.strsAt.len
  by_cases hne : l = []
  · subst hne
    have h0 : n = 0 := hl.1
    subst h0
    refine (Tryz.strings_Join_none a c ⟨sep.toArray⟩ w).mono ?_
    rintro e w' ⟨rfl, rfl⟩
    exact ⟨rfl, Below.refl _ _⟩
  obtain ⟨b, off, rfl, hc⟩ := h.strsAt.get hne
  have e : (l.map (fun x : Bs => (⟨x.toArray⟩ : ByteArray))).map (·.data.toList) = l := by simp [List.map_map, Function.comp_def]
  have hx := Tryz.strings_Join b off c (l.map (fun x : Bs => (⟨x.toArray⟩ : ByteArray))) ⟨sep.toArray⟩ w
    (fun j x hj => by
      rw [List.getElem?_map] at hj
      obtain ⟨y, hy, rfl⟩ := Option.map_eq_some_iff.1 hj
      exact hc j y hy)
    (by
      obtain ⟨x, hx⟩ := List.exists_mem_of_ne_nil l hne
      obtain ⟨j, hj⟩ := List.getElem?_of_mem hx
      exact World.block_lt_of_cell? w _ (hc j x hj))
    (by simp; omega) (by simp; have := hl.1; omega) (by rw [e]; show (Lib.join l sep).length ≤ _; rw [join_by]; exact h2)
  rw [e, List.length_map, ← hl.1] at hx
  refine hx.mono ?_
  rintro e w' ⟨rfl, h⟩
  refine ⟨?_, h⟩
  show Ending.returned (.string ⟨(Lib.join l sep).toArray⟩) = _
  rw [join_by]
theorem joinBy_le (sep : Bs) (hs : sep.length ≤ 10) : ∀ (l : List Bs) (_ : ∀ x ∈ l, x.length ≤ 1000000), (joinBy sep l).length ≤ l.length * 1000010
  | [], _ => by simp [joinBy]
  | [x], h => by have := h x (by simp); simp [joinBy]; omega
  | x :: y :: r, h => by
    have h1 := h x (by simp)
    have h2 := joinBy_le sep hs (y :: r) (fun z hz => h z (by simp at hz ⊢; right; exact hz))
    simp only [joinBy, List.length_append, List.length_cons] at h2 ⊢
    omega
theorem len_of_right {f : Fm} (h : f.right = true) : f.words.length ≤ 1000000 ∧ f.text.length ≤ 1000000 := by have := right_len h; exact ⟨by omega, by omega⟩

theorem claim_len {G S : List Fm} (hG : ∀ g ∈ G, g.right = true) (hS : ∀ g ∈ S, g.right = true) (hlen : G.length + S.length ≤ 1000) :
    (claimParts G S).length ≤ 1000000 ∧ (joinBy [44, 32] (claimParts G S)).length ≤ 140737488355328 := by
  have h1 : (claimParts G S).length ≤ 1000 := by simp [claimParts]; omega
  have h2 := joinBy_le [44, 32] (by decide) (claimParts G S) (fun x hx => by
    unfold claimParts at hx
    rcases List.mem_append.1 hx with h | h
    · obtain ⟨g, hg, rfl⟩ := List.mem_map.1 h
      have := (right_len (hG g hg)).2; simp [wGiven]; omega
    · obtain ⟨g, hg, rfl⟩ := List.mem_map.1 h
      have := (right_len (hS g hg)).2; simp [wShow]; omega)
  have h3 : (claimParts G S).length * 1000010 ≤ 1000 * 1000010 := Nat.mul_le_mul_right _ h1
  omega
set_option linter.unusedSimpArgs false in
set_option maxRecDepth 4000 in
set_option maxHeartbeats 1600000 in
theorem Claim_c (G S : List Fm) (hG : ∀ g ∈ G, g.right = true) (hS : ∀ g ∈ S, g.right = true) (hlen : G.length + S.length ≤ 1000) (x : Value) (w : World) (hr : RowsAt w) (hx : SqVal w G S x) :
    Calls Tryz.prog 22 #[x] w fun e w' => e = .returned (.tuple #[str (claimText G S), .int .i64 0]) ∧ Below w.heap.size w w' := by
  obtain ⟨a, k, c, a', m, d, rfl, h1, h2⟩ := hx
  have hk := h1.len
  have hm := h2.len
  have hkl : k ≤ 1000 := by omega
  have hml : m ≤ 1000 := by omega
  have L1 := Lib.hid hk.1
  have L2 := Lib.hid hm.1
  have HX := Lib.hid h1
  have HY := Lib.hid h2
  have HR := Lib.hid hr
  have HG := Lib.hid hG
  have HS := Lib.hid hS
  have HL := Lib.hid hlen
  clear hk hm h1 h2 hr hG hS hlen
  obtain ⟨i0, hi0, hz0, hs0, hb0⟩ := info_parts info9
  go_enter Tryz.func22, Tryz.ntmps22
  go_wp2_with fail
  have WB : Hid (Below w.heap.size w (w.alloc (.cells #[.slice a k c, .slice a' m d] 48))) := (Below.refl _ _).alloc (Nat.le_refl _) _
  have WK := Lib.hid (keeps1 w (.cells #[.slice a k c, .slice a' m d] 48))
  have E1 : Hid ((w.alloc (.cells #[.slice a k c, .slice a' m d] 48)).cell? ⟨w.heap.size, 1, none⟩ = some (.slice a' m d)) := by show _ = _; simp [go_sem]
  generalize hW : w.alloc (.cells #[.slice a k c, .slice a' m d] 48) = W0 at *
  have HX := Lib.hid (HX.out.keep WK.out)
  have HY := Lib.hid (HY.out.keep WK.out)
  have HR := Lib.hid (HR.out.keep WK.out)
  clear hW
  go_loopw [4, 12] (fun u i wr => ∃ j : Nat, j ≤ k ∧ i = .int .i64 j ∧ Hid (OwnStrs W0.heap.size wr ((G.take j).map (fun g => wGiven ++ g.text)) u ∧ Below W0.heap.size W0 wr)) (fun _ i _ => k - (intOf i).toNat)
  case atStart => exact ⟨0, Nat.zero_le _, rfl, World.ownsRow_nil _ _ _ _, Below.refl _ _⟩
  case round =>
    obtain ⟨j, hj, rfl, hr⟩ := hrel
    by_cases hlt : j < k
    · obtain ⟨T, hT⟩ := get_of_lt (l := G) (j := j) (by rw [← L1.out]; exact hlt)
      obtain ⟨b, off, rfl, hc⟩ := HX.out.get (ne_of_get hT)
      obtain ⟨x0, x1, x2, y0, y1, y2, hx⟩ := hc j _ hT
      have hK := keeps_of_below hr.out.2
      have c0 := hK _ _ hx.c0; have c1 := hK _ _ hx.c1; have c2 := hK _ _ hx.c2; have c3 := hK _ _ hx.c3
      have X := Lib.hid (hx.at_.keep hK)
      have Y := Lib.hid (hx.at'.keep hK)
      have RT := Lib.hid (HG.out T (List.mem_of_getElem? hT))
      have RW := Lib.hid (HR.out.keep hK)
      have OWN := Lib.hid hr.out.1
      have BLW := Lib.hid hr.out.2
      have hT := Lib.hid hT
      clear hc hx hK hr
      go_wp2_with fail
      refine (Right_yes T (.agg #[.int .u8 T.op, str T.name, .slice x0 x1 x2, .slice y0 y1 y2]) _ (RW.out.keep (keeps1 _ _)) ⟨_, _, _, _, _, _, rfl, X.out.keep (keeps1 _ _), Y.out.keep (keeps1 _ _)⟩ RT.out).mono ?_
      rintro e w1 ⟨rfl, b1⟩
      obtain ⟨hc1, hf1⟩ := bcell b1
      have B1 := Lib.hid b1
      have K1 : Hid (Keeps wr w1) := keeps_of_below (below1 b1)
      go_wp2_with fail
      refine (text_c T (ok_of_right RT.out) (len_of_right RT.out) _ _ _ _ _ _ _ (X.out.keep K1.out) (Y.out.keep K1.out)).mono ?_
      rintro e w2 ⟨rfl, b2⟩
      have B2 := Lib.hid (belowThen (below1 B1.out) b2)
      have TL := Lib.hid (right_len RT.out).2
      have tl : T.text.length ≤ 1000000 := by have := TL.out; omega
      have OWN2 := Lib.hid (OwnStrs.below OWN.out B2.out)
      have BL2 := Lib.hid (BLW.out.trans (B2.out.mono BLW.out.size))
      have M1 := Lib.hid (map_snoc (fun g : Fm => wGiven ++ g.text) hT.out)
      have LE : Hid (((G.take j).map (fun g : Fm => wGiven ++ g.text)).length ≤ 1000) := by show _ ≤ _; simp only [List.length_append, List.length_map, List.length_take]; have := L1.out; have := L1.out; have := L2.out; have := HL.out; omega
      have E2 : Hid ((G.take (j + 1)).map (fun g : Fm => wGiven ++ g.text) = ((G.take j).map (fun g : Fm => wGiven ++ g.text)) ++ [wGiven ++ T.text]) := by show _ = _; rw [M1.out]
      generalize (G.take j).map (fun g : Fm => wGiven ++ g.text) = M at *
      have C3 : Hid (M.length + 1 ≤ maxLen ∧ (M.length + 1) * 16 ≤ 140737488355328) := by
        have h1 := LE.out
        exact ⟨by unfold maxLen; omega, by omega⟩
      have C6 : Hid (W0.heap.size ≤ (w2.alloc (.cells #[.string (⟨#[103, 105, 118, 101, 110, 32]⟩ ++ ⟨T.text.toArray⟩)] 9)).heap.size) := by
        have := BL2.out.size; show _ ≤ _; simp; omega
      go_wp2_with (at_builtin; refine wpList_append_own _ rfl _ _ 36 rfl W0.heap.size 9 i0 (.string ⟨#[]⟩) 1 16 Tryz.underlying36 hi0 hz0 hs0 hb0 rfl (by decide) _ _ _ rfl (OWN2.out.alloc _) ⟨w2.heap.size, 0, none⟩ 1 1 [.string (⟨#[103, 105, 118, 101, 110, 32]⟩ ++ ⟨T.text.toArray⟩)] rfl rfl (cell_one_new _ _ _) (by intro u hu; simp at hu; subst hu; rfl) C3.out.1 C3.out.2 C6.out ?_)
      intro v' w3 hown2 hg2 _
      have R : Hid (OwnStrs W0.heap.size w3 ((G.take (j + 1)).map (fun g : Fm => wGiven ++ g.text)) v' ∧ Below W0.heap.size W0 w3) := by
        refine ⟨?_, (BL2.out.alloc BL2.out.size _).grown hg2 C6.out (fun kk hkk => (OWN2.out.lt kk hkk).1)⟩
        rw [E2.out]
        unfold OwnStrs
        rw [List.length_append, List.map_append]
        rw [str_app] at hown2
        exact hown2
      clear hown2 hg2
      go_wp2_with fail
      go_roundw
      case rel => exact ⟨j + 1, by omega, by go_num, R⟩
      case measure => simp [intOf]; omega
    · have e : G.take j = G := List.take_of_length_le (by rw [← L1.out]; omega)
      have HO : Hid (OwnStrs W0.heap.size wr (G.map (fun g => wGiven ++ g.text)) u4) := by have := hr.out.1; rw [e] at this; exact this
      have HB := Lib.hid hr.out.2
      have f1 := keeps_of_below hr.out.2 _ _ E1.out
      clear hr e
      go_wp2_with fail
      go_loopw [4, 29] (fun u i wr => ∃ j : Nat, j ≤ m ∧ i = .int .i64 j ∧ Hid (OwnStrs W0.heap.size wr (G.map (fun g => wGiven ++ g.text) ++ (S.take j).map (fun g => wShow ++ g.text)) u ∧ Below W0.heap.size W0 wr)) (fun _ i _ => m - (intOf i).toNat)
      case atStart => exact ⟨0, Nat.zero_le _, rfl, by simpa using HO.out, HB.out⟩
      case round =>
        obtain ⟨j, hj, rfl, hr⟩ := hrel
        by_cases hlt : j < m
        · obtain ⟨T, hT⟩ := get_of_lt (l := S) (j := j) (by rw [← L2.out]; exact hlt)
          obtain ⟨b, off, rfl, hc⟩ := HY.out.get (ne_of_get hT)
          obtain ⟨x0, x1, x2, y0, y1, y2, hx⟩ := hc j _ hT
          have hK := keeps_of_below hr.out.2
          have c0 := hK _ _ hx.c0; have c1 := hK _ _ hx.c1; have c2 := hK _ _ hx.c2; have c3 := hK _ _ hx.c3
          have X := Lib.hid (hx.at_.keep hK)
          have Y := Lib.hid (hx.at'.keep hK)
          have RT := Lib.hid (HS.out T (List.mem_of_getElem? hT))
          have RW := Lib.hid (HR.out.keep hK)
          have OWN := Lib.hid hr.out.1
          have BLW := Lib.hid hr.out.2
          have hT := Lib.hid hT
          clear hc hx hK hr
          go_wp2_with fail
          refine (Right_yes T (.agg #[.int .u8 T.op, str T.name, .slice x0 x1 x2, .slice y0 y1 y2]) _ (RW.out.keep (keeps1 _ _)) ⟨_, _, _, _, _, _, rfl, X.out.keep (keeps1 _ _), Y.out.keep (keeps1 _ _)⟩ RT.out).mono ?_
          rintro e w1 ⟨rfl, b1⟩
          obtain ⟨hc1, hf1⟩ := bcell b1
          have B1 := Lib.hid b1
          have K1 : Hid (Keeps wr w1) := keeps_of_below (below1 b1)
          go_wp2_with fail
          refine (text_c T (ok_of_right RT.out) (len_of_right RT.out) _ _ _ _ _ _ _ (X.out.keep K1.out) (Y.out.keep K1.out)).mono ?_
          rintro e w2 ⟨rfl, b2⟩
          have B2 := Lib.hid (belowThen (below1 B1.out) b2)
          have TL := Lib.hid (right_len RT.out).2
          have tl : T.text.length ≤ 1000000 := by have := TL.out; omega
          have OWN2 := Lib.hid (OwnStrs.below OWN.out B2.out)
          have BL2 := Lib.hid (BLW.out.trans (B2.out.mono BLW.out.size))
          have M1 := Lib.hid (map_snoc (fun g : Fm => wShow ++ g.text) hT.out)
          have LE : Hid ((G.map (fun g => wGiven ++ g.text) ++ (S.take j).map (fun g : Fm => wShow ++ g.text)).length ≤ 1000) := by show _ ≤ _; simp only [List.length_append, List.length_map, List.length_take]; have := L2.out; have := L1.out; have := L2.out; have := HL.out; omega
          have E2 : Hid (G.map (fun g => wGiven ++ g.text) ++ (S.take (j + 1)).map (fun g : Fm => wShow ++ g.text) = (G.map (fun g => wGiven ++ g.text) ++ (S.take j).map (fun g : Fm => wShow ++ g.text)) ++ [wShow ++ T.text]) := by show _ = _; rw [M1.out]; rw [List.append_assoc]
          generalize G.map (fun g => wGiven ++ g.text) ++ (S.take j).map (fun g : Fm => wShow ++ g.text) = M at *
          have C3 : Hid (M.length + 1 ≤ maxLen ∧ (M.length + 1) * 16 ≤ 140737488355328) := by
            have h1 := LE.out
            exact ⟨by unfold maxLen; omega, by omega⟩
          have C6 : Hid (W0.heap.size ≤ (w2.alloc (.cells #[.string (⟨#[115, 104, 111, 119, 32]⟩ ++ ⟨T.text.toArray⟩)] 9)).heap.size) := by
            have := BL2.out.size; show _ ≤ _; simp; omega
          go_wp2_with (at_builtin; refine wpList_append_own _ rfl _ _ 36 rfl W0.heap.size 9 i0 (.string ⟨#[]⟩) 1 16 Tryz.underlying36 hi0 hz0 hs0 hb0 rfl (by decide) _ _ _ rfl (OWN2.out.alloc _) ⟨w2.heap.size, 0, none⟩ 1 1 [.string (⟨#[115, 104, 111, 119, 32]⟩ ++ ⟨T.text.toArray⟩)] rfl rfl (cell_one_new _ _ _) (by intro u hu; simp at hu; subst hu; rfl) C3.out.1 C3.out.2 C6.out ?_)
          intro v' w3 hown2 hg2 _
          have R : Hid (OwnStrs W0.heap.size w3 (G.map (fun g => wGiven ++ g.text) ++ (S.take (j + 1)).map (fun g : Fm => wShow ++ g.text)) v' ∧ Below W0.heap.size W0 w3) := by
            refine ⟨?_, (BL2.out.alloc BL2.out.size _).grown hg2 C6.out (fun kk hkk => (OWN2.out.lt kk hkk).1)⟩
            rw [E2.out]
            unfold OwnStrs
            rw [List.length_append, List.map_append]
            rw [str_app] at hown2
            exact hown2
          clear hown2 hg2
          go_wp2_with fail
          go_roundw
          case rel => exact ⟨j + 1, by omega, by go_num, R⟩
          case measure => simp [intOf]; omega
        · have e : S.take j = S := List.take_of_length_le (by rw [← L2.out]; omega)
          have HO2 : Hid (OwnStrs W0.heap.size wr (claimParts G S) u4) := by have := hr.out.1; rw [e] at this; exact this
          have HB2 := Lib.hid hr.out.2
          have CL := Lib.hid (claim_len HG.out HS.out HL.out)
          clear hr e
          go_wp2_with fail
          refine (join_any [44, 32] HO2.out CL.out.1 CL.out.2).mono ?_
          rintro e w2 ⟨rfl, b2⟩
          have R := Lib.hid (WB.out.trans ((HB2.out.trans (b2.mono HB2.out.size)).mono WB.out.size))
          clear b2
          go_wp2_with fail
          exact bodyPost_ret (v := .tuple #[str (claimText G S), .int .i64 0]) (by simp [results, Tryz.results22, go_sem, claimText]) rfl ⟨rfl, R.out⟩
end Go.Proofs.YtcandidgaegghaaGreatDoor
